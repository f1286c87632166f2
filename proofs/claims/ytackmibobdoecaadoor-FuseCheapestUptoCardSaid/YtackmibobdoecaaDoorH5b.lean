/- Layer 22 (fuse): the program's choice. -/
import Derived.Test.YtackmibobdoecaaDoorH5
set_option linter.unusedVariables false
set_option linter.unusedSimpArgs false
set_option linter.unusedSectionVars false
set_option linter.deprecated false
namespace Go.Ab
open Go.Proofs
set_option maxRecDepth 100000
set_option maxHeartbeats 4000000
theorem lookM {h : Heap} {a : Nat} {l : List (Wd × Nat)} (s : Wd) (hb : h.bs[a]? = some (.map (mE 0 l) l.length)) : lookupV Tryd.prog h 83 (.map a) (.str s) false = some (.int .i64 (getM l s)) :=
  lookup_M (kt := 9) (et := 3) s (by simp) (by simp) (by simp) hb
theorem updM {h : Heap} {a : Nat} {l : List (Wd × Nat)} (s : Wd) (k : Nat) (hb : h.bs[a]? = some (.map (mE 0 l) l.length)) : mapUpdV Tryd.prog h 83 (.map a) (.str s) (.int .i64 ((getM l s : Int) + k)) = some ⟨h.bs.set a (.map (mE 0 (putM l s (getM l s + k))) (putM l s (getM l s + k)).length), h.ts⟩ :=
  mapUpd_M (kt := 9) (et := 3) s (getM l s + k) (by simp) (by simp) hb
theorem C36 (x : List Cell) (hs : smS x) : Kc cfg 36 [R fl0 eC x] (.ret (.str (chooseS x))) := by
  have hs1 := hs.1
  have hc : chooseS x = if (bestF x (textsS x) ([], 0)).2 < ptS x [] then [] else (bestF x (textsS x) ([], 0)).1 := rfl
  rw [hc]
  generalize hB : bestF x (textsS x) ([], 0) = B0
  generalize hRR : (if B0.2 < ptS x [] then [] else B0.1) = RR
  refine outS_of_wp cfg (fn := Tryd.f36) Tryd.func36 rfl (by simp [Tryd.f36]) ?_
  simp (disch := first | assumption | omega | (simp; done) | (simp; omega)) [-getElem?_pos, List.getElem?_cons_zero, List.getElem?_cons_succ, Tryd.f36, Tryd.f60, Tryd.f80, emptyH]
  repeat' (first | (refine wpc_split _ (fun hc => ?_) (fun hc => ?_) <;> (try simp at hc)) | (refine ww_split _ (fun hc => ?_) (fun hc => ?_) <;> (try simp at hc)) | (refine wp_drawF (by kernel_rfl) ?_) | (refine wk_yldW _ ?_) | (refine layOwe _ (by kernel_rfl) ?_) | (refine owe ?_ (fun ho => ?_)) | (simp (disch := first | assumption | omega | (simp; done) | (simp; omega)) [Tryd.f60, Tryd.f80, emptyH, -getElem?_pos, List.getElem?_cons_zero, List.getElem?_cons_succ]))
  refine wp_loopE cfg rfl (fun f0 h0 m fr h => ∃ i : Nat, ∃ M : List (Wd × Nat), ∃ X : List Blk, fr 0 = f0 0 ∧ fr 1 = f0 1 ∧ fr 7 = f0 7 ∧ fr 8 = f0 8 ∧ fr 9 = .int .i64 i ∧ (h.bs = h0.bs.set 1 (.map (mE 0 M) M.length) ++ X) ∧ (i + m = x.length) ∧ (∀ t, getM M t = ptS (x.take i) t)) (x.length) _ _ ⟨0, [], [], rfl, rfl, rfl, rfl, by first | rfl | (simp; done) | (simp [R]; done) | simp [R], by simp [mE], by first | rfl | (simp; done) | omega, fun t => rfl⟩ ?_
  rintro Am Af Ah ⟨i, M, X, A0, A1, A7, A8, A9, hbs, hm, hM⟩ Aih
  try simp at A0 A1 A7 A8
  simp at hbs
  by_cases hi : i < x.length
  · have hsi := (smS_nth hs hi).2.1
    have hle := fun t => ptS_le (x.take i) t
    have hll : (x.take i).length ≤ i := by simp; omega
    have hb1 := fun t => hM t ▸ hle t
    have hb2 := hb1 (nth x i).text
    have hlk : ∀ (h : Heap) (s : Wd), h.bs[1]? = some (.map (mE 0 M) M.length) → lookupV Tryd.prog h 83 (.map 1) (.str s) false = some (.int .i64 (getM M s)) := fun h s hb => lookM s hb
    have hup : ∀ (h : Heap) (s : Wd), h.bs[1]? = some (.map (mE 0 M) M.length) → mapUpdV Tryd.prog h 83 (.map 1) (.str s) (.int .i64 ((getM M s : Int) + 2)) = some ⟨h.bs.set 1 (.map (mE 0 (putM M s (getM M s + 2))) (putM M s (getM M s + 2)).length), h.ts⟩ := fun h s hb => updM s 2 hb
    repeat' (first | (refine wpc_split _ (fun hc => ?_) (fun hc => ?_) <;> (try simp at hc)) | (refine ww_split _ (fun hc => ?_) (fun hc => ?_) <;> (try simp at hc)) | (refine wp_drawF (by kernel_rfl) ?_) | (refine wk_yldW _ ?_) | (refine layOwe _ (by kernel_rfl) ?_) | (refine owe ?_ (fun ho => ?_)) | (simp (disch := first | assumption | omega | (simp; done) | (simp; omega)) [A0, A1, A7, A8, A9, hbs, hlk, hup, -getElem?_pos, List.getElem?_cons_zero, List.getElem?_cons_succ]))
    have hx : ∀ (b : Blk) (L : List Blk), (X ++ b :: L)[X.length]? = some b := fun b L => by simp
    refine wp_loopE cfg rfl (fun f0 h0 m fr h => ∃ j : Nat, ∃ M2 : List (Wd × Nat), ∃ Y : List Blk, fr 0 = f0 0 ∧ fr 1 = f0 1 ∧ fr 4 = f0 4 ∧ fr 7 = f0 7 ∧ fr 8 = f0 8 ∧ fr 9 = f0 9 ∧ fr 19 = f0 19 ∧ fr 20 = f0 20 ∧ fr 21 = .int .i64 j ∧ (h.bs = h0.bs.set 1 (.map (mE 0 M2) M2.length) ++ Y) ∧ (j + m = (nth x i).alts.length) ∧ (∀ t, getM M2 t = ptS (x.take i) t + ptJ (nth x i) j t)) ((nth x i).alts.length) _ _ ⟨0, putM M (nth x i).text (getM M (nth x i).text + 2), [], rfl, rfl, rfl, rfl, rfl, rfl, rfl, rfl, by first | rfl | (simp; done) | (simp [R]; done) | simp [R], by simp, by first | rfl | (simp; done) | omega, fun t => by rw [getM_put, ptJ_zero]; split <;> simp_all⟩ ?_
    rintro Bm Bf Bh ⟨j, M2, Y, B0, B1, B4, B7, B8, B9, B19, B20, B21, hbs2, hm2, hM2⟩ Bih
    try simp [A0, A1, A7, A8, A9] at B0 B1 B4 B7 B8 B9 B19 B20
    simp at hbs2
    by_cases hj : j < (nth x i).alts.length
    · have hpj : ∀ t, ptJ (nth x i) j t ≤ 2 := fun t => by unfold ptJ; split <;> (try split) <;> omega
      have hb3 : getM M2 (nth (nth x i).alts j) ≤ 2 * (x.take i).length + 2 := by rw [hM2]; have := hle (nth (nth x i).alts j); have := hpj (nth (nth x i).alts j); omega
      have hlk2 : ∀ (h : Heap) (s : Wd), h.bs[1]? = some (.map (mE 0 M2) M2.length) → lookupV Tryd.prog h 83 (.map 1) (.str s) false = some (.int .i64 (getM M2 s)) := fun h s hb => lookM s hb
      have hup2 : ∀ (h : Heap) (s : Wd), h.bs[1]? = some (.map (mE 0 M2) M2.length) → mapUpdV Tryd.prog h 83 (.map 1) (.str s) (.int .i64 ((getM M2 s : Int) + 1)) = some ⟨h.bs.set 1 (.map (mE 0 (putM M2 s (getM M2 s + 1))) (putM M2 s (getM M2 s + 1)).length), h.ts⟩ := fun h s hb => updM s 1 hb
      by_cases h1 : nth (nth x i).alts j = (nth x i).text
      · have hsk := fun t => ptJ_skip (nth x i) t hj (.inl h1)
        repeat' (first | (refine wpc_split _ (fun hc => ?_) (fun hc => ?_) <;> (try simp at hc)) | (refine ww_split _ (fun hc => ?_) (fun hc => ?_) <;> (try simp at hc)) | (refine wp_drawF (by kernel_rfl) ?_) | (refine wk_yldW _ ?_) | (refine layOwe _ (by kernel_rfl) ?_) | (refine owe ?_ (fun ho => ?_)) | (simp (disch := first | assumption | omega | (simp; done) | (simp; omega)) [B0, B1, B4, B7, B8, B9, B19, B20, B21, A0, A1, A7, A8, A9, hbs2, hlk2, hup2, hx, eS, h1, -getElem?_pos, List.getElem?_cons_zero, List.getElem?_cons_succ]))
        exact Bih (Bm - 1) _ _ (by omega) ⟨j + 1, M2, Y, by simp [B0, B1, B4, B7, B8, B9, B19, B20, B21, A0, A1, A7, A8, A9, hbs2], by simp [B0, B1, B4, B7, B8, B9, B19, B20, B21, A0, A1, A7, A8, A9, hbs2], by simp [B0, B1, B4, B7, B8, B9, B19, B20, B21, A0, A1, A7, A8, A9, hbs2], by simp [B0, B1, B4, B7, B8, B9, B19, B20, B21, A0, A1, A7, A8, A9, hbs2], by simp [B0, B1, B4, B7, B8, B9, B19, B20, B21, A0, A1, A7, A8, A9, hbs2], by simp [B0, B1, B4, B7, B8, B9, B19, B20, B21, A0, A1, A7, A8, A9, hbs2], by simp [B0, B1, B4, B7, B8, B9, B19, B20, B21, A0, A1, A7, A8, A9, hbs2], by simp [B0, B1, B4, B7, B8, B9, B19, B20, B21, A0, A1, A7, A8, A9, hbs2], by simp [B0, B1, B4, B7, B8, B9, B19, B20, B21, A0, A1, A7, A8, A9, hbs2], (by simp [hbs2]), by omega, fun t => by rw [hsk]; exact hM2 t⟩
      · by_cases h2 : nth (nth x i).alts j ∈ (nth x i).alts.take j
        · have hsk := fun t => ptJ_skip (nth x i) t hj (.inr h2)
          repeat' (first | (refine wpc_split _ (fun hc => ?_) (fun hc => ?_) <;> (try simp at hc)) | (refine ww_split _ (fun hc => ?_) (fun hc => ?_) <;> (try simp at hc)) | (refine wp_drawF (by kernel_rfl) ?_) | (refine wk_yldW _ ?_) | (refine layOwe _ (by kernel_rfl) ?_) | (refine owe ?_ (fun ho => ?_)) | (simp (disch := first | assumption | omega | (simp; done) | (simp; omega)) [B0, B1, B4, B7, B8, B9, B19, B20, B21, A0, A1, A7, A8, A9, hbs2, hlk2, hup2, hx, eS, h1, h2, -getElem?_pos, List.getElem?_cons_zero, List.getElem?_cons_succ]))
          exact Bih (Bm - 1) _ _ (by omega) ⟨j + 1, M2, Y, by simp [B0, B1, B4, B7, B8, B9, B19, B20, B21, A0, A1, A7, A8, A9, hbs2], by simp [B0, B1, B4, B7, B8, B9, B19, B20, B21, A0, A1, A7, A8, A9, hbs2], by simp [B0, B1, B4, B7, B8, B9, B19, B20, B21, A0, A1, A7, A8, A9, hbs2], by simp [B0, B1, B4, B7, B8, B9, B19, B20, B21, A0, A1, A7, A8, A9, hbs2], by simp [B0, B1, B4, B7, B8, B9, B19, B20, B21, A0, A1, A7, A8, A9, hbs2], by simp [B0, B1, B4, B7, B8, B9, B19, B20, B21, A0, A1, A7, A8, A9, hbs2], by simp [B0, B1, B4, B7, B8, B9, B19, B20, B21, A0, A1, A7, A8, A9, hbs2], by simp [B0, B1, B4, B7, B8, B9, B19, B20, B21, A0, A1, A7, A8, A9, hbs2], by simp [B0, B1, B4, B7, B8, B9, B19, B20, B21, A0, A1, A7, A8, A9, hbs2], (by simp [hbs2]), by omega, fun t => by rw [hsk]; exact hM2 t⟩
        · have hvo := fun t => ptJ_vote (nth x i) t hj h1 h2
          repeat' (first | (refine wpc_split _ (fun hc => ?_) (fun hc => ?_) <;> (try simp at hc)) | (refine ww_split _ (fun hc => ?_) (fun hc => ?_) <;> (try simp at hc)) | (refine wp_drawF (by kernel_rfl) ?_) | (refine wk_yldW _ ?_) | (refine layOwe _ (by kernel_rfl) ?_) | (refine owe ?_ (fun ho => ?_)) | (simp (disch := first | assumption | omega | (simp; done) | (simp; omega)) [B0, B1, B4, B7, B8, B9, B19, B20, B21, A0, A1, A7, A8, A9, hbs2, hlk2, hup2, hx, eS, h1, h2, -getElem?_pos, List.getElem?_cons_zero, List.getElem?_cons_succ]))
          exact Bih (Bm - 1) _ _ (by omega) ⟨j + 1, putM M2 (nth (nth x i).alts j) (getM M2 (nth (nth x i).alts j) + 1), Y, by simp [B0, B1, B4, B7, B8, B9, B19, B20, B21, A0, A1, A7, A8, A9], by simp [B0, B1, B4, B7, B8, B9, B19, B20, B21, A0, A1, A7, A8, A9], by simp [B0, B1, B4, B7, B8, B9, B19, B20, B21, A0, A1, A7, A8, A9], by simp [B0, B1, B4, B7, B8, B9, B19, B20, B21, A0, A1, A7, A8, A9], by simp [B0, B1, B4, B7, B8, B9, B19, B20, B21, A0, A1, A7, A8, A9], by simp [B0, B1, B4, B7, B8, B9, B19, B20, B21, A0, A1, A7, A8, A9], by simp [B0, B1, B4, B7, B8, B9, B19, B20, B21, A0, A1, A7, A8, A9], by simp [B0, B1, B4, B7, B8, B9, B19, B20, B21, A0, A1, A7, A8, A9], by simp [B0, B1, B4, B7, B8, B9, B19, B20, B21, A0, A1, A7, A8, A9], (by simp), by omega, fun t => by (rw [getM_put, hvo]; by_cases e : t = nth (nth x i).alts j; (subst e; rw [if_pos rfl, if_pos rfl, hM2]; omega); (rw [if_neg e, if_neg e]; exact hM2 t))⟩
    · have hfu := fun t => ptJ_full (nth x i) t (j := j) (by omega)
      repeat' (first | (refine wpc_split _ (fun hc => ?_) (fun hc => ?_) <;> (try simp at hc)) | (refine ww_split _ (fun hc => ?_) (fun hc => ?_) <;> (try simp at hc)) | (refine wp_drawF (by kernel_rfl) ?_) | (refine wk_yldW _ ?_) | (refine layOwe _ (by kernel_rfl) ?_) | (refine owe ?_ (fun ho => ?_)) | (simp (disch := first | assumption | omega | (simp; done) | (simp; omega)) [B0, B1, B4, B7, B8, B9, B19, B20, B21, A0, A1, A7, A8, A9, hbs2, -getElem?_pos, List.getElem?_cons_zero, List.getElem?_cons_succ]))
      exact Aih (Am - 1) _ _ (by omega) ⟨i + 1, M2, X ++ Blk.cells (eC (nth x i)) :: Y, by simp [B0, B1, B4, B7, B8, B9, B19, B20, B21, A0, A1, A7, A8, A9], by simp [B0, B1, B4, B7, B8, B9, B19, B20, B21, A0, A1, A7, A8, A9], by simp [B0, B1, B4, B7, B8, B9, B19, B20, B21, A0, A1, A7, A8, A9], by simp [B0, B1, B4, B7, B8, B9, B19, B20, B21, A0, A1, A7, A8, A9], by simp [B0, B1, B4, B7, B8, B9, B19, B20, B21, A0, A1, A7, A8, A9], (by simp [hbs2]), by omega, fun t => by rw [hM2, hfu, ptS_take hi]⟩
  · have h1 : x.take i = x := List.take_of_length_le (by omega)
    rw [h1] at hM
    have hx0 : ∀ (L : List Blk), (X ++ L)[X.length]? = L[0]? := fun L => by rw [List.getElem?_append_right (by omega), Nat.sub_self]
    have hx1 : ∀ (L : List Blk) (k : Nat), (X ++ L)[X.length + k]? = L[k]? := fun L k => by rw [List.getElem?_append_right (by omega), Nat.add_sub_cancel_left]
    have hx2 : ∀ (L : List Blk) (b : Blk), (X ++ L).set X.length b = X ++ L.set 0 b := fun L b => by rw [List.set_append, if_neg (by omega), Nat.sub_self]
    have hx3 : ∀ (L : List Blk) (k : Nat) (b : Blk), (X ++ L).set (X.length + k) b = X ++ L.set k b := fun L k b => by rw [List.set_append, if_neg (by omega), Nat.add_sub_cancel_left]
    have hlk : ∀ (h : Heap) (s : Wd), h.bs[1]? = some (.map (mE 0 M) M.length) → lookupV Tryd.prog h 83 (.map 1) (.str s) false = some (.int .i64 (ptS x s)) := fun h s hb => by rw [lookM s hb, hM]
    repeat' (first | (refine wpc_split _ (fun hc => ?_) (fun hc => ?_) <;> (try simp at hc)) | (refine ww_split _ (fun hc => ?_) (fun hc => ?_) <;> (try simp at hc)) | (refine wp_drawF (by kernel_rfl) ?_) | (refine wk_yldW _ ?_) | (refine layOwe _ (by kernel_rfl) ?_) | (refine owe ?_ (fun ho => ?_)) | (simp (disch := first | assumption | omega | (simp; done) | (simp; omega)) [A0, A1, A7, A8, A9, hbs, hx0, hx1, hx2, hx3, Tryd.f60, Tryd.f80, -getElem?_pos, List.getElem?_cons_zero, List.getElem?_cons_succ]))
    refine wp_loopE cfg rfl (fun f0 h0 m fr h => ∃ i2 : Nat, ∃ z : Wd × Nat, ∃ Y : List Blk, fr 0 = f0 0 ∧ fr 1 = f0 1 ∧ fr 7 = f0 7 ∧ fr 8 = f0 8 ∧ fr 9 = .int .i64 i2 ∧ (h.bs = (h0.bs.set 0 (.cells [.str z.1])).set (X.length + 6) (.cells [.int .i64 z.2]) ++ Y) ∧ (i2 + m = x.length) ∧ (bestF x (textsS (x.take i2)) ([], 0) = z)) (x.length) _ _ ⟨0, ([], 0), [], rfl, rfl, rfl, rfl, by first | rfl | (simp; done) | (simp [R]; done) | simp [R], by simp [hx2], by first | rfl | (simp; done) | omega, rfl⟩ ?_
    rintro Cm Cf Ch ⟨i2, z, Y, C0, C1, C7, C8, C9, hbs3, hm3, hz⟩ Cih
    try simp at C0 C1 C7 C8
    simp [hx2] at hbs3
    by_cases hi2 : i2 < x.length
    · have hsi := (smS_nth hs hi2).2.1
      have hle := fun t => ptS_le x t
      have htk := textsS_take hi2
      have hyc : ((nth x i2).text = [] ∧ True ∧ bestF x ((textsC (nth x i2)).take 1) z = z) ∨ (¬ (nth x i2).text = [] ∧ ¬ z.2 < ptS x (nth x i2).text ∧ bestF x ((textsC (nth x i2)).take 1) z = z) ∨ (¬ (nth x i2).text = [] ∧ z.2 < ptS x (nth x i2).text ∧ bestF x ((textsC (nth x i2)).take 1) z = ((nth x i2).text, ptS x (nth x i2).text)) := by
        rw [textsC_one, bestF_one]
        by_cases h1 : (nth x i2).text = []
        · exact .inl ⟨h1, trivial, if_neg (fun e => e.1 h1)⟩
        · by_cases h2 : z.2 < ptS x (nth x i2).text
          · exact .inr (.inr ⟨h1, h2, if_pos ⟨h1, h2⟩⟩)
          · exact .inr (.inl ⟨h1, h2, if_neg (fun e => h2 e.2)⟩)
      have hy0 : ∀ (b : Blk) (L : List Blk), (Y ++ b :: L)[Y.length]? = some b := fun b L => by simp
      rcases hyc with ⟨h1, h2, hy⟩ | ⟨h1, h2, hy⟩ | ⟨h1, h2, hy⟩
      all_goals
        repeat' (first | (refine wpc_split _ (fun hc => ?_) (fun hc => ?_) <;> (try simp at hc)) | (refine ww_split _ (fun hc => ?_) (fun hc => ?_) <;> (try simp at hc)) | (refine wp_drawT _ (by kernel_rfl) ?_) | (refine wk_yldW _ ?_) | (refine layOwe _ (by kernel_rfl) ?_) | (refine owe ?_ (fun ho => ?_)) | (simp (disch := first | assumption | omega | (simp; done) | (simp; omega)) [C0, C1, C7, C8, C9, hbs3, hx0, hx1, hx2, hx3, hlk, h1, h2, -getElem?_pos, List.getElem?_cons_zero, List.getElem?_cons_succ]))
        refine wp_loopE cfg rfl (fun f0 h0 m fr h => ∃ j : Nat, ∃ z2 : Wd × Nat, ∃ Y2 : List Blk, fr 0 = f0 0 ∧ fr 1 = f0 1 ∧ fr 4 = f0 4 ∧ fr 7 = f0 7 ∧ fr 8 = f0 8 ∧ fr 9 = f0 9 ∧ fr 19 = f0 19 ∧ fr 20 = f0 20 ∧ fr 21 = .int .i64 j ∧ (h.bs = (h0.bs.set 0 (.cells [.str z2.1])).set (X.length + 6) (.cells [.int .i64 z2.2]) ++ Y2) ∧ (j + m = (nth x i2).alts.length) ∧ (bestF x ((textsC (nth x i2)).take (j + 1)) z = z2)) ((nth x i2).alts.length) _ _ ⟨0, _, [], rfl, rfl, rfl, rfl, rfl, rfl, rfl, rfl, by first | rfl | (simp; done) | (simp [R]; done) | simp [R], by simp [hx2], by first | rfl | (simp; done) | omega, hy⟩ ?_
        rintro Dm Df Dh ⟨j, z2, Y2, D0, D1, D4, D7, D8, D9, D19, D20, D21, hbs4, hm4, hz2⟩ Dih
        try simp [C0, C1, C7, C8, C9] at D0 D1 D4 D7 D8 D9 D19 D20
        simp [hx2] at hbs4
        by_cases hj : j < (nth x i2).alts.length
        · by_cases g1 : nth (nth x i2).alts j = (nth x i2).text
          · have hdp := bestF_dup x (nth x i2) z hj (.inl g1)
            repeat' (first | (refine wpc_split _ (fun hc => ?_) (fun hc => ?_) <;> (try simp at hc)) | (refine ww_split _ (fun hc => ?_) (fun hc => ?_) <;> (try simp at hc)) | (refine wp_drawT _ (by kernel_rfl) ?_) | (refine wk_yldW _ ?_) | (refine layOwe _ (by kernel_rfl) ?_) | (refine owe ?_ (fun ho => ?_)) | (simp (disch := first | assumption | omega | (simp; done) | (simp; omega)) [D0, D1, D4, D7, D8, D9, D19, D20, D21, hbs4, hx0, hx1, hx2, hx3, hy0, hlk, eS, h1, g1, -getElem?_pos, List.getElem?_cons_zero, List.getElem?_cons_succ]))
            exact Dih (Dm - 1) _ _ (by omega) ⟨j + 1, z2, Y2, by simp [D0, D1, D4, D7, D8, D9, D19, D20, D21, C0, C1, C7, C8, C9, hbs4], by simp [D0, D1, D4, D7, D8, D9, D19, D20, D21, C0, C1, C7, C8, C9, hbs4], by simp [D0, D1, D4, D7, D8, D9, D19, D20, D21, C0, C1, C7, C8, C9, hbs4], by simp [D0, D1, D4, D7, D8, D9, D19, D20, D21, C0, C1, C7, C8, C9, hbs4], by simp [D0, D1, D4, D7, D8, D9, D19, D20, D21, C0, C1, C7, C8, C9, hbs4], by simp [D0, D1, D4, D7, D8, D9, D19, D20, D21, C0, C1, C7, C8, C9, hbs4], by simp [D0, D1, D4, D7, D8, D9, D19, D20, D21, C0, C1, C7, C8, C9, hbs4], by simp [D0, D1, D4, D7, D8, D9, D19, D20, D21, C0, C1, C7, C8, C9, hbs4], by simp [D0, D1, D4, D7, D8, D9, D19, D20, D21, C0, C1, C7, C8, C9, hbs4], (by simp [hbs4, hx2]), by omega, by rw [hdp]; exact hz2⟩
          · have g1' := g1
            try rw [h1] at g1'
            by_cases g2 : nth (nth x i2).alts j ∈ (nth x i2).alts.take j
            · have hdp := bestF_dup x (nth x i2) z hj (.inr g2)
              repeat' (first | (refine wpc_split _ (fun hc => ?_) (fun hc => ?_) <;> (try simp at hc)) | (refine ww_split _ (fun hc => ?_) (fun hc => ?_) <;> (try simp at hc)) | (refine wp_drawT _ (by kernel_rfl) ?_) | (refine wk_yldW _ ?_) | (refine layOwe _ (by kernel_rfl) ?_) | (refine owe ?_ (fun ho => ?_)) | (simp (disch := first | assumption | omega | (simp; done) | (simp; omega)) [D0, D1, D4, D7, D8, D9, D19, D20, D21, hbs4, hx0, hx1, hx2, hx3, hy0, hlk, eS, h1, g1, g1', g2, -getElem?_pos, List.getElem?_cons_zero, List.getElem?_cons_succ]))
              exact Dih (Dm - 1) _ _ (by omega) ⟨j + 1, z2, Y2, by simp [D0, D1, D4, D7, D8, D9, D19, D20, D21, C0, C1, C7, C8, C9, hbs4], by simp [D0, D1, D4, D7, D8, D9, D19, D20, D21, C0, C1, C7, C8, C9, hbs4], by simp [D0, D1, D4, D7, D8, D9, D19, D20, D21, C0, C1, C7, C8, C9, hbs4], by simp [D0, D1, D4, D7, D8, D9, D19, D20, D21, C0, C1, C7, C8, C9, hbs4], by simp [D0, D1, D4, D7, D8, D9, D19, D20, D21, C0, C1, C7, C8, C9, hbs4], by simp [D0, D1, D4, D7, D8, D9, D19, D20, D21, C0, C1, C7, C8, C9, hbs4], by simp [D0, D1, D4, D7, D8, D9, D19, D20, D21, C0, C1, C7, C8, C9, hbs4], by simp [D0, D1, D4, D7, D8, D9, D19, D20, D21, C0, C1, C7, C8, C9, hbs4], by simp [D0, D1, D4, D7, D8, D9, D19, D20, D21, C0, C1, C7, C8, C9, hbs4], (by simp [hbs4, hx2]), by omega, by rw [hdp]; exact hz2⟩
            · have hv := bestF_vote x (nth x i2) z hj
              rw [hz2, bestF_one] at hv
              by_cases g3 : nth (nth x i2).alts j = []
              · rw [if_neg (fun e => e.1 g3)] at hv
                have g2' := g2
                rw [g3] at g2'
                repeat' (first | (refine wpc_split _ (fun hc => ?_) (fun hc => ?_) <;> (try simp at hc)) | (refine ww_split _ (fun hc => ?_) (fun hc => ?_) <;> (try simp at hc)) | (refine wp_drawT _ (by kernel_rfl) ?_) | (refine wk_yldW _ ?_) | (refine layOwe _ (by kernel_rfl) ?_) | (refine owe ?_ (fun ho => ?_)) | (simp (disch := first | assumption | omega | (simp; done) | (simp; omega)) [D0, D1, D4, D7, D8, D9, D19, D20, D21, hbs4, hx0, hx1, hx2, hx3, hy0, hlk, eS, h1, g1, g1', g2, g2', g3, -getElem?_pos, List.getElem?_cons_zero, List.getElem?_cons_succ]))
                exact Dih (Dm - 1) _ _ (by omega) ⟨j + 1, z2, Y2, by simp [D0, D1, D4, D7, D8, D9, D19, D20, D21, C0, C1, C7, C8, C9, hbs4], by simp [D0, D1, D4, D7, D8, D9, D19, D20, D21, C0, C1, C7, C8, C9, hbs4], by simp [D0, D1, D4, D7, D8, D9, D19, D20, D21, C0, C1, C7, C8, C9, hbs4], by simp [D0, D1, D4, D7, D8, D9, D19, D20, D21, C0, C1, C7, C8, C9, hbs4], by simp [D0, D1, D4, D7, D8, D9, D19, D20, D21, C0, C1, C7, C8, C9, hbs4], by simp [D0, D1, D4, D7, D8, D9, D19, D20, D21, C0, C1, C7, C8, C9, hbs4], by simp [D0, D1, D4, D7, D8, D9, D19, D20, D21, C0, C1, C7, C8, C9, hbs4], by simp [D0, D1, D4, D7, D8, D9, D19, D20, D21, C0, C1, C7, C8, C9, hbs4], by simp [D0, D1, D4, D7, D8, D9, D19, D20, D21, C0, C1, C7, C8, C9, hbs4], (by simp [hbs4, hx2]), by omega, hv⟩
              · by_cases g4 : z2.2 < ptS x (nth (nth x i2).alts j)
                · rw [if_pos ⟨g3, g4⟩] at hv
                  repeat' (first | (refine wpc_split _ (fun hc => ?_) (fun hc => ?_) <;> (try simp at hc)) | (refine ww_split _ (fun hc => ?_) (fun hc => ?_) <;> (try simp at hc)) | (refine wp_drawT _ (by kernel_rfl) ?_) | (refine wk_yldW _ ?_) | (refine layOwe _ (by kernel_rfl) ?_) | (refine owe ?_ (fun ho => ?_)) | (simp (disch := first | assumption | omega | (simp; done) | (simp; omega)) [D0, D1, D4, D7, D8, D9, D19, D20, D21, hbs4, hx0, hx1, hx2, hx3, hy0, hlk, eS, h1, g1, g1', g2, g3, g4, -getElem?_pos, List.getElem?_cons_zero, List.getElem?_cons_succ]))
                  exact Dih (Dm - 1) _ _ (by omega) ⟨j + 1, (nth (nth x i2).alts j, ptS x (nth (nth x i2).alts j)), Y2, by simp [D0, D1, D4, D7, D8, D9, D19, D20, D21, C0, C1, C7, C8, C9, hbs4], by simp [D0, D1, D4, D7, D8, D9, D19, D20, D21, C0, C1, C7, C8, C9, hbs4], by simp [D0, D1, D4, D7, D8, D9, D19, D20, D21, C0, C1, C7, C8, C9, hbs4], by simp [D0, D1, D4, D7, D8, D9, D19, D20, D21, C0, C1, C7, C8, C9, hbs4], by simp [D0, D1, D4, D7, D8, D9, D19, D20, D21, C0, C1, C7, C8, C9, hbs4], by simp [D0, D1, D4, D7, D8, D9, D19, D20, D21, C0, C1, C7, C8, C9, hbs4], by simp [D0, D1, D4, D7, D8, D9, D19, D20, D21, C0, C1, C7, C8, C9, hbs4], by simp [D0, D1, D4, D7, D8, D9, D19, D20, D21, C0, C1, C7, C8, C9, hbs4], by simp [D0, D1, D4, D7, D8, D9, D19, D20, D21, C0, C1, C7, C8, C9, hbs4], (by simp [hbs4, hx2]), by omega, hv⟩
                · rw [if_neg (fun e => g4 e.2)] at hv
                  repeat' (first | (refine wpc_split _ (fun hc => ?_) (fun hc => ?_) <;> (try simp at hc)) | (refine ww_split _ (fun hc => ?_) (fun hc => ?_) <;> (try simp at hc)) | (refine wp_drawT _ (by kernel_rfl) ?_) | (refine wk_yldW _ ?_) | (refine layOwe _ (by kernel_rfl) ?_) | (refine owe ?_ (fun ho => ?_)) | (simp (disch := first | assumption | omega | (simp; done) | (simp; omega)) [D0, D1, D4, D7, D8, D9, D19, D20, D21, hbs4, hx0, hx1, hx2, hx3, hy0, hlk, eS, h1, g1, g1', g2, g3, g4, -getElem?_pos, List.getElem?_cons_zero, List.getElem?_cons_succ]))
                  exact Dih (Dm - 1) _ _ (by omega) ⟨j + 1, z2, Y2, by simp [D0, D1, D4, D7, D8, D9, D19, D20, D21, C0, C1, C7, C8, C9, hbs4], by simp [D0, D1, D4, D7, D8, D9, D19, D20, D21, C0, C1, C7, C8, C9, hbs4], by simp [D0, D1, D4, D7, D8, D9, D19, D20, D21, C0, C1, C7, C8, C9, hbs4], by simp [D0, D1, D4, D7, D8, D9, D19, D20, D21, C0, C1, C7, C8, C9, hbs4], by simp [D0, D1, D4, D7, D8, D9, D19, D20, D21, C0, C1, C7, C8, C9, hbs4], by simp [D0, D1, D4, D7, D8, D9, D19, D20, D21, C0, C1, C7, C8, C9, hbs4], by simp [D0, D1, D4, D7, D8, D9, D19, D20, D21, C0, C1, C7, C8, C9, hbs4], by simp [D0, D1, D4, D7, D8, D9, D19, D20, D21, C0, C1, C7, C8, C9, hbs4], by simp [D0, D1, D4, D7, D8, D9, D19, D20, D21, C0, C1, C7, C8, C9, hbs4], (by simp [hbs4, hx2]), by omega, hv⟩
        · have hf := textsC_full (nth x i2) (j := j) (by omega)
          rw [hf] at hz2
          repeat' (first | (refine wpc_split _ (fun hc => ?_) (fun hc => ?_) <;> (try simp at hc)) | (refine ww_split _ (fun hc => ?_) (fun hc => ?_) <;> (try simp at hc)) | (refine wp_drawT _ (by kernel_rfl) ?_) | (refine wk_yldW _ ?_) | (refine layOwe _ (by kernel_rfl) ?_) | (refine owe ?_ (fun ho => ?_)) | (simp (disch := first | assumption | omega | (simp; done) | (simp; omega)) [D0, D1, D4, D7, D8, D9, D19, D20, D21, hbs4, hx0, hx1, hx2, hx3, -getElem?_pos, List.getElem?_cons_zero, List.getElem?_cons_succ]))
          exact Cih (Cm - 1) _ _ (by omega) ⟨i2 + 1, z2, Y ++ Blk.cells (eC (nth x i2)) :: Y2, by simp [D0, D1, D4, D7, D8, D9, D19, D20, D21, C0, C1, C7, C8, C9], by simp [D0, D1, D4, D7, D8, D9, D19, D20, D21, C0, C1, C7, C8, C9], by simp [D0, D1, D4, D7, D8, D9, D19, D20, D21, C0, C1, C7, C8, C9], by simp [D0, D1, D4, D7, D8, D9, D19, D20, D21, C0, C1, C7, C8, C9], by simp [D0, D1, D4, D7, D8, D9, D19, D20, D21, C0, C1, C7, C8, C9], (by simp [hbs4, hx2, h1]), by omega, by rw [htk, bestF_app, hz]; exact hz2⟩
    · have h2 : x.take i2 = x := List.take_of_length_le (by omega)
      rw [h2] at hz
      rw [hz] at hB
      subst hB
      have hpl := ptS_le x []
      by_cases hlt : z.2 < ptS x []
      · rw [if_pos hlt] at hRR
        subst hRR
        repeat' (first | (refine wpc_split _ (fun hc => ?_) (fun hc => ?_) <;> (try simp at hc)) | (refine ww_split _ (fun hc => ?_) (fun hc => ?_) <;> (try simp at hc)) | (refine wp_drawF (by kernel_rfl) ?_) | (refine wk_yldW _ ?_) | (refine layOwe _ (by kernel_rfl) ?_) | (refine owe ?_ (fun ho => ?_)) | (simp (disch := first | assumption | omega | (simp; done) | (simp; omega)) [C0, C1, C7, C8, C9, hbs3, hx0, hx1, hx2, hx3, hlk, hlt, -getElem?_pos, List.getElem?_cons_zero, List.getElem?_cons_succ]))
        all_goals first | rfl | (exfalso; omega)
      · rw [if_neg hlt] at hRR
        subst hRR
        repeat' (first | (refine wpc_split _ (fun hc => ?_) (fun hc => ?_) <;> (try simp at hc)) | (refine ww_split _ (fun hc => ?_) (fun hc => ?_) <;> (try simp at hc)) | (refine wp_drawF (by kernel_rfl) ?_) | (refine wk_yldW _ ?_) | (refine layOwe _ (by kernel_rfl) ?_) | (refine owe ?_ (fun ho => ?_)) | (simp (disch := first | assumption | omega | (simp; done) | (simp; omega)) [C0, C1, C7, C8, C9, hbs3, hx0, hx1, hx2, hx3, hlk, hlt, -getElem?_pos, List.getElem?_cons_zero, List.getElem?_cons_succ]))
        all_goals first | rfl | (exfalso; omega)
@[simp] theorem S36 (x : List Cell) (hs : smS x) (q1 : Fl) (hh : Heap) : Ci cfg (.func (.func 36) [] []) [R  q1 eC x] hh = some (.ret (.str (chooseS x)), hh) :=
  Ci_K cfg rfl rfl (by simp) (by simp) (C36 x hs)
end Go.Ab
