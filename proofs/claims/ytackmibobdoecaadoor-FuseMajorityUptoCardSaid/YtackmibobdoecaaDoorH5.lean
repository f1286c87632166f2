/- Layer 22 (fuse): points; the specification's choice. -/
import Derived.Test.YtackmibobdoecaaDoorH2
import Derived.Test.YtackmibobdoecaaDoorP22c
set_option linter.unusedVariables false
set_option linter.unusedSimpArgs false
set_option linter.unusedSectionVars false
set_option linter.deprecated false
namespace Go.Ab
open Go.Proofs
set_option maxRecDepth 100000
set_option maxHeartbeats 4000000
theorem C91 (l : List (List UInt8)) (s : List UInt8) (hs : l.length < 1099511627776) : Kc cfg 91 [R fl0 eS l, .str s] (.ret (.int .i64 (ixW l s))) := by
  refine outS_of_wp cfg (fn := Tryd.f91) Tryd.func91 rfl (by simp [Tryd.f91]) ?_
  simp (disch := first | assumption | omega | (simp; done) | (simp; omega)) [-getElem?_pos, List.getElem?_cons_zero, List.getElem?_cons_succ, Tryd.f91]
  repeat' (first | (refine wpc_split _ (fun hc => ?_) (fun hc => ?_) <;> (try simp at hc)) | (refine ww_split _ (fun hc => ?_) (fun hc => ?_) <;> (try simp at hc)) | (refine wp_drawF (by kernel_rfl) ?_) | (refine wk_yldW _ ?_) | (refine layOwe _ (by kernel_rfl) ?_) | (refine owe ?_ (fun ho => ?_)) | (simp (disch := first | assumption | omega | (simp; done) | (simp; omega)) [-getElem?_pos, List.getElem?_cons_zero, List.getElem?_cons_succ]))
  refine wp_loopE cfg rfl (fun f0 h0 m fr h => ∃ i : Nat, fr 0 = f0 0 ∧ fr 1 = f0 1 ∧ fr 7 = f0 7 ∧ fr 8 = .int .i64 i ∧ (i + m = l.length) ∧ (∀ j, j < i → ¬ nth l j = s)) (l.length) _ _ ⟨0, rfl, rfl, rfl, by first | rfl | (simp; done) | (simp [R]; done) | simp [R], by first | rfl | (simp; done) | omega, fun j hj => by omega⟩ ?_
  rintro Am Af Ah ⟨i, A0, A1, A7, A8, hm, ht⟩ Aih
  try simp at A0 A1 A7
  by_cases hi : i < l.length
  · by_cases hw : nth l i = s
    · have hw2 : s = nth l i := hw.symm
      repeat' (first | (refine wpc_split _ (fun hc => ?_) (fun hc => ?_) <;> (try simp at hc)) | (refine ww_split _ (fun hc => ?_) (fun hc => ?_) <;> (try simp at hc)) | (refine wp_drawF (by kernel_rfl) ?_) | (refine wk_yldW _ ?_) | (refine layOwe _ (by kernel_rfl) ?_) | (refine owe ?_ (fun ho => ?_)) | (simp (disch := first | assumption | omega | (simp; done) | (simp; omega)) [A0, A1, A7, A8, eS, hw, -getElem?_pos, List.getElem?_cons_zero, List.getElem?_cons_succ]))
      rw [ixW_some hi hw ht]
    · have hw2 : ¬ s = nth l i := fun e => hw e.symm
      repeat' (first | (refine wpc_split _ (fun hc => ?_) (fun hc => ?_) <;> (try simp at hc)) | (refine ww_split _ (fun hc => ?_) (fun hc => ?_) <;> (try simp at hc)) | (refine wp_drawF (by kernel_rfl) ?_) | (refine wk_yldW _ ?_) | (refine layOwe _ (by kernel_rfl) ?_) | (refine owe ?_ (fun ho => ?_)) | (simp (disch := first | assumption | omega | (simp; done) | (simp; omega)) [A0, A1, A7, A8, eS, hw2, hw, -getElem?_pos, List.getElem?_cons_zero, List.getElem?_cons_succ]))
      exact Aih (Am - 1) _ _ (by omega) ⟨i + 1, by simp [A0, A1, A7, A8], by simp [A0, A1, A7, A8], by simp [A0, A1, A7, A8], by simp [A0, A1, A7, A8], by omega, fun j hj => by (by_cases e : j = i; (subst e; exact hw); exact ht j (by omega))⟩
  · repeat' (first | (refine wpc_split _ (fun hc => ?_) (fun hc => ?_) <;> (try simp at hc)) | (refine ww_split _ (fun hc => ?_) (fun hc => ?_) <;> (try simp at hc)) | (refine wp_drawF (by kernel_rfl) ?_) | (refine wk_yldW _ ?_) | (refine layOwe _ (by kernel_rfl) ?_) | (refine owe ?_ (fun ho => ?_)) | (simp (disch := first | assumption | omega | (simp; done) | (simp; omega)) [A0, A1, A7, A8, -getElem?_pos, List.getElem?_cons_zero, List.getElem?_cons_succ]))
    rw [ixW_none (fun j hj => ht j (by omega))]
@[simp] theorem S91 (l : List (List UInt8)) (s : List UInt8) (hs : l.length < 1099511627776) (q1 : Fl) (hh : Heap) : Ci cfg (.func (.func 91) [] []) [R  q1 eS l, .str s] hh = some (.ret (.int .i64 (ixW l s)), hh) :=
  Ci_K cfg rfl rfl (by simp) (by simp) (C91 l s hs)
theorem C81 (l : List (List UInt8)) (s : List UInt8) (hs : l.length < 1099511627776) : Kc cfg 81 [R fl0 eS l, .str s] (.ret (.bool (decide (s ∈ l)))) := by
  have ho := ixW_mem l s
  refine outS_of_wp cfg (fn := Tryd.f81) Tryd.func81 rfl (by simp [Tryd.f81]) ?_
  simp (disch := first | assumption | omega | (simp; done) | (simp; omega)) [-getElem?_pos, List.getElem?_cons_zero, List.getElem?_cons_succ, Tryd.f81, ho]
  repeat' (first | (refine wpc_split _ (fun hc => ?_) (fun hc => ?_) <;> (try simp at hc)) | (refine ww_split _ (fun hc => ?_) (fun hc => ?_) <;> (try simp at hc)) | (refine wp_drawF (by kernel_rfl) ?_) | (refine wk_yldW _ ?_) | (refine layOwe _ (by kernel_rfl) ?_) | (refine owe ?_ (fun ho => ?_)) | (simp (disch := first | assumption | omega | (simp; done) | (simp; omega)) [ho, -getElem?_pos, List.getElem?_cons_zero, List.getElem?_cons_succ]))
@[simp] theorem S81 (l : List (List UInt8)) (s : List UInt8) (hs : l.length < 1099511627776) (q1 : Fl) (hh : Heap) : Ci cfg (.func (.func 81) [] []) [R  q1 eS l, .str s] hh = some (.ret (.bool (decide (s ∈ l))), hh) :=
  Ci_K cfg rfl rfl (by simp) (by simp) (C81 l s hs)
theorem C24 (x : List Cell) (t : List UInt8) (hs : smS x) : Kc cfg 24 [R fl0 eC x, .str t] (.ret (.int .i64 (ptS x t))) := by
  have hs1 := hs.1
  refine outS_of_wp cfg (fn := Tryd.f24) Tryd.func24 rfl (by simp [Tryd.f24]) ?_
  simp (disch := first | assumption | omega | (simp; done) | (simp; omega)) [-getElem?_pos, List.getElem?_cons_zero, List.getElem?_cons_succ, Tryd.f24]
  repeat' (first | (refine wpc_split _ (fun hc => ?_) (fun hc => ?_) <;> (try simp at hc)) | (refine ww_split _ (fun hc => ?_) (fun hc => ?_) <;> (try simp at hc)) | (refine wp_drawF (by kernel_rfl) ?_) | (refine wk_yldW _ ?_) | (refine layOwe _ (by kernel_rfl) ?_) | (refine owe ?_ (fun ho => ?_)) | (simp (disch := first | assumption | omega | (simp; done) | (simp; omega)) [-getElem?_pos, List.getElem?_cons_zero, List.getElem?_cons_succ]))
  refine wp_loopE cfg rfl (fun f0 h0 m fr h => ∃ i : Nat, fr 0 = f0 0 ∧ fr 1 = f0 1 ∧ fr 5 = .int .i64 (ptS (x.take i) t) ∧ fr 6 = .int .i64 i ∧ h.bs = h0.bs ∧ (i + m = x.length)) (x.length) _ _ ⟨0, rfl, rfl, by first | rfl | (simp; done) | (simp [R]; done) | simp [R], by first | rfl | (simp; done) | (simp [R]; done) | simp [R], rfl, by first | rfl | (simp; done) | omega⟩ ?_
  rintro Am Af Ah ⟨i, A0, A1, A5, A6, Abs, hm⟩ Aih
  try simp at A0 A1 Abs
  by_cases hi : i < x.length
  · have hsi := (smS_nth hs hi).2.1
    have hpt := ptS_take hi t
    have hle := ptS_le (x.take i) t
    have hll : (x.take i).length ≤ i := by simp; omega
    by_cases he : (nth x i).text = t
    · have hpc : ptC (nth x i) t = 2 := by unfold ptC; rw [if_pos he]
      rw [hpc] at hpt
      repeat' (first | (refine wpc_split _ (fun hc => ?_) (fun hc => ?_) <;> (try simp at hc)) | (refine ww_split _ (fun hc => ?_) (fun hc => ?_) <;> (try simp at hc)) | (refine wp_drawF (by kernel_rfl) ?_) | (refine wk_yldW _ ?_) | (refine layOwe _ (by kernel_rfl) ?_) | (refine owe ?_ (fun ho => ?_)) | (simp (disch := first | assumption | omega | (simp; done) | (simp; omega)) [A0, A1, A5, A6, Abs, he, -getElem?_pos, List.getElem?_cons_zero, List.getElem?_cons_succ]))
      exact Aih (Am - 1) _ _ (by omega) ⟨i + 1, by simp [A0, A1, A5, A6, Abs, hpt], by simp [A0, A1, A5, A6, Abs, hpt], by simp [A0, A1, A5, A6, Abs, hpt], by simp [A0, A1, A5, A6, Abs, hpt], by simp [A0, A1, A5, A6, Abs, hpt], by omega⟩
    · repeat' (first | (refine wpc_split _ (fun hc => ?_) (fun hc => ?_) <;> (try simp at hc)) | (refine ww_split _ (fun hc => ?_) (fun hc => ?_) <;> (try simp at hc)) | (refine wp_drawF (by kernel_rfl) ?_) | (refine wk_yldW _ ?_) | (refine layOwe _ (by kernel_rfl) ?_) | (refine owe ?_ (fun ho => ?_)) | (simp (disch := first | assumption | omega | (simp; done) | (simp; omega)) [A0, A1, A5, A6, Abs, he, -getElem?_pos, List.getElem?_cons_zero, List.getElem?_cons_succ]))
      refine wp_loopE cfg rfl (fun f0 h0 m fr h => ∃ k : Nat, fr 0 = f0 0 ∧ fr 1 = f0 1 ∧ fr 5 = f0 5 ∧ fr 6 = f0 6 ∧ fr 7 = .int .i64 k ∧ h.bs = h0.bs ∧ (k + m = (nth x i).alts.length) ∧ (∀ j, j < k → ¬ nth (nth x i).alts j = t)) ((nth x i).alts.length) _ _ ⟨0, rfl, rfl, rfl, rfl, by first | rfl | (simp; done) | (simp [R]; done) | simp [R], rfl, by first | rfl | (simp; done) | omega, fun j hj => by omega⟩ ?_
      rintro Bm Bf Bh ⟨k, B0, B1, B5, B6, B7, Bbs, hm2, ht⟩ Bih
      try simp [A0, A1, A5, A6, Abs] at B0 B1 B5 B6 Bbs
      by_cases hk : k < (nth x i).alts.length
      · by_cases hw : nth (nth x i).alts k = t
        · have hpc : ptC (nth x i) t = 1 := by unfold ptC; rw [if_neg he, if_pos (hw ▸ nth_mem hk)]
          rw [hpc] at hpt
          repeat' (first | (refine wpc_split _ (fun hc => ?_) (fun hc => ?_) <;> (try simp at hc)) | (refine ww_split _ (fun hc => ?_) (fun hc => ?_) <;> (try simp at hc)) | (refine wp_drawF (by kernel_rfl) ?_) | (refine wk_yldW _ ?_) | (refine layOwe _ (by kernel_rfl) ?_) | (refine owe ?_ (fun ho => ?_)) | (simp (disch := first | assumption | omega | (simp; done) | (simp; omega)) [B0, B1, B5, B6, B7, Bbs, A0, A1, A5, A6, Abs, eS, hw, -getElem?_pos, List.getElem?_cons_zero, List.getElem?_cons_succ]))
          exact Aih (Am - 1) _ _ (by omega) ⟨i + 1, by simp [B0, B1, B5, B6, B7, Bbs, A0, A1, A5, A6, Abs, hpt], by simp [B0, B1, B5, B6, B7, Bbs, A0, A1, A5, A6, Abs, hpt], by simp [B0, B1, B5, B6, B7, Bbs, A0, A1, A5, A6, Abs, hpt], by simp [B0, B1, B5, B6, B7, Bbs, A0, A1, A5, A6, Abs, hpt], by simp [B0, B1, B5, B6, B7, Bbs, A0, A1, A5, A6, Abs, hpt], by omega⟩
        · repeat' (first | (refine wpc_split _ (fun hc => ?_) (fun hc => ?_) <;> (try simp at hc)) | (refine ww_split _ (fun hc => ?_) (fun hc => ?_) <;> (try simp at hc)) | (refine wp_drawF (by kernel_rfl) ?_) | (refine wk_yldW _ ?_) | (refine layOwe _ (by kernel_rfl) ?_) | (refine owe ?_ (fun ho => ?_)) | (simp (disch := first | assumption | omega | (simp; done) | (simp; omega)) [B0, B1, B5, B6, B7, Bbs, A0, A1, A5, A6, Abs, eS, hw, -getElem?_pos, List.getElem?_cons_zero, List.getElem?_cons_succ]))
          exact Bih (Bm - 1) _ _ (by omega) ⟨k + 1, by simp [B0, B1, B5, B6, B7, Bbs, A0, A1, A5, A6, Abs], by simp [B0, B1, B5, B6, B7, Bbs, A0, A1, A5, A6, Abs], by simp [B0, B1, B5, B6, B7, Bbs, A0, A1, A5, A6, Abs], by simp [B0, B1, B5, B6, B7, Bbs, A0, A1, A5, A6, Abs], by simp [B0, B1, B5, B6, B7, Bbs, A0, A1, A5, A6, Abs], by simp [B0, B1, B5, B6, B7, Bbs, A0, A1, A5, A6, Abs], by omega, fun j hj => by (by_cases e : j = k; (subst e; exact hw); exact ht j (by omega))⟩
      · have hpc : ptC (nth x i) t = 0 := by
          unfold ptC; rw [if_neg he, if_neg]
          intro hmem
          obtain ⟨j, hj, e⟩ := List.mem_iff_getElem.1 hmem
          rw [← nth_eq hj] at e
          exact ht j (by omega) e
        rw [hpc] at hpt
        repeat' (first | (refine wpc_split _ (fun hc => ?_) (fun hc => ?_) <;> (try simp at hc)) | (refine ww_split _ (fun hc => ?_) (fun hc => ?_) <;> (try simp at hc)) | (refine wp_drawF (by kernel_rfl) ?_) | (refine wk_yldW _ ?_) | (refine layOwe _ (by kernel_rfl) ?_) | (refine owe ?_ (fun ho => ?_)) | (simp (disch := first | assumption | omega | (simp; done) | (simp; omega)) [B0, B1, B5, B6, B7, Bbs, A0, A1, A5, A6, Abs, eS, -getElem?_pos, List.getElem?_cons_zero, List.getElem?_cons_succ]))
        exact Aih (Am - 1) _ _ (by omega) ⟨i + 1, by simp [B0, B1, B5, B6, B7, Bbs, A0, A1, A5, A6, Abs, hpt], by simp [B0, B1, B5, B6, B7, Bbs, A0, A1, A5, A6, Abs, hpt], by simp [B0, B1, B5, B6, B7, Bbs, A0, A1, A5, A6, Abs, hpt], by simp [B0, B1, B5, B6, B7, Bbs, A0, A1, A5, A6, Abs, hpt], by simp [B0, B1, B5, B6, B7, Bbs, A0, A1, A5, A6, Abs, hpt], by omega⟩
  · have h1 : x.take i = x := List.take_of_length_le (by omega)
    rw [h1] at A5
    repeat' (first | (refine wpc_split _ (fun hc => ?_) (fun hc => ?_) <;> (try simp at hc)) | (refine ww_split _ (fun hc => ?_) (fun hc => ?_) <;> (try simp at hc)) | (refine wp_drawF (by kernel_rfl) ?_) | (refine wk_yldW _ ?_) | (refine layOwe _ (by kernel_rfl) ?_) | (refine owe ?_ (fun ho => ?_)) | (simp (disch := first | assumption | omega | (simp; done) | (simp; omega)) [A0, A1, A5, A6, Abs, -getElem?_pos, List.getElem?_cons_zero, List.getElem?_cons_succ]))
@[simp] theorem S24 (x : List Cell) (t : List UInt8) (hs : smS x) (q1 : Fl) (hh : Heap) : Ci cfg (.func (.func 24) [] []) [R  q1 eC x, .str t] hh = some (.ret (.int .i64 (ptS x t)), hh) :=
  Ci_K cfg rfl rfl (by simp) (by simp) (C24 x t hs)
theorem C37 (x : List Cell) (hs : smS x) (hq : ∀ c ∈ x, c.alts.length ≤ 1000000) : Kc cfg 37 [R fl0 eC x] (.ret (.str (chooseS x))) := by
  have hs1 := hs.1
  have hc : chooseS x = if (bestF x (textsS x) ([], 0)).2 < ptS x [] then [] else (bestF x (textsS x) ([], 0)).1 := rfl
  rw [hc]
  generalize hB : bestF x (textsS x) ([], 0) = B0
  generalize hRR : (if B0.2 < ptS x [] then [] else B0.1) = RR
  refine outS_of_wp cfg (fn := Tryd.f37) Tryd.func37 rfl (by simp [Tryd.f37]) ?_
  simp (disch := first | assumption | omega | (simp; done) | (simp; omega)) [-getElem?_pos, List.getElem?_cons_zero, List.getElem?_cons_succ, Tryd.f37]
  repeat' (first | (refine wpc_split _ (fun hc => ?_) (fun hc => ?_) <;> (try simp at hc)) | (refine ww_split _ (fun hc => ?_) (fun hc => ?_) <;> (try simp at hc)) | (refine wp_drawF (by kernel_rfl) ?_) | (refine wk_yldW _ ?_) | (refine layOwe _ (by kernel_rfl) ?_) | (refine owe ?_ (fun ho => ?_)) | (simp (disch := first | assumption | omega | (simp; done) | (simp; omega)) [-getElem?_pos, List.getElem?_cons_zero, List.getElem?_cons_succ]))
  refine wp_loopE cfg rfl (fun f0 h0 m fr h => ∃ i : Nat, fr 0 = f0 0 ∧ fr 3 = .str (bestF x (textsS (x.take i)) ([], 0)).1 ∧ fr 4 = .int .i64 (bestF x (textsS (x.take i)) ([], 0)).2 ∧ fr 5 = .int .i64 i ∧ (i + m = x.length)) (x.length) _ _ ⟨0, rfl, by first | rfl | (simp; done) | (simp [R]; done) | simp [R], by first | rfl | (simp; done) | (simp [R]; done) | simp [R], by first | rfl | (simp; done) | (simp [R]; done) | simp [R], by first | rfl | (simp; done) | omega⟩ ?_
  rintro Am Af Ah ⟨i, A0, A3, A4, A5, hm⟩ Aih
  try simp at A0
  generalize hz : bestF x (textsS (x.take i)) ([], 0) = z at A3 A4
  by_cases hi : i < x.length
  · have hsi := (smS_nth hs hi).2.1
    have hqi := hq _ (nth_mem hi)
    have htk := textsS_take hi
    have hz1 : bestF x (textsS (x.take (i + 1))) ([], 0) = bestF x (textsC (nth x i)) z := by rw [htk, bestF_app, hz]
    have hcl : (textsC (nth x i)).length = (nth x i).alts.length + 1 := by simp [textsC]
    obtain ⟨bz, bz1, bz2⟩ := apok_apz (P := Tryd.prog) (ts := #[29, 29]) (sz := 1) (by simp)
    obtain ⟨fl', h', hap1, _, hbs', _⟩ := append_R_any (P := Tryd.prog) (E := eS) (h := Ah) (fl := (false, true, none)) (l := [(nth x i).text]) (fl2 := fl0) (m := (nth x i).alts) bz1 (App.full _ _ _) (by simp; omega) bz2
    have hap2 : appendV Tryd.prog Ah false #[29, 29] (.row false true [.str (nth x i).text] 1 none) (R fl0 eS (nth x i).alts) = some (R fl' eS (textsC (nth x i)), h') := hap1
    repeat' (first | (refine wpc_split _ (fun hc => ?_) (fun hc => ?_) <;> (try simp at hc)) | (refine ww_split _ (fun hc => ?_) (fun hc => ?_) <;> (try simp at hc)) | (refine wp_drawF (by kernel_rfl) ?_) | (refine wk_yldW _ ?_) | (refine layOwe _ (by kernel_rfl) ?_) | (refine owe ?_ (fun ho => ?_)) | (simp (disch := first | assumption | omega | (simp; done) | (simp; omega)) [A0, A3, A4, A5, hap2, hap1, -getElem?_pos, List.getElem?_cons_zero, List.getElem?_cons_succ]))
    refine wp_loopE cfg rfl (fun f0 h0 m fr h => ∃ k : Nat, fr 0 = f0 0 ∧ fr 5 = f0 5 ∧ fr 6 = f0 6 ∧ fr 3 = .str (bestF x ((textsC (nth x i)).take k) z).1 ∧ fr 4 = .int .i64 (bestF x ((textsC (nth x i)).take k) z).2 ∧ fr 7 = .int .i64 k ∧ h.bs = h0.bs ∧ (k + m = (textsC (nth x i)).length)) ((textsC (nth x i)).length) _ _ ⟨0, rfl, rfl, rfl, by simp [A3, bestF], by simp [A4, bestF], by first | rfl | (simp; done) | (simp [R]; done) | simp [R], rfl, by first | rfl | (simp; done) | omega⟩ ?_
    rintro Bm Bf Bh ⟨k, B0, B5, B6, B3, B4, B7, Bbs, hm2⟩ Bih
    try simp [A0, A3, A4, A5] at B0 B5 B6 Bbs
    by_cases hk : k < (textsC (nth x i)).length
    · have htk2 : bestF x ((textsC (nth x i)).take (k + 1)) z = bestF x [nth (textsC (nth x i)) k] (bestF x ((textsC (nth x i)).take k) z) := by rw [nth_take hk, bestF_app]
      rw [bestF_one] at htk2
      generalize hy : bestF x ((textsC (nth x i)).take k) z = y at *
      by_cases he : nth (textsC (nth x i)) k = []
      · rw [if_neg (fun e => e.1 he)] at htk2
        repeat' (first | (refine wpc_split _ (fun hc => ?_) (fun hc => ?_) <;> (try simp at hc)) | (refine ww_split _ (fun hc => ?_) (fun hc => ?_) <;> (try simp at hc)) | (refine wp_drawF (by kernel_rfl) ?_) | (refine wk_yldW _ ?_) | (refine layOwe _ (by kernel_rfl) ?_) | (refine owe ?_ (fun ho => ?_)) | (simp (disch := first | assumption | omega | (simp; done) | (simp; omega)) [B0, B5, B6, B3, B4, B7, Bbs, A0, A3, A4, A5, eS, he, -getElem?_pos, List.getElem?_cons_zero, List.getElem?_cons_succ]))
        exact Bih (Bm - 1) _ _ (by omega) ⟨k + 1, by simp [B0, B5, B6, B3, B4, B7, Bbs, A0, A3, A4, A5, htk2], by simp [B0, B5, B6, B3, B4, B7, Bbs, A0, A3, A4, A5, htk2], by simp [B0, B5, B6, B3, B4, B7, Bbs, A0, A3, A4, A5, htk2], by simp [B0, B5, B6, B3, B4, B7, Bbs, A0, A3, A4, A5, htk2], by simp [B0, B5, B6, B3, B4, B7, Bbs, A0, A3, A4, A5, htk2], by simp [B0, B5, B6, B3, B4, B7, Bbs, A0, A3, A4, A5, htk2], by simp [B0, B5, B6, B3, B4, B7, Bbs, A0, A3, A4, A5, htk2], by omega⟩
      · by_cases hp : y.2 < ptS x (nth (textsC (nth x i)) k)
        · rw [if_pos ⟨he, hp⟩] at htk2
          repeat' (first | (refine wpc_split _ (fun hc => ?_) (fun hc => ?_) <;> (try simp at hc)) | (refine ww_split _ (fun hc => ?_) (fun hc => ?_) <;> (try simp at hc)) | (refine wp_drawF (by kernel_rfl) ?_) | (refine wk_yldW _ ?_) | (refine layOwe _ (by kernel_rfl) ?_) | (refine owe ?_ (fun ho => ?_)) | (simp (disch := first | assumption | omega | (simp; done) | (simp; omega)) [B0, B5, B6, B3, B4, B7, Bbs, A0, A3, A4, A5, eS, he, hp, -getElem?_pos, List.getElem?_cons_zero, List.getElem?_cons_succ]))
          exact Bih (Bm - 1) _ _ (by omega) ⟨k + 1, by simp [B0, B5, B6, B3, B4, B7, Bbs, A0, A3, A4, A5, htk2], by simp [B0, B5, B6, B3, B4, B7, Bbs, A0, A3, A4, A5, htk2], by simp [B0, B5, B6, B3, B4, B7, Bbs, A0, A3, A4, A5, htk2], by simp [B0, B5, B6, B3, B4, B7, Bbs, A0, A3, A4, A5, htk2], by simp [B0, B5, B6, B3, B4, B7, Bbs, A0, A3, A4, A5, htk2], by simp [B0, B5, B6, B3, B4, B7, Bbs, A0, A3, A4, A5, htk2], by simp [B0, B5, B6, B3, B4, B7, Bbs, A0, A3, A4, A5, htk2], by omega⟩
        · rw [if_neg (fun e => hp e.2)] at htk2
          repeat' (first | (refine wpc_split _ (fun hc => ?_) (fun hc => ?_) <;> (try simp at hc)) | (refine ww_split _ (fun hc => ?_) (fun hc => ?_) <;> (try simp at hc)) | (refine wp_drawF (by kernel_rfl) ?_) | (refine wk_yldW _ ?_) | (refine layOwe _ (by kernel_rfl) ?_) | (refine owe ?_ (fun ho => ?_)) | (simp (disch := first | assumption | omega | (simp; done) | (simp; omega)) [B0, B5, B6, B3, B4, B7, Bbs, A0, A3, A4, A5, eS, he, hp, -getElem?_pos, List.getElem?_cons_zero, List.getElem?_cons_succ]))
          exact Bih (Bm - 1) _ _ (by omega) ⟨k + 1, by simp [B0, B5, B6, B3, B4, B7, Bbs, A0, A3, A4, A5, htk2], by simp [B0, B5, B6, B3, B4, B7, Bbs, A0, A3, A4, A5, htk2], by simp [B0, B5, B6, B3, B4, B7, Bbs, A0, A3, A4, A5, htk2], by simp [B0, B5, B6, B3, B4, B7, Bbs, A0, A3, A4, A5, htk2], by simp [B0, B5, B6, B3, B4, B7, Bbs, A0, A3, A4, A5, htk2], by simp [B0, B5, B6, B3, B4, B7, Bbs, A0, A3, A4, A5, htk2], by simp [B0, B5, B6, B3, B4, B7, Bbs, A0, A3, A4, A5, htk2], by omega⟩
    · have hfull : (textsC (nth x i)).take k = textsC (nth x i) := List.take_of_length_le (by omega)
      rw [hfull] at B3 B4
      repeat' (first | (refine wpc_split _ (fun hc => ?_) (fun hc => ?_) <;> (try simp at hc)) | (refine ww_split _ (fun hc => ?_) (fun hc => ?_) <;> (try simp at hc)) | (refine wp_drawF (by kernel_rfl) ?_) | (refine wk_yldW _ ?_) | (refine layOwe _ (by kernel_rfl) ?_) | (refine owe ?_ (fun ho => ?_)) | (simp (disch := first | assumption | omega | (simp; done) | (simp; omega)) [B0, B5, B6, B3, B4, B7, Bbs, A0, A3, A4, A5, -getElem?_pos, List.getElem?_cons_zero, List.getElem?_cons_succ]))
      exact Aih (Am - 1) _ _ (by omega) ⟨i + 1, by simp [B0, B5, B6, B3, B4, B7, Bbs, A0, A3, A4, A5, hz1, hbs'], by simp [B0, B5, B6, B3, B4, B7, Bbs, A0, A3, A4, A5, hz1, hbs'], by simp [B0, B5, B6, B3, B4, B7, Bbs, A0, A3, A4, A5, hz1, hbs'], by simp [B0, B5, B6, B3, B4, B7, Bbs, A0, A3, A4, A5, hz1, hbs'], by omega⟩
  · have h1 : x.take i = x := List.take_of_length_le (by omega)
    rw [h1] at hz
    rw [hz] at hB
    subst hB
    have hpl := ptS_le x []
    by_cases hlt : z.2 < ptS x []
    · rw [if_pos hlt] at hRR
      subst hRR
      repeat' (first | (refine wpc_split _ (fun hc => ?_) (fun hc => ?_) <;> (try simp at hc)) | (refine ww_split _ (fun hc => ?_) (fun hc => ?_) <;> (try simp at hc)) | (refine wp_drawF (by kernel_rfl) ?_) | (refine wk_yldW _ ?_) | (refine layOwe _ (by kernel_rfl) ?_) | (refine owe ?_ (fun ho => ?_)) | (simp (disch := first | assumption | omega | (simp; done) | (simp; omega)) [A0, A3, A4, A5, hlt, -getElem?_pos, List.getElem?_cons_zero, List.getElem?_cons_succ]))
      all_goals first | rfl | (exfalso; omega)
    · rw [if_neg hlt] at hRR
      subst hRR
      repeat' (first | (refine wpc_split _ (fun hc => ?_) (fun hc => ?_) <;> (try simp at hc)) | (refine ww_split _ (fun hc => ?_) (fun hc => ?_) <;> (try simp at hc)) | (refine wp_drawF (by kernel_rfl) ?_) | (refine wk_yldW _ ?_) | (refine layOwe _ (by kernel_rfl) ?_) | (refine owe ?_ (fun ho => ?_)) | (simp (disch := first | assumption | omega | (simp; done) | (simp; omega)) [A0, A3, A4, A5, hlt, -getElem?_pos, List.getElem?_cons_zero, List.getElem?_cons_succ]))
      all_goals first | rfl | (exfalso; omega)
@[simp] theorem S37 (x : List Cell) (hs : smS x) (hq : ∀ c ∈ x, c.alts.length ≤ 1000000) (q1 : Fl) (hh : Heap) : Ci cfg (.func (.func 37) [] []) [R  q1 eC x] hh = some (.ret (.str (chooseS x)), hh) :=
  Ci_K cfg rfl rfl (by simp) (by simp) (C37 x hs hq)
end Go.Ab
