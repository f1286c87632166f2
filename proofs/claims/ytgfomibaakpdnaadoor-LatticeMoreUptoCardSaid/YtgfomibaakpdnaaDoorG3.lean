/- Layer 20 (lattice): the program's table. -/
import Derived.Test.YtgfomibaakpdnaaDoorG2
set_option linter.unusedVariables false
set_option linter.unusedSimpArgs false
set_option linter.unusedSectionVars false
set_option linter.deprecated false
namespace Go.Ab
open Go.Proofs
set_option maxRecDepth 100000
set_option maxHeartbeats 4000000
def tcE (H F : Nat → Int) (far : Int) : Nat → V := fun i => if i < 65 then .int .i64 (H i) else if i < 130 then .int .i64 (F (i - 65)) else .int .i64 far
theorem tcE_h {H F : Nat → Int} {far : Int} {i : Nat} (h : i < 65) : tcE H F far i = .int .i64 (H i) := by unfold tcE; rw [if_pos h]
theorem tcE_f {H F : Nat → Int} {far : Int} {i : Nat} (h : i < 65) : tcE H F far (65 + i) = .int .i64 (F i) := by unfold tcE; rw [if_neg (by omega), if_pos (by omega), show 65 + i - 65 = i by omega]
theorem tcE_far {H F : Nat → Int} {far : Int} : tcE H F far 130 = .int .i64 far := rfl
theorem tcE_0 {H F : Nat → Int} {far : Int} : tcE H F far 0 = .int .i64 (H 0) := rfl
theorem tcE_uh {H F : Nat → Int} {far x : Int} {i : Nat} (h : i < 65) : upd (tcE H F far) i (.int .i64 x) = tcE (updI H i x) F far := by
  funext j
  unfold upd tcE updI
  by_cases e : j = i
  · subst e; rw [if_pos rfl, if_pos h, if_pos rfl]
  · rw [if_neg e, if_neg e]
theorem tcE_uf {H F : Nat → Int} {far x : Int} {i : Nat} (h : i < 65) : upd (tcE H F far) (65 + i) (.int .i64 x) = tcE H (updI F i x) far := by
  funext j
  unfold upd tcE updI
  by_cases e : j = 65 + i
  · subst e; rw [if_pos rfl, if_neg (by omega), if_pos (by omega), if_pos (by omega)]
  · rw [if_neg e]
    by_cases h1 : j < 65
    · rw [if_pos h1, if_pos h1]
    · rw [if_neg h1, if_neg h1]
      by_cases h2 : j < 130
      · rw [if_pos h2, if_pos h2, if_neg (by omega)]
      · rw [if_neg h2, if_neg h2]
theorem tcE_ufar {H F : Nat → Int} {far x : Int} : tab 131 (upd (tcE H F far) 130 (.int .i64 x)) = tab 131 (tcE H F x) := tab_ext fun j hj => by
  unfold upd tcE
  by_cases e : j = 130
  · subst e; rfl
  · rw [if_neg e]
    by_cases h1 : j < 65
    · rw [if_pos h1, if_pos h1]
    · rw [if_neg h1, if_neg h1, if_pos (by omega), if_pos (by omega)]
theorem tcE_zero : tab 131 (fun _ => V.int .i64 0) = tab 131 (tcE (fun _ => 0) (fun _ => 0) 0) := tab_ext fun j _ => by
  unfold tcE; split <;> (try split) <;> rfl
theorem tabE_low {n : Nat} {l : List Edge} {far : Int} : ∀ {k v : Nat}, v + k < n → (tabE n l far k).1 v = 0 ∧ (tabE n l far k).2 v = 0
  | 0, v, _ => ⟨rfl, rfl⟩
  | k + 1, v, h => by
    rw [tabE_1, tabE_2, if_neg (by omega), if_neg (by omega)]
    exact tabE_low (by omega)
theorem updI_id {f : Nat → Int} {v : Nat} {x : Int} (h : f v = x) : updI f v x = f := by
  funext j; unfold updI; split
  · rename_i e; subst e; exact h.symm
  · rfl
theorem gb6 {b0 b1 b2 b3 b4 b5 : Blk} {X Y L : List Blk} {j : Nat} : (b0 :: (X ++ b1 :: b2 :: b3 :: b4 :: b5 :: (Y ++ L)))[X.length + (Y.length + (j + 6))]? = L[j]? := by
  rw [show X.length + (Y.length + (j + 6)) = X.length + (Y.length + j + 5) + 1 by omega]
  simp only [List.getElem?_cons_succ, app_at]
theorem gs6 {b0 b1 b2 b3 b4 b5 x : Blk} {X Y L : List Blk} {j : Nat} : (b0 :: (X ++ b1 :: b2 :: b3 :: b4 :: b5 :: (Y ++ L))).set (X.length + (Y.length + (j + 6))) x = b0 :: (X ++ b1 :: b2 :: b3 :: b4 :: b5 :: (Y ++ L.set j x)) := by
  rw [show X.length + (Y.length + (j + 6)) = X.length + (Y.length + j + 5) + 1 by omega]
  simp only [List.set_cons_succ, app_set]
theorem bk6 {b0 b1 b2 b3 b4 b5 z : Blk} {X Y : List Blk} : b0 :: (X ++ b1 :: b2 :: b3 :: b4 :: b5 :: (Y ++ [z])) = b0 :: ((X ++ (b1 :: b2 :: b3 :: b4 :: b5 :: Y)) ++ [z]) := by simp
theorem closed_map {f : Nat → V} (l : List Nat) (h : ∀ i, (f i).closed = true) : V.closed.closedL (l.map f) = true := by
  induction l with
  | nil => rfl
  | cons x l ih => simp [V.closed.closedL, h, ih]
theorem norm_map {f : Nat → V} (l : List Nat) (h : ∀ i, (f i).norm = f i) : V.norm.normL (l.map f) = l.map f := by
  induction l with
  | nil => rfl
  | cons x l ih => simp [V.norm.normL, h, ih]
theorem tab_take (n : Nat) (f : Nat → V) : List.take n (tab n f) = tab n f := List.take_of_length_le (by simp)
theorem tab_wr (n : Nat) (f g : Nat → V) : writeL (tab n f) 0 (tab n g) = tab n g := writeL_all _ _ (by simp)
theorem C30 (n : Int) (l : List Edge) (hck : checkE n l = 0) : Kc cfg 30 [.int .i64 n, R fl0 eE l] (.ret (.agg (tab 131 (tcE (DE n l) (FE n l) (sumE l + 1))))) := by
  obtain ⟨hn, hl, hok⟩ := checkE_ok hck
  have hin := checkE_in hck
  have hco := edges_cost hin
  obtain ⟨hs0, hs1⟩ := checkE_sum hck
  have hs : l.length < 1099511627776 := by omega
  have hDE : DE n l = (tabE n.toNat l (sumE l + 1) n.toNat).1 := rfl
  have hFE : FE n l = (tabE n.toNat l (sumE l + 1) n.toNat).2 := rfl
  have hT := tabE_in (n := n.toNat) (l := l) (far := sumE l + 1) (by omega) hco
  have hB := bestE_in (n := n.toNat) (l := l) (far := sumE l + 1) (by omega) hco
  rw [hDE, hFE]
  generalize hfar : sumE l + 1 = far at *
  obtain ⟨N, rfl⟩ : ∃ N : Nat, n = N := ⟨n.toNat, by omega⟩
  simp only [Int.toNat_natCast] at *
  generalize hRR : tab 131 (tcE (tabE N l far N).1 (tabE N l far N).2 far) = RR
  refine outS_of_wp cfg (fn := Tryd.f30) Tryd.func30 rfl (by simp [Tryd.f30]) ?_
  simp (disch := first | assumption | omega | (simp; done) | (simp; omega)) [-getElem?_pos, List.getElem?_cons_zero, List.getElem?_cons_succ, Tryd.f30, emptyH]
  repeat' (first | (refine wpc_split _ (fun hc => ?_) (fun hc => ?_) <;> (try simp at hc)) | (refine ww_split _ (fun hc => ?_) (fun hc => ?_) <;> (try simp at hc)) | (refine wp_drawF (by kernel_rfl) ?_) | (refine wk_yldW _ ?_) | (refine layOwe _ (by kernel_rfl) ?_) | (refine owe ?_ (fun ho => ?_)) | (simp (disch := first | assumption | omega | (simp; done) | (simp; omega)) [emptyH, -getElem?_pos, List.getElem?_cons_zero, List.getElem?_cons_succ]))
  refine wp_loopE cfg rfl (fun f0 h0 m fr h => ∃ i : Nat, ∃ Z : List Blk, fr 0 = f0 0 ∧ fr 1 = f0 1 ∧ fr 4 = f0 4 ∧ fr 11 = f0 11 ∧ fr 12 = f0 12 ∧ fr 72 = f0 72 ∧ fr 73 = f0 73 ∧ fr 74 = f0 74 ∧ fr 75 = f0 75 ∧ fr 13 = .int .i64 i ∧ (h.bs = .cells (tab 131 (tcE (fun _ => 0) (fun _ => 0) (sumE (l.take i)))) :: Z) ∧ (i + m = l.length)) (l.length) _ _ ⟨0, [], rfl, rfl, rfl, rfl, rfl, rfl, rfl, rfl, rfl, by first | rfl | (simp; done) | (simp [R]; done) | simp [R], by simp [tcE_zero, sumE], by first | rfl | (simp; done) | omega⟩ ?_
  rintro Am Af Ah ⟨i, Z, A0, A1, A4, A11, A12, A72, A73, A74, A75, A13, hb, hm⟩ Aih
  try simp at A0 A1 A4 A11 A12 A72 A73 A74 A75
  by_cases hi : i < l.length
  · have h1 := sumE_part (i := i) hco
    have h2 := sumE_part (i := i + 1) hco
    have h3 := sumE_take hi
    rw [h3] at h2
    repeat' (first | (refine wpc_split _ (fun hc => ?_) (fun hc => ?_) <;> (try simp at hc)) | (refine ww_split _ (fun hc => ?_) (fun hc => ?_) <;> (try simp at hc)) | (refine wp_drawF (by kernel_rfl) ?_) | (refine wk_yldW _ ?_) | (refine layOwe _ (by kernel_rfl) ?_) | (refine owe ?_ (fun ho => ?_)) | (simp (disch := first | assumption | omega | (simp; done) | (simp; omega)) [A0, A1, A4, A11, A12, A72, A73, A74, A75, A13, hb, eE, tab_get1, tcE_far, tab_set, tcE_ufar, -getElem?_pos, List.getElem?_cons_zero, List.getElem?_cons_succ]))
    exact Aih (Am - 1) _ _ (by omega) ⟨i + 1, Z ++ [.cells (eE (nth l i))], by simp [A0, A1, A4, A11, A12, A72, A73, A74, A75, A13, hb], by simp [A0, A1, A4, A11, A12, A72, A73, A74, A75, A13, hb], by simp [A0, A1, A4, A11, A12, A72, A73, A74, A75, A13, hb], by simp [A0, A1, A4, A11, A12, A72, A73, A74, A75, A13, hb], by simp [A0, A1, A4, A11, A12, A72, A73, A74, A75, A13, hb], by simp [A0, A1, A4, A11, A12, A72, A73, A74, A75, A13, hb], by simp [A0, A1, A4, A11, A12, A72, A73, A74, A75, A13, hb], by simp [A0, A1, A4, A11, A12, A72, A73, A74, A75, A13, hb], by simp [A0, A1, A4, A11, A12, A72, A73, A74, A75, A13, hb], by simp [A0, A1, A4, A11, A12, A72, A73, A74, A75, A13, hb], (by simp [hb, h3, eE, tcE_ufar]), by omega⟩
  · have h1 : l.take i = l := List.take_of_length_le (by omega)
    rw [h1] at hb
    repeat' (first | (refine wpc_split _ (fun hc => ?_) (fun hc => ?_) <;> (try simp at hc)) | (refine ww_split _ (fun hc => ?_) (fun hc => ?_) <;> (try simp at hc)) | (refine wp_drawF (by kernel_rfl) ?_) | (refine wk_yldW _ ?_) | (refine layOwe _ (by kernel_rfl) ?_) | (refine owe ?_ (fun ho => ?_)) | (simp (disch := first | assumption | omega | (simp; done) | (simp; omega)) [A0, A1, A4, A11, A12, A72, A73, A74, A75, A13, hb, tab_get1, tcE_far, tab_set, tcE_ufar, -getElem?_pos, List.getElem?_cons_zero, List.getElem?_cons_succ]))
    refine wp_loopD (c := cfg) rfl (fun f0 h0 d0 m fr h dd => ∃ k : Nat, ∃ X : List Blk, ∃ ms : List Nat, fr 0 = f0 0 ∧ fr 1 = f0 1 ∧ fr 4 = f0 4 ∧ fr 72 = f0 72 ∧ fr 73 = f0 73 ∧ fr 74 = f0 74 ∧ fr 75 = f0 75 ∧ fr 7 = .ptr (X.length + 1) 0 ∧ (h.bs = .cells (tab 131 (tcE (tabE N l far k).1 (tabE N l far k).2 far)) :: (X ++ [.cells [.int .i64 ((N : Int) - 1 - k)]])) ∧ (k + m = N) ∧ (Mk ms X) ∧ dd = mkD 1 ms) (N) _ _ _ ⟨0, Z, [], rfl, rfl, rfl, rfl, rfl, rfl, rfl, by first | rfl | (simp; done) | (simp [R]; done) | simp [R], by simp [hb, tcE_ufar, hfar, tabE], by first | rfl | (simp; done) | omega, Mk.nil _, by first | rfl | simp⟩ ?_
    rintro Bm Bf Bh _ ⟨k, X, ms, B0, B1, B4, B72, B73, B74, B75, B7, hb2, hm2, hmk, rfl⟩ Bih
    try simp [A0, A1, A4, A11, A12, A72, A73, A74, A75, A13] at B0 B1 B4 B72 B73 B74 B75
    by_cases hk : k < N
    · obtain ⟨v, hv⟩ : ∃ v, v = N - 1 - k := ⟨_, rfl⟩
      have hvi : (N : Int) - 1 - k = v := by omega
      have g1 : v < 65 := by omega
      have hlow := tabE_low (n := N) (l := l) (far := far) (k := k) (v := v) (by omega)
      rw [hvi] at hb2
      repeat' (first | (refine wpc_split _ (fun hc => ?_) (fun hc => ?_) <;> (try simp at hc)) | (refine ww_split _ (fun hc => ?_) (fun hc => ?_) <;> (try simp at hc)) | (refine wp_drawF (by kernel_rfl) ?_) | (refine wk_yldW _ ?_) | (refine layOwe _ (by kernel_rfl) ?_) | (refine owe ?_ (fun ho => ?_)) | (simp (disch := first | assumption | omega | (simp; done) | (simp; omega)) [B0, B1, B4, B72, B73, B74, B75, B7, hb2, tab_get1, tcE_far, tab_set, tcE_uh, app_at, app_at0, Tryd.f39, Tryd.f46, -getElem?_pos, List.getElem?_cons_zero, List.getElem?_cons_succ]))
      refine wp_loopE cfg rfl (fun f0 h0 m fr h => ∃ i : Nat, ∃ Y : List Blk, fr 0 = f0 0 ∧ fr 1 = f0 1 ∧ fr 2 = f0 2 ∧ fr 6 = f0 6 ∧ fr 7 = f0 7 ∧ fr 8 = .int .i64 i ∧ (h.bs = (h0.bs.set 0 (.cells (tab 131 (tcE (updI (tabE N l far k).1 v (bestE l far (tabE N l far k).1 v i).1) (updI (tabE N l far k).2 v (bestE l far (tabE N l far k).1 v i).2) far)))) ++ Y) ∧ (i + m = l.length)) (l.length) _ _ ⟨0, [], rfl, rfl, rfl, rfl, rfl, by first | rfl | (simp; done) | (simp [R]; done) | simp [R], by simp [bestE_zero, updI_id hlow.2], by first | rfl | (simp; done) | omega⟩ ?_
      rintro Cm Cf Ch ⟨i, Y, C0, C1, C2, C6, C7, C8, hb3, hm3⟩ Cih
      try simp [B0, B1, B4, B72, B73, B74, B75, B7, A0, A1, A4, A11, A12, A72, A73, A74, A75, A13] at C0 C1 C2 C6 C7
      simp at hb3
      by_cases hi : i < l.length
      · have he := hin i hi
        obtain ⟨d, hd⟩ : ∃ d : Nat, d = (nth l i).dst.toNat := ⟨_, rfl⟩
        have hdi : (nth l i).dst = d := by omega
        have hd1 : d < 65 := by omega
        have hsp := bestE_succ l far (tabE N l far k).1 v i
        unfold stpE at hsp
        rw [← hd] at hsp
        have t1 := hT k d
        have t2 := hB k v i
        have hco2 := edgeOk_at (hok i hi)
        by_cases c1 : (nth l i).src = v
        · have hne : ¬ d = v := by omega
          have hrd : updI (tabE N l far k).1 v (bestE l far (tabE N l far k).1 v i).1 d = (tabE N l far k).1 d := updI_ne hne
          by_cases c2 : (tabE N l far k).1 d < far
          · by_cases c3 : (nth l i).cost + (tabE N l far k).1 d < (bestE l far (tabE N l far k).1 v i).1
            · rw [if_pos ⟨c1, c2, c3⟩] at hsp
              repeat' (first | (refine wpc_split _ (fun hc => ?_) (fun hc => ?_) <;> (try simp at hc)) | (refine ww_split _ (fun hc => ?_) (fun hc => ?_) <;> (try simp at hc)) | (refine wp_drawF (by decide +kernel) ?_) | (refine wp_drawK [(4, .ptr 0 0), (7, .ptr (X.length + 1) 0), (72, .tuple []), (73, .tuple []), (74, .tuple []), (75, .tuple [])] (by simp [A0, A1, A4, A11, A12, A72, A73, A74, A75, A13, C0, C1, C2, C6, C7, C8, B0, B1, B4, B72, B73, B74, B75, B7, hb3, eE, c1, c2, c3, hdi, tab_get1, tcE_far, tcE_h, tcE_f, tab_set, tcE_uh, tcE_uf, app_at, app_at0, hrd, gb6, gs6, app_set, app_set0, Nat.add_assoc]) (by kernel_rfl) ?_) | (refine wk_yldW _ ?_) | (refine layOwe _ (by kernel_rfl) ?_) | (refine owe ?_ (fun ho => ?_)) | (simp (config := { maxSteps := 2000000 }) (disch := first | assumption | omega | (simp; done) | (simp; omega)) [A0, A1, A4, A11, A12, A72, A73, A74, A75, A13, C0, C1, C2, C6, C7, C8, B0, B1, B4, B72, B73, B74, B75, B7, hb3, eE, c1, c2, c3, hdi, tab_get1, tcE_far, tcE_h, tcE_f, tab_set, tcE_uh, tcE_uf, app_at, app_at0, hrd, gb6, gs6, app_set, app_set0, Nat.add_assoc, -getElem?_pos, List.getElem?_cons_zero, List.getElem?_cons_succ]))
              exact Cih (Cm - 1) _ _ (by omega) ⟨i + 1, Y ++ [.cells (eE (nth l i)), .cells (eE (nth l i))], by simp [C0, C1, C2, C6, C7, C8, B0, B1, B4, B72, B73, B74, B75, B7, A0, A1, A4, A11, A12, A72, A73, A74, A75, A13, hb3, hsp], by simp [C0, C1, C2, C6, C7, C8, B0, B1, B4, B72, B73, B74, B75, B7, A0, A1, A4, A11, A12, A72, A73, A74, A75, A13, hb3, hsp], by simp [C0, C1, C2, C6, C7, C8, B0, B1, B4, B72, B73, B74, B75, B7, A0, A1, A4, A11, A12, A72, A73, A74, A75, A13, hb3, hsp], by simp [C0, C1, C2, C6, C7, C8, B0, B1, B4, B72, B73, B74, B75, B7, A0, A1, A4, A11, A12, A72, A73, A74, A75, A13, hb3, hsp], by simp [C0, C1, C2, C6, C7, C8, B0, B1, B4, B72, B73, B74, B75, B7, A0, A1, A4, A11, A12, A72, A73, A74, A75, A13, hb3, hsp], by simp [C0, C1, C2, C6, C7, C8, B0, B1, B4, B72, B73, B74, B75, B7, A0, A1, A4, A11, A12, A72, A73, A74, A75, A13, hb3, hsp], (by simp [hb3, hsp, eE, c1, hdi]), by omega⟩
            · rw [if_neg (fun x => c3 x.2.2)] at hsp
              repeat' (first | (refine wpc_split _ (fun hc => ?_) (fun hc => ?_) <;> (try simp at hc)) | (refine ww_split _ (fun hc => ?_) (fun hc => ?_) <;> (try simp at hc)) | (refine wp_drawF (by kernel_rfl) ?_) | (refine wk_yldW _ ?_) | (refine layOwe _ (by kernel_rfl) ?_) | (refine owe ?_ (fun ho => ?_)) | (simp (config := { maxSteps := 2000000 }) (disch := first | assumption | omega | (simp; done) | (simp; omega)) [C0, C1, C2, C6, C7, C8, B0, B1, B4, B72, B73, B74, B75, B7, hb3, eE, c1, c2, c3, hdi, tab_get1, tcE_far, tcE_h, tcE_f, tab_set, tcE_uh, tcE_uf, app_at, app_at0, hrd, gb6, gs6, app_set, app_set0, Nat.add_assoc, -getElem?_pos, List.getElem?_cons_zero, List.getElem?_cons_succ]))
              exact Cih (Cm - 1) _ _ (by omega) ⟨i + 1, Y ++ [.cells (eE (nth l i)), .cells (eE (nth l i))], by simp [C0, C1, C2, C6, C7, C8, B0, B1, B4, B72, B73, B74, B75, B7, A0, A1, A4, A11, A12, A72, A73, A74, A75, A13, hb3, hsp], by simp [C0, C1, C2, C6, C7, C8, B0, B1, B4, B72, B73, B74, B75, B7, A0, A1, A4, A11, A12, A72, A73, A74, A75, A13, hb3, hsp], by simp [C0, C1, C2, C6, C7, C8, B0, B1, B4, B72, B73, B74, B75, B7, A0, A1, A4, A11, A12, A72, A73, A74, A75, A13, hb3, hsp], by simp [C0, C1, C2, C6, C7, C8, B0, B1, B4, B72, B73, B74, B75, B7, A0, A1, A4, A11, A12, A72, A73, A74, A75, A13, hb3, hsp], by simp [C0, C1, C2, C6, C7, C8, B0, B1, B4, B72, B73, B74, B75, B7, A0, A1, A4, A11, A12, A72, A73, A74, A75, A13, hb3, hsp], by simp [C0, C1, C2, C6, C7, C8, B0, B1, B4, B72, B73, B74, B75, B7, A0, A1, A4, A11, A12, A72, A73, A74, A75, A13, hb3, hsp], (by simp [hb3, hsp, eE, c1, hdi]), by omega⟩
          · rw [if_neg (fun x => c2 x.2.1)] at hsp
            repeat' (first | (refine wpc_split _ (fun hc => ?_) (fun hc => ?_) <;> (try simp at hc)) | (refine ww_split _ (fun hc => ?_) (fun hc => ?_) <;> (try simp at hc)) | (refine wp_drawF (by kernel_rfl) ?_) | (refine wk_yldW _ ?_) | (refine layOwe _ (by kernel_rfl) ?_) | (refine owe ?_ (fun ho => ?_)) | (simp (config := { maxSteps := 2000000 }) (disch := first | assumption | omega | (simp; done) | (simp; omega)) [C0, C1, C2, C6, C7, C8, B0, B1, B4, B72, B73, B74, B75, B7, hb3, eE, c1, c2, hdi, tab_get1, tcE_far, tcE_h, tcE_f, tab_set, tcE_uh, tcE_uf, app_at, app_at0, hrd, gb6, gs6, app_set, app_set0, Nat.add_assoc, -getElem?_pos, List.getElem?_cons_zero, List.getElem?_cons_succ]))
            exact Cih (Cm - 1) _ _ (by omega) ⟨i + 1, Y ++ [.cells (eE (nth l i)), .cells (eE (nth l i))], by simp [C0, C1, C2, C6, C7, C8, B0, B1, B4, B72, B73, B74, B75, B7, A0, A1, A4, A11, A12, A72, A73, A74, A75, A13, hb3, hsp], by simp [C0, C1, C2, C6, C7, C8, B0, B1, B4, B72, B73, B74, B75, B7, A0, A1, A4, A11, A12, A72, A73, A74, A75, A13, hb3, hsp], by simp [C0, C1, C2, C6, C7, C8, B0, B1, B4, B72, B73, B74, B75, B7, A0, A1, A4, A11, A12, A72, A73, A74, A75, A13, hb3, hsp], by simp [C0, C1, C2, C6, C7, C8, B0, B1, B4, B72, B73, B74, B75, B7, A0, A1, A4, A11, A12, A72, A73, A74, A75, A13, hb3, hsp], by simp [C0, C1, C2, C6, C7, C8, B0, B1, B4, B72, B73, B74, B75, B7, A0, A1, A4, A11, A12, A72, A73, A74, A75, A13, hb3, hsp], by simp [C0, C1, C2, C6, C7, C8, B0, B1, B4, B72, B73, B74, B75, B7, A0, A1, A4, A11, A12, A72, A73, A74, A75, A13, hb3, hsp], (by simp [hb3, hsp, eE, c1, hdi]), by omega⟩
        · rw [if_neg (fun x => c1 x.1)] at hsp
          repeat' (first | (refine wpc_split _ (fun hc => ?_) (fun hc => ?_) <;> (try simp at hc)) | (refine ww_split _ (fun hc => ?_) (fun hc => ?_) <;> (try simp at hc)) | (refine wp_drawF (by kernel_rfl) ?_) | (refine wk_yldW _ ?_) | (refine layOwe _ (by kernel_rfl) ?_) | (refine owe ?_ (fun ho => ?_)) | (simp (config := { maxSteps := 2000000 }) (disch := first | assumption | omega | (simp; done) | (simp; omega)) [C0, C1, C2, C6, C7, C8, B0, B1, B4, B72, B73, B74, B75, B7, hb3, eE, c1, app_at, app_at0, gb6, gs6, Nat.add_assoc, -getElem?_pos, List.getElem?_cons_zero, List.getElem?_cons_succ]))
          exact Cih (Cm - 1) _ _ (by omega) ⟨i + 1, Y ++ [.cells (eE (nth l i))], by simp [C0, C1, C2, C6, C7, C8, B0, B1, B4, B72, B73, B74, B75, B7, A0, A1, A4, A11, A12, A72, A73, A74, A75, A13, hb3, hsp], by simp [C0, C1, C2, C6, C7, C8, B0, B1, B4, B72, B73, B74, B75, B7, A0, A1, A4, A11, A12, A72, A73, A74, A75, A13, hb3, hsp], by simp [C0, C1, C2, C6, C7, C8, B0, B1, B4, B72, B73, B74, B75, B7, A0, A1, A4, A11, A12, A72, A73, A74, A75, A13, hb3, hsp], by simp [C0, C1, C2, C6, C7, C8, B0, B1, B4, B72, B73, B74, B75, B7, A0, A1, A4, A11, A12, A72, A73, A74, A75, A13, hb3, hsp], by simp [C0, C1, C2, C6, C7, C8, B0, B1, B4, B72, B73, B74, B75, B7, A0, A1, A4, A11, A12, A72, A73, A74, A75, A13, hb3, hsp], by simp [C0, C1, C2, C6, C7, C8, B0, B1, B4, B72, B73, B74, B75, B7, A0, A1, A4, A11, A12, A72, A73, A74, A75, A13, hb3, hsp], (by simp [hb3, hsp, eE]), by omega⟩
      · obtain rfl : i = l.length := by omega
        have hst : updI (tabE N l far k).1 v (bestE l far (tabE N l far k).1 v l.length).1 = (tabE N l far (k + 1)).1 := by subst hv; rfl
        have hst2 : updI (tabE N l far k).2 v (bestE l far (tabE N l far k).1 v l.length).2 = (tabE N l far (k + 1)).2 := by subst hv; rfl
        have hvk : (v : Int) - 1 = (N : Int) - 1 - ((k : Int) + 1) := by omega
        rw [hst, hst2] at hb3
        repeat' (first | (refine wpc_split _ (fun hc => ?_) (fun hc => ?_) <;> (try simp at hc)) | (refine ww_split _ (fun hc => ?_) (fun hc => ?_) <;> (try simp at hc)) | (refine wp_drawF (by kernel_rfl) ?_) | (refine wk_yldW _ ?_) | (refine layOwe _ (by kernel_rfl) ?_) | (refine owe ?_ (fun ho => ?_)) | (simp (config := { maxSteps := 2000000 }) (disch := first | assumption | omega | (simp; done) | (simp; omega)) [C0, C1, C2, C6, C7, C8, B0, B1, B4, B72, B73, B74, B75, B7, hb3, hvk, app_at, app_at0, app_set, app_set0, gb6, gs6, Nat.add_assoc, -getElem?_pos, List.getElem?_cons_zero, List.getElem?_cons_succ]))
        refine Bih (Bm - 1) _ _ _ (by omega) ⟨k + 1, X ++ (?b1 :: ?b2 :: ?b3 :: Blk.dfr true :: ?b5 :: Y), (X.length + 3) :: ms, by simp [A0, A1, A4, A11, A12, A72, A73, A74, A75, A13, B0, B1, B4, B72, B73, B74, B75, B7], by simp [A0, A1, A4, A11, A12, A72, A73, A74, A75, A13, B0, B1, B4, B72, B73, B74, B75, B7], by simp [A0, A1, A4, A11, A12, A72, A73, A74, A75, A13, B0, B1, B4, B72, B73, B74, B75, B7], by simp [A0, A1, A4, A11, A12, A72, A73, A74, A75, A13, B0, B1, B4, B72, B73, B74, B75, B7], by simp [A0, A1, A4, A11, A12, A72, A73, A74, A75, A13, B0, B1, B4, B72, B73, B74, B75, B7], by simp [A0, A1, A4, A11, A12, A72, A73, A74, A75, A13, B0, B1, B4, B72, B73, B74, B75, B7], by simp [A0, A1, A4, A11, A12, A72, A73, A74, A75, A13, B0, B1, B4, B72, B73, B74, B75, B7], ?s7, ?hb, by omega, hmk.new rfl, rfl⟩
        case hb => exact bk6
        case s7 => simp; omega
    · obtain rfl : k = N := by omega
      have hone : (∀ x ∈ tab 131 (tcE (tabE k l far k).1 (tabE k l far k).2 far), x.one = true) = True := by
        simp only [eq_iff_iff, iff_true]
        intro x hx
        simp only [tab, List.mem_map] at hx
        obtain ⟨i, _, rfl⟩ := hx
        unfold tcE; split <;> (try split) <;> rfl
      have hcl : V.closed.closedL (tab 131 (tcE (tabE k l far k).1 (tabE k l far k).2 far)) = true := closed_map _ (fun i => by unfold tcE; split <;> (try split) <;> rfl)
      have hnm : V.norm.normL (tab 131 (tcE (tabE k l far k).1 (tabE k l far k).2 far)) = tab 131 (tcE (tabE k l far k).1 (tabE k l far k).2 far) := norm_map _ (fun i => by unfold tcE; split <;> (try split) <;> rfl)
      rw [← hRR]
      repeat' (first | (refine wpc_split _ (fun hc => ?_) (fun hc => ?_) <;> (try simp at hc)) | (refine ww_split _ (fun hc => ?_) (fun hc => ?_) <;> (try simp at hc)) | (refine wp_drawF (by kernel_rfl) ?_) | (refine wk_yldW _ ?_) | (refine layOwe _ (by kernel_rfl) ?_) | (refine owe ?_ (fun ho => ?_)) | (simp (disch := first | assumption | omega | (simp; done) | (simp; omega)) [B0, B1, B4, B72, B73, B74, B75, B7, hb2, tab_take, tab_wr, hone, hcl, hnm, -getElem?_pos, List.getElem?_cons_zero, List.getElem?_cons_succ]))
      obtain ⟨bs', l1, l2⟩ := hmk.leave (D := Di cfg) (m := .ret) (ts := Bh.ts) (L := [.cells (tab 131 (tcE (tabE k l far k).1 (tabE k l far k).2 far))]) (R := [.cells [.int .i64 ((k : Int) - 1 - k)]]) (k := 1) rfl
      have l3 := l2 0 _ rfl
      simp only [List.cons_append, List.nil_append] at l1
      simp (disch := first | assumption | omega | (simp; done) | (simp; omega)) [-getElem?_pos, List.getElem?_cons_zero, List.getElem?_cons_succ, l1, l3, tab_take, hcl, hnm]
@[simp] theorem S30 (n : Int) (l : List Edge) (hck : checkE n l = 0) (q1 : Fl) (hh : Heap) : Ci cfg (.func (.func 30) [] []) [.int .i64 n, R  q1 eE l] hh = some (.ret (.agg (tab 131 (tcE (DE n l) (FE n l) (sumE l + 1)))), hh) :=
  Ci_K cfg rfl rfl (by simp) (by simp) (C30 n l hck)
end Go.Ab
