/- Layer 20 (lattice): the program's Says. -/
import Derived.Test.YtgfomibaakpdnaaDoorG7
set_option linter.unusedVariables false
set_option linter.unusedSimpArgs false
set_option linter.unusedSectionVars false
set_option linter.deprecated false
namespace Go.Ab
open Go.Proofs
set_option maxRecDepth 100000
set_option maxHeartbeats 8000000
section
variable {l : List Edge} {a : Nat → Bool} {w : List UInt8} {v i : Nat}
def nxS (l : List Edge) (a : Nat → Bool) (w : List UInt8) (v i u : Nat) : Bool := anyTo l.length (fun j => decide ((nth l j).src < v ∨ (nth l j).src = v ∧ j < i) && (a (nth l j).src.toNat && decide ((nth l j).dst = u) && decide ((nth l j).text = w)))
theorem nxS_iff {u : Nat} : nxS l a w v i u = true ↔ ∃ j, j < l.length ∧ ((nth l j).src < v ∨ (nth l j).src = v ∧ j < i) ∧ a (nth l j).src.toNat = true ∧ (nth l j).dst = u ∧ (nth l j).text = w := by
  unfold nxS
  rw [anyTo_iff]
  constructor
  · rintro ⟨j, hj, h⟩
    simp only [Bool.and_eq_true, decide_eq_true_eq] at h
    exact ⟨j, hj, h.1, h.2.1.1, h.2.1.2, h.2.2⟩
  · rintro ⟨j, hj, h0, h1, h2, h3⟩
    exact ⟨j, hj, by simp only [Bool.and_eq_true, decide_eq_true_eq]; exact ⟨h0, ⟨h1, h2⟩, h3⟩⟩
theorem nxS_start {n : Nat} (h : EdgesIn n l) : nxS l a w 0 0 = fun _ => false := by
  funext u
  rw [← Bool.not_eq_true, nxS_iff]
  rintro ⟨j, hj, h0, _⟩
  have := h j hj
  omega
theorem nxS_end {n : Nat} (h : EdgesIn n l) : nxS l a w n 0 = stE l a w := by
  funext u
  rw [Bool.eq_iff_iff, nxS_iff, stE_iff]
  constructor
  · rintro ⟨j, hj, _, h1⟩; exact ⟨j, hj, h1⟩
  · rintro ⟨j, hj, h1⟩
    have := h j hj
    exact ⟨j, hj, by omega, h1⟩
theorem nxS_next : nxS l a w v l.length = nxS l a w (v + 1) 0 := by
  funext u
  rw [Bool.eq_iff_iff, nxS_iff, nxS_iff]
  constructor
  · rintro ⟨j, hj, h0, h1⟩; exact ⟨j, hj, by omega, h1⟩
  · rintro ⟨j, hj, h0, h1⟩; exact ⟨j, hj, by omega, h1⟩
theorem nxS_skip (h : a v = false) : nxS l a w v 0 = nxS l a w (v + 1) 0 := by
  funext u
  rw [Bool.eq_iff_iff, nxS_iff, nxS_iff]
  constructor
  · rintro ⟨j, hj, h0, h1⟩; exact ⟨j, hj, by omega, h1⟩
  · rintro ⟨j, hj, h0, h1, h2⟩
    by_cases e : (nth l j).src = v
    · rw [e] at h1; simp only [Int.toNat_natCast] at h1; rw [h] at h1; cases h1
    · exact ⟨j, hj, by omega, h1, h2⟩
theorem nxS_pass (h : ¬ (nth l i).src = v) : nxS l a w v i = nxS l a w v (i + 1) := by
  funext u
  rw [Bool.eq_iff_iff, nxS_iff, nxS_iff]
  constructor
  · rintro ⟨j, hj, h0, h1⟩; exact ⟨j, hj, by omega, h1⟩
  · rintro ⟨j, hj, h0, h1⟩
    refine ⟨j, hj, ?_, h1⟩
    rcases h0 with h0 | ⟨h0, h2⟩
    · exact .inl h0
    · by_cases e : j = i
      · subst e; exact absurd h0 h
      · exact .inr ⟨h0, by omega⟩
theorem nxS_step {d : Nat} (hi : i < l.length) (hv : (nth l i).src = v) (ha : a v = true) (hd : (nth l i).dst = d) : updT (nxS l a w v i) d (nxS l a w v i d || decide ((nth l i).text = w)) = nxS l a w v (i + 1) := by
  funext u
  unfold updT
  have key : nxS l a w v (i + 1) u = (nxS l a w v i u || (decide (u = d) && decide ((nth l i).text = w))) := by
    rw [Bool.eq_iff_iff, nxS_iff, Bool.or_eq_true, nxS_iff, Bool.and_eq_true, decide_eq_true_eq, decide_eq_true_eq]
    constructor
    · rintro ⟨j, hj, h0, h1, h2, h3⟩
      by_cases e : j = i
      · subst e; exact .inr ⟨by omega, h3⟩
      · exact .inl ⟨j, hj, by omega, h1, h2, h3⟩
    · rintro (⟨j, hj, h0, h1⟩ | ⟨h1, h2⟩)
      · exact ⟨j, hj, by omega, h1⟩
      · exact ⟨i, hi, .inr ⟨hv, by omega⟩, by rw [hv]; simpa using ha, by omega, h2⟩
  rw [key]
  by_cases e : u = d
  · subst e; rw [if_pos rfl]; simp
  · rw [if_neg e]; simp [e]
end
theorem sl65 {n : Nat} (h1 : 1 ≤ n) (h2 : n ≤ 65) (f : Nat → V) (X : List Blk) (ts : List (Option Nat)) : sliceV Tryd.prog 63 ⟨.cells (tab 65 f) :: X, ts⟩ (.ptr 0 0) none (some (.int .i64 n)) none = some (.slice 0 0 n 1) := by
  have e1 : (n : Int).toNat ≤ 65 := by omega
  simp [sliceV, bound, h2]
  try omega
theorem gy7 {b0 b1 b2 b3 b4 b5 b6 : Blk} {X Y W L : List Blk} {j : Nat} : (b0 :: (X ++ b1 :: b2 :: (Y ++ b3 :: b4 :: b5 :: b6 :: (W ++ L))))[X.length + (Y.length + (W.length + (j + 7)))]? = L[j]? := by
  rw [show X.length + (Y.length + (W.length + (j + 7))) = X.length + (Y.length + (W.length + j + 4) + 2) + 1 by omega]
  simp only [List.getElem?_cons_succ, app_at]
theorem gys7 {b0 b1 b2 b3 b4 b5 b6 x : Blk} {X Y W L : List Blk} {j : Nat} : (b0 :: (X ++ b1 :: b2 :: (Y ++ b3 :: b4 :: b5 :: b6 :: (W ++ L)))).set (X.length + (Y.length + (W.length + (j + 7)))) x = b0 :: (X ++ b1 :: b2 :: (Y ++ b3 :: b4 :: b5 :: b6 :: (W ++ L.set j x))) := by
  rw [show X.length + (Y.length + (W.length + (j + 7))) = X.length + (Y.length + (W.length + j + 4) + 2) + 1 by omega]
  simp only [List.set_cons_succ, app_set]
theorem gy3 {b0 b1 b2 : Blk} {X Y L : List Blk} {j : Nat} : (b0 :: (X ++ b1 :: b2 :: (Y ++ L)))[X.length + (Y.length + (j + 3))]? = L[j]? := by
  rw [show X.length + (Y.length + (j + 3)) = X.length + (Y.length + j + 2) + 1 by omega]
  simp only [List.getElem?_cons_succ, app_at]
theorem gys3 {b0 b1 b2 x : Blk} {X Y L : List Blk} {j : Nat} : (b0 :: (X ++ b1 :: b2 :: (Y ++ L))).set (X.length + (Y.length + (j + 3))) x = b0 :: (X ++ b1 :: b2 :: (Y ++ L.set j x)) := by
  rw [show X.length + (Y.length + (j + 3)) = X.length + (Y.length + j + 2) + 1 by omega]
  simp only [List.set_cons_succ, app_set]
theorem Mk.says {ms : List Nat} {X Y W : List Blk} {b1 p q lp : Blk} {c c' : List V} (h : Mk ms (X ++ b1 :: .cells c :: Y)) : Mk ((X.length + (Y.length + 4)) :: ms) (X ++ b1 :: .cells c' :: (Y ++ p :: q :: .dfr true :: lp :: W)) := by
  have h1 : Mk ms (X ++ b1 :: .cells c' :: Y) := by
    refine ⟨h.nd, fun a ha => ?_⟩
    have h2 := h.at' a ha
    by_cases e1 : a < X.length
    · rw [List.getElem?_append_left e1] at h2 ⊢; exact h2
    · obtain ⟨j, rfl⟩ : ∃ j, a = X.length + j := ⟨a - X.length, by omega⟩
      rw [app_at] at h2 ⊢
      match j, h2 with
      | 0, h2 => exact h2
      | 1, h2 => simp at h2
      | j + 2, h2 => simpa using h2
  have h3 := h1.new (Y := p :: q :: .dfr true :: lp :: W) (k := 2) rfl
  have e : (X ++ b1 :: .cells c' :: Y).length + 2 = X.length + (Y.length + 4) := by simp; omega
  rw [e] at h3
  simpa using h3
theorem C21 (n : Int) (l : List Edge) (ws : List (List UInt8)) (hs : l.length < 1099511627776) (hs2 : ws.length < 1099511627776) (ht : ∀ x ∈ l, x.text.length < 1099511627776) : Kc cfg 21 [.int .i64 n, R fl0 eE l, R fl0 eS ws] (.ret (.tuple [.bool (saysS n l ws).1, .int .i64 (saysS n l ws).2])) := by
  by_cases hck : checkE n l = 0
  · have hA : saysS n l ws = (saidE n l ws, 0) := by unfold saysS; rw [if_pos hck]
    rw [hA]
    by_cases hlong : n < (ws.length : Int)
    · rw [said_long hck hlong]
      refine outS_of_wp cfg (fn := Tryd.f21) Tryd.func21 rfl (by simp [Tryd.f21]) ?_
      simp (disch := first | assumption | omega | (simp; done) | (simp; omega)) [-getElem?_pos, List.getElem?_cons_zero, List.getElem?_cons_succ, Tryd.f21, hck]
      repeat' (first | (refine wpc_split _ (fun hc => ?_) (fun hc => ?_) <;> (try simp at hc)) | (refine ww_split _ (fun hc => ?_) (fun hc => ?_) <;> (try simp at hc)) | (refine wp_drawF (by kernel_rfl) ?_) | (refine wk_yldW _ ?_) | (refine layOwe _ (by kernel_rfl) ?_) | (refine owe ?_ (fun ho => ?_)) | (simp (disch := first | assumption | omega | (simp; done) | (simp; omega)) [hck, -getElem?_pos, List.getElem?_cons_zero, List.getElem?_cons_succ]))
      all_goals first
        | (exfalso; omega)
        | rfl
    obtain ⟨hn, hl, hok⟩ := checkE_ok hck
    have hin := checkE_in hck
    unfold saidE
    obtain ⟨N, rfl⟩ : ∃ N : Nat, n = N := ⟨n.toNat, by omega⟩
    simp only [Int.toNat_natCast] at *
    refine outS_of_wp cfg (fn := Tryd.f21) Tryd.func21 rfl (by simp [Tryd.f21]) ?_
    simp (disch := first | assumption | omega | (simp; done) | (simp; omega)) [-getElem?_pos, List.getElem?_cons_zero, List.getElem?_cons_succ, Tryd.f21, hck, emptyH]
    repeat' (first | (refine wpc_split _ (fun hc => ?_) (fun hc => ?_) <;> (try simp at hc)) | (refine ww_split _ (fun hc => ?_) (fun hc => ?_) <;> (try simp at hc)) | (refine wp_drawF (by kernel_rfl) ?_) | (refine wk_yldW _ ?_) | (refine layOwe _ (by kernel_rfl) ?_) | (refine owe ?_ (fun ho => ?_)) | (simp (disch := first | assumption | omega | (simp; done) | (simp; omega)) [hck, emptyH, tab_set, at0_upd, -getElem?_pos, List.getElem?_cons_zero, List.getElem?_cons_succ]))
    all_goals first
      | (exfalso; omega)
      | skip
    refine wp_loopD (c := cfg) rfl (fun f0 h0 d0 m fr h dd => ∃ k : Nat, ∃ X : List Blk, ∃ ms : List Nat, fr 0 = f0 0 ∧ fr 1 = f0 1 ∧ fr 8 = f0 8 ∧ fr 27 = f0 27 ∧ fr 28 = f0 28 ∧ fr 29 = .int .i64 k ∧ (h.bs = .cells (tab 65 (cB (runE l (ws.take k) at0))) :: X) ∧ (k + m = ws.length) ∧ (Mk ms X) ∧ dd = mkD 1 ms) (ws.length) _ _ _ ⟨0, [], [], rfl, rfl, rfl, rfl, rfl, by first | rfl | (simp; done) | (simp [R]; done) | simp [R], by simp [runE, ← at0_upd, cB_rep, tab_set]; rfl, by first | rfl | (simp; done) | omega, Mk.nil _, by first | rfl | simp⟩ ?_
    rintro Am Af Ah _ ⟨k, X, ms, A0, A1, A8, A27, A28, A29, hb, hm, hmk, rfl⟩ Aih
    try simp at A0 A1 A8 A27 A28
    by_cases hk : k < ws.length
    · have hrt := runE_take (l := l) (a := at0) hk
      generalize hat : runE l (ws.take k) at0 = at' at *
      have hslice := fun f X ts => sl65 (n := N) (by omega) (by omega) f X ts
      repeat' (first | (refine wpc_split _ (fun hc => ?_) (fun hc => ?_) <;> (try simp at hc)) | (refine ww_split _ (fun hc => ?_) (fun hc => ?_) <;> (try simp at hc)) | (refine wp_drawF (by kernel_rfl) ?_) | (refine wk_yldW _ ?_) | (refine layOwe _ (by kernel_rfl) ?_) | (refine owe ?_ (fun ho => ?_)) | (simp (disch := first | assumption | omega | (simp; done) | (simp; omega)) [A0, A1, A8, A27, A28, A29, hb, eS, hslice, app_at, app_at0, app_set, app_set0, -getElem?_pos, List.getElem?_cons_zero, List.getElem?_cons_succ]))
      refine wp_loopD (c := cfg) rfl (fun f0 h0 d0 m fr h dd => ∃ v : Nat, ∃ Y : List Blk, ∃ ns : List Nat, fr 0 = f0 0 ∧ fr 1 = f0 1 ∧ fr 8 = f0 8 ∧ fr 10 = f0 10 ∧ fr 11 = f0 11 ∧ fr 27 = f0 27 ∧ fr 28 = f0 28 ∧ fr 29 = f0 29 ∧ fr 34 = f0 34 ∧ fr 35 = f0 35 ∧ fr 36 = .int .i64 v ∧ (h.bs = .cells (tab 65 (cB at')) :: (X ++ .cells [.str (nth ws k)] :: .cells (tab 65 (cB (nxS l at' (nth ws k) v 0))) :: Y)) ∧ (v + m = N) ∧ (Mk ns (X ++ .cells [.str (nth ws k)] :: .cells (tab 65 (cB (nxS l at' (nth ws k) v 0))) :: Y)) ∧ dd = mkD 1 ns) (N) _ _ _ ⟨0, [], ms, rfl, rfl, rfl, rfl, rfl, rfl, rfl, rfl, rfl, rfl, by first | rfl | (simp; done) | (simp [R]; done) | simp [R], by simp [nxS_start hin, cB_rep, hb]; rfl, by first | rfl | (simp; done) | omega, hmk.app _, by first | rfl | simp⟩ ?_
      rintro Bm Bf Bh _ ⟨v, Y, ns, B0, B1, B8, B10, B11, B27, B28, B29, B34, B35, B36, hb2, hm2, hmk2, rfl⟩ Bih
      try simp [A0, A1, A8, A27, A28, A29] at B0 B1 B8 B10 B11 B27 B28 B29 B34 B35
      by_cases hv : v < N
      · have hv65 : v < 65 := by omega
        cases hav : at' v with
        | false =>
          have hsk := nxS_skip (l := l) (w := nth ws k) hav
          repeat' (first | (refine wpc_split _ (fun hc => ?_) (fun hc => ?_) <;> (try simp at hc)) | (refine ww_split _ (fun hc => ?_) (fun hc => ?_) <;> (try simp at hc)) | (refine wp_drawF (by kernel_rfl) ?_) | (refine wk_yldW _ ?_) | (refine layOwe _ (by kernel_rfl) ?_) | (refine owe ?_ (fun ho => ?_)) | (simp (disch := first | assumption | omega | (simp; done) | (simp; omega)) [A0, A1, A8, A27, A28, A29, B0, B1, B8, B10, B11, B27, B28, B29, B34, B35, B36, hb2, hav, tab_get1, cB_at, -getElem?_pos, List.getElem?_cons_zero, List.getElem?_cons_succ]))
          exact Bih (Bm - 1) _ _ _ (by omega) ⟨v + 1, Y, ns, by simp [B0, B1, B8, B10, B11, B27, B28, B29, B34, B35, B36, A0, A1, A8, A27, A28, A29, hb2, hsk], by simp [B0, B1, B8, B10, B11, B27, B28, B29, B34, B35, B36, A0, A1, A8, A27, A28, A29, hb2, hsk], by simp [B0, B1, B8, B10, B11, B27, B28, B29, B34, B35, B36, A0, A1, A8, A27, A28, A29, hb2, hsk], by simp [B0, B1, B8, B10, B11, B27, B28, B29, B34, B35, B36, A0, A1, A8, A27, A28, A29, hb2, hsk], by simp [B0, B1, B8, B10, B11, B27, B28, B29, B34, B35, B36, A0, A1, A8, A27, A28, A29, hb2, hsk], by simp [B0, B1, B8, B10, B11, B27, B28, B29, B34, B35, B36, A0, A1, A8, A27, A28, A29, hb2, hsk], by simp [B0, B1, B8, B10, B11, B27, B28, B29, B34, B35, B36, A0, A1, A8, A27, A28, A29, hb2, hsk], by simp [B0, B1, B8, B10, B11, B27, B28, B29, B34, B35, B36, A0, A1, A8, A27, A28, A29, hb2, hsk], by simp [B0, B1, B8, B10, B11, B27, B28, B29, B34, B35, B36, A0, A1, A8, A27, A28, A29, hb2, hsk], by simp [B0, B1, B8, B10, B11, B27, B28, B29, B34, B35, B36, A0, A1, A8, A27, A28, A29, hb2, hsk], by simp [B0, B1, B8, B10, B11, B27, B28, B29, B34, B35, B36, A0, A1, A8, A27, A28, A29, hb2, hsk], (by simp [hb2, hsk]), by omega, (by rw [← hsk]; exact hmk2), by first | rfl | simp [mkD_cons]⟩
        | true =>
          repeat' (first | (refine wpc_split _ (fun hc => ?_) (fun hc => ?_) <;> (try simp at hc)) | (refine ww_split _ (fun hc => ?_) (fun hc => ?_) <;> (try simp at hc)) | (refine wp_drawF (by kernel_rfl) ?_) | (refine wk_yldW _ ?_) | (refine layOwe _ (by kernel_rfl) ?_) | (refine owe ?_ (fun ho => ?_)) | (simp (disch := first | assumption | omega | (simp; done) | (simp; omega)) [A0, A1, A8, A27, A28, A29, B0, B1, B8, B10, B11, B27, B28, B29, B34, B35, B36, hb2, hav, tab_get1, cB_at, Tryd.f39, Tryd.f46, gy3, gys3, Nat.add_assoc, -getElem?_pos, List.getElem?_cons_zero, List.getElem?_cons_succ]))
          refine wp_loopE cfg rfl (fun f0 h0 m fr h => ∃ i : Nat, ∃ W : List Blk, fr 0 = f0 0 ∧ fr 1 = f0 1 ∧ fr 2 = f0 2 ∧ fr 6 = f0 6 ∧ fr 7 = f0 7 ∧ fr 8 = .int .i64 i ∧ (h.bs = (h0.bs.set (X.length + 2) (.cells (tab 65 (cB (nxS l at' (nth ws k) v i))))) ++ W) ∧ (i + m = l.length)) (l.length) _ _ ⟨0, [], rfl, rfl, rfl, rfl, rfl, by first | rfl | (simp; done) | (simp [R]; done) | simp [R], by simp [hb2, app_set], by first | rfl | (simp; done) | omega⟩ ?_
          rintro Cm Cf Ch ⟨i, W, C0, C1, C2, C6, C7, C8, hb3, hm3⟩ Cih
          try simp [B0, B1, B8, B10, B11, B27, B28, B29, B34, B35, B36, A0, A1, A8, A27, A28, A29] at C0 C1 C2 C6 C7
          simp [hb2, app_set] at hb3
          by_cases hi : i < l.length
          · have hii := hin i hi
            obtain ⟨d, hd⟩ : ∃ d : Nat, (nth l i).dst = d := ⟨(nth l i).dst.toNat, by omega⟩
            have hd1 : d < 65 := by omega
            by_cases c1 : (nth l i).src = v
            · have hst := nxS_step (w := nth ws k) hi c1 hav hd
              cases hnd : nxS l at' (nth ws k) v i d with
              | true =>
                rw [hnd, Bool.true_or] at hst
                repeat' (first | (refine wpc_split _ (fun hc => ?_) (fun hc => ?_) <;> (try simp at hc)) | (refine ww_split _ (fun hc => ?_) (fun hc => ?_) <;> (try simp at hc)) | (refine wp_drawF (by kernel_rfl) ?_) | (refine wk_yldW _ ?_) | (refine layOwe _ (by kernel_rfl) ?_) | (refine owe ?_ (fun ho => ?_)) | (simp (config := { maxSteps := 2000000 }) (disch := first | assumption | omega | (simp; done) | (simp; omega)) [C0, C1, C2, C6, C7, C8, B0, B1, B8, B10, B11, B27, B28, B29, B34, B35, B36, A0, A1, A8, A27, A28, A29, hb3, eE, c1, hd, hnd, tab_get1, cB_at, tab_set, app_at, app_at0, app_set, app_set0, gy3, gys3, Nat.add_assoc, -getElem?_pos, List.getElem?_cons_zero, List.getElem?_cons_succ]))
                exact Cih (Cm - 1) _ _ (by omega) ⟨i + 1, W ++ [.cells (eE (nth l i)), .cells (eE (nth l i))], by simp [C0, C1, C2, C6, C7, C8, B0, B1, B8, B10, B11, B27, B28, B29, B34, B35, B36, A0, A1, A8, A27, A28, A29, hb3, hst, hb2], by simp [C0, C1, C2, C6, C7, C8, B0, B1, B8, B10, B11, B27, B28, B29, B34, B35, B36, A0, A1, A8, A27, A28, A29, hb3, hst, hb2], by simp [C0, C1, C2, C6, C7, C8, B0, B1, B8, B10, B11, B27, B28, B29, B34, B35, B36, A0, A1, A8, A27, A28, A29, hb3, hst, hb2], by simp [C0, C1, C2, C6, C7, C8, B0, B1, B8, B10, B11, B27, B28, B29, B34, B35, B36, A0, A1, A8, A27, A28, A29, hb3, hst, hb2], by simp [C0, C1, C2, C6, C7, C8, B0, B1, B8, B10, B11, B27, B28, B29, B34, B35, B36, A0, A1, A8, A27, A28, A29, hb3, hst, hb2], by simp [C0, C1, C2, C6, C7, C8, B0, B1, B8, B10, B11, B27, B28, B29, B34, B35, B36, A0, A1, A8, A27, A28, A29, hb3, hst, hb2], (by simp [hb3, hst, hb2, app_set, eE, c1, hd]), by omega⟩
              | false =>
                rw [hnd, Bool.false_or] at hst
                repeat' (first | (refine wpc_split _ (fun hc => ?_) (fun hc => ?_) <;> (try simp at hc)) | (refine ww_split _ (fun hc => ?_) (fun hc => ?_) <;> (try simp at hc)) | (refine wp_drawF (by kernel_rfl) ?_) | (refine wk_yldW _ ?_) | (refine layOwe _ (by kernel_rfl) ?_) | (refine owe ?_ (fun ho => ?_)) | (simp (config := { maxSteps := 2000000 }) (disch := first | assumption | omega | (simp; done) | (simp; omega)) [C0, C1, C2, C6, C7, C8, B0, B1, B8, B10, B11, B27, B28, B29, B34, B35, B36, A0, A1, A8, A27, A28, A29, hb3, eE, c1, hd, hnd, tab_get1, cB_at, tab_set, app_at, app_at0, app_set, app_set0, gy3, gys3, beqS_dec, Nat.add_assoc, -getElem?_pos, List.getElem?_cons_zero, List.getElem?_cons_succ]))
                exact Cih (Cm - 1) _ _ (by omega) ⟨i + 1, W ++ [.cells (eE (nth l i)), .cells (eE (nth l i))], by simp [C0, C1, C2, C6, C7, C8, B0, B1, B8, B10, B11, B27, B28, B29, B34, B35, B36, A0, A1, A8, A27, A28, A29, hb3, hst, hb2], by simp [C0, C1, C2, C6, C7, C8, B0, B1, B8, B10, B11, B27, B28, B29, B34, B35, B36, A0, A1, A8, A27, A28, A29, hb3, hst, hb2], by simp [C0, C1, C2, C6, C7, C8, B0, B1, B8, B10, B11, B27, B28, B29, B34, B35, B36, A0, A1, A8, A27, A28, A29, hb3, hst, hb2], by simp [C0, C1, C2, C6, C7, C8, B0, B1, B8, B10, B11, B27, B28, B29, B34, B35, B36, A0, A1, A8, A27, A28, A29, hb3, hst, hb2], by simp [C0, C1, C2, C6, C7, C8, B0, B1, B8, B10, B11, B27, B28, B29, B34, B35, B36, A0, A1, A8, A27, A28, A29, hb3, hst, hb2], by simp [C0, C1, C2, C6, C7, C8, B0, B1, B8, B10, B11, B27, B28, B29, B34, B35, B36, A0, A1, A8, A27, A28, A29, hb3, hst, hb2], (by simp [hb3, hst, hb2, app_set, eE, c1, hd]), by omega⟩
            · have hst := nxS_pass (l := l) (a := at') (w := nth ws k) c1
              repeat' (first | (refine wpc_split _ (fun hc => ?_) (fun hc => ?_) <;> (try simp at hc)) | (refine ww_split _ (fun hc => ?_) (fun hc => ?_) <;> (try simp at hc)) | (refine wp_drawF (by kernel_rfl) ?_) | (refine wk_yldW _ ?_) | (refine layOwe _ (by kernel_rfl) ?_) | (refine owe ?_ (fun ho => ?_)) | (simp (config := { maxSteps := 2000000 }) (disch := first | assumption | omega | (simp; done) | (simp; omega)) [C0, C1, C2, C6, C7, C8, A0, A1, A8, A27, A28, A29, B0, B1, B8, B10, B11, B27, B28, B29, B34, B35, B36, hb3, eE, c1, app_at, app_at0, gy3, gys3, Nat.add_assoc, -getElem?_pos, List.getElem?_cons_zero, List.getElem?_cons_succ]))
              exact Cih (Cm - 1) _ _ (by omega) ⟨i + 1, W ++ [.cells (eE (nth l i))], by simp [C0, C1, C2, C6, C7, C8, B0, B1, B8, B10, B11, B27, B28, B29, B34, B35, B36, A0, A1, A8, A27, A28, A29, hb3, hst, hb2], by simp [C0, C1, C2, C6, C7, C8, B0, B1, B8, B10, B11, B27, B28, B29, B34, B35, B36, A0, A1, A8, A27, A28, A29, hb3, hst, hb2], by simp [C0, C1, C2, C6, C7, C8, B0, B1, B8, B10, B11, B27, B28, B29, B34, B35, B36, A0, A1, A8, A27, A28, A29, hb3, hst, hb2], by simp [C0, C1, C2, C6, C7, C8, B0, B1, B8, B10, B11, B27, B28, B29, B34, B35, B36, A0, A1, A8, A27, A28, A29, hb3, hst, hb2], by simp [C0, C1, C2, C6, C7, C8, B0, B1, B8, B10, B11, B27, B28, B29, B34, B35, B36, A0, A1, A8, A27, A28, A29, hb3, hst, hb2], by simp [C0, C1, C2, C6, C7, C8, B0, B1, B8, B10, B11, B27, B28, B29, B34, B35, B36, A0, A1, A8, A27, A28, A29, hb3, hst, hb2], (by simp [hb3, hst, hb2, app_set, eE]), by omega⟩
          · obtain rfl : i = l.length := by omega
            rw [nxS_next] at hb3
            repeat' (first | (refine wpc_split _ (fun hc => ?_) (fun hc => ?_) <;> (try simp at hc)) | (refine ww_split _ (fun hc => ?_) (fun hc => ?_) <;> (try simp at hc)) | (refine wp_drawF (by kernel_rfl) ?_) | (refine wk_yldW _ ?_) | (refine layOwe _ (by kernel_rfl) ?_) | (refine owe ?_ (fun ho => ?_)) | (simp (config := { maxSteps := 2000000 }) (disch := first | assumption | omega | (simp; done) | (simp; omega)) [C0, C1, C2, C6, C7, C8, A0, A1, A8, A27, A28, A29, B0, B1, B8, B10, B11, B27, B28, B29, B34, B35, B36, hb3, app_at, app_at0, app_set, app_set0, gy3, gys3, Nat.add_assoc, -getElem?_pos, List.getElem?_cons_zero, List.getElem?_cons_succ]))
            refine Bih (Bm - 1) _ _ _ (by omega) ⟨v + 1, Y ++ ?b1 :: ?b2 :: .dfr true :: ?b3 :: W, (X.length + (Y.length + 4)) :: ns, by simp [A0, A1, A8, A27, A28, A29, B0, B1, B8, B10, B11, B27, B28, B29, B34, B35, B36], by simp [A0, A1, A8, A27, A28, A29, B0, B1, B8, B10, B11, B27, B28, B29, B34, B35, B36], by simp [A0, A1, A8, A27, A28, A29, B0, B1, B8, B10, B11, B27, B28, B29, B34, B35, B36], by simp [A0, A1, A8, A27, A28, A29, B0, B1, B8, B10, B11, B27, B28, B29, B34, B35, B36], by simp [A0, A1, A8, A27, A28, A29, B0, B1, B8, B10, B11, B27, B28, B29, B34, B35, B36], by simp [A0, A1, A8, A27, A28, A29, B0, B1, B8, B10, B11, B27, B28, B29, B34, B35, B36], by simp [A0, A1, A8, A27, A28, A29, B0, B1, B8, B10, B11, B27, B28, B29, B34, B35, B36], by simp [A0, A1, A8, A27, A28, A29, B0, B1, B8, B10, B11, B27, B28, B29, B34, B35, B36], by simp [A0, A1, A8, A27, A28, A29, B0, B1, B8, B10, B11, B27, B28, B29, B34, B35, B36], by simp [A0, A1, A8, A27, A28, A29, B0, B1, B8, B10, B11, B27, B28, B29, B34, B35, B36], by simp [A0, A1, A8, A27, A28, A29, B0, B1, B8, B10, B11, B27, B28, B29, B34, B35, B36], ?hb, by omega, hmk2.says, rfl⟩
            case hb => rfl
      · obtain rfl : v = N := by omega
        rw [nxS_end hin, ← hrt] at hb2 hmk2
        repeat' (first | (refine wpc_split _ (fun hc => ?_) (fun hc => ?_) <;> (try simp at hc)) | (refine ww_split _ (fun hc => ?_) (fun hc => ?_) <;> (try simp at hc)) | (refine wp_drawF (by kernel_rfl) ?_) | (refine wk_yldW _ ?_) | (refine layOwe _ (by kernel_rfl) ?_) | (refine owe ?_ (fun ho => ?_)) | (simp (disch := first | assumption | omega | (simp; done) | (simp; omega)) [A0, A1, A8, A27, A28, A29, B0, B1, B8, B10, B11, B27, B28, B29, B34, B35, B36, hb2, app_at, app_at0, tab_take, tab_wr, cB_one, -getElem?_pos, List.getElem?_cons_zero, List.getElem?_cons_succ]))
        exact Aih (Am - 1) _ _ _ (by omega) ⟨k + 1, X ++ .cells [.str (nth ws k)] :: .cells (tab 65 (cB (runE l (ws.take (k + 1)) at0))) :: Y, ns, by simp [B0, B1, B8, B10, B11, B27, B28, B29, B34, B35, B36, A0, A1, A8, A27, A28, A29, hb2], by simp [B0, B1, B8, B10, B11, B27, B28, B29, B34, B35, B36, A0, A1, A8, A27, A28, A29, hb2], by simp [B0, B1, B8, B10, B11, B27, B28, B29, B34, B35, B36, A0, A1, A8, A27, A28, A29, hb2], by simp [B0, B1, B8, B10, B11, B27, B28, B29, B34, B35, B36, A0, A1, A8, A27, A28, A29, hb2], by simp [B0, B1, B8, B10, B11, B27, B28, B29, B34, B35, B36, A0, A1, A8, A27, A28, A29, hb2], by simp [B0, B1, B8, B10, B11, B27, B28, B29, B34, B35, B36, A0, A1, A8, A27, A28, A29, hb2], (by simp [hb2]), by omega, hmk2, by first | rfl | simp [mkD_cons]⟩
    · have h1 : ws.take k = ws := List.take_of_length_le (by omega)
      rw [h1] at hb
      have hN2 : N < 65 := by omega
      repeat' (first | (refine wpc_split _ (fun hc => ?_) (fun hc => ?_) <;> (try simp at hc)) | (refine ww_split _ (fun hc => ?_) (fun hc => ?_) <;> (try simp at hc)) | (refine wp_drawF (by kernel_rfl) ?_) | (refine wk_yldW _ ?_) | (refine layOwe _ (by kernel_rfl) ?_) | (refine owe ?_ (fun ho => ?_)) | (simp (disch := first | assumption | omega | (simp; done) | (simp; omega)) [A0, A1, A8, A27, A28, A29, hb, tab_get1, cB_at, -getElem?_pos, List.getElem?_cons_zero, List.getElem?_cons_succ]))
      obtain ⟨bs', l1, l2⟩ := hmk.leave (D := Di cfg) (m := .ret) (ts := Ah.ts) (L := [.cells (tab 65 (cB (runE l ws at0)))]) (R := []) (k := 1) rfl
      rw [List.append_nil, List.singleton_append, ← hb] at l1
      have l3 : leaveS (Di cfg) (mkD 1 ms) Ah .ret = some (⟨bs', Ah.ts⟩, .ret) := l1
      simp (disch := first | assumption | omega | (simp; done) | (simp; omega)) [-getElem?_pos, List.getElem?_cons_zero, List.getElem?_cons_succ, l3]
  · have hA : saysS n l ws = (false, checkE n l) := by unfold saysS; rw [if_neg hck]
    rw [hA]
    generalize hE : checkE n l = E at *
    refine outS_of_wp cfg (fn := Tryd.f21) Tryd.func21 rfl (by simp [Tryd.f21]) ?_
    simp (disch := first | assumption | omega | (simp; done) | (simp; omega)) [-getElem?_pos, List.getElem?_cons_zero, List.getElem?_cons_succ, Tryd.f21, hE]
    repeat' (first | (refine wpc_split _ (fun hc => ?_) (fun hc => ?_) <;> (try simp at hc)) | (refine ww_split _ (fun hc => ?_) (fun hc => ?_) <;> (try simp at hc)) | (refine wp_drawF (by kernel_rfl) ?_) | (refine wk_yldW _ ?_) | (refine layOwe _ (by kernel_rfl) ?_) | (refine owe ?_ (fun ho => ?_)) | (simp (disch := first | assumption | omega | (simp; done) | (simp; omega)) [hE, -getElem?_pos, List.getElem?_cons_zero, List.getElem?_cons_succ]))
@[simp] theorem S21 (n : Int) (l : List Edge) (ws : List (List UInt8)) (hs : l.length < 1099511627776) (hs2 : ws.length < 1099511627776) (ht : ∀ x ∈ l, x.text.length < 1099511627776) (q1 q2 : Fl) (hh : Heap) : Ci cfg (.func (.func 21) [] []) [.int .i64 n, R  q1 eE l, R  q2 eS ws] hh = some (.ret (.tuple [.bool (saysS n l ws).1, .int .i64 (saysS n l ws).2]), hh) :=
  Ci_K cfg rfl rfl (by simp) (by simp) (C21 n l ws hs hs2 ht)
end Go.Ab
