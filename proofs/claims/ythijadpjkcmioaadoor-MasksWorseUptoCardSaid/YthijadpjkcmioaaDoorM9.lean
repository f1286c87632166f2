/- MasksWorse: the law's function. -/
import Derived.Test.YthijadpjkcmioaaDoorM8
set_option linter.unusedVariables false
set_option linter.unusedSimpArgs false
set_option linter.unusedSectionVars false
set_option linter.deprecated false
namespace Go.Ab
open Go.Proofs
set_option maxRecDepth 100000
set_option maxHeartbeats 4000000
theorem vd_mono {v w : List Int} (h : ∀ i : Nat, nth v i ≤ nth w i) : ∀ (d : List Int) (a b : Int), a ≤ b → d.foldl (fun n i => max n (nth v i.toNat)) a ≤ d.foldl (fun n i => max n (nth w i.toNat)) b
  | [], a, b, hab => hab
  | x :: r, a, b, hab => by
    rw [List.foldl_cons, List.foldl_cons]
    exact vd_mono h r _ _ (by have := h x.toNat; omega)
theorem vd_same {v w : List Int} : ∀ (d : List Int) (a : Int), (∀ x ∈ d, nth v x.toNat = nth w x.toNat) → d.foldl (fun n i => max n (nth v i.toNat)) a = d.foldl (fun n i => max n (nth w i.toNat)) a
  | [], a, _ => rfl
  | x :: r, a, h => by
    rw [List.foldl_cons, List.foldl_cons, h x (by simp)]
    exact vd_same r _ (fun y hy => h y (List.mem_cons_of_mem _ hy))
def memTo (k : Int) (d : List Int) (j : Nat) : Bool := decide (k ∈ d.take j)
theorem memTo_zero (k : Int) (d : List Int) : memTo k d 0 = false := by simp [memTo]
theorem memTo_succ {k : Int} {d : List Int} {j : Nat} (h : j < d.length) : memTo k d (j + 1) = (memTo k d j || (nth d j == k)) := by
  unfold memTo
  rw [nth_take h]
  by_cases h1 : k ∈ d.take j
  · simp [h1]
  · by_cases h2 : nth d j = k
    · simp [h1, h2]
    · simp [h1, h2, Ne.symm h2]
theorem memTo_all (k : Int) (d : List Int) : memTo k d d.length = decide (k ∈ d) := by unfold memTo; rw [List.take_length]
theorem C6 (l : List Target) (v : List Int) (ka kt : Int) (hs : l.length < 1099511627776 ∧ v.length < 1099511627776) (hl : ∀ x ∈ l, x.text.length < 1099511627776 ∧ x.deps.length < 1099511627776) (hat : 0 ≤ ka ∧ ka ≤ 255) (hto : 0 ≤ kt ∧ kt ≤ 255) : Kc cfg 6 [R fl0 eT l, R fl0 eI v, .int .u8 ka, .int .u8 kt] (.ret (.bool true)) := by
  by_cases hsm : smallS l v = false
  · skip
    refine outS_of_wp cfg (fn := Tryd.f6) Tryd.func6 rfl (by simp [Tryd.f6]) ?_
    simp (disch := first | assumption | omega | (simp; done) | (simp; omega)) [-getElem?_pos, List.getElem?_cons_zero, List.getElem?_cons_succ, Tryd.f6, hsm]
    repeat' (first | (refine wpc_split _ (fun hc => ?_) (fun hc => ?_) <;> (try simp at hc)) | (refine ww_split _ (fun hc => ?_) (fun hc => ?_) <;> (try simp at hc)) | (refine wp_drawF (by kernel_rfl) ?_) | (refine wk_yldW _ ?_) | (refine owe ?_ (fun ho => ?_)) | (simp (disch := first | assumption | omega | (simp; done) | (simp; omega)) [hsm, -getElem?_pos, List.getElem?_cons_zero, List.getElem?_cons_succ]))
  have hsm : smallS l v = true := by simpa using hsm
  by_cases hv0 : v = []
  · subst hv0
    refine outS_of_wp cfg (fn := Tryd.f6) Tryd.func6 rfl (by simp [Tryd.f6]) ?_
    simp (disch := first | assumption | omega | (simp; done) | (simp; omega)) [-getElem?_pos, List.getElem?_cons_zero, List.getElem?_cons_succ, Tryd.f6, hsm]
    repeat' (first | (refine wpc_split _ (fun hc => ?_) (fun hc => ?_) <;> (try simp at hc)) | (refine ww_split _ (fun hc => ?_) (fun hc => ?_) <;> (try simp at hc)) | (refine wp_drawF (by kernel_rfl) ?_) | (refine wk_yldW _ ?_) | (refine owe ?_ (fun ho => ?_)) | (simp (disch := first | assumption | omega | (simp; done) | (simp; omega)) [hsm, -getElem?_pos, List.getElem?_cons_zero, List.getElem?_cons_succ]))
  have hvp := List.length_pos_iff.2 hv0
  have hsm2 := hsm
  unfold smallS at hsm2
  simp only [Bool.and_eq_true, decide_eq_true_eq] at hsm2
  have he := hsm2.2
  have hin := errS_in he
  have hm := maskS_ok he
  obtain ⟨k, hk, hk2⟩ : ∃ k : Nat, ka % (v.length : Int) = (k : Int) ∧ k < v.length := by
    refine ⟨(ka % (v.length : Int)).toNat, ?_, ?_⟩
    · have := Int.emod_nonneg ka (b := (v.length : Int)) (by omega); omega
    · have := Int.emod_lt_of_pos ka (b := (v.length : Int)) (by omega); omega
  have hvk : 0 ≤ nth v k ∧ nth v k ≤ 2 := by
    have := hin.2.1
    unfold verdictsS at this
    rw [List.all_eq_true] at this
    simpa using this _ (nth_mem hk2)
  obtain ⟨y, hy, hy1, hy2⟩ : ∃ y : Int, max (nth v k) (kt % 3) = y ∧ nth v k ≤ y ∧ (0 ≤ y ∧ y ≤ 2) := ⟨_, rfl, by omega, by omega⟩
  have hw : ∀ i : Nat, nth v i ≤ nth (v.set k y) i := by
    intro i
    rw [nth_set hk2]
    split
    · rename_i h; subst h; exact hy1
    · omega
  have hwn : ∀ i : Nat, ¬ k = i → nth v i = nth (v.set k y) i := by
    intro i hi
    rw [nth_set hk2, if_neg hi]
  have hwl : (v.set k y).length = v.length := by simp
  have hew : errS l (v.set k y) = 0 := by
    have hv : verdictsS (v.set k y) = true := by
      have h1 := hin.2.1
      unfold verdictsS at h1 ⊢
      rw [List.all_eq_true] at h1 ⊢
      intro x hx
      rcases List.mem_or_eq_of_mem_set hx with h | h
      · exact h1 x h
      · subst h; simp; omega
    have ha : l.all (fun x => rightS x.text x.deps (v.set k y).length) = true := by
      rw [List.all_eq_true]; intro x hx; rw [hwl]; exact (hin.2.2 x hx).1
    rw [errS_short (by omega), hv, ha]; rfl
  have hmw := maskS_ok hew
  have hnil : V.row false true [] 0 none = R (false, true, none) eI [] := rfl
  have hset : (rows eI v).set k (.int .i64 y) = rows eI (v.set k y) := rowsI_set v k y
  have hrl : (rows eI v).length = v.length := by rw [rows_length, Nat.mul_one]
  generalize hwg : v.set k y = w at *
  refine outS_of_wp cfg (fn := Tryd.f6) Tryd.func6 rfl (by simp [Tryd.f6]) ?_
  simp (disch := first | assumption | omega | (simp; done) | (simp; omega)) [-getElem?_pos, List.getElem?_cons_zero, List.getElem?_cons_succ, Tryd.f6, hsm, hk]
  repeat' (first | (refine wpc_split _ (fun hc => ?_) (fun hc => ?_) <;> (try simp at hc)) | (refine ww_split _ (fun hc => ?_) (fun hc => ?_) <;> (try simp at hc)) | (refine wp_drawF (by kernel_rfl) ?_) | (refine wk_yldW _ ?_) | (refine owe ?_ (fun ho => ?_)) | (simp (disch := first | assumption | omega | (simp; done) | (simp; omega)) [hsm, hk, hv0, hnil, append_Bn, eI, hy, hset, hrl, hm, hmw, -getElem?_pos, List.getElem?_cons_zero, List.getElem?_cons_succ]))
  refine wp_loopE cfg rfl (fun f0 h0 m fr h => ∃ i : Nat, fr 9 = f0 9 ∧ fr 11 = f0 11 ∧ fr 13 = f0 13 ∧ fr 82 = f0 82 ∧ fr 83 = f0 83 ∧ fr 84 = .int .i64 i ∧ (i + m = l.length)) (l.length) _ _ ⟨0, rfl, rfl, rfl, rfl, rfl, by first | rfl | (simp; done) | (simp [R]; done) | simp [R], by first | rfl | (simp; done) | omega⟩ ?_
  rintro Am Af Ah ⟨i, A9, A11, A13, A82, A83, A84, hmm⟩ Aih
  try simp at A9 A11 A13 A82 A83
  by_cases hi : i < l.length
  · have hn1 : nth (l.map (markS v)) i = markS v (nth l i) := by simp [nth, hi]
    have hn2 : nth (l.map (markS w)) i = markS w (nth l i) := by simp [nth, hi]
    have hx2 := (hin.2.2 _ (nth_mem hi)).2
    have hx3 := rightS_len (hin.2.2 _ (nth_mem hi)).1 hin.1.2
    have hmono : vd v (nth l i).deps ≤ vd w (nth l i).deps := vd_mono hw _ 0 0 (by omega)
    have hsame : ¬ (k : Int) ∈ (nth l i).deps → vd v (nth l i).deps = vd w (nth l i).deps := by
      intro h
      refine vd_same _ 0 (fun x hx => hwn _ (fun e => h ?_))
      have := hx2 x hx
      have : (k : Int) = x := by omega
      rw [this]; exact hx
    have hlst : ∀ b : Blk, (Ah.bs ++ [b])[Ah.bs.length]? = some b := fun b => by simp
    have q1 : (markS v (nth l i)).verdict = vd v (nth l i).deps := rfl
    have q2 : (markS w (nth l i)).verdict = vd w (nth l i).deps := rfl
    have q3 : (markS v (nth l i)).deps = (nth l i).deps := rfl
    have q4 : (markS w (nth l i)).deps = (nth l i).deps := rfl
    generalize hmv : markS v (nth l i) = mv at *
    generalize hmx : markS w (nth l i) = mw at *
    have hA : vd v (nth l i).deps = vd w (nth l i).deps → mw = mv := by
      intro h
      rw [← hmv, ← hmx]
      unfold markS; rw [h]
    by_cases hvd : vd v (nth l i).deps = vd w (nth l i).deps
    · have hmm2 := hA hvd
      subst hmm2
      repeat' (first | (refine wpc_split _ (fun hc => ?_) (fun hc => ?_) <;> (try simp at hc)) | (refine ww_split _ (fun hc => ?_) (fun hc => ?_) <;> (try simp at hc)) | (refine wp_drawF (by kernel_rfl) ?_) | (refine wk_yldW _ ?_) | (refine owe ?_ (fun ho => ?_)) | (simp (disch := first | assumption | omega | (simp; done) | (simp; omega)) [A9, A11, A13, A82, A83, A84, eT, eM, hn1, hn2, hlst, q1, q3, -getElem?_pos, List.getElem?_cons_zero, List.getElem?_cons_succ]))
      refine wp_loopE cfg rfl (fun f0 h0 m fr h => ∃ j : Nat, fr 9 = f0 9 ∧ fr 11 = f0 11 ∧ fr 13 = f0 13 ∧ fr 15 = f0 15 ∧ fr 16 = f0 16 ∧ fr 82 = f0 82 ∧ fr 83 = f0 83 ∧ fr 84 = f0 84 ∧ fr 127 = f0 127 ∧ fr 128 = f0 128 ∧ fr 129 = .int .i64 j ∧ fr 17 = .bool (memTo k (nth l i).deps j) ∧ (j + m = (nth l i).deps.length)) ((nth l i).deps.length) _ _ ⟨0, rfl, rfl, rfl, rfl, rfl, rfl, rfl, rfl, rfl, rfl, by first | rfl | (simp; done) | (simp [R]; done) | simp [R], by simp [memTo_zero], by first | rfl | (simp; done) | omega⟩ ?_
      rintro Bm Bf Bh ⟨j, B9, B11, B13, B15, B16, B82, B83, B84, B127, B128, B129, B17, hjm⟩ Bih
      try simp [A9, A11, A13, A82, A83, A84] at B9 B11 B13 B15 B16 B82 B83 B84 B127 B128
      by_cases hj : j < (nth l i).deps.length
      · have hsc := memTo_succ (k := k) hj
        cases hb : memTo k (nth l i).deps j <;> rw [hb] at B17 hsc
        · repeat' (first | (refine wpc_split _ (fun hc => ?_) (fun hc => ?_) <;> (try simp at hc)) | (refine ww_split _ (fun hc => ?_) (fun hc => ?_) <;> (try simp at hc)) | (refine wp_drawF (by kernel_rfl) ?_) | (refine wk_yldW _ ?_) | (refine owe ?_ (fun ho => ?_)) | (simp (disch := first | assumption | omega | (simp; done) | (simp; omega)) [B9, B11, B13, B15, B16, B82, B83, B84, B127, B128, B129, B17, eI, -getElem?_pos, List.getElem?_cons_zero, List.getElem?_cons_succ]))
          exact Bih (Bm - 1) _ _ (by omega) ⟨j + 1, by simp [B9, B11, B13, B15, B16, B82, B83, B84, B127, B128, B129, B17, A9, A11, A13, A82, A83, A84, hsc], by simp [B9, B11, B13, B15, B16, B82, B83, B84, B127, B128, B129, B17, A9, A11, A13, A82, A83, A84, hsc], by simp [B9, B11, B13, B15, B16, B82, B83, B84, B127, B128, B129, B17, A9, A11, A13, A82, A83, A84, hsc], by simp [B9, B11, B13, B15, B16, B82, B83, B84, B127, B128, B129, B17, A9, A11, A13, A82, A83, A84, hsc], by simp [B9, B11, B13, B15, B16, B82, B83, B84, B127, B128, B129, B17, A9, A11, A13, A82, A83, A84, hsc], by simp [B9, B11, B13, B15, B16, B82, B83, B84, B127, B128, B129, B17, A9, A11, A13, A82, A83, A84, hsc], by simp [B9, B11, B13, B15, B16, B82, B83, B84, B127, B128, B129, B17, A9, A11, A13, A82, A83, A84, hsc], by simp [B9, B11, B13, B15, B16, B82, B83, B84, B127, B128, B129, B17, A9, A11, A13, A82, A83, A84, hsc], by simp [B9, B11, B13, B15, B16, B82, B83, B84, B127, B128, B129, B17, A9, A11, A13, A82, A83, A84, hsc], by simp [B9, B11, B13, B15, B16, B82, B83, B84, B127, B128, B129, B17, A9, A11, A13, A82, A83, A84, hsc], by simp [B9, B11, B13, B15, B16, B82, B83, B84, B127, B128, B129, B17, A9, A11, A13, A82, A83, A84, hsc], by simp [B9, B11, B13, B15, B16, B82, B83, B84, B127, B128, B129, B17, A9, A11, A13, A82, A83, A84, hsc], by omega⟩
        · repeat' (first | (refine wpc_split _ (fun hc => ?_) (fun hc => ?_) <;> (try simp at hc)) | (refine ww_split _ (fun hc => ?_) (fun hc => ?_) <;> (try simp at hc)) | (refine wp_drawF (by kernel_rfl) ?_) | (refine wk_yldW _ ?_) | (refine owe ?_ (fun ho => ?_)) | (simp (disch := first | assumption | omega | (simp; done) | (simp; omega)) [B9, B11, B13, B15, B16, B82, B83, B84, B127, B128, B129, B17, eI, -getElem?_pos, List.getElem?_cons_zero, List.getElem?_cons_succ]))
          exact Bih (Bm - 1) _ _ (by omega) ⟨j + 1, by simp [B9, B11, B13, B15, B16, B82, B83, B84, B127, B128, B129, B17, A9, A11, A13, A82, A83, A84, hsc], by simp [B9, B11, B13, B15, B16, B82, B83, B84, B127, B128, B129, B17, A9, A11, A13, A82, A83, A84, hsc], by simp [B9, B11, B13, B15, B16, B82, B83, B84, B127, B128, B129, B17, A9, A11, A13, A82, A83, A84, hsc], by simp [B9, B11, B13, B15, B16, B82, B83, B84, B127, B128, B129, B17, A9, A11, A13, A82, A83, A84, hsc], by simp [B9, B11, B13, B15, B16, B82, B83, B84, B127, B128, B129, B17, A9, A11, A13, A82, A83, A84, hsc], by simp [B9, B11, B13, B15, B16, B82, B83, B84, B127, B128, B129, B17, A9, A11, A13, A82, A83, A84, hsc], by simp [B9, B11, B13, B15, B16, B82, B83, B84, B127, B128, B129, B17, A9, A11, A13, A82, A83, A84, hsc], by simp [B9, B11, B13, B15, B16, B82, B83, B84, B127, B128, B129, B17, A9, A11, A13, A82, A83, A84, hsc], by simp [B9, B11, B13, B15, B16, B82, B83, B84, B127, B128, B129, B17, A9, A11, A13, A82, A83, A84, hsc], by simp [B9, B11, B13, B15, B16, B82, B83, B84, B127, B128, B129, B17, A9, A11, A13, A82, A83, A84, hsc], by simp [B9, B11, B13, B15, B16, B82, B83, B84, B127, B128, B129, B17, A9, A11, A13, A82, A83, A84, hsc], by simp [B9, B11, B13, B15, B16, B82, B83, B84, B127, B128, B129, B17, A9, A11, A13, A82, A83, A84, hsc], by omega⟩
      · cases hb : memTo k (nth l i).deps j <;> rw [hb] at B17
        · repeat' (first | (refine wpc_split _ (fun hc => ?_) (fun hc => ?_) <;> (try simp at hc)) | (refine ww_split _ (fun hc => ?_) (fun hc => ?_) <;> (try simp at hc)) | (refine wp_drawF (by kernel_rfl) ?_) | (refine wk_yldW _ ?_) | (refine owe ?_ (fun ho => ?_)) | (simp (disch := first | assumption | omega | (simp; done) | (simp; omega)) [B9, B11, B13, B15, B16, B82, B83, B84, B127, B128, B129, B17, eM, hn1, hn2, q1, q3, -getElem?_pos, List.getElem?_cons_zero, List.getElem?_cons_succ]))
          exact Aih (Am - 1) _ _ (by omega) ⟨i + 1, by simp [B9, B11, B13, B15, B16, B82, B83, B84, B127, B128, B129, B17, A9, A11, A13, A82, A83, A84], by simp [B9, B11, B13, B15, B16, B82, B83, B84, B127, B128, B129, B17, A9, A11, A13, A82, A83, A84], by simp [B9, B11, B13, B15, B16, B82, B83, B84, B127, B128, B129, B17, A9, A11, A13, A82, A83, A84], by simp [B9, B11, B13, B15, B16, B82, B83, B84, B127, B128, B129, B17, A9, A11, A13, A82, A83, A84], by simp [B9, B11, B13, B15, B16, B82, B83, B84, B127, B128, B129, B17, A9, A11, A13, A82, A83, A84], by simp [B9, B11, B13, B15, B16, B82, B83, B84, B127, B128, B129, B17, A9, A11, A13, A82, A83, A84], by omega⟩
        · repeat' (first | (refine wpc_split _ (fun hc => ?_) (fun hc => ?_) <;> (try simp at hc)) | (refine ww_split _ (fun hc => ?_) (fun hc => ?_) <;> (try simp at hc)) | (refine wp_drawF (by kernel_rfl) ?_) | (refine wk_yldW _ ?_) | (refine owe ?_ (fun ho => ?_)) | (simp (disch := first | assumption | omega | (simp; done) | (simp; omega)) [B9, B11, B13, B15, B16, B82, B83, B84, B127, B128, B129, B17, eM, hn1, hn2, q1, q3, -getElem?_pos, List.getElem?_cons_zero, List.getElem?_cons_succ]))
          exact Aih (Am - 1) _ _ (by omega) ⟨i + 1, by simp [B9, B11, B13, B15, B16, B82, B83, B84, B127, B128, B129, B17, A9, A11, A13, A82, A83, A84], by simp [B9, B11, B13, B15, B16, B82, B83, B84, B127, B128, B129, B17, A9, A11, A13, A82, A83, A84], by simp [B9, B11, B13, B15, B16, B82, B83, B84, B127, B128, B129, B17, A9, A11, A13, A82, A83, A84], by simp [B9, B11, B13, B15, B16, B82, B83, B84, B127, B128, B129, B17, A9, A11, A13, A82, A83, A84], by simp [B9, B11, B13, B15, B16, B82, B83, B84, B127, B128, B129, B17, A9, A11, A13, A82, A83, A84], by simp [B9, B11, B13, B15, B16, B82, B83, B84, B127, B128, B129, B17, A9, A11, A13, A82, A83, A84], by omega⟩
    · have hmem : (k : Int) ∈ (nth l i).deps := Classical.byContradiction fun h => hvd (hsame h)
      repeat' (first | (refine wpc_split _ (fun hc => ?_) (fun hc => ?_) <;> (try simp at hc)) | (refine ww_split _ (fun hc => ?_) (fun hc => ?_) <;> (try simp at hc)) | (refine wp_drawF (by kernel_rfl) ?_) | (refine wk_yldW _ ?_) | (refine owe ?_ (fun ho => ?_)) | (simp (disch := first | assumption | omega | (simp; done) | (simp; omega)) [A9, A11, A13, A82, A83, A84, eT, eM, hn1, hn2, hlst, q1, q2, q3, q4, -getElem?_pos, List.getElem?_cons_zero, List.getElem?_cons_succ]))
      all_goals first
        | (exfalso; omega)
        | skip
      all_goals
        refine wp_loopE cfg rfl (fun f0 h0 m fr h => ∃ j : Nat, fr 9 = f0 9 ∧ fr 11 = f0 11 ∧ fr 13 = f0 13 ∧ fr 15 = f0 15 ∧ fr 16 = f0 16 ∧ fr 82 = f0 82 ∧ fr 83 = f0 83 ∧ fr 84 = f0 84 ∧ fr 127 = f0 127 ∧ fr 128 = f0 128 ∧ fr 129 = .int .i64 j ∧ fr 17 = .bool (memTo k (nth l i).deps j) ∧ (j + m = (nth l i).deps.length)) ((nth l i).deps.length) _ _ ⟨0, rfl, rfl, rfl, rfl, rfl, rfl, rfl, rfl, rfl, rfl, by first | rfl | (simp; done) | (simp [R]; done) | simp [R], by simp [memTo_zero], by first | rfl | (simp; done) | omega⟩ ?_
        rintro Cm Cf Ch ⟨j, C9, C11, C13, C15, C16, C82, C83, C84, C127, C128, C129, C17, hjm⟩ Cih
        try simp [A9, A11, A13, A82, A83, A84] at C9 C11 C13 C15 C16 C82 C83 C84 C127 C128
        by_cases hj : j < (nth l i).deps.length
        · have hsc := memTo_succ (k := k) hj
          cases hb : memTo k (nth l i).deps j <;> rw [hb] at C17 hsc
          · repeat' (first | (refine wpc_split _ (fun hc => ?_) (fun hc => ?_) <;> (try simp at hc)) | (refine ww_split _ (fun hc => ?_) (fun hc => ?_) <;> (try simp at hc)) | (refine wp_drawF (by kernel_rfl) ?_) | (refine wk_yldW _ ?_) | (refine owe ?_ (fun ho => ?_)) | (simp (disch := first | assumption | omega | (simp; done) | (simp; omega)) [C9, C11, C13, C15, C16, C82, C83, C84, C127, C128, C129, C17, eI, -getElem?_pos, List.getElem?_cons_zero, List.getElem?_cons_succ]))
            exact Cih (Cm - 1) _ _ (by omega) ⟨j + 1, by simp [C9, C11, C13, C15, C16, C82, C83, C84, C127, C128, C129, C17, A9, A11, A13, A82, A83, A84, hsc], by simp [C9, C11, C13, C15, C16, C82, C83, C84, C127, C128, C129, C17, A9, A11, A13, A82, A83, A84, hsc], by simp [C9, C11, C13, C15, C16, C82, C83, C84, C127, C128, C129, C17, A9, A11, A13, A82, A83, A84, hsc], by simp [C9, C11, C13, C15, C16, C82, C83, C84, C127, C128, C129, C17, A9, A11, A13, A82, A83, A84, hsc], by simp [C9, C11, C13, C15, C16, C82, C83, C84, C127, C128, C129, C17, A9, A11, A13, A82, A83, A84, hsc], by simp [C9, C11, C13, C15, C16, C82, C83, C84, C127, C128, C129, C17, A9, A11, A13, A82, A83, A84, hsc], by simp [C9, C11, C13, C15, C16, C82, C83, C84, C127, C128, C129, C17, A9, A11, A13, A82, A83, A84, hsc], by simp [C9, C11, C13, C15, C16, C82, C83, C84, C127, C128, C129, C17, A9, A11, A13, A82, A83, A84, hsc], by simp [C9, C11, C13, C15, C16, C82, C83, C84, C127, C128, C129, C17, A9, A11, A13, A82, A83, A84, hsc], by simp [C9, C11, C13, C15, C16, C82, C83, C84, C127, C128, C129, C17, A9, A11, A13, A82, A83, A84, hsc], by simp [C9, C11, C13, C15, C16, C82, C83, C84, C127, C128, C129, C17, A9, A11, A13, A82, A83, A84, hsc], by simp [C9, C11, C13, C15, C16, C82, C83, C84, C127, C128, C129, C17, A9, A11, A13, A82, A83, A84, hsc], by omega⟩
          · repeat' (first | (refine wpc_split _ (fun hc => ?_) (fun hc => ?_) <;> (try simp at hc)) | (refine ww_split _ (fun hc => ?_) (fun hc => ?_) <;> (try simp at hc)) | (refine wp_drawF (by kernel_rfl) ?_) | (refine wk_yldW _ ?_) | (refine owe ?_ (fun ho => ?_)) | (simp (disch := first | assumption | omega | (simp; done) | (simp; omega)) [C9, C11, C13, C15, C16, C82, C83, C84, C127, C128, C129, C17, eI, -getElem?_pos, List.getElem?_cons_zero, List.getElem?_cons_succ]))
            exact Cih (Cm - 1) _ _ (by omega) ⟨j + 1, by simp [C9, C11, C13, C15, C16, C82, C83, C84, C127, C128, C129, C17, A9, A11, A13, A82, A83, A84, hsc], by simp [C9, C11, C13, C15, C16, C82, C83, C84, C127, C128, C129, C17, A9, A11, A13, A82, A83, A84, hsc], by simp [C9, C11, C13, C15, C16, C82, C83, C84, C127, C128, C129, C17, A9, A11, A13, A82, A83, A84, hsc], by simp [C9, C11, C13, C15, C16, C82, C83, C84, C127, C128, C129, C17, A9, A11, A13, A82, A83, A84, hsc], by simp [C9, C11, C13, C15, C16, C82, C83, C84, C127, C128, C129, C17, A9, A11, A13, A82, A83, A84, hsc], by simp [C9, C11, C13, C15, C16, C82, C83, C84, C127, C128, C129, C17, A9, A11, A13, A82, A83, A84, hsc], by simp [C9, C11, C13, C15, C16, C82, C83, C84, C127, C128, C129, C17, A9, A11, A13, A82, A83, A84, hsc], by simp [C9, C11, C13, C15, C16, C82, C83, C84, C127, C128, C129, C17, A9, A11, A13, A82, A83, A84, hsc], by simp [C9, C11, C13, C15, C16, C82, C83, C84, C127, C128, C129, C17, A9, A11, A13, A82, A83, A84, hsc], by simp [C9, C11, C13, C15, C16, C82, C83, C84, C127, C128, C129, C17, A9, A11, A13, A82, A83, A84, hsc], by simp [C9, C11, C13, C15, C16, C82, C83, C84, C127, C128, C129, C17, A9, A11, A13, A82, A83, A84, hsc], by simp [C9, C11, C13, C15, C16, C82, C83, C84, C127, C128, C129, C17, A9, A11, A13, A82, A83, A84, hsc], by omega⟩
        · have hje : j = (nth l i).deps.length := by omega
          subst hje
          rw [memTo_all, decide_eq_true hmem] at C17
          repeat' (first | (refine wpc_split _ (fun hc => ?_) (fun hc => ?_) <;> (try simp at hc)) | (refine ww_split _ (fun hc => ?_) (fun hc => ?_) <;> (try simp at hc)) | (refine wp_drawF (by kernel_rfl) ?_) | (refine wk_yldW _ ?_) | (refine owe ?_ (fun ho => ?_)) | (simp (disch := first | assumption | omega | (simp; done) | (simp; omega)) [C9, C11, C13, C15, C16, C82, C83, C84, C127, C128, C129, C17, eM, hn1, hn2, q1, q2, q3, q4, -getElem?_pos, List.getElem?_cons_zero, List.getElem?_cons_succ]))
          exact Aih (Am - 1) _ _ (by omega) ⟨i + 1, by simp [C9, C11, C13, C15, C16, C82, C83, C84, C127, C128, C129, C17, A9, A11, A13, A82, A83, A84], by simp [C9, C11, C13, C15, C16, C82, C83, C84, C127, C128, C129, C17, A9, A11, A13, A82, A83, A84], by simp [C9, C11, C13, C15, C16, C82, C83, C84, C127, C128, C129, C17, A9, A11, A13, A82, A83, A84], by simp [C9, C11, C13, C15, C16, C82, C83, C84, C127, C128, C129, C17, A9, A11, A13, A82, A83, A84], by simp [C9, C11, C13, C15, C16, C82, C83, C84, C127, C128, C129, C17, A9, A11, A13, A82, A83, A84], by simp [C9, C11, C13, C15, C16, C82, C83, C84, C127, C128, C129, C17, A9, A11, A13, A82, A83, A84], by omega⟩
  · repeat' (first | (refine wpc_split _ (fun hc => ?_) (fun hc => ?_) <;> (try simp at hc)) | (refine ww_split _ (fun hc => ?_) (fun hc => ?_) <;> (try simp at hc)) | (refine wp_drawF (by kernel_rfl) ?_) | (refine wk_yldW _ ?_) | (refine owe ?_ (fun ho => ?_)) | (simp (disch := first | assumption | omega | (simp; done) | (simp; omega)) [A9, A11, A13, A82, A83, A84, -getElem?_pos, List.getElem?_cons_zero, List.getElem?_cons_succ]))
@[simp] theorem S6 (l : List Target) (v : List Int) (ka kt : Int) (hs : l.length < 1099511627776 ∧ v.length < 1099511627776) (hl : ∀ x ∈ l, x.text.length < 1099511627776 ∧ x.deps.length < 1099511627776) (hat : 0 ≤ ka ∧ ka ≤ 255) (hto : 0 ≤ kt ∧ kt ≤ 255) (q1 q2 : Fl) (hh : Heap) : Ci cfg (.func (.func 6) [] []) [R  q1 eT l, R  q2 eI v, .int .u8 ka, .int .u8 kt] hh = some (.ret (.bool true), hh) :=
  Ci_K cfg rfl rfl (by simp) (by simp) (C6 l v ka kt hs hl hat hto)
end Go.Ab
