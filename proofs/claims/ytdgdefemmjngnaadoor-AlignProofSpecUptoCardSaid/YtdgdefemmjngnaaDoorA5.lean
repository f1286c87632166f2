/- Layer 21 (align): the specification's smaller functions. -/
import Derived.Test.YtdgdefemmjngnaaDoorA1
import Derived.Test.YtdgdefemmjngnaaDoorP21b
set_option linter.unusedVariables false
set_option linter.unusedSimpArgs false
set_option linter.unusedSectionVars false
set_option linter.deprecated false
namespace Go.Ab
open Go.Proofs
set_option maxRecDepth 100000
set_option maxHeartbeats 4000000
def fewL (l : List (List UInt8)) : Bool := allTo (min l.length 30) (fun i => decide ((nth l i).length ≤ 200)) && decide (l.length ≤ 20 ∨ 64 < l.length ∧ l.length ≤ 80)
theorem C10 (l : List (List UInt8)) (hs : l.length < 1099511627776) (hl : ∀ x ∈ l, x.length < 1099511627776) : Kc cfg 10 [R fl0 eS l] (.ret (.bool (fewL l))) := by
  have hsu := fun i => allTo_succ i (fun i => decide ((nth l i).length ≤ 200))
  generalize hF : fewL l = F
  refine outS_of_wp cfg (fn := Tryd.f10) Tryd.func10 rfl (by simp [Tryd.f10]) ?_
  simp (disch := first | assumption | omega | (simp; done) | (simp; omega)) [-getElem?_pos, List.getElem?_cons_zero, List.getElem?_cons_succ, Tryd.f10]
  repeat' (first | (refine wpc_split _ (fun hc => ?_) (fun hc => ?_) <;> (try simp at hc)) | (refine ww_split _ (fun hc => ?_) (fun hc => ?_) <;> (try simp at hc)) | (refine wp_drawF (by kernel_rfl) ?_) | (refine wk_yldW _ ?_) | (refine layOwe _ (by kernel_rfl) ?_) | (refine owe ?_ (fun ho => ?_)) | (simp (disch := first | assumption | omega | (simp; done) | (simp; omega)) [-getElem?_pos, List.getElem?_cons_zero, List.getElem?_cons_succ]))
  refine wp_loopE cfg rfl (fun f0 h0 m fr h => ∃ i : Nat, fr 0 = f0 0 ∧ fr 3 = .int .i64 i ∧ (i + m = min l.length 30) ∧ (allTo i (fun i => decide ((nth l i).length ≤ 200)) = true)) (min l.length 30) _ _ ⟨0, rfl, by first | rfl | (simp; done) | (simp [R]; done) | simp [R], by first | rfl | (simp; done) | omega, rfl⟩ ?_
  rintro Am Af Ah ⟨i, A0, A3, hm, ht⟩ Aih
  try simp at A0
  by_cases hi : i < min l.length 30
  · have hx := hl _ (nth_mem (show i < l.length by omega))
    by_cases hq : (nth l i).length ≤ 200
    · repeat' (first | (refine wpc_split _ (fun hc => ?_) (fun hc => ?_) <;> (try simp at hc)) | (refine ww_split _ (fun hc => ?_) (fun hc => ?_) <;> (try simp at hc)) | (refine wp_drawF (by kernel_rfl) ?_) | (refine wk_yldW _ ?_) | (refine layOwe _ (by kernel_rfl) ?_) | (refine owe ?_ (fun ho => ?_)) | (simp (disch := first | assumption | omega | (simp; done) | (simp; omega)) [A0, A3, eS, -getElem?_pos, List.getElem?_cons_zero, List.getElem?_cons_succ]))
      all_goals first
        | (exfalso; omega)
        | exact Aih (Am - 1) _ _ (by omega) ⟨i + 1, by simp [A0, A3], by simp [A0, A3], by omega, (by rw [hsu, ht]; simpa using hq)⟩
    · have h2 : F = false := by
        rw [← hF]; unfold fewL
        rw [allTo_false i hi (by simpa using hq)]; rfl
      repeat' (first | (refine wpc_split _ (fun hc => ?_) (fun hc => ?_) <;> (try simp at hc)) | (refine ww_split _ (fun hc => ?_) (fun hc => ?_) <;> (try simp at hc)) | (refine wp_drawF (by kernel_rfl) ?_) | (refine wk_yldW _ ?_) | (refine layOwe _ (by kernel_rfl) ?_) | (refine owe ?_ (fun ho => ?_)) | (simp (disch := first | assumption | omega | (simp; done) | (simp; omega)) [A0, A3, eS, -getElem?_pos, List.getElem?_cons_zero, List.getElem?_cons_succ]))
      all_goals first
        | (exfalso; omega)
        | (rw [h2])
  · have he : i = min l.length 30 := by omega
    have h2 : F = decide (l.length ≤ 20 ∨ 64 < l.length ∧ l.length ≤ 80) := by
      rw [← hF]; unfold fewL
      rw [← he, ht, Bool.true_and]
    repeat' (first | (refine wpc_split _ (fun hc => ?_) (fun hc => ?_) <;> (try simp at hc)) | (refine ww_split _ (fun hc => ?_) (fun hc => ?_) <;> (try simp at hc)) | (refine wp_drawF (by kernel_rfl) ?_) | (refine wk_yldW _ ?_) | (refine layOwe _ (by kernel_rfl) ?_) | (refine owe ?_ (fun ho => ?_)) | (simp (disch := first | assumption | omega | (simp; done) | (simp; omega)) [A0, A3, -getElem?_pos, List.getElem?_cons_zero, List.getElem?_cons_succ]))
    all_goals first
      | (exfalso; omega)
      | (rw [h2]; simp; omega)
      | (rw [h2, decide_eq_decide]; omega)
      | (rw [h2]; symm; simp; omega)
@[simp] theorem S10 (l : List (List UInt8)) (hs : l.length < 1099511627776) (hl : ∀ x ∈ l, x.length < 1099511627776) (q1 : Fl) (hh : Heap) : Ci cfg (.func (.func 10) [] []) [R  q1 eS l] hh = some (.ret (.bool (fewL l)), hh) :=
  Ci_K cfg rfl rfl (by simp) (by simp) (C10 l hs hl)
def fewP (st : List Int) (p : List (List Int)) : Bool := allTo (min p.length 100) (fun i => decide ((nth p i).length ≤ 100)) && decide (st.length ≤ 150 ∧ p.length ≤ 100)
theorem C14 (st : List Int) (p : List (List Int)) (hs : st.length < 1099511627776 ∧ p.length < 1099511627776) (hl : ∀ x ∈ p, x.length < 1099511627776) : Kc cfg 14 [R fl0 eI st, R fl0 (eR eI) p] (.ret (.bool (fewP st p))) := by
  have hsu := fun i => allTo_succ i (fun i => decide ((nth p i).length ≤ 100))
  generalize hF : fewP st p = F
  refine outS_of_wp cfg (fn := Tryd.f14) Tryd.func14 rfl (by simp [Tryd.f14]) ?_
  simp (disch := first | assumption | omega | (simp; done) | (simp; omega)) [-getElem?_pos, List.getElem?_cons_zero, List.getElem?_cons_succ, Tryd.f14]
  repeat' (first | (refine wpc_split _ (fun hc => ?_) (fun hc => ?_) <;> (try simp at hc)) | (refine ww_split _ (fun hc => ?_) (fun hc => ?_) <;> (try simp at hc)) | (refine wp_drawF (by kernel_rfl) ?_) | (refine wk_yldW _ ?_) | (refine layOwe _ (by kernel_rfl) ?_) | (refine owe ?_ (fun ho => ?_)) | (simp (disch := first | assumption | omega | (simp; done) | (simp; omega)) [-getElem?_pos, List.getElem?_cons_zero, List.getElem?_cons_succ]))
  refine wp_loopE cfg rfl (fun f0 h0 m fr h => ∃ i : Nat, fr 0 = f0 0 ∧ fr 1 = f0 1 ∧ fr 5 = .int .i64 i ∧ (i + m = min p.length 100) ∧ (allTo i (fun i => decide ((nth p i).length ≤ 100)) = true)) (min p.length 100) _ _ ⟨0, rfl, rfl, by first | rfl | (simp; done) | (simp [R]; done) | simp [R], by first | rfl | (simp; done) | omega, rfl⟩ ?_
  rintro Am Af Ah ⟨i, A0, A1, A5, hm, ht⟩ Aih
  try simp at A0 A1
  by_cases hi : i < min p.length 100
  · have hx := hl _ (nth_mem (show i < p.length by omega))
    by_cases hq : (nth p i).length ≤ 100
    · repeat' (first | (refine wpc_split _ (fun hc => ?_) (fun hc => ?_) <;> (try simp at hc)) | (refine ww_split _ (fun hc => ?_) (fun hc => ?_) <;> (try simp at hc)) | (refine wp_drawF (by kernel_rfl) ?_) | (refine wk_yldW _ ?_) | (refine layOwe _ (by kernel_rfl) ?_) | (refine owe ?_ (fun ho => ?_)) | (simp (disch := first | assumption | omega | (simp; done) | (simp; omega)) [A0, A1, A5, eR, -getElem?_pos, List.getElem?_cons_zero, List.getElem?_cons_succ]))
      all_goals first
        | (exfalso; omega)
        | exact Aih (Am - 1) _ _ (by omega) ⟨i + 1, by simp [A0, A1, A5], by simp [A0, A1, A5], by simp [A0, A1, A5], by omega, (by rw [hsu, ht]; simpa using hq)⟩
    · have h2 : F = false := by
        rw [← hF]; unfold fewP
        rw [allTo_false i hi (by simpa using hq)]; rfl
      repeat' (first | (refine wpc_split _ (fun hc => ?_) (fun hc => ?_) <;> (try simp at hc)) | (refine ww_split _ (fun hc => ?_) (fun hc => ?_) <;> (try simp at hc)) | (refine wp_drawF (by kernel_rfl) ?_) | (refine wk_yldW _ ?_) | (refine layOwe _ (by kernel_rfl) ?_) | (refine owe ?_ (fun ho => ?_)) | (simp (disch := first | assumption | omega | (simp; done) | (simp; omega)) [A0, A1, A5, eR, -getElem?_pos, List.getElem?_cons_zero, List.getElem?_cons_succ]))
      all_goals first
        | (exfalso; omega)
        | (rw [h2])
  · have he : i = min p.length 100 := by omega
    have h2 : F = decide (st.length ≤ 150 ∧ p.length ≤ 100) := by
      rw [← hF]; unfold fewP
      rw [← he, ht, Bool.true_and]
    repeat' (first | (refine wpc_split _ (fun hc => ?_) (fun hc => ?_) <;> (try simp at hc)) | (refine ww_split _ (fun hc => ?_) (fun hc => ?_) <;> (try simp at hc)) | (refine wp_drawF (by kernel_rfl) ?_) | (refine wk_yldW _ ?_) | (refine layOwe _ (by kernel_rfl) ?_) | (refine owe ?_ (fun ho => ?_)) | (simp (disch := first | assumption | omega | (simp; done) | (simp; omega)) [A0, A1, A5, -getElem?_pos, List.getElem?_cons_zero, List.getElem?_cons_succ]))
    all_goals first
      | (exfalso; omega)
      | (rw [h2]; simp; omega)
      | (rw [h2, decide_eq_decide]; omega)
      | (rw [h2]; symm; simp; omega)
@[simp] theorem S14 (st : List Int) (p : List (List Int)) (hs : st.length < 1099511627776 ∧ p.length < 1099511627776) (hl : ∀ x ∈ p, x.length < 1099511627776) (q1 q2 : Fl) (hh : Heap) : Ci cfg (.func (.func 14) [] []) [R  q1 eI st, R  q2 (eR eI) p] hh = some (.ret (.bool (fewP st p)), hh) :=
  Ci_K cfg rfl rfl (by simp) (by simp) (C14 st p hs hl)
theorem C19 (x y : List (List Int)) (hs : x.length < 1099511627776) (hl : ∀ r ∈ x, r.length < 1099511627776) : Kc cfg 19 [R fl0 (eR eI) x, R fl0 (eR eI) y] (.ret (.bool (decide (x = y)))) := by
  generalize hF : decide (x = y) = F
  by_cases hlen : x.length = y.length
  · skip
    refine outS_of_wp cfg (fn := Tryd.f19) Tryd.func19 rfl (by simp [Tryd.f19]) ?_
    simp (disch := first | assumption | omega | (simp; done) | (simp; omega)) [-getElem?_pos, List.getElem?_cons_zero, List.getElem?_cons_succ, Tryd.f19]
    repeat' (first | (refine wpc_split _ (fun hc => ?_) (fun hc => ?_) <;> (try simp at hc)) | (refine ww_split _ (fun hc => ?_) (fun hc => ?_) <;> (try simp at hc)) | (refine wp_drawF (by kernel_rfl) ?_) | (refine wk_yldW _ ?_) | (refine layOwe _ (by kernel_rfl) ?_) | (refine owe ?_ (fun ho => ?_)) | (simp (disch := first | assumption | omega | (simp; done) | (simp; omega)) [-getElem?_pos, List.getElem?_cons_zero, List.getElem?_cons_succ]))
    refine wp_loopE cfg rfl (fun f0 h0 m fr h => ∃ i : Nat, fr 0 = f0 0 ∧ fr 1 = f0 1 ∧ fr 5 = .int .i64 i ∧ (i + m = x.length) ∧ (∀ j, j < i → nth x j = nth y j)) (x.length) _ _ ⟨0, rfl, rfl, by first | rfl | (simp; done) | (simp [R]; done) | simp [R], by first | rfl | (simp; done) | omega, fun j hj => by omega⟩ ?_
    rintro Am Af Ah ⟨i, A0, A1, A5, hm, ht⟩ Aih
    try simp at A0 A1
    by_cases hi : i < x.length
    · have hx := hl _ (nth_mem hi)
      by_cases hq : nth x i = nth y i
      · repeat' (first | (refine wpc_split _ (fun hc => ?_) (fun hc => ?_) <;> (try simp at hc)) | (refine ww_split _ (fun hc => ?_) (fun hc => ?_) <;> (try simp at hc)) | (refine wp_drawF (by kernel_rfl) ?_) | (refine wk_yldW _ ?_) | (refine layOwe _ (by kernel_rfl) ?_) | (refine owe ?_ (fun ho => ?_)) | (simp (disch := first | assumption | omega | (simp; done) | (simp; omega)) [A0, A1, A5, eR, -getElem?_pos, List.getElem?_cons_zero, List.getElem?_cons_succ]))
        exact Aih (Am - 1) _ _ (by omega) ⟨i + 1, by simp [A0, A1, A5], by simp [A0, A1, A5], by simp [A0, A1, A5], by omega, fun j hj => by (by_cases e : j = i; (subst e; exact hq); exact ht j (by omega))⟩
      · have h2 : F = false := by rw [← hF, decide_eq_false_iff_not]; intro e; rw [e] at hq; exact hq rfl
        repeat' (first | (refine wpc_split _ (fun hc => ?_) (fun hc => ?_) <;> (try simp at hc)) | (refine ww_split _ (fun hc => ?_) (fun hc => ?_) <;> (try simp at hc)) | (refine wp_drawF (by kernel_rfl) ?_) | (refine wk_yldW _ ?_) | (refine layOwe _ (by kernel_rfl) ?_) | (refine owe ?_ (fun ho => ?_)) | (simp (disch := first | assumption | omega | (simp; done) | (simp; omega)) [A0, A1, A5, eR, -getElem?_pos, List.getElem?_cons_zero, List.getElem?_cons_succ]))
        all_goals rw [h2]
    · have h2 : F = true := by rw [← hF, decide_eq_true_eq]; exact ext_nth hlen (fun j hj => ht j (by omega))
      repeat' (first | (refine wpc_split _ (fun hc => ?_) (fun hc => ?_) <;> (try simp at hc)) | (refine ww_split _ (fun hc => ?_) (fun hc => ?_) <;> (try simp at hc)) | (refine wp_drawF (by kernel_rfl) ?_) | (refine wk_yldW _ ?_) | (refine layOwe _ (by kernel_rfl) ?_) | (refine owe ?_ (fun ho => ?_)) | (simp (disch := first | assumption | omega | (simp; done) | (simp; omega)) [A0, A1, A5, -getElem?_pos, List.getElem?_cons_zero, List.getElem?_cons_succ]))
      rw [h2]
  · have h2 : F = false := by rw [← hF, decide_eq_false_iff_not]; intro e; rw [e] at hlen; exact hlen rfl
    refine outS_of_wp cfg (fn := Tryd.f19) Tryd.func19 rfl (by simp [Tryd.f19]) ?_
    simp (disch := first | assumption | omega | (simp; done) | (simp; omega)) [-getElem?_pos, List.getElem?_cons_zero, List.getElem?_cons_succ, Tryd.f19]
    repeat' (first | (refine wpc_split _ (fun hc => ?_) (fun hc => ?_) <;> (try simp at hc)) | (refine ww_split _ (fun hc => ?_) (fun hc => ?_) <;> (try simp at hc)) | (refine wp_drawF (by kernel_rfl) ?_) | (refine wk_yldW _ ?_) | (refine layOwe _ (by kernel_rfl) ?_) | (refine owe ?_ (fun ho => ?_)) | (simp (disch := first | assumption | omega | (simp; done) | (simp; omega)) [-getElem?_pos, List.getElem?_cons_zero, List.getElem?_cons_succ]))
    rw [h2]
@[simp] theorem S19 (x y : List (List Int)) (hs : x.length < 1099511627776) (hl : ∀ r ∈ x, r.length < 1099511627776) (q1 q2 : Fl) (hh : Heap) : Ci cfg (.func (.func 19) [] []) [R  q1 (eR eI) x, R  q2 (eR eI) y] hh = some (.ret (.bool (decide (x = y))), hh) :=
  Ci_K cfg rfl rfl (by simp) (by simp) (C19 x y hs hl)
theorem C21 (x y : List Int) (hs : x.length < 1099511627776 ∧ y.length < 1099511627776) : Kc cfg 21 [R fl0 eI x, R fl0 eI y] (.ret (.bool (beforeL x y))) := by
  generalize hF : beforeL x y = F
  refine outS_of_wp cfg (fn := Tryd.f21) Tryd.func21 rfl (by simp [Tryd.f21]) ?_
  simp (disch := first | assumption | omega | (simp; done) | (simp; omega)) [-getElem?_pos, List.getElem?_cons_zero, List.getElem?_cons_succ, Tryd.f21]
  repeat' (first | (refine wpc_split _ (fun hc => ?_) (fun hc => ?_) <;> (try simp at hc)) | (refine ww_split _ (fun hc => ?_) (fun hc => ?_) <;> (try simp at hc)) | (refine wp_drawF (by kernel_rfl) ?_) | (refine wk_yldW _ ?_) | (refine layOwe _ (by kernel_rfl) ?_) | (refine owe ?_ (fun ho => ?_)) | (simp (disch := first | assumption | omega | (simp; done) | (simp; omega)) [-getElem?_pos, List.getElem?_cons_zero, List.getElem?_cons_succ]))
  refine wp_loopE cfg rfl (fun f0 h0 m fr h => ∃ i : Nat, fr 0 = f0 0 ∧ fr 1 = f0 1 ∧ fr 5 = .int .i64 i ∧ (i + m = min x.length y.length) ∧ (beforeL (x.drop i) (y.drop i) = F)) (min x.length y.length) _ _ ⟨0, rfl, rfl, by first | rfl | (simp; done) | (simp [R]; done) | simp [R], by first | rfl | (simp; done) | omega, hF⟩ ?_
  rintro Am Af Ah ⟨i, A0, A1, A5, hm, ht⟩ Aih
  try simp at A0 A1
  by_cases hi : i < min x.length y.length
  · rw [nth_drop (show i < x.length by omega), nth_drop (show i < y.length by omega)] at ht
    by_cases hq : nth x i = nth y i
    · have ht2 : beforeL (x.drop (i + 1)) (y.drop (i + 1)) = F := by rw [← ht]; simp [beforeL, hq]
      repeat' (first | (refine wpc_split _ (fun hc => ?_) (fun hc => ?_) <;> (try simp at hc)) | (refine ww_split _ (fun hc => ?_) (fun hc => ?_) <;> (try simp at hc)) | (refine wp_drawF (by kernel_rfl) ?_) | (refine wk_yldW _ ?_) | (refine layOwe _ (by kernel_rfl) ?_) | (refine owe ?_ (fun ho => ?_)) | (simp (disch := first | assumption | omega | (simp; done) | (simp; omega)) [A0, A1, A5, eI, -getElem?_pos, List.getElem?_cons_zero, List.getElem?_cons_succ]))
      all_goals first
        | (exfalso; omega)
        | exact Aih (Am - 1) _ _ (by omega) ⟨i + 1, by simp [A0, A1, A5], by simp [A0, A1, A5], by simp [A0, A1, A5], by omega, ht2⟩
    · have ht2 : F = decide (nth x i < nth y i) := by rw [← ht]; simp [beforeL, hq]
      repeat' (first | (refine wpc_split _ (fun hc => ?_) (fun hc => ?_) <;> (try simp at hc)) | (refine ww_split _ (fun hc => ?_) (fun hc => ?_) <;> (try simp at hc)) | (refine wp_drawF (by kernel_rfl) ?_) | (refine wk_yldW _ ?_) | (refine layOwe _ (by kernel_rfl) ?_) | (refine owe ?_ (fun ho => ?_)) | (simp (disch := first | assumption | omega | (simp; done) | (simp; omega)) [A0, A1, A5, eI, -getElem?_pos, List.getElem?_cons_zero, List.getElem?_cons_succ]))
      all_goals first
        | (exfalso; omega)
        | rw [ht2]
  · have ht2 : F = decide (x.length < y.length) := by
      rw [← ht]
      by_cases h1 : x.length ≤ i
      · rw [List.drop_of_length_le h1]
        by_cases h2 : y.length ≤ i
        · rw [List.drop_of_length_le h2]; symm; simp [beforeL]; omega
        · rw [nth_drop (show i < y.length by omega)]; symm; simp [beforeL]; omega
      · rw [nth_drop (show i < x.length by omega), List.drop_of_length_le (show y.length ≤ i by omega)]; symm; simp [beforeL]; omega
    repeat' (first | (refine wpc_split _ (fun hc => ?_) (fun hc => ?_) <;> (try simp at hc)) | (refine ww_split _ (fun hc => ?_) (fun hc => ?_) <;> (try simp at hc)) | (refine wp_drawF (by kernel_rfl) ?_) | (refine wk_yldW _ ?_) | (refine layOwe _ (by kernel_rfl) ?_) | (refine owe ?_ (fun ho => ?_)) | (simp (disch := first | assumption | omega | (simp; done) | (simp; omega)) [A0, A1, A5, -getElem?_pos, List.getElem?_cons_zero, List.getElem?_cons_succ]))
    all_goals first
      | (exfalso; omega)
      | (rw [ht2]; done)
      | (rw [ht2]; simp; done)
      | (rw [ht2]; simp; omega)
@[simp] theorem S21 (x y : List Int) (hs : x.length < 1099511627776 ∧ y.length < 1099511627776) (q1 q2 : Fl) (hh : Heap) : Ci cfg (.func (.func 21) [] []) [R  q1 eI x, R  q2 eI y] hh = some (.ret (.bool (beforeL x y)), hh) :=
  Ci_K cfg rfl rfl (by simp) (by simp) (C21 x y hs)
/-- what steps cost, and whether they lead to the end -/
def costF (a b : List (List UInt8)) : List Int → Nat → Nat → Int → Int × Bool
  | [], i, k, c => (c, decide (i = a.length ∧ k = b.length))
  | s :: r, i, k, c => if stO a b i k s = true then costF a b r (stI i s).toNat (stK k s).toNat (c + stC s) else (0, false)
theorem st_bound {a b : List (List UInt8)} {i k : Nat} {s : Int} (h : stO a b i k s = true) (hi : i ≤ a.length) (hk : k ≤ b.length) : ∃ i' k' : Nat, stI i s = i' ∧ stK k s = k' ∧ i' ≤ a.length ∧ k' ≤ b.length ∧ 0 ≤ stC s ∧ stC s ≤ 1 := by
  unfold stO at h
  by_cases s1 : s = 1
  · subst s1; simp at h; exact ⟨i + 1, k + 1, by simp [stI], by simp [stK], by omega, by omega, by simp [stC], by simp [stC]⟩
  by_cases s2 : s = 2
  · subst s2; simp at h; exact ⟨i + 1, k + 1, by simp [stI], by simp [stK], by omega, by omega, by simp [stC], by simp [stC]⟩
  by_cases s3 : s = 3
  · subst s3; simp at h; exact ⟨i + 1, k, by simp [stI], by simp [stK], by omega, by omega, by simp [stC], by simp [stC]⟩
  by_cases s4 : s = 4
  · subst s4; simp at h; exact ⟨i, k + 1, by simp [stI], by simp [stK], by omega, by omega, by simp [stC], by simp [stC]⟩
  · simp [s1, s2, s3, s4] at h
theorem C20 (a b : List (List UInt8)) (st : List Int) (hs : a.length < 1099511627776 ∧ b.length < 1099511627776 ∧ st.length < 1099511627776) : Kc cfg 20 [R fl0 eS a, R fl0 eS b, R fl0 eI st] (.ret (.tuple [.int .i64 (costF a b st 0 0 0).1, .bool (costF a b st 0 0 0).2])) := by
  generalize hF : costF a b st 0 0 0 = F
  refine outS_of_wp cfg (fn := Tryd.f20) Tryd.func20 rfl (by simp [Tryd.f20]) ?_
  simp (disch := first | assumption | omega | (simp; done) | (simp; omega)) [-getElem?_pos, List.getElem?_cons_zero, List.getElem?_cons_succ, Tryd.f20]
  repeat' (first | (refine wpc_split _ (fun hc => ?_) (fun hc => ?_) <;> (try simp at hc)) | (refine ww_split _ (fun hc => ?_) (fun hc => ?_) <;> (try simp at hc)) | (refine wp_drawF (by kernel_rfl) ?_) | (refine wk_yldW _ ?_) | (refine layOwe _ (by kernel_rfl) ?_) | (refine owe ?_ (fun ho => ?_)) | (simp (disch := first | assumption | omega | (simp; done) | (simp; omega)) [-getElem?_pos, List.getElem?_cons_zero, List.getElem?_cons_succ]))
  refine wp_loopE cfg rfl (fun f0 h0 m fr h => ∃ j : Nat, ∃ i : Nat, ∃ k : Nat, ∃ c : Int, fr 0 = f0 0 ∧ fr 1 = f0 1 ∧ fr 2 = f0 2 ∧ fr 8 = .int .i64 i ∧ fr 9 = .int .i64 k ∧ fr 10 = .int .i64 c ∧ fr 11 = .int .i64 j ∧ (j + m = st.length) ∧ (i ≤ a.length ∧ k ≤ b.length ∧ 0 ≤ c ∧ c ≤ j) ∧ (costF a b (st.drop j) i k c = F)) (st.length) _ _ ⟨0, 0, 0, 0, rfl, rfl, rfl, by first | rfl | (simp; done) | (simp [R]; done) | simp [R], by first | rfl | (simp; done) | (simp [R]; done) | simp [R], by first | rfl | (simp; done) | (simp [R]; done) | simp [R], by first | rfl | (simp; done) | (simp [R]; done) | simp [R], by first | rfl | (simp; done) | omega, by omega, hF⟩ ?_
  rintro Am Af Ah ⟨j, i, k, c, A0, A1, A2, A8, A9, A10, A11, hm, hb, ht⟩ Aih
  try simp at A0 A1 A2
  by_cases hj : j < st.length
  · rw [nth_drop hj] at ht
    simp only [costF] at ht
    cases ho : stO a b i k (nth st j) with
    | false =>
      rw [ho] at ht
      simp at ht
      repeat' (first | (refine wpc_split _ (fun hc => ?_) (fun hc => ?_) <;> (try simp at hc)) | (refine ww_split _ (fun hc => ?_) (fun hc => ?_) <;> (try simp at hc)) | (refine wp_drawF (by kernel_rfl) ?_) | (refine wk_yldW _ ?_) | (refine layOwe _ (by kernel_rfl) ?_) | (refine owe ?_ (fun ho => ?_)) | (simp (disch := first | assumption | omega | (simp; done) | (simp; omega)) [A0, A1, A2, A8, A9, A10, A11, eI, ho, -getElem?_pos, List.getElem?_cons_zero, List.getElem?_cons_succ]))
      rw [← ht]; exact ⟨rfl, rfl⟩
    | true =>
      rw [ho, if_pos rfl] at ht
      obtain ⟨i', k', e1, e2, e3, e4, e5, e6⟩ := st_bound ho hb.1 hb.2.1
      rw [e1, e2] at ht
      simp only [Int.toNat_natCast] at ht
      repeat' (first | (refine wpc_split _ (fun hc => ?_) (fun hc => ?_) <;> (try simp at hc)) | (refine ww_split _ (fun hc => ?_) (fun hc => ?_) <;> (try simp at hc)) | (refine wp_drawF (by kernel_rfl) ?_) | (refine wk_yldW _ ?_) | (refine layOwe _ (by kernel_rfl) ?_) | (refine owe ?_ (fun ho => ?_)) | (simp (disch := first | assumption | omega | (simp; done) | (simp; omega)) [A0, A1, A2, A8, A9, A10, A11, eI, ho, e1, e2, -getElem?_pos, List.getElem?_cons_zero, List.getElem?_cons_succ]))
      exact Aih (Am - 1) _ _ (by omega) ⟨j + 1, i', k', c + stC (nth st j), by simp [A0, A1, A2, A8, A9, A10, A11, e1, e2], by simp [A0, A1, A2, A8, A9, A10, A11, e1, e2], by simp [A0, A1, A2, A8, A9, A10, A11, e1, e2], by simp [A0, A1, A2, A8, A9, A10, A11, e1, e2], by simp [A0, A1, A2, A8, A9, A10, A11, e1, e2], by simp [A0, A1, A2, A8, A9, A10, A11, e1, e2], by simp [A0, A1, A2, A8, A9, A10, A11, e1, e2], by omega, by omega, ht⟩
  · rw [List.drop_of_length_le (by omega)] at ht
    simp only [costF] at ht
    repeat' (first | (refine wpc_split _ (fun hc => ?_) (fun hc => ?_) <;> (try simp at hc)) | (refine ww_split _ (fun hc => ?_) (fun hc => ?_) <;> (try simp at hc)) | (refine wp_drawF (by kernel_rfl) ?_) | (refine wk_yldW _ ?_) | (refine layOwe _ (by kernel_rfl) ?_) | (refine owe ?_ (fun ho => ?_)) | (simp (disch := first | assumption | omega | (simp; done) | (simp; omega)) [A0, A1, A2, A8, A9, A10, A11, -getElem?_pos, List.getElem?_cons_zero, List.getElem?_cons_succ]))
    all_goals rw [← ht]
    all_goals first | (simp; done) | (simp; omega) | (simp; intros; omega) | (refine ⟨rfl, ?_⟩; rw [Bool.eq_iff_iff]; simp; omega) | simp
@[simp] theorem S20 (a b : List (List UInt8)) (st : List Int) (hs : a.length < 1099511627776 ∧ b.length < 1099511627776 ∧ st.length < 1099511627776) (q1 q2 q3 : Fl) (hh : Heap) : Ci cfg (.func (.func 20) [] []) [R  q1 eS a, R  q2 eS b, R  q3 eI st] hh = some (.ret (.tuple [.int .i64 (costF a b st 0 0 0).1, .bool (costF a b st 0 0 0).2]), hh) :=
  Ci_K cfg rfl rfl (by simp) (by simp) (C20 a b st hs)
end Go.Ab
