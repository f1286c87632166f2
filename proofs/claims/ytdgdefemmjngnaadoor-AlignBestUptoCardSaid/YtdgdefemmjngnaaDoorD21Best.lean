/- AlignBest: the law. -/
import Derived.Test.YtdgdefemmjngnaaDoorD21
import Derived.Test.YtdgdefemmjngnaaDoorS21
import Derived.Test.YtdgdefemmjngnaaDoorD21Proof
set_option linter.unusedVariables false
set_option linter.unusedSimpArgs false
set_option linter.unusedSectionVars false
set_option linter.deprecated false
namespace Go.Ab
open Go.Proofs
set_option maxRecDepth 100000
set_option maxHeartbeats 4000000
theorem acS_own {a b : List Wd} (he : errS a b = 0) : acS a b (alignF a b) (tabF (a.length + 1) (b.length + 1) (T21 a b)) = (true, 0) := by
  have h64 := errS_ok he
  have hc := costF_of (alF_path a b)
  unfold acS
  rw [if_pos he, hc, holds_T21 h64, T21_row (Nat.zero_le _) (Nat.zero_le _), T21_row (Nat.le_refl _) (Nat.le_refl _), T21_end]
  simp [T21_lev]
theorem acS_cost {a b : List Wd} {st : List Int} {p : List (List Int)} (he : errS a b = 0) (h : (acS a b st p).1 = true) : (costF a b st 0 0 0).2 = true ∧ (costF a b st 0 0 0).1 = lev a b := by
  unfold acS at h
  rw [if_pos he] at h
  simp only [Bool.and_eq_true, decide_eq_true_eq] at h
  obtain ⟨h1, h2, h3⟩ := h
  refine ⟨h1, ?_⟩
  have h4 := pathC_le (costF_some h1)
  have h5 := holds_path h2 (i := 0) (k := 0) (Nat.zero_le _) (Nat.zero_le _) (alF_path a b)
  omega
theorem costF_least {a b : List Wd} {st : List Int} (h : (costF a b st 0 0 0).2 = true) : lev a b ≤ (costF a b st 0 0 0).1 ∧ ((costF a b st 0 0 0).1 = lev a b → beforeL st (alignF a b) = false) := by
  have h1 := costF_some h
  refine ⟨pathC_le h1, fun e => ?_⟩
  rw [e] at h1
  exact alF_first a b st h1
theorem C5 (a b : List (List UInt8)) (st : List Int) (p : List (List Int)) (hs : a.length < 1099511627776 ∧ b.length < 1099511627776 ∧ st.length < 1099511627776) (hpl : p.length < 1099511627776) (ha : ∀ x ∈ a, x.length < 1099511627776) (hb : ∀ x ∈ b, x.length < 1099511627776) (hl : ∀ r ∈ p, r.length < 1099511627776) : Kc cfg 5 [R fl0 eS a, R fl0 eS b, R fl0 eI st, R fl0 (eR eI) p] (.ret (.bool true)) := by
  have hs1 : a.length < 1099511627776 ∧ b.length < 1099511627776 := ⟨hs.1, hs.2.1⟩
  have hs2 : st.length < 1099511627776 ∧ p.length < 1099511627776 := ⟨hs.2.2, hpl⟩
  cases hfa : fewL a with
  | false =>
    refine outS_of_wp cfg (fn := Tryd.f5) Tryd.func5 rfl (by simp [Tryd.f5]) ?_
    simp (disch := first | assumption | omega | (simp; done) | (simp; omega)) [-getElem?_pos, List.getElem?_cons_zero, List.getElem?_cons_succ, Tryd.f5, hfa]
    repeat' (first | (refine wpc_split _ (fun hc => ?_) (fun hc => ?_) <;> (try simp at hc)) | (refine ww_split _ (fun hc => ?_) (fun hc => ?_) <;> (try simp at hc)) | (refine wp_drawF (by kernel_rfl) ?_) | (refine wk_yldW _ ?_) | (refine layOwe _ (by kernel_rfl) ?_) | (refine owe ?_ (fun ho => ?_)) | (simp (disch := first | assumption | omega | (simp; done) | (simp; omega)) [hfa, -getElem?_pos, List.getElem?_cons_zero, List.getElem?_cons_succ]))
  | true =>
    cases hfb : fewL b with
    | false =>
      refine outS_of_wp cfg (fn := Tryd.f5) Tryd.func5 rfl (by simp [Tryd.f5]) ?_
      simp (disch := first | assumption | omega | (simp; done) | (simp; omega)) [-getElem?_pos, List.getElem?_cons_zero, List.getElem?_cons_succ, Tryd.f5, hfa, hfb]
      repeat' (first | (refine wpc_split _ (fun hc => ?_) (fun hc => ?_) <;> (try simp at hc)) | (refine ww_split _ (fun hc => ?_) (fun hc => ?_) <;> (try simp at hc)) | (refine wp_drawF (by kernel_rfl) ?_) | (refine wk_yldW _ ?_) | (refine layOwe _ (by kernel_rfl) ?_) | (refine owe ?_ (fun ho => ?_)) | (simp (disch := first | assumption | omega | (simp; done) | (simp; omega)) [hfa, hfb, -getElem?_pos, List.getElem?_cons_zero, List.getElem?_cons_succ]))
    | true =>
      cases hfp : fewP st p with
      | false =>
        refine outS_of_wp cfg (fn := Tryd.f5) Tryd.func5 rfl (by simp [Tryd.f5]) ?_
        simp (disch := first | assumption | omega | (simp; done) | (simp; omega)) [-getElem?_pos, List.getElem?_cons_zero, List.getElem?_cons_succ, Tryd.f5, hfa, hfb, hfp]
        repeat' (first | (refine wpc_split _ (fun hc => ?_) (fun hc => ?_) <;> (try simp at hc)) | (refine ww_split _ (fun hc => ?_) (fun hc => ?_) <;> (try simp at hc)) | (refine wp_drawF (by kernel_rfl) ?_) | (refine wk_yldW _ ?_) | (refine layOwe _ (by kernel_rfl) ?_) | (refine owe ?_ (fun ho => ?_)) | (simp (disch := first | assumption | omega | (simp; done) | (simp; omega)) [hfa, hfb, hfp, -getElem?_pos, List.getElem?_cons_zero, List.getElem?_cons_succ]))
      | true =>
        by_cases he : errS a b = 0
        · have h64 := errS_ok he
          have hA : alS a b = (alignF a b, lev a b, 0) := by unfold alS; rw [if_pos he]; rfl
          have hP : prS a b = (tabF (a.length + 1) (b.length + 1) (T21 a b), 0) := by unfold prS; rw [if_pos he]
          have hO := acS_own he
          have hc := costF_of (alF_path a b)
          have hX := acS_cost (st := st) (p := p) he
          have hL := costF_least (a := a) (b := b) (st := st)
          obtain ⟨g1, g2⟩ := prS_len a b
          rw [hP] at g1 g2
          simp only at g1 g2
          have hln : (alignF a b).length < 1099511627776 := by have := alF_len a b; omega
          have hs3 : a.length < 1099511627776 ∧ b.length < 1099511627776 ∧ (alignF a b).length < 1099511627776 := ⟨hs.1, hs.2.1, hln⟩
          have hs4 : st.length < 1099511627776 ∧ (alignF a b).length < 1099511627776 := ⟨hs.2.2, hln⟩
          have cAc := S17 a b (alignF a b) (tabF (a.length + 1) (b.length + 1) (T21 a b)) hs3 g1 ha hb g2
          have cCo := S20 a b (alignF a b) hs3
          have hz : (acS a b st p).2 = 0 := by unfold acS; rw [if_pos he]
          cases hob : (costF a b st 0 0 0).2 with
          | false =>
            have hacf : (acS a b st p).1 = false := by
              cases h : (acS a b st p).1 with
              | false => rfl
              | true => rw [(hX h).1] at hob; cases hob
            refine outS_of_wp cfg (fn := Tryd.f5) Tryd.func5 rfl (by simp [Tryd.f5]) ?_
            simp (config := { maxSteps := 2000000 }) (disch := first | assumption | omega | (simp; done) | (simp; omega)) [-getElem?_pos, List.getElem?_cons_zero, List.getElem?_cons_succ, Tryd.f5, hfa, hfb, hfp, hA, hP, hO, hc, hz, cAc, cCo, hob, hacf]
            repeat' (first | (refine wpc_split _ (fun hc => ?_) (fun hc => ?_) <;> (try simp at hc)) | (refine ww_split _ (fun hc => ?_) (fun hc => ?_) <;> (try simp at hc)) | (refine wp_drawF (by kernel_rfl) ?_) | (refine wk_yldW _ ?_) | (refine layOwe _ (by kernel_rfl) ?_) | (refine owe ?_ (fun ho => ?_)) | (simp (config := { maxSteps := 2000000 }) (disch := first | assumption | omega | (simp; done) | (simp; omega)) [hfa, hfb, hfp, hA, hP, hO, hc, hz, cAc, cCo, hob, hacf, -getElem?_pos, List.getElem?_cons_zero, List.getElem?_cons_succ]))
          | true =>
            obtain ⟨l1, l2⟩ := hL hob
            have hX2 := fun h => (hX h).2
            cases hac : (acS a b st p).1 with
            | false =>
              by_cases heq : (costF a b st 0 0 0).1 = lev a b
              · have l3 := l2 heq
                refine outS_of_wp cfg (fn := Tryd.f5) Tryd.func5 rfl (by simp [Tryd.f5]) ?_
                simp (config := { maxSteps := 2000000 }) (disch := first | assumption | omega | (simp; done) | (simp; omega)) [-getElem?_pos, List.getElem?_cons_zero, List.getElem?_cons_succ, Tryd.f5, hfa, hfb, hfp, hA, hP, hO, hc, hz, cAc, cCo, hob, hac, heq, l3]
                repeat' (first | (refine wpc_split _ (fun hc => ?_) (fun hc => ?_) <;> (try simp at hc)) | (refine ww_split _ (fun hc => ?_) (fun hc => ?_) <;> (try simp at hc)) | (refine wp_drawF (by kernel_rfl) ?_) | (refine wk_yldW _ ?_) | (refine layOwe _ (by kernel_rfl) ?_) | (refine owe ?_ (fun ho => ?_)) | (simp (config := { maxSteps := 2000000 }) (disch := first | assumption | omega | (simp; done) | (simp; omega)) [hfa, hfb, hfp, hA, hP, hO, hc, hz, cAc, cCo, hob, hac, heq, l3, -getElem?_pos, List.getElem?_cons_zero, List.getElem?_cons_succ]))
              · have hlt : decide (lev a b < (costF a b st 0 0 0).1) = true := by simp; omega
                refine outS_of_wp cfg (fn := Tryd.f5) Tryd.func5 rfl (by simp [Tryd.f5]) ?_
                simp (config := { maxSteps := 2000000 }) (disch := first | assumption | omega | (simp; done) | (simp; omega)) [-getElem?_pos, List.getElem?_cons_zero, List.getElem?_cons_succ, Tryd.f5, hfa, hfb, hfp, hA, hP, hO, hc, hz, cAc, cCo, hob, hac, hlt]
                repeat' (first | (refine wpc_split _ (fun hc => ?_) (fun hc => ?_) <;> (try simp at hc)) | (refine ww_split _ (fun hc => ?_) (fun hc => ?_) <;> (try simp at hc)) | (refine wp_drawF (by kernel_rfl) ?_) | (refine wk_yldW _ ?_) | (refine layOwe _ (by kernel_rfl) ?_) | (refine owe ?_ (fun ho => ?_)) | (simp (config := { maxSteps := 2000000 }) (disch := first | assumption | omega | (simp; done) | (simp; omega)) [hfa, hfb, hfp, hA, hP, hO, hc, hz, cAc, cCo, hob, hac, hlt, -getElem?_pos, List.getElem?_cons_zero, List.getElem?_cons_succ]))
                all_goals first
                  | (exfalso; omega)
                  | omega
                  | (simp; omega)
            | true =>
              have heq := hX2 hac
              have l3 := l2 heq
              refine outS_of_wp cfg (fn := Tryd.f5) Tryd.func5 rfl (by simp [Tryd.f5]) ?_
              simp (config := { maxSteps := 2000000 }) (disch := first | assumption | omega | (simp; done) | (simp; omega)) [-getElem?_pos, List.getElem?_cons_zero, List.getElem?_cons_succ, Tryd.f5, hfa, hfb, hfp, hA, hP, hO, hc, hz, cAc, cCo, hob, hac, heq, l3]
              repeat' (first | (refine wpc_split _ (fun hc => ?_) (fun hc => ?_) <;> (try simp at hc)) | (refine ww_split _ (fun hc => ?_) (fun hc => ?_) <;> (try simp at hc)) | (refine wp_drawF (by kernel_rfl) ?_) | (refine wk_yldW _ ?_) | (refine layOwe _ (by kernel_rfl) ?_) | (refine owe ?_ (fun ho => ?_)) | (simp (config := { maxSteps := 2000000 }) (disch := first | assumption | omega | (simp; done) | (simp; omega)) [hfa, hfb, hfp, hA, hP, hO, hc, hz, cAc, cCo, hob, hac, heq, l3, -getElem?_pos, List.getElem?_cons_zero, List.getElem?_cons_succ]))
        · have hA : alS a b = ([], 0, errS a b) := by unfold alS; rw [if_neg he]
          have hP : prS a b = ([], errS a b) := by unfold prS; rw [if_neg he]
          generalize hE : errS a b = E at *
          refine outS_of_wp cfg (fn := Tryd.f5) Tryd.func5 rfl (by simp [Tryd.f5]) ?_
          simp (config := { maxSteps := 2000000 }) (disch := first | assumption | omega | (simp; done) | (simp; omega)) [-getElem?_pos, List.getElem?_cons_zero, List.getElem?_cons_succ, Tryd.f5, hfa, hfb, hfp, hA, hP, he]
          repeat' (first | (refine wpc_split _ (fun hc => ?_) (fun hc => ?_) <;> (try simp at hc)) | (refine ww_split _ (fun hc => ?_) (fun hc => ?_) <;> (try simp at hc)) | (refine wp_drawF (by kernel_rfl) ?_) | (refine wk_yldW _ ?_) | (refine layOwe _ (by kernel_rfl) ?_) | (refine owe ?_ (fun ho => ?_)) | (simp (config := { maxSteps := 2000000 }) (disch := first | assumption | omega | (simp; done) | (simp; omega)) [hfa, hfb, hfp, hA, hP, he, -getElem?_pos, List.getElem?_cons_zero, List.getElem?_cons_succ]))
@[simp] theorem S5 (a b : List (List UInt8)) (st : List Int) (p : List (List Int)) (hs : a.length < 1099511627776 ∧ b.length < 1099511627776 ∧ st.length < 1099511627776) (hpl : p.length < 1099511627776) (ha : ∀ x ∈ a, x.length < 1099511627776) (hb : ∀ x ∈ b, x.length < 1099511627776) (hl : ∀ r ∈ p, r.length < 1099511627776) (q1 q2 q3 q4 : Fl) (hh : Heap) : Ci cfg (.func (.func 5) [] []) [R  q1 eS a, R  q2 eS b, R  q3 eI st, R  q4 (eR eI) p] hh = some (.ret (.bool true), hh) :=
  Ci_K cfg rfl rfl (by simp) (by simp) (C5 a b st p hs hpl ha hb hl)
end Go.Ab
