/- AlignProofSpec: the law. -/
import Derived.Test.YtdgdefemmjngnaaDoorD21
import Derived.Test.YtdgdefemmjngnaaDoorS21
set_option linter.unusedVariables false
set_option linter.unusedSimpArgs false
set_option linter.unusedSectionVars false
set_option linter.deprecated false
namespace Go.Ab
open Go.Proofs
set_option maxRecDepth 100000
set_option maxHeartbeats 4000000
theorem prS_len (a b : List Wd) : (prS a b).1.length < 1099511627776 ∧ ∀ r ∈ (prS a b).1, r.length < 1099511627776 := by
  unfold prS
  split
  · rename_i h
    have := errS_ok h
    refine ⟨by simp; omega, fun r hr => ?_⟩
    simp [tabF] at hr
    obtain ⟨i, _, rfl⟩ := hr
    simp; omega
  · simp
theorem C4 (a b : List (List UInt8)) (st : List Int) (p : List (List Int)) (hs : a.length < 1099511627776 ∧ b.length < 1099511627776 ∧ st.length < 1099511627776) (hpl : p.length < 1099511627776) (ha : ∀ x ∈ a, x.length < 1099511627776) (hb : ∀ x ∈ b, x.length < 1099511627776) (hl : ∀ r ∈ p, r.length < 1099511627776) : Kc cfg 4 [R fl0 eS a, R fl0 eS b, R fl0 eI st, R fl0 (eR eI) p] (.ret (.bool true)) := by
  have hs1 : a.length < 1099511627776 ∧ b.length < 1099511627776 := ⟨hs.1, hs.2.1⟩
  have hs2 : st.length < 1099511627776 ∧ p.length < 1099511627776 := ⟨hs.2.2, hpl⟩
  obtain ⟨g1, g2⟩ := prS_len a b
  have g3 := S19 (prS a b).1 (prS a b).1 g1 g2
  cases hfa : fewL a with
  | false =>
    refine outS_of_wp cfg (fn := Tryd.f4) Tryd.func4 rfl (by simp [Tryd.f4]) ?_
    simp (disch := first | assumption | omega | (simp; done) | (simp; omega)) [-getElem?_pos, List.getElem?_cons_zero, List.getElem?_cons_succ, Tryd.f4, hfa]
    repeat' (first | (refine wpc_split _ (fun hc => ?_) (fun hc => ?_) <;> (try simp at hc)) | (refine ww_split _ (fun hc => ?_) (fun hc => ?_) <;> (try simp at hc)) | (refine wp_drawF (by kernel_rfl) ?_) | (refine wk_yldW _ ?_) | (refine layOwe _ (by kernel_rfl) ?_) | (refine owe ?_ (fun ho => ?_)) | (simp (disch := first | assumption | omega | (simp; done) | (simp; omega)) [hfa, -getElem?_pos, List.getElem?_cons_zero, List.getElem?_cons_succ]))
  | true =>
    cases hfb : fewL b with
    | false =>
      refine outS_of_wp cfg (fn := Tryd.f4) Tryd.func4 rfl (by simp [Tryd.f4]) ?_
      simp (disch := first | assumption | omega | (simp; done) | (simp; omega)) [-getElem?_pos, List.getElem?_cons_zero, List.getElem?_cons_succ, Tryd.f4, hfa, hfb]
      repeat' (first | (refine wpc_split _ (fun hc => ?_) (fun hc => ?_) <;> (try simp at hc)) | (refine ww_split _ (fun hc => ?_) (fun hc => ?_) <;> (try simp at hc)) | (refine wp_drawF (by kernel_rfl) ?_) | (refine wk_yldW _ ?_) | (refine layOwe _ (by kernel_rfl) ?_) | (refine owe ?_ (fun ho => ?_)) | (simp (disch := first | assumption | omega | (simp; done) | (simp; omega)) [hfa, hfb, -getElem?_pos, List.getElem?_cons_zero, List.getElem?_cons_succ]))
    | true =>
      cases hfp : fewP st p with
      | false =>
        refine outS_of_wp cfg (fn := Tryd.f4) Tryd.func4 rfl (by simp [Tryd.f4]) ?_
        simp (disch := first | assumption | omega | (simp; done) | (simp; omega)) [-getElem?_pos, List.getElem?_cons_zero, List.getElem?_cons_succ, Tryd.f4, hfa, hfb, hfp]
        repeat' (first | (refine wpc_split _ (fun hc => ?_) (fun hc => ?_) <;> (try simp at hc)) | (refine ww_split _ (fun hc => ?_) (fun hc => ?_) <;> (try simp at hc)) | (refine wp_drawF (by kernel_rfl) ?_) | (refine wk_yldW _ ?_) | (refine layOwe _ (by kernel_rfl) ?_) | (refine owe ?_ (fun ho => ?_)) | (simp (disch := first | assumption | omega | (simp; done) | (simp; omega)) [hfa, hfb, hfp, -getElem?_pos, List.getElem?_cons_zero, List.getElem?_cons_succ]))
      | true =>
        refine outS_of_wp cfg (fn := Tryd.f4) Tryd.func4 rfl (by simp [Tryd.f4]) ?_
        simp (disch := first | assumption | omega | (simp; done) | (simp; omega)) [-getElem?_pos, List.getElem?_cons_zero, List.getElem?_cons_succ, Tryd.f4, hfa, hfb, hfp, g3]
        repeat' (first | (refine wpc_split _ (fun hc => ?_) (fun hc => ?_) <;> (try simp at hc)) | (refine ww_split _ (fun hc => ?_) (fun hc => ?_) <;> (try simp at hc)) | (refine wp_drawF (by kernel_rfl) ?_) | (refine wk_yldW _ ?_) | (refine layOwe _ (by kernel_rfl) ?_) | (refine owe ?_ (fun ho => ?_)) | (simp (disch := first | assumption | omega | (simp; done) | (simp; omega)) [hfa, hfb, hfp, g3, -getElem?_pos, List.getElem?_cons_zero, List.getElem?_cons_succ]))
@[simp] theorem S4 (a b : List (List UInt8)) (st : List Int) (p : List (List Int)) (hs : a.length < 1099511627776 ∧ b.length < 1099511627776 ∧ st.length < 1099511627776) (hpl : p.length < 1099511627776) (ha : ∀ x ∈ a, x.length < 1099511627776) (hb : ∀ x ∈ b, x.length < 1099511627776) (hl : ∀ r ∈ p, r.length < 1099511627776) (q1 q2 q3 q4 : Fl) (hh : Heap) : Ci cfg (.func (.func 4) [] []) [R  q1 eS a, R  q2 eS b, R  q3 eI st, R  q4 (eR eI) p] hh = some (.ret (.bool true), hh) :=
  Ci_K cfg rfl rfl (by simp) (by simp) (C4 a b st p hs hpl ha hb hl)
end Go.Ab
