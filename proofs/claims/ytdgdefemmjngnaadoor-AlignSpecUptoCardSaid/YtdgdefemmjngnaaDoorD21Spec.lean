/- AlignSpec: the law. -/
import Derived.Test.YtdgdefemmjngnaaDoorD21
import Derived.Test.YtdgdefemmjngnaaDoorS21
import Derived.Test.YtdgdefemmjngnaaDoorA5
set_option linter.unusedVariables false
set_option linter.unusedSimpArgs false
set_option linter.unusedSectionVars false
set_option linter.deprecated false
namespace Go.Ab
open Go.Proofs
set_option maxRecDepth 100000
set_option maxHeartbeats 4000000
theorem C3 (a b : List (List UInt8)) (hs : a.length < 1099511627776 ∧ b.length < 1099511627776) (ha : ∀ x ∈ a, x.length < 1099511627776) (hb : ∀ x ∈ b, x.length < 1099511627776) : Kc cfg 3 [R fl0 eS a, R fl0 eS b] (.ret (.bool true)) := by
  have hn : (alS a b).1.length < 1099511627776 := by have := alS_len a b; omega
  cases hfa : fewL a with
  | false =>
    refine outS_of_wp cfg (fn := Tryd.f3) Tryd.func3 rfl (by simp [Tryd.f3]) ?_
    simp (disch := first | assumption | omega | (simp; done) | (simp; omega)) [-getElem?_pos, List.getElem?_cons_zero, List.getElem?_cons_succ, Tryd.f3, hfa]
    repeat' (first | (refine wpc_split _ (fun hc => ?_) (fun hc => ?_) <;> (try simp at hc)) | (refine ww_split _ (fun hc => ?_) (fun hc => ?_) <;> (try simp at hc)) | (refine wp_drawF (by kernel_rfl) ?_) | (refine wk_yldW _ ?_) | (refine layOwe _ (by kernel_rfl) ?_) | (refine owe ?_ (fun ho => ?_)) | (simp (disch := first | assumption | omega | (simp; done) | (simp; omega)) [hfa, -getElem?_pos, List.getElem?_cons_zero, List.getElem?_cons_succ]))
  | true =>
    cases hfb : fewL b with
    | false =>
      refine outS_of_wp cfg (fn := Tryd.f3) Tryd.func3 rfl (by simp [Tryd.f3]) ?_
      simp (disch := first | assumption | omega | (simp; done) | (simp; omega)) [-getElem?_pos, List.getElem?_cons_zero, List.getElem?_cons_succ, Tryd.f3, hfa, hfb]
      repeat' (first | (refine wpc_split _ (fun hc => ?_) (fun hc => ?_) <;> (try simp at hc)) | (refine ww_split _ (fun hc => ?_) (fun hc => ?_) <;> (try simp at hc)) | (refine wp_drawF (by kernel_rfl) ?_) | (refine wk_yldW _ ?_) | (refine layOwe _ (by kernel_rfl) ?_) | (refine owe ?_ (fun ho => ?_)) | (simp (disch := first | assumption | omega | (simp; done) | (simp; omega)) [hfa, hfb, -getElem?_pos, List.getElem?_cons_zero, List.getElem?_cons_succ]))
    | true =>
      refine outS_of_wp cfg (fn := Tryd.f3) Tryd.func3 rfl (by simp [Tryd.f3]) ?_
      simp (disch := first | assumption | omega | (simp; done) | (simp; omega)) [-getElem?_pos, List.getElem?_cons_zero, List.getElem?_cons_succ, Tryd.f3, hfa, hfb]
      repeat' (first | (refine wpc_split _ (fun hc => ?_) (fun hc => ?_) <;> (try simp at hc)) | (refine ww_split _ (fun hc => ?_) (fun hc => ?_) <;> (try simp at hc)) | (refine wp_drawF (by kernel_rfl) ?_) | (refine wk_yldW _ ?_) | (refine layOwe _ (by kernel_rfl) ?_) | (refine owe ?_ (fun ho => ?_)) | (simp (disch := first | assumption | omega | (simp; done) | (simp; omega)) [hfa, hfb, -getElem?_pos, List.getElem?_cons_zero, List.getElem?_cons_succ]))
@[simp] theorem S3 (a b : List (List UInt8)) (hs : a.length < 1099511627776 ∧ b.length < 1099511627776) (ha : ∀ x ∈ a, x.length < 1099511627776) (hb : ∀ x ∈ b, x.length < 1099511627776) (q1 q2 : Fl) (hh : Heap) : Ci cfg (.func (.func 3) [] []) [R  q1 eS a, R  q2 eS b] hh = some (.ret (.bool true), hh) :=
  Ci_K cfg rfl rfl (by simp) (by simp) (C3 a b hs ha hb)
end Go.Ab
