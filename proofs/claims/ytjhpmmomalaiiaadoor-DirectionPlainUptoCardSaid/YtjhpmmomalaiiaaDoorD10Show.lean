/- DirectionShowSpec: the law. -/
import Derived.Test.YtjhpmmomalaiiaaDoorB7
set_option linter.unusedVariables false
set_option linter.unusedSimpArgs false
set_option linter.unusedSectionVars false
set_option linter.deprecated false
namespace Go.Ab
open Go.Proofs
set_option maxRecDepth 100000
set_option maxHeartbeats 4000000
theorem C4 (s : List UInt8) (right : Bool) (hs : s.length < 1099511627776) : Kc cfg 4 [.str s, .bool right] (.ret (.bool true)) := by
  by_cases h1 : s.length ≤ 300
  · skip
    refine outS_of_wp cfg (fn := Tryd.f4) Tryd.func4 rfl (by simp [Tryd.f4]) ?_
    simp (disch := first | assumption | omega | (simp; done) | (simp; omega)) [-getElem?_pos, List.getElem?_cons_zero, List.getElem?_cons_succ, Tryd.f4]
    repeat' (first | (refine wpc_split _ (fun hc => ?_) (fun hc => ?_) <;> (try simp at hc)) | (refine ww_split _ (fun hc => ?_) (fun hc => ?_) <;> (try simp at hc)) | (refine wp_drawF (by kernel_rfl) ?_) | (refine wk_yldW _ ?_) | (refine layOwe _ (by kernel_rfl) ?_) | (refine owe ?_ (fun ho => ?_)) | (simp (disch := first | assumption | omega | (simp; done) | (simp; omega)) [-getElem?_pos, List.getElem?_cons_zero, List.getElem?_cons_succ]))
    all_goals first | rfl | (exfalso; omega)
  · by_cases h2 : s.length ≤ 4096
    · skip
      refine outS_of_wp cfg (fn := Tryd.f4) Tryd.func4 rfl (by simp [Tryd.f4]) ?_
      simp (disch := first | assumption | omega | (simp; done) | (simp; omega)) [-getElem?_pos, List.getElem?_cons_zero, List.getElem?_cons_succ, Tryd.f4]
      repeat' (first | (refine wpc_split _ (fun hc => ?_) (fun hc => ?_) <;> (try simp at hc)) | (refine ww_split _ (fun hc => ?_) (fun hc => ?_) <;> (try simp at hc)) | (refine wp_drawF (by kernel_rfl) ?_) | (refine wk_yldW _ ?_) | (refine layOwe _ (by kernel_rfl) ?_) | (refine owe ?_ (fun ho => ?_)) | (simp (disch := first | assumption | omega | (simp; done) | (simp; omega)) [-getElem?_pos, List.getElem?_cons_zero, List.getElem?_cons_succ]))
      all_goals first | rfl | (exfalso; omega)
    · by_cases h3 : s.length ≤ 5000
      · skip
        refine outS_of_wp cfg (fn := Tryd.f4) Tryd.func4 rfl (by simp [Tryd.f4]) ?_
        simp (disch := first | assumption | omega | (simp; done) | (simp; omega)) [-getElem?_pos, List.getElem?_cons_zero, List.getElem?_cons_succ, Tryd.f4]
        repeat' (first | (refine wpc_split _ (fun hc => ?_) (fun hc => ?_) <;> (try simp at hc)) | (refine ww_split _ (fun hc => ?_) (fun hc => ?_) <;> (try simp at hc)) | (refine wp_drawF (by kernel_rfl) ?_) | (refine wk_yldW _ ?_) | (refine layOwe _ (by kernel_rfl) ?_) | (refine owe ?_ (fun ho => ?_)) | (simp (disch := first | assumption | omega | (simp; done) | (simp; omega)) [-getElem?_pos, List.getElem?_cons_zero, List.getElem?_cons_succ]))
        all_goals first | rfl | (exfalso; omega)
      · skip
        refine outS_of_wp cfg (fn := Tryd.f4) Tryd.func4 rfl (by simp [Tryd.f4]) ?_
        simp (disch := first | assumption | omega | (simp; done) | (simp; omega)) [-getElem?_pos, List.getElem?_cons_zero, List.getElem?_cons_succ, Tryd.f4]
        repeat' (first | (refine wpc_split _ (fun hc => ?_) (fun hc => ?_) <;> (try simp at hc)) | (refine ww_split _ (fun hc => ?_) (fun hc => ?_) <;> (try simp at hc)) | (refine wp_drawF (by kernel_rfl) ?_) | (refine wk_yldW _ ?_) | (refine layOwe _ (by kernel_rfl) ?_) | (refine owe ?_ (fun ho => ?_)) | (simp (disch := first | assumption | omega | (simp; done) | (simp; omega)) [-getElem?_pos, List.getElem?_cons_zero, List.getElem?_cons_succ]))
        all_goals first | rfl | (exfalso; omega)
@[simp] theorem S4 (s : List UInt8) (right : Bool) (hs : s.length < 1099511627776) (hh : Heap) : Ci cfg (.func (.func 4) [] []) [.str s, .bool right] hh = some (.ret (.bool true), hh) :=
  Ci_K cfg rfl rfl (by simp) (by simp) (C4 s right hs)
end Go.Ab
