/- Layer 9 (text): Kind. -/
import Derived.Test.YtjhpmmomalaiiaaDoorT9
set_option linter.unusedVariables false
set_option linter.unusedSimpArgs false
set_option linter.unusedSectionVars false
set_option linter.deprecated false
namespace Go.Ab
open Go.Proofs
set_option maxRecDepth 100000
set_option maxHeartbeats 4000000
theorem C19 (r : Int) : Kc cfg 19 [.int .i64 r] (.ret (.tuple [.int .i64 (kindG r).1, .int .i64 (kindG r).2])) := by
  refine outS_of_wp cfg (fn := Tryd.f19) Tryd.func19 rfl (by simp [Tryd.f19]) ?_
  simp (disch := first | assumption | omega | (simp; done) | (simp; omega)) [-getElem?_pos, List.getElem?_cons_zero, List.getElem?_cons_succ, Tryd.f19]
  repeat' (first | (refine wp_unroll rfl ?_) | (refine wpc_split _ (fun hc => ?_) (fun hc => ?_) <;> (try simp at hc)) | (refine ww_split _ (fun hc => ?_) (fun hc => ?_) <;> (try simp at hc)) | (refine wp_drawF (by kernel_rfl) ?_) | (refine wk_yldW _ ?_) | (refine layOwe _ (by kernel_rfl) ?_) | (refine owe ?_ (fun ho => ?_)) | (simp (disch := first | assumption | omega | (simp; done) | (simp; omega)) [Tryd.f37, Tryd.f48, Tryd.f54, Tryd.f56, Tryd.f55, Tryd.f59, -getElem?_pos, List.getElem?_cons_zero, List.getElem?_cons_succ]))
  all_goals grind [kindG, kindR, point, spaceR]
@[simp] theorem S19 (r : Int) (hh : Heap) : Ci cfg (.func (.func 19) [] []) [.int .i64 r] hh = some (.ret (.tuple [.int .i64 (kindG r).1, .int .i64 (kindG r).2]), hh) :=
  Ci_K cfg rfl rfl (by simp) (by simp) (C19 r)
end Go.Ab
