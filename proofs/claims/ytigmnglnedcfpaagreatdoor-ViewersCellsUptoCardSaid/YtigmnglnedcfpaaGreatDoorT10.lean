
import Derived.Test.YtigmnglnedcfpaaGreatDoorGr9
set_option linter.unusedVariables false
set_option linter.unusedSimpArgs false
set_option linter.unusedSectionVars false
set_option linter.deprecated false
namespace Go.Ab
open Go.Proofs
set_option maxRecDepth 100000
set_option maxHeartbeats 4000000
theorem C132 (r : Int) : Kc cfg 132 [.int .i64 r] (.ret (.tuple [.int .i64 (kindG r).1, .int .i64 (kindG r).2])) := by
 refine outS_of_wp cfg (fn := Tryz.f132) Tryz.func132 rfl (by simp [Tryz.f132]) ?_
 simp (disch := first | assumption | omega | (simp; done) | (simp; omega)) [-getElem?_pos, gZ, gS, Tryz.f132]
 repeat' (first | (refine wp_unroll rfl ?_) | ((first | refine wpc_split _ ?_ ?_ | refine ww_split _ ?_ ?_) <;> intro hc <;> try simp at hc) | (refine wp_drawF (by kernel_rfl) ?_) | refine wk_yldW _ ?_ | refine layOwe _ (by kernel_rfl) ?_ | refine owe ?_ (fun ho => ?_) | (simp (disch := first | assumption | omega | (simp; done) | (simp; omega)) [Tryz.f138, Tryz.f141, Tryz.f142, Tryz.f144, Tryz.f143, Tryz.f145, -getElem?_pos, gZ, gS]))
 all_goals grind [kindG, kindR, point, spaceR]
@[simp] theorem S132 (r : Int) (hh : Heap) : Ci cfg (.func (.func 132) [] []) [.int .i64 r] hh = some (.ret (.tuple [.int .i64 (kindG r).1, .int .i64 (kindG r).2]), hh) :=
 Ci_K cfg rfl rfl (by simp) (by simp) (C132 r)
end Go.Ab
