
import Derived.Test.YtlmhbemgaikmaaaGreatDoorGr10
set_option linter.unusedVariables false
set_option linter.unusedSimpArgs false
set_option linter.unusedSectionVars false
set_option linter.deprecated false
namespace Go.Ab
open Go.Proofs
set_option maxRecDepth 100000
set_option maxHeartbeats 4000000
theorem C73 (r : Int) : Kc cfg 73 [.int .i64 r] (.ret (.tuple [.int .i64 (kindG r).1, .int .i64 (kindG r).2])) := by
 refine outS_of_wp cfg (fn := Tryz.f73) Tryz.func73 rfl (by simp [Tryz.f73]) ?_
 simp (disch := first | assumption | omega | (simp; done) | (simp; omega)) [-getElem?_pos, gZ, gS, Tryz.f73]
 repeat' (first | (refine wp_unroll rfl ?_) | ((first | refine wA ?_ ?_ | refine wB ?_ ?_) <;> intro hc <;> try simp at hc) | refine wF ?_ | refine wY ?_ | refine wL ?_ | refine owe ?_ fun ho => ?_ | (simp (disch := first | assumption | omega | (simp; done) | (simp; omega)) [Tryz.f95, Tryz.f101, Tryz.f102, Tryz.f104, Tryz.f103, Tryz.f105, -getElem?_pos, gZ, gS]))
 all_goals grind [kindG, kindR, point, spaceR]
@[simp] theorem S73 (r : Int) (hh : Heap) : Ci cfg (.func (.func 73) [] []) [.int .i64 r] hh = some (.ret (.tuple [.int .i64 (kindG r).1, .int .i64 (kindG r).2]), hh) :=
 Ci_K cfg rfl rfl (by simp) (by simp) (C73 r)
end Go.Ab
