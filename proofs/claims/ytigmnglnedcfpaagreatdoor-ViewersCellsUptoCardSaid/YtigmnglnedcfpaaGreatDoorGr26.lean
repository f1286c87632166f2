/- A part of the proof. -/
import Derived.Test.YtigmnglnedcfpaaGreatDoorGr18
import Derived.Test.YtigmnglnedcfpaaGreatDoorGr23
set_option linter.unusedVariables false
set_option linter.unusedSimpArgs false
set_option linter.unusedSectionVars false
set_option linter.deprecated false
namespace Go.Ab
open Go.Proofs
set_option maxRecDepth 100000
set_option maxHeartbeats 4000000
def exS : VwZ := ⟨0, 0, 2, 300, 0, 60, false, ⟨[⟨97, 122, 10⟩], 3, []⟩, [], ⟨100, 50, []⟩⟩
def exC : VwZ := ⟨0, 0, 1, 0, 20, 100, false, ⟨[], 0, []⟩, [⟨[97], [1]⟩, ⟨[98], [3]⟩, ⟨[97, 98], [7]⟩], ⟨100, 50, []⟩⟩
theorem exS_w : widthW exS [97, 98, 32, 99] = (33, 0) := by decide +kernel
theorem exS_n : needW exS [97, 98, 32, 99] = (240, 0) := by decide +kernel
theorem exS_s : shapeW exS [97, 98, 32, 215, 144, 215, 145] = ([97, 98, 32, 215, 145, 215, 144], 0) := by decide +kernel
theorem exC_w : widthW exC [97, 97, 98] = (2, 0) := by decide +kernel
theorem exC_n : needW exC [97, 97, 98] = (300, 0) := by decide +kernel
theorem exC_s : shapeW exC [97, 98, 32, 215, 144, 215, 145] = ([97, 98, 32, 215, 144, 215, 145], 0) := by decide +kernel
theorem exC_x : widthW exC [120] = (0, 450) := by decide +kernel
theorem exS_f : needW exS [255] = (0, 90) := by decide +kernel
theorem exS_0 : widthW exS [] = (0, 0) := by decide +kernel
theorem exC_0 : widthW exC [] = (0, 0) := by decide +kernel
theorem ex_1 : vwE ⟨0, 0, 0, 0, 0, 0, false, ⟨[], 0, []⟩, [], ⟨0, 0, []⟩⟩ = 450 := by decide +kernel
theorem ex_2 : vwE { exS with signs := exC.signs } = 450 := by decide +kernel
theorem ex_3 : vwE { exC with room := 1 } = 450 := by decide +kernel
theorem ex_4 : vwE { exS with lines := 9 } = 450 := by decide +kernel
theorem ex_5 : vwE exS = 0 := by decide +kernel
theorem ex_6 : vwE exC = 0 := by decide +kernel
end Go.Ab
namespace Go.Ab
open Go.Proofs
set_option maxRecDepth 100000
set_option maxHeartbeats 4000000
theorem C24 : Kc cfg 24 [] (.ret (.agg (cellsV exS))) := kc_run (n := 200) (by kernel_rfl)
@[simp] theorem S24 (h : Heap) : Ci cfg (.func (.func 24) [] []) [] h = some (.ret (.agg (cellsV exS)), h) := Ci_K cfg rfl rfl rfl rfl C24
theorem C25 : Kc cfg 25 [] (.ret (.agg (cellsV exC))) := kc_run (n := 200) (by kernel_rfl)
@[simp] theorem S25 (h : Heap) : Ci cfg (.func (.func 25) [] []) [] h = some (.ret (.agg (cellsV exC)), h) := Ci_K cfg rfl rfl rfl rfl C25
end Go.Ab
