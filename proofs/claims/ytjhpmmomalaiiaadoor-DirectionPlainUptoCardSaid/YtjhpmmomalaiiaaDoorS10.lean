/- Layer 10 (direction): the examples. -/
import Derived.Test.YtjhpmmomalaiiaaDoorT7
set_option linter.unusedVariables false
set_option linter.unusedSimpArgs false
set_option linter.unusedSectionVars false
set_option linter.deprecated false
namespace Go.Ab
open Go.Proofs
set_option maxRecDepth 100000
set_option maxHeartbeats 4000000
theorem C9 : Kc cfg 9 [] (.ret (.bool true)) := kc_run (n := 900) (by kernel_rfl)
@[simp] theorem S9 (h : Heap) : Ci cfg (.func (.func 9) [] []) [] h = some (.ret (.bool true), h) := Ci_K cfg rfl rfl rfl rfl C9
end Go.Ab
