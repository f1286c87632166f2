/- Layer 9 (text): the examples. -/
import Derived.Test.YtgeohlknkajlkaaDoorT7
set_option linter.unusedVariables false
set_option linter.unusedSimpArgs false
set_option linter.unusedSectionVars false
set_option linter.deprecated false
namespace Go.Ab
open Go.Proofs
set_option maxRecDepth 100000
set_option maxHeartbeats 4000000
theorem C10 : Kc cfg 10 [] (.ret (.bool true)) := kc_run (n := 600) (by kernel_rfl)
@[simp] theorem S10 (h : Heap) : Ci cfg (.func (.func 10) [] []) [] h = some (.ret (.bool true), h) := Ci_K cfg rfl rfl rfl rfl C10
theorem runesG_len (s : List UInt8) : (runesG s).1.length ≤ 4096 := by
  unfold runesG
  split
  · simp
  · cases hr : runes s with
    | none => simp
    | some l => have := runes_len _ _ _ (Nat.le_refl _) hr; simp only; omega
end Go.Ab
