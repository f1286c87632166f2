/- How lists of texts are read. -/
import Derived.Test.YtfgkjpfdpcjciaaDoorRD
set_option linter.unusedVariables false
set_option linter.unusedSimpArgs false
set_option linter.unusedSectionVars false
set_option linter.deprecated false
namespace Go.Ab
open Go.Proofs Go.Proofs.YtfgkjpfdpcjciaaDoor
set_option maxRecDepth 100000
theorem rd_strings : Reads Tryd.prog 34 (fun l : List (List UInt8) => ∀ y ∈ l, True) (fun l => [R fl0 eS l]) (fun l => (l.map fun s => s.length + 1).sum) := reads_slice Tryd.underlying34 (by kernel_rfl) (by rw [show Tryd.prog.cellsOf 9 = 1 by kernel_rfl]; decide) rd_string
theorem strs_len (l : List (List UInt8)) : l.length ≤ (l.map fun s => s.length + 1).sum := sum_len l
theorem strs_mem {l : List (List UInt8)} {x : List UInt8} (h : x ∈ l) : x.length < (l.map fun s => s.length + 1).sum := by
  have := sum_mem (f := fun s : List UInt8 => s.length + 1) h
  omega
end Go.Ab
