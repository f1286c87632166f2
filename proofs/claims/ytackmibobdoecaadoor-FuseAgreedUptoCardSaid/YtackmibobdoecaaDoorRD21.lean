/- How lists of texts are read. -/
import Derived.Test.YtackmibobdoecaaDoorRD
set_option linter.unusedVariables false
set_option linter.unusedSimpArgs false
set_option linter.unusedSectionVars false
set_option linter.deprecated false
namespace Go.Ab
open Go.Proofs Go.Proofs.YtackmibobdoecaaDoor
set_option maxRecDepth 100000
theorem rd_strings : Reads Tryd.prog 29 (fun l : List (List UInt8) => ∀ y ∈ l, True) (fun l => [R fl0 eS l]) (fun l => (l.map fun s => s.length + 1).sum) := reads_slice Tryd.underlying29 (by kernel_rfl) (by rw [show Tryd.prog.cellsOf 9 = 1 by kernel_rfl]; decide) rd_string
theorem strs_len (l : List (List UInt8)) : l.length ≤ (l.map fun s => s.length + 1).sum := sum_len l
theorem strs_mem {l : List (List UInt8)} {x : List UInt8} (h : x ∈ l) : x.length < (l.map fun s => s.length + 1).sum := by
  have := sum_mem (f := fun s : List UInt8 => s.length + 1) h
  omega
theorem rd_table : Reads Tryd.prog 64 (fun l : List (List Int) => ∀ r ∈ l, ∀ y ∈ r, (Lit.int .i64 y).wf = true) (fun l => [R fl0 (eR eI) l]) (fun l => (l.map fun r => (r.map fun _ => 0 + 1).sum + 1).sum) := reads_slice Tryd.underlying64 (by kernel_rfl) (by rw [show Tryd.prog.cellsOf 30 = 1 by kernel_rfl]; decide) rd_ints
theorem tab_len (l : List (List Int)) : l.length ≤ (l.map fun r => (r.map fun _ => 0 + 1).sum + 1).sum := sum_len l
theorem tab_mem {l : List (List Int)} {r : List Int} (h : r ∈ l) : r.length < (l.map fun r => (r.map fun _ => 0 + 1).sum + 1).sum := by
  have := sum_mem (f := fun r : List Int => (r.map fun _ => 0 + 1).sum + 1) h
  have h2 := sum_one r
  simp only [Nat.zero_add] at this ⊢
  omega
end Go.Ab
