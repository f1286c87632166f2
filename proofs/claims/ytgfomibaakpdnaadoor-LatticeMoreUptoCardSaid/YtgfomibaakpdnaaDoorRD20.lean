/- Layer 20 (lattice): how edges are read. -/
import Derived.Test.YtgfomibaakpdnaaDoorRD21
import Derived.Test.YtgfomibaakpdnaaDoorP20
set_option linter.unusedVariables false
set_option linter.unusedSimpArgs false
set_option linter.unusedSectionVars false
set_option linter.deprecated false
namespace Go.Ab
open Go.Proofs Go.Proofs.YtgfomibaakpdnaaDoor
set_option maxRecDepth 100000
theorem rd_edge : Reads Tryd.prog 48 (fun _ : Edge => True) eE (fun x => x.text.length) := by
  have h := reads_struct (t := 48) (P := Tryd.prog) Tryd.underlying48 (readsF_cons rfl rd_int (readsF_cons (by kernel_rfl) rd_int (readsF_cons (by kernel_rfl) rd_int (readsF_cons (by kernel_rfl) rd_string (readsF_nil _)))))
  exact reads_congr h fun a _ => ⟨⟨a.1, a.2.1, a.2.2.1, a.2.2.2.1⟩, trivial, rfl, by simp⟩
theorem rd_edges : Reads Tryd.prog 22 (fun l : List Edge => ∀ y ∈ l, True) (fun l => [R fl0 eE l]) (fun l => (l.map fun x => x.text.length + 1).sum) := reads_slice Tryd.underlying22 (by kernel_rfl) (by rw [show Tryd.prog.cellsOf 48 = 4 by kernel_rfl]; decide) rd_edge
theorem edges_len (l : List Edge) : l.length ≤ (l.map fun x => x.text.length + 1).sum := sum_len l
theorem edges_mem {l : List Edge} {x : Edge} (h : x ∈ l) : x.text.length < (l.map fun x => x.text.length + 1).sum := by
  have := sum_mem (f := fun x : Edge => x.text.length + 1) h
  omega
end Go.Ab
