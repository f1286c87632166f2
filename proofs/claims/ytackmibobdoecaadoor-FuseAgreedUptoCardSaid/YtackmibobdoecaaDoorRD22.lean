/- Layer 22 (fuse): how cells are read. -/
import Derived.Test.YtackmibobdoecaaDoorRD21
import Derived.Test.YtackmibobdoecaaDoorP22
set_option linter.unusedVariables false
set_option linter.unusedSimpArgs false
set_option linter.unusedSectionVars false
set_option linter.deprecated false
namespace Go.Ab
open Go.Proofs Go.Proofs.YtackmibobdoecaaDoor
set_option maxRecDepth 100000
def szC (c : Cell) : Nat := c.text.length + (c.alts.map fun s : List UInt8 => s.length + 1).sum
theorem rd_cell : Reads Tryd.prog 40 (fun _ : Cell => True) eC szC := by
  have h := reads_struct (t := 40) (P := Tryd.prog) Tryd.underlying40 (readsF_cons rfl rd_string (readsF_cons (by kernel_rfl) rd_strings (readsF_nil _)))
  exact reads_congr h fun a _ => ⟨⟨a.1, a.2.1⟩, trivial, rfl, by simp [szC]⟩
theorem rd_cells : Reads Tryd.prog 37 (fun l : List Cell => ∀ y ∈ l, True) (fun l => [R fl0 eC l]) (fun l => (l.map fun x => szC x + 1).sum) := reads_slice Tryd.underlying37 (by kernel_rfl) (by rw [show Tryd.prog.cellsOf 40 = 2 by kernel_rfl]; decide) rd_cell
theorem rd_slots : Reads Tryd.prog 22 (fun l : List (List Cell) => ∀ r ∈ l, ∀ y ∈ r, True) (fun l => [R fl0 (eR eC) l]) (fun l => (l.map fun r => (r.map fun x => szC x + 1).sum + 1).sum) := reads_slice Tryd.underlying22 (by kernel_rfl) (by rw [show Tryd.prog.cellsOf 37 = 1 by kernel_rfl]; decide) rd_cells
theorem smS_rd {r : List Cell} (h : (r.map fun x => szC x + 1).sum ≤ 1048576) : smS r := by
  have h1 := sum_len (f := szC) r
  refine ⟨by omega, fun c hc => ?_⟩
  have h2 := sum_mem (f := fun x => szC x + 1) hc
  have h3 : szC c = c.text.length + (c.alts.map fun s : List UInt8 => s.length + 1).sum := rfl
  have h4 := strs_len c.alts
  refine ⟨by omega, by omega, fun y hy => ?_⟩
  have := strs_mem hy
  omega
theorem smL_rd {l : List (List Cell)} (h : (l.map fun r => (r.map fun x => szC x + 1).sum + 1).sum ≤ 1048576) : smL l := by
  have h1 := sum_len (f := fun r : List Cell => (r.map fun x => szC x + 1).sum) l
  refine ⟨by omega, fun r hr => smS_rd ?_⟩
  have := sum_mem (f := fun r : List Cell => (r.map fun x => szC x + 1).sum + 1) hr
  omega
end Go.Ab
