/- The seat's frame: what is read, the listed tables, a world for the witness. -/
import Derived.Test.YtjhpmmomalaiiaaDoorCards
import Derived.Test.YtjhpmmomalaiiaaDoorTie
import Derived.ProofKit
import Derived.OpenShut
import Derived.Deep.DeepHandedRow
import Derived.Lib.LaidTab
import Derived.Test.YtjhpmmomalaiiaaDoorT4
set_option linter.unusedVariables false
set_option linter.unusedSimpArgs false
set_option linter.unusedSectionVars false
set_option linter.deprecated false
namespace Go.Ab
open Go.Proofs Go.Proofs.YtjhpmmomalaiiaaDoor
set_option maxRecDepth 100000
theorem bulk_one {H : Type} (d : DataW H) : 1 ≤ Rows.uptoBulk d := by
  cases d with
  | lit l => cases l <;> simp [Rows.uptoBulk]
  | nil => simp [Rows.uptoBulk]
  | ptr d => simp [Rows.uptoBulk]
  | slice elems spare => simp [Rows.uptoBulk]
  | agg parts => simp [Rows.uptoBulk]
  | iface t d => simp [Rows.uptoBulk]
  | map entries => simp [Rows.uptoBulk]
  | held h => simp [Rows.uptoBulk]
theorem bulk_all {H : Type} : ∀ l : List (DataW H), Rows.uptoBulkAll l = (l.map Rows.uptoBulk).sum
  | [] => rfl
  | x :: r => by simp only [Rows.uptoBulkAll, List.map_cons, List.sum_cons, bulk_all r]
theorem bulk_ok {H : Type} : BkOk (Rows.uptoBulk (H := H)) where
  one := bulk_one
  str s := by simp [Rows.uptoBulk]
  slice e s := by simp only [Rows.uptoBulk, bulk_all]; omega
  agg p := by simp only [Rows.uptoBulk, bulk_all]; omega
def laidL : List (String × DataW Unit) := [("unicode/utf8.acceptRanges", Rows.laid_unicode_utf8_acceptRanges), ("unicode/utf8.first", Rows.laid_unicode_utf8_first)]
theorem globs_laid {W : World} (h : laidMetH Tryd.prog laidL W) : ∀ i cs, globs i = some cs → RepC (gOf W) cs i 0 := by
  have e : (laidL.filter fun x => x.2.handleName?.isSome) = [] := by kernel_rfl
  unfold laidMetH at h
  rw [e] at h
  obtain ⟨ps, h1, _, _⟩ := h
  intro i cs hi
  unfold globs at hi
  split at hi
  · rename_i h0
    subst h0
    simp only [Option.some.injEq] at hi
    subst hi
    exact laid_dV h1 (n := "unicode/utf8.first") (by simp [laidL]; rfl) (by kernel_rfl) (t := 88) (by kernel_rfl) (k := 5) (by kernel_rfl)
  · split at hi
    · rename_i h0
      subst h0
      simp only [Option.some.injEq] at hi
      subst hi
      exact laid_dV h1 (n := "unicode/utf8.acceptRanges") (by simp [laidL]) (by kernel_rfl) (t := 92) (by kernel_rfl) (k := 5) (by kernel_rfl)
    · cases hi
/-- A world for the witness: the settled one, the tables holding what is listed. -/
noncomputable def laidWorld (os : Os) : World :=
  { World.holding Tryd.prog os ⟨#[], #[], []⟩ with
    heap := (((World.holding Tryd.prog os ⟨#[], #[], []⟩).heap.modify 0 (fun
      | .cells _ t frozen => .cells ((List.range 256).map fun b => Value.int .u8 (firstF b)).toArray t frozen
      | o => o)).modify 1 (fun
      | .cells _ t frozen => .cells (acceptL.flatMap fun x => [Value.int .u8 x.1, Value.int .u8 x.2]).toArray t frozen
      | o => o)) }
end Go.Ab
