/- Layer 11 (fonts): how a font is read. -/
import Derived.Test.YtdfpmhgfmmcopaaDoorRD
import Derived.Test.YtdfpmhgfmmcopaaDoorF1
set_option linter.unusedVariables false
set_option linter.unusedSimpArgs false
set_option linter.unusedSectionVars false
set_option linter.deprecated false
namespace Go.Ab
open Go.Proofs Go.Proofs.YtdfpmhgfmmcopaaDoor
set_option maxRecDepth 100000
theorem rd_glyph : Reads Tryd.prog 39 (fun _ : Glyph => True) eG (fun _ => 0) := by
  have h := reads_struct (t := 39) (P := Tryd.prog) Tryd.underlying39 (readsF_cons rfl rd_int (readsF_cons (by kernel_rfl) rd_int (readsF_cons (by kernel_rfl) rd_int (readsF_nil _))))
  exact reads_congr h fun a _ => ⟨⟨a.1, a.2.1, a.2.2.1⟩, trivial, rfl, Nat.zero_le _⟩
theorem rd_kern : Reads Tryd.prog 41 (fun _ : Kern => True) eK (fun _ => 0) := by
  have h := reads_struct (t := 41) (P := Tryd.prog) Tryd.underlying41 (readsF_cons rfl rd_int (readsF_cons (by kernel_rfl) rd_int (readsF_cons (by kernel_rfl) rd_int (readsF_nil _))))
  exact reads_congr h fun a _ => ⟨⟨a.1, a.2.1, a.2.2.1⟩, trivial, rfl, Nat.zero_le _⟩
theorem rd_glyphs : Reads Tryd.prog 22 (fun l : List Glyph => ∀ y ∈ l, True) (fun l => [R fl0 eG l]) (fun l => (l.map fun _ => 0 + 1).sum) := reads_slice Tryd.underlying22 (by kernel_rfl) (by rw [show Tryd.prog.cellsOf 39 = 3 by kernel_rfl]; decide) rd_glyph
theorem rd_kerns : Reads Tryd.prog 23 (fun l : List Kern => ∀ y ∈ l, True) (fun l => [R fl0 eK l]) (fun l => (l.map fun _ => 0 + 1).sum) := reads_slice Tryd.underlying23 (by kernel_rfl) (by rw [show Tryd.prog.cellsOf 41 = 3 by kernel_rfl]; decide) rd_kern
def eF (f : Font) : List V := [R fl0 eG f.gs, .int .i64 f.other, R fl0 eK f.ks]
theorem rd_font : Reads Tryd.prog 25 (fun f : Font => -9223372036854775808 ≤ f.other ∧ f.other ≤ 9223372036854775807) eF (fun f => f.gs.length + f.ks.length) := by
  have h := reads_struct (t := 25) (P := Tryd.prog) Tryd.underlying25 (readsF_cons rfl rd_glyphs (readsF_cons (by kernel_rfl) rd_int (readsF_cons (by kernel_rfl) rd_kerns (readsF_nil _))))
  refine reads_congr h fun a ha => ⟨⟨a.1, a.2.1, a.2.2.1⟩, i64_of ha.2.1, rfl, ?_⟩
  simp [sum_one]
end Go.Ab
