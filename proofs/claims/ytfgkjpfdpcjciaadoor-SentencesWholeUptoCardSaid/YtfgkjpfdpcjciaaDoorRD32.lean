/- Layer 32 (sentences): how words are read. -/
import Derived.Test.YtfgkjpfdpcjciaaDoorRD21
import Derived.Test.YtfgkjpfdpcjciaaDoorP32
set_option linter.unusedVariables false
set_option linter.unusedSimpArgs false
set_option linter.unusedSectionVars false
set_option linter.deprecated false
namespace Go.Ab
open Go.Proofs Go.Proofs.YtfgkjpfdpcjciaaDoor
set_option maxRecDepth 100000
def szX (c : Wrd) : Nat := c.text.length + (c.alts.map fun s : List UInt8 => s.length + 1).sum
theorem rd_word : Reads Tryd.prog 36 (fun _ : Wrd => True) eW szX := by
  have h := reads_struct (t := 36) (P := Tryd.prog) Tryd.underlying36 (readsF_cons rfl rd_string (readsF_cons (by kernel_rfl) rd_int (readsF_cons (by kernel_rfl) rd_int (readsF_cons (by kernel_rfl) rd_int (readsF_cons (by kernel_rfl) rd_strings (readsF_nil _))))))
  exact reads_congr h fun a _ => ⟨⟨a.1, a.2.1, a.2.2.1, a.2.2.2.1, a.2.2.2.2.1⟩, trivial, rfl, by simp [szX]⟩
theorem rd_words : Reads Tryd.prog 22 (fun l : List Wrd => ∀ y ∈ l, True) (fun l => [R fl0 eW l]) (fun l => (l.map fun x => szX x + 1).sum) := reads_slice Tryd.underlying22 (by kernel_rfl) (by rw [show Tryd.prog.cellsOf 36 = 5 by kernel_rfl]; decide) rd_word
theorem smXs_rd {r : List Wrd} (h : (r.map fun x => szX x + 1).sum ≤ 1048576) : smXs r := by
  have h1 := sum_len (f := szX) r
  refine ⟨by omega, fun c hc => ?_⟩
  have h2 := sum_mem (f := fun x => szX x + 1) hc
  have h3 : szX c = c.text.length + (c.alts.map fun s : List UInt8 => s.length + 1).sum := rfl
  have h4 := strs_len c.alts
  refine ⟨by omega, by omega, fun y hy => ?_⟩
  have := strs_mem hy
  omega
end Go.Ab
