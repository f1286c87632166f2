/-
  NARROWER THAN 'FOR EVERY INPUT', by the rows' own cells (each row's printed sentence says how): LatticeSpec: laid · LatticeProveSpec: laid · LatticeLeast: laid · LatticeSound: laid · LatticeSaid: laid · LatticeMore: laid.
  DERIVED. THE GIVEN ROWS OF THIS SEAT. 6 by the template 'for every input the law returns true; each argument reads behind the call as it read before'; 0 by the template 'total and deterministic' (their statements: YtgfomibaakpdnaaDoorTotals.lean).
  GIVEN WITH THE SEED: the statements are not yours to turn. If you find one false, say at which input.
  Laid BY PROGRAM, IN A SANDBOX (cutbox-rows.mjs): the forced cells as the released guide's own fill.sh prints them over the translation a8f02612dac4c03b… (all of the seat's roots in one cut). By AI agents, Wed Nov 11 2026. No macro, syntax, notation, axiom, sorry.
-/
import Derived.Test.YtgfomibaakpdnaaDoorChecked
import GoSem.PinnedTables
import GoSem.Claim
import GoSem.ClaimJoined
import GoSem.ClaimMapViews
import Derived.JoinedTies
import Derived.KernelRfl
namespace Go.Proofs.YtgfomibaakpdnaaDoor
/- THE CELL 'sum', in the pinned program and in every row, IS THE sha256 OF THE DUMP (.gsa) THAT YtgfomibaakpdnaaDoorProg.lean LOADS. Nothing in Lean hashes anything: it is a label: what it is worth is what the hold of that sum in a sandbox is worth. -/
noncomputable def Tryd.pinned : Pinned := { name := "ytgfomibaakpdnaadoor", sum := "a8f02612dac4c03bd1fdc7571731ff56728085893a3047a5ae37f47e8c85d401", checked := Tryd.checked }
namespace Rows
def none {H : Type} : Left H := { results := [], args := [] }

/- WHAT THE LISTED PACKAGE-LEVEL VARIABLES READ AS WHEN THE CALL BEGINS. Each datum BY PROGRAM (the guide's laid-datum.mjs) off the statement by which the dump's own 'gosem.cut.vars' lays the variable. In a bare row this is a premise. The card (YtgfomibaakpdnaaDoorCards.lean) ties it to the program's text. -/
def laid_unicode_utf8_acceptRanges {H : Type} : DataW H := .agg [.agg [.lit (.int .u8 128), .lit (.int .u8 191)], .agg [.lit (.int .u8 160), .lit (.int .u8 191)], .agg [.lit (.int .u8 128), .lit (.int .u8 159)], .agg [.lit (.int .u8 144), .lit (.int .u8 191)], .agg [.lit (.int .u8 128), .lit (.int .u8 143)], .agg [.lit (.int .u8 0), .lit (.int .u8 0)], .agg [.lit (.int .u8 0), .lit (.int .u8 0)], .agg [.lit (.int .u8 0), .lit (.int .u8 0)], .agg [.lit (.int .u8 0), .lit (.int .u8 0)], .agg [.lit (.int .u8 0), .lit (.int .u8 0)], .agg [.lit (.int .u8 0), .lit (.int .u8 0)], .agg [.lit (.int .u8 0), .lit (.int .u8 0)], .agg [.lit (.int .u8 0), .lit (.int .u8 0)], .agg [.lit (.int .u8 0), .lit (.int .u8 0)], .agg [.lit (.int .u8 0), .lit (.int .u8 0)], .agg [.lit (.int .u8 0), .lit (.int .u8 0)]]
/-- One of Go's own tables, pinned by name: the form's constant. -/
def laid_unicode_utf8_first : DataW Unit := Go.Pinned.utf8First

/-- 'hansardlaw20.LatticeSpec': WHATEVER THE INPUT: true; the input reads as it did. -/
def latticeSpecSpec : ChangeSpec := { name := "latticeSpec", fn := fun _ => fun
  | [d1, d2] => { results := [.lit (.bool true)], args := [d1, d2] }
  | _ => none }
def latticeSpecRow : OpenClaim := { program := "ytgfomibaakpdnaadoor", sum := "a8f02612dac4c03bd1fdc7571731ff56728085893a3047a5ae37f47e8c85d401", func := "hansard/hansardlaw20.LatticeSpec", spec := "latticeSpec", unfollowed := true, recurses := true, named := ["unicode/utf8.first", "unicode/utf8.acceptRanges"], apart := false, laid := [("unicode/utf8.acceptRanges", laid_unicode_utf8_acceptRanges), ("unicode/utf8.first", laid_unicode_utf8_first)] }
def LatticeSpecSaid : Prop := latticeSpecRow.holds Tryd.pinned (OpenSpec.ofChange latticeSpecSpec)

/-- ITS FALSE NEIGHBOUR: 'it returns false'. Refute it at one input. -/
def latticeSpecWrong : ChangeSpec := { name := "latticeSpec", fn := fun _ => fun
  | [d1, d2] => { results := [.lit (.bool false)], args := [d1, d2] }
  | _ => none }
def LatticeSpecWrongFalsely : Prop := latticeSpecRow.holds Tryd.pinned (OpenSpec.ofChange latticeSpecWrong)

/-- 'hansardlaw20.LatticeProveSpec': WHATEVER THE INPUT: true; the input reads as it did. -/
def latticeProveSpecSpec : ChangeSpec := { name := "latticeProveSpec", fn := fun _ => fun
  | [d1, d2, d3, d4, d5] => { results := [.lit (.bool true)], args := [d1, d2, d3, d4, d5] }
  | _ => none }
def latticeProveSpecRow : OpenClaim := { program := "ytgfomibaakpdnaadoor", sum := "a8f02612dac4c03bd1fdc7571731ff56728085893a3047a5ae37f47e8c85d401", func := "hansard/hansardlaw20.LatticeProveSpec", spec := "latticeProveSpec", unfollowed := true, recurses := true, named := ["unicode/utf8.first", "unicode/utf8.acceptRanges"], apart := false, laid := [("unicode/utf8.acceptRanges", laid_unicode_utf8_acceptRanges), ("unicode/utf8.first", laid_unicode_utf8_first)] }
def LatticeProveSpecSaid : Prop := latticeProveSpecRow.holds Tryd.pinned (OpenSpec.ofChange latticeProveSpecSpec)

/-- ITS FALSE NEIGHBOUR: 'it returns false'. Refute it at one input. -/
def latticeProveSpecWrong : ChangeSpec := { name := "latticeProveSpec", fn := fun _ => fun
  | [d1, d2, d3, d4, d5] => { results := [.lit (.bool false)], args := [d1, d2, d3, d4, d5] }
  | _ => none }
def LatticeProveSpecWrongFalsely : Prop := latticeProveSpecRow.holds Tryd.pinned (OpenSpec.ofChange latticeProveSpecWrong)

/-- 'hansardlaw20.LatticeLeast': WHATEVER THE INPUT: true; the input reads as it did. -/
def latticeLeastSpec : ChangeSpec := { name := "latticeLeast", fn := fun _ => fun
  | [d1, d2, d3] => { results := [.lit (.bool true)], args := [d1, d2, d3] }
  | _ => none }
def latticeLeastRow : OpenClaim := { program := "ytgfomibaakpdnaadoor", sum := "a8f02612dac4c03bd1fdc7571731ff56728085893a3047a5ae37f47e8c85d401", func := "hansard/hansardlaw20.LatticeLeast", spec := "latticeLeast", unfollowed := true, recurses := true, named := ["unicode/utf8.first", "unicode/utf8.acceptRanges"], apart := false, laid := [("unicode/utf8.acceptRanges", laid_unicode_utf8_acceptRanges), ("unicode/utf8.first", laid_unicode_utf8_first)] }
def LatticeLeastSaid : Prop := latticeLeastRow.holds Tryd.pinned (OpenSpec.ofChange latticeLeastSpec)

/-- ITS FALSE NEIGHBOUR: 'it returns false'. Refute it at one input. -/
def latticeLeastWrong : ChangeSpec := { name := "latticeLeast", fn := fun _ => fun
  | [d1, d2, d3] => { results := [.lit (.bool false)], args := [d1, d2, d3] }
  | _ => none }
def LatticeLeastWrongFalsely : Prop := latticeLeastRow.holds Tryd.pinned (OpenSpec.ofChange latticeLeastWrong)

/-- 'hansardlaw20.LatticeSound': WHATEVER THE INPUT: true; the input reads as it did. -/
def latticeSoundSpec : ChangeSpec := { name := "latticeSound", fn := fun _ => fun
  | [d1, d2, d3, d4] => { results := [.lit (.bool true)], args := [d1, d2, d3, d4] }
  | _ => none }
def latticeSoundRow : OpenClaim := { program := "ytgfomibaakpdnaadoor", sum := "a8f02612dac4c03bd1fdc7571731ff56728085893a3047a5ae37f47e8c85d401", func := "hansard/hansardlaw20.LatticeSound", spec := "latticeSound", unfollowed := true, recurses := true, named := ["unicode/utf8.first", "unicode/utf8.acceptRanges"], apart := false, laid := [("unicode/utf8.acceptRanges", laid_unicode_utf8_acceptRanges), ("unicode/utf8.first", laid_unicode_utf8_first)] }
def LatticeSoundSaid : Prop := latticeSoundRow.holds Tryd.pinned (OpenSpec.ofChange latticeSoundSpec)

/-- ITS FALSE NEIGHBOUR: 'it returns false'. Refute it at one input. -/
def latticeSoundWrong : ChangeSpec := { name := "latticeSound", fn := fun _ => fun
  | [d1, d2, d3, d4] => { results := [.lit (.bool false)], args := [d1, d2, d3, d4] }
  | _ => none }
def LatticeSoundWrongFalsely : Prop := latticeSoundRow.holds Tryd.pinned (OpenSpec.ofChange latticeSoundWrong)

/-- 'hansardlaw20.LatticeSaid': WHATEVER THE INPUT: true; the input reads as it did. -/
def latticeSaidSpec : ChangeSpec := { name := "latticeSaid", fn := fun _ => fun
  | [d1, d2, d3, d4] => { results := [.lit (.bool true)], args := [d1, d2, d3, d4] }
  | _ => none }
def latticeSaidRow : OpenClaim := { program := "ytgfomibaakpdnaadoor", sum := "a8f02612dac4c03bd1fdc7571731ff56728085893a3047a5ae37f47e8c85d401", func := "hansard/hansardlaw20.LatticeSaid", spec := "latticeSaid", unfollowed := true, recurses := true, named := ["unicode/utf8.first", "unicode/utf8.acceptRanges"], apart := false, laid := [("unicode/utf8.acceptRanges", laid_unicode_utf8_acceptRanges), ("unicode/utf8.first", laid_unicode_utf8_first)] }
def LatticeSaidSaid : Prop := latticeSaidRow.holds Tryd.pinned (OpenSpec.ofChange latticeSaidSpec)

/-- ITS FALSE NEIGHBOUR: 'it returns false'. Refute it at one input. -/
def latticeSaidWrong : ChangeSpec := { name := "latticeSaid", fn := fun _ => fun
  | [d1, d2, d3, d4] => { results := [.lit (.bool false)], args := [d1, d2, d3, d4] }
  | _ => none }
def LatticeSaidWrongFalsely : Prop := latticeSaidRow.holds Tryd.pinned (OpenSpec.ofChange latticeSaidWrong)

/-- 'hansardlaw20.LatticeMore': WHATEVER THE INPUT: true; the input reads as it did. -/
def latticeMoreSpec : ChangeSpec := { name := "latticeMore", fn := fun _ => fun
  | [d1, d2, d3, d4, d5] => { results := [.lit (.bool true)], args := [d1, d2, d3, d4, d5] }
  | _ => none }
def latticeMoreRow : OpenClaim := { program := "ytgfomibaakpdnaadoor", sum := "a8f02612dac4c03bd1fdc7571731ff56728085893a3047a5ae37f47e8c85d401", func := "hansard/hansardlaw20.LatticeMore", spec := "latticeMore", unfollowed := true, recurses := true, named := ["unicode/utf8.first", "unicode/utf8.acceptRanges"], apart := false, laid := [("unicode/utf8.acceptRanges", laid_unicode_utf8_acceptRanges), ("unicode/utf8.first", laid_unicode_utf8_first)] }
def LatticeMoreSaid : Prop := latticeMoreRow.holds Tryd.pinned (OpenSpec.ofChange latticeMoreSpec)

/-- ITS FALSE NEIGHBOUR: 'it returns false'. Refute it at one input. -/
def latticeMoreWrong : ChangeSpec := { name := "latticeMore", fn := fun _ => fun
  | [d1, d2, d3, d4, d5] => { results := [.lit (.bool false)], args := [d1, d2, d3, d4, d5] }
  | _ => none }
def LatticeMoreWrongFalsely : Prop := latticeMoreRow.holds Tryd.pinned (OpenSpec.ofChange latticeMoreWrong)

/- THE SECOND FORM. 'bulk': how many values and letters a reading holds, each counted each time it is reached (what is shared counts as often as it is met; a slice's spare places count too). A statement '..UptoSaid' is the law's where the arguments, and the package variables that the reading takes, are together of bulk at most 1048576: NARROWER than '..Said'. Prove '..Said' where nothing that the law and all that it calls make is longer than what came in: it says more and counts as full. Else prove '..UptoSaid'. A law counts once. -/
mutual
def uptoBulk {H : Type} : DataW H → Nat
  | .lit (.string bytes) => bytes.length + 1
  | .lit _ => 1
  | .nil => 1
  | .ptr d => uptoBulk d + 1
  | .slice elems spare => uptoBulkAll elems + uptoBulkAll spare + 1
  | .agg parts => uptoBulkAll parts + 1
  | .iface _ d => uptoBulk d + 1
  | .map entries => uptoBulkEntries entries + 1
  | .held _ => 1
def uptoBulkAll {H : Type} : List (DataW H) → Nat
  | [] => 0
  | d :: r => uptoBulk d + uptoBulkAll r
def uptoBulkEntries {H : Type} : List (Lit × DataW H) → Nat
  | [] => 0
  | x :: r => uptoBulkEntry x + uptoBulkEntries r
def uptoBulkEntry {H : Type} : Lit × DataW H → Nat
  | (.string bytes, d) => bytes.length + uptoBulk d + 1
  | (_, d) => uptoBulk d + 1
 end
def uptoSmall : (H : Type) → List (DataW H) → Bool := fun _ ds => decide (uptoBulkAll ds ≤ 1048576)
def OpenSpec.upto (s : _root_.Go.ChangeSpec) : _root_.Go.OpenSpec := { _root_.Go.OpenSpec.ofChange s with cond := some uptoSmall }

/-- 'hansardlaw20.LatticeSpec', WHERE WHAT IT READS IS OF BULK AT MOST 1048576: true; the input reads as it did. -/
def latticeSpecUptoRow : OpenClaim := { program := "ytgfomibaakpdnaadoor", sum := "a8f02612dac4c03bd1fdc7571731ff56728085893a3047a5ae37f47e8c85d401", func := "hansard/hansardlaw20.LatticeSpec", spec := "latticeSpec", unfollowed := true, recurses := true, named := ["unicode/utf8.first", "unicode/utf8.acceptRanges"], apart := false, laid := [("unicode/utf8.acceptRanges", laid_unicode_utf8_acceptRanges), ("unicode/utf8.first", laid_unicode_utf8_first)], narrowed := true }
def LatticeSpecUptoSaid : Prop := latticeSpecUptoRow.holds Tryd.pinned (OpenSpec.upto latticeSpecSpec)

/-- 'hansardlaw20.LatticeProveSpec', WHERE WHAT IT READS IS OF BULK AT MOST 1048576: true; the input reads as it did. -/
def latticeProveSpecUptoRow : OpenClaim := { program := "ytgfomibaakpdnaadoor", sum := "a8f02612dac4c03bd1fdc7571731ff56728085893a3047a5ae37f47e8c85d401", func := "hansard/hansardlaw20.LatticeProveSpec", spec := "latticeProveSpec", unfollowed := true, recurses := true, named := ["unicode/utf8.first", "unicode/utf8.acceptRanges"], apart := false, laid := [("unicode/utf8.acceptRanges", laid_unicode_utf8_acceptRanges), ("unicode/utf8.first", laid_unicode_utf8_first)], narrowed := true }
def LatticeProveSpecUptoSaid : Prop := latticeProveSpecUptoRow.holds Tryd.pinned (OpenSpec.upto latticeProveSpecSpec)

/-- 'hansardlaw20.LatticeLeast', WHERE WHAT IT READS IS OF BULK AT MOST 1048576: true; the input reads as it did. -/
def latticeLeastUptoRow : OpenClaim := { program := "ytgfomibaakpdnaadoor", sum := "a8f02612dac4c03bd1fdc7571731ff56728085893a3047a5ae37f47e8c85d401", func := "hansard/hansardlaw20.LatticeLeast", spec := "latticeLeast", unfollowed := true, recurses := true, named := ["unicode/utf8.first", "unicode/utf8.acceptRanges"], apart := false, laid := [("unicode/utf8.acceptRanges", laid_unicode_utf8_acceptRanges), ("unicode/utf8.first", laid_unicode_utf8_first)], narrowed := true }
def LatticeLeastUptoSaid : Prop := latticeLeastUptoRow.holds Tryd.pinned (OpenSpec.upto latticeLeastSpec)

/-- 'hansardlaw20.LatticeSound', WHERE WHAT IT READS IS OF BULK AT MOST 1048576: true; the input reads as it did. -/
def latticeSoundUptoRow : OpenClaim := { program := "ytgfomibaakpdnaadoor", sum := "a8f02612dac4c03bd1fdc7571731ff56728085893a3047a5ae37f47e8c85d401", func := "hansard/hansardlaw20.LatticeSound", spec := "latticeSound", unfollowed := true, recurses := true, named := ["unicode/utf8.first", "unicode/utf8.acceptRanges"], apart := false, laid := [("unicode/utf8.acceptRanges", laid_unicode_utf8_acceptRanges), ("unicode/utf8.first", laid_unicode_utf8_first)], narrowed := true }
def LatticeSoundUptoSaid : Prop := latticeSoundUptoRow.holds Tryd.pinned (OpenSpec.upto latticeSoundSpec)

/-- 'hansardlaw20.LatticeSaid', WHERE WHAT IT READS IS OF BULK AT MOST 1048576: true; the input reads as it did. -/
def latticeSaidUptoRow : OpenClaim := { program := "ytgfomibaakpdnaadoor", sum := "a8f02612dac4c03bd1fdc7571731ff56728085893a3047a5ae37f47e8c85d401", func := "hansard/hansardlaw20.LatticeSaid", spec := "latticeSaid", unfollowed := true, recurses := true, named := ["unicode/utf8.first", "unicode/utf8.acceptRanges"], apart := false, laid := [("unicode/utf8.acceptRanges", laid_unicode_utf8_acceptRanges), ("unicode/utf8.first", laid_unicode_utf8_first)], narrowed := true }
def LatticeSaidUptoSaid : Prop := latticeSaidUptoRow.holds Tryd.pinned (OpenSpec.upto latticeSaidSpec)

/-- 'hansardlaw20.LatticeMore', WHERE WHAT IT READS IS OF BULK AT MOST 1048576: true; the input reads as it did. -/
def latticeMoreUptoRow : OpenClaim := { program := "ytgfomibaakpdnaadoor", sum := "a8f02612dac4c03bd1fdc7571731ff56728085893a3047a5ae37f47e8c85d401", func := "hansard/hansardlaw20.LatticeMore", spec := "latticeMore", unfollowed := true, recurses := true, named := ["unicode/utf8.first", "unicode/utf8.acceptRanges"], apart := false, laid := [("unicode/utf8.acceptRanges", laid_unicode_utf8_acceptRanges), ("unicode/utf8.first", laid_unicode_utf8_first)], narrowed := true }
def LatticeMoreUptoSaid : Prop := latticeMoreUptoRow.holds Tryd.pinned (OpenSpec.upto latticeMoreSpec)

end Rows
end Go.Proofs.YtgfomibaakpdnaaDoor
