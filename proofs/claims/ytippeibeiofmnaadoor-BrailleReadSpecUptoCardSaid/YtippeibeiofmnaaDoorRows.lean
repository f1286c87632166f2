/-
  NARROWER THAN 'FOR EVERY INPUT', by the rows' own cells (each row's printed sentence says how): BrailleSpec: laid · BrailleReadSpec: laid · BrailleFewest: laid · BrailleUnique: laid · BrailleFirst: laid · BrailleJoined: laid.
  DERIVED. THE GIVEN ROWS OF THIS SEAT. 6 by the template 'for every input the law returns true; each argument reads behind the call as it read before'; 0 by the template 'total and deterministic' (their statements: YtippeibeiofmnaaDoorTotals.lean).
  GIVEN WITH THE SEED: the statements are not yours to turn. If you find one false, say at which input.
  Laid BY PROGRAM, IN A SANDBOX (cutbox-rows.mjs): the forced cells as the released guide's own fill.sh prints them over the translation 2937d089fd565a41… (all of the seat's roots in one cut). By AI agents, Wed Nov 11 2026. No macro, syntax, notation, axiom, sorry.
-/
import Derived.Test.YtippeibeiofmnaaDoorChecked
import GoSem.PinnedTables
import GoSem.Claim
import GoSem.ClaimJoined
import GoSem.ClaimMapViews
import Derived.JoinedTies
import Derived.KernelRfl
namespace Go.Proofs.YtippeibeiofmnaaDoor
/- THE CELL 'sum', in the pinned program and in every row, IS THE sha256 OF THE DUMP (.gsa) THAT YtippeibeiofmnaaDoorProg.lean LOADS. Nothing in Lean hashes anything: it is a label: what it is worth is what the hold of that sum in a sandbox is worth. -/
noncomputable def Tryd.pinned : Pinned := { name := "ytippeibeiofmnaadoor", sum := "2937d089fd565a41681109ea3f443a7b484be558d15ba9549669394e0f446c96", checked := Tryd.checked }
namespace Rows
def none {H : Type} : Left H := { results := [], args := [] }

/- WHAT THE LISTED PACKAGE-LEVEL VARIABLES READ AS WHEN THE CALL BEGINS. Each datum BY PROGRAM (the guide's laid-datum.mjs) off the statement by which the dump's own 'gosem.cut.vars' lays the variable. In a bare row this is a premise. The card (YtippeibeiofmnaaDoorCards.lean) ties it to the program's text. -/
def laid_unicode_utf8_acceptRanges {H : Type} : DataW H := .agg [.agg [.lit (.int .u8 128), .lit (.int .u8 191)], .agg [.lit (.int .u8 160), .lit (.int .u8 191)], .agg [.lit (.int .u8 128), .lit (.int .u8 159)], .agg [.lit (.int .u8 144), .lit (.int .u8 191)], .agg [.lit (.int .u8 128), .lit (.int .u8 143)], .agg [.lit (.int .u8 0), .lit (.int .u8 0)], .agg [.lit (.int .u8 0), .lit (.int .u8 0)], .agg [.lit (.int .u8 0), .lit (.int .u8 0)], .agg [.lit (.int .u8 0), .lit (.int .u8 0)], .agg [.lit (.int .u8 0), .lit (.int .u8 0)], .agg [.lit (.int .u8 0), .lit (.int .u8 0)], .agg [.lit (.int .u8 0), .lit (.int .u8 0)], .agg [.lit (.int .u8 0), .lit (.int .u8 0)], .agg [.lit (.int .u8 0), .lit (.int .u8 0)], .agg [.lit (.int .u8 0), .lit (.int .u8 0)], .agg [.lit (.int .u8 0), .lit (.int .u8 0)]]
/-- One of Go's own tables, pinned by name: the form's constant. -/
def laid_unicode_utf8_first : DataW Unit := Go.Pinned.utf8First

/-- 'hansardlaw12.BrailleSpec': WHATEVER THE INPUT: true; the input reads as it did. -/
def brailleSpecSpec : ChangeSpec := { name := "brailleSpec", fn := fun _ => fun
  | [d1, d2] => { results := [.lit (.bool true)], args := [d1, d2] }
  | _ => none }
def brailleSpecRow : OpenClaim := { program := "ytippeibeiofmnaadoor", sum := "2937d089fd565a41681109ea3f443a7b484be558d15ba9549669394e0f446c96", func := "hansard/hansardlaw12.BrailleSpec", spec := "brailleSpec", inPlace := ["internal/abi.NoEscape"], unfollowed := true, recurses := true, named := ["unicode/utf8.first", "unicode/utf8.acceptRanges"], apart := false, laid := [("unicode/utf8.acceptRanges", laid_unicode_utf8_acceptRanges), ("unicode/utf8.first", laid_unicode_utf8_first)] }
def BrailleSpecSaid : Prop := brailleSpecRow.holds Tryd.pinned (OpenSpec.ofChange brailleSpecSpec)

/-- ITS FALSE NEIGHBOUR: 'it returns false'. Refute it at one input. -/
def brailleSpecWrong : ChangeSpec := { name := "brailleSpec", fn := fun _ => fun
  | [d1, d2] => { results := [.lit (.bool false)], args := [d1, d2] }
  | _ => none }
def BrailleSpecWrongFalsely : Prop := brailleSpecRow.holds Tryd.pinned (OpenSpec.ofChange brailleSpecWrong)

/-- 'hansardlaw12.BrailleReadSpec': WHATEVER THE INPUT: true; the input reads as it did. -/
def brailleReadSpecSpec : ChangeSpec := { name := "brailleReadSpec", fn := fun _ => fun
  | [d1, d2] => { results := [.lit (.bool true)], args := [d1, d2] }
  | _ => none }
def brailleReadSpecRow : OpenClaim := { program := "ytippeibeiofmnaadoor", sum := "2937d089fd565a41681109ea3f443a7b484be558d15ba9549669394e0f446c96", func := "hansard/hansardlaw12.BrailleReadSpec", spec := "brailleReadSpec", inPlace := ["internal/abi.NoEscape"], unfollowed := true, recurses := true, named := ["unicode/utf8.first", "unicode/utf8.acceptRanges"], apart := false, laid := [("unicode/utf8.acceptRanges", laid_unicode_utf8_acceptRanges), ("unicode/utf8.first", laid_unicode_utf8_first)] }
def BrailleReadSpecSaid : Prop := brailleReadSpecRow.holds Tryd.pinned (OpenSpec.ofChange brailleReadSpecSpec)

/-- ITS FALSE NEIGHBOUR: 'it returns false'. Refute it at one input. -/
def brailleReadSpecWrong : ChangeSpec := { name := "brailleReadSpec", fn := fun _ => fun
  | [d1, d2] => { results := [.lit (.bool false)], args := [d1, d2] }
  | _ => none }
def BrailleReadSpecWrongFalsely : Prop := brailleReadSpecRow.holds Tryd.pinned (OpenSpec.ofChange brailleReadSpecWrong)

/-- 'hansardlaw12.BrailleFewest': WHATEVER THE INPUT: true; the input reads as it did. -/
def brailleFewestSpec : ChangeSpec := { name := "brailleFewest", fn := fun _ => fun
  | [d1, d2] => { results := [.lit (.bool true)], args := [d1, d2] }
  | _ => none }
def brailleFewestRow : OpenClaim := { program := "ytippeibeiofmnaadoor", sum := "2937d089fd565a41681109ea3f443a7b484be558d15ba9549669394e0f446c96", func := "hansard/hansardlaw12.BrailleFewest", spec := "brailleFewest", inPlace := ["internal/abi.NoEscape"], unfollowed := true, recurses := true, named := ["unicode/utf8.first", "unicode/utf8.acceptRanges"], apart := false, laid := [("unicode/utf8.acceptRanges", laid_unicode_utf8_acceptRanges), ("unicode/utf8.first", laid_unicode_utf8_first)] }
def BrailleFewestSaid : Prop := brailleFewestRow.holds Tryd.pinned (OpenSpec.ofChange brailleFewestSpec)

/-- ITS FALSE NEIGHBOUR: 'it returns false'. Refute it at one input. -/
def brailleFewestWrong : ChangeSpec := { name := "brailleFewest", fn := fun _ => fun
  | [d1, d2] => { results := [.lit (.bool false)], args := [d1, d2] }
  | _ => none }
def BrailleFewestWrongFalsely : Prop := brailleFewestRow.holds Tryd.pinned (OpenSpec.ofChange brailleFewestWrong)

/-- 'hansardlaw12.BrailleUnique': WHATEVER THE INPUT: true; the input reads as it did. -/
def brailleUniqueSpec : ChangeSpec := { name := "brailleUnique", fn := fun _ => fun
  | [d1, d2] => { results := [.lit (.bool true)], args := [d1, d2] }
  | _ => none }
def brailleUniqueRow : OpenClaim := { program := "ytippeibeiofmnaadoor", sum := "2937d089fd565a41681109ea3f443a7b484be558d15ba9549669394e0f446c96", func := "hansard/hansardlaw12.BrailleUnique", spec := "brailleUnique", inPlace := ["internal/abi.NoEscape"], unfollowed := true, recurses := true, named := ["unicode/utf8.first", "unicode/utf8.acceptRanges"], apart := false, laid := [("unicode/utf8.acceptRanges", laid_unicode_utf8_acceptRanges), ("unicode/utf8.first", laid_unicode_utf8_first)] }
def BrailleUniqueSaid : Prop := brailleUniqueRow.holds Tryd.pinned (OpenSpec.ofChange brailleUniqueSpec)

/-- ITS FALSE NEIGHBOUR: 'it returns false'. Refute it at one input. -/
def brailleUniqueWrong : ChangeSpec := { name := "brailleUnique", fn := fun _ => fun
  | [d1, d2] => { results := [.lit (.bool false)], args := [d1, d2] }
  | _ => none }
def BrailleUniqueWrongFalsely : Prop := brailleUniqueRow.holds Tryd.pinned (OpenSpec.ofChange brailleUniqueWrong)

/-- 'hansardlaw12.BrailleFirst': WHATEVER THE INPUT: true; the input reads as it did. -/
def brailleFirstSpec : ChangeSpec := { name := "brailleFirst", fn := fun _ => fun
  | [d1, d2, d3] => { results := [.lit (.bool true)], args := [d1, d2, d3] }
  | _ => none }
def brailleFirstRow : OpenClaim := { program := "ytippeibeiofmnaadoor", sum := "2937d089fd565a41681109ea3f443a7b484be558d15ba9549669394e0f446c96", func := "hansard/hansardlaw12.BrailleFirst", spec := "brailleFirst", inPlace := ["internal/abi.NoEscape"], unfollowed := true, recurses := true, named := ["unicode/utf8.first", "unicode/utf8.acceptRanges"], apart := false, laid := [("unicode/utf8.acceptRanges", laid_unicode_utf8_acceptRanges), ("unicode/utf8.first", laid_unicode_utf8_first)] }
def BrailleFirstSaid : Prop := brailleFirstRow.holds Tryd.pinned (OpenSpec.ofChange brailleFirstSpec)

/-- ITS FALSE NEIGHBOUR: 'it returns false'. Refute it at one input. -/
def brailleFirstWrong : ChangeSpec := { name := "brailleFirst", fn := fun _ => fun
  | [d1, d2, d3] => { results := [.lit (.bool false)], args := [d1, d2, d3] }
  | _ => none }
def BrailleFirstWrongFalsely : Prop := brailleFirstRow.holds Tryd.pinned (OpenSpec.ofChange brailleFirstWrong)

/-- 'hansardlaw12.BrailleJoined': WHATEVER THE INPUT: true; the input reads as it did. -/
def brailleJoinedSpec : ChangeSpec := { name := "brailleJoined", fn := fun _ => fun
  | [d1, d2, d3] => { results := [.lit (.bool true)], args := [d1, d2, d3] }
  | _ => none }
def brailleJoinedRow : OpenClaim := { program := "ytippeibeiofmnaadoor", sum := "2937d089fd565a41681109ea3f443a7b484be558d15ba9549669394e0f446c96", func := "hansard/hansardlaw12.BrailleJoined", spec := "brailleJoined", inPlace := ["internal/abi.NoEscape"], unfollowed := true, recurses := true, named := ["unicode/utf8.first", "unicode/utf8.acceptRanges"], apart := false, laid := [("unicode/utf8.acceptRanges", laid_unicode_utf8_acceptRanges), ("unicode/utf8.first", laid_unicode_utf8_first)] }
def BrailleJoinedSaid : Prop := brailleJoinedRow.holds Tryd.pinned (OpenSpec.ofChange brailleJoinedSpec)

/-- ITS FALSE NEIGHBOUR: 'it returns false'. Refute it at one input. -/
def brailleJoinedWrong : ChangeSpec := { name := "brailleJoined", fn := fun _ => fun
  | [d1, d2, d3] => { results := [.lit (.bool false)], args := [d1, d2, d3] }
  | _ => none }
def BrailleJoinedWrongFalsely : Prop := brailleJoinedRow.holds Tryd.pinned (OpenSpec.ofChange brailleJoinedWrong)

/- THE SECOND FORM. 'bulk': how many values and letters a reading holds, each counted each time it is reached (what is shared counts as often as it is met; a slice's spare places count too). A statement '..UptoSaid' is the law's where the arguments, and the package variables that the reading takes, are together of bulk at most 1048576: NARROWER than '..Said'. Prove '..Said' where nothing that the law and all that it calls make is longer than what came in: it says more and counts as full. Else prove '..UptoSaid'. A law counts once. -/
mutual
def uptoBulk {H : Type} : DataW H → Nat
  | .lit (.string bytes) => bytes.length + 1
  | .lit _ => 1
  | .nil => 1
  | .ptr d => uptoBulk d + 1
  | .slice elems spare => uptoBulkAll elems + uptoBulkAll spare + 1
  | .agg parts => uptoBulkAll parts + 1
  | .iface _ d => uptoBulk d + 1
  | .map entries => uptoBulkEntries entries + 1
  | .held _ => 1
def uptoBulkAll {H : Type} : List (DataW H) → Nat
  | [] => 0
  | d :: r => uptoBulk d + uptoBulkAll r
def uptoBulkEntries {H : Type} : List (Lit × DataW H) → Nat
  | [] => 0
  | x :: r => uptoBulkEntry x + uptoBulkEntries r
def uptoBulkEntry {H : Type} : Lit × DataW H → Nat
  | (.string bytes, d) => bytes.length + uptoBulk d + 1
  | (_, d) => uptoBulk d + 1
 end
def uptoSmall : (H : Type) → List (DataW H) → Bool := fun _ ds => decide (uptoBulkAll ds ≤ 1048576)
def OpenSpec.upto (s : _root_.Go.ChangeSpec) : _root_.Go.OpenSpec := { _root_.Go.OpenSpec.ofChange s with cond := some uptoSmall }

/-- 'hansardlaw12.BrailleSpec', WHERE WHAT IT READS IS OF BULK AT MOST 1048576: true; the input reads as it did. -/
def brailleSpecUptoRow : OpenClaim := { program := "ytippeibeiofmnaadoor", sum := "2937d089fd565a41681109ea3f443a7b484be558d15ba9549669394e0f446c96", func := "hansard/hansardlaw12.BrailleSpec", spec := "brailleSpec", inPlace := ["internal/abi.NoEscape"], unfollowed := true, recurses := true, named := ["unicode/utf8.first", "unicode/utf8.acceptRanges"], apart := false, laid := [("unicode/utf8.acceptRanges", laid_unicode_utf8_acceptRanges), ("unicode/utf8.first", laid_unicode_utf8_first)], narrowed := true }
def BrailleSpecUptoSaid : Prop := brailleSpecUptoRow.holds Tryd.pinned (OpenSpec.upto brailleSpecSpec)

/-- 'hansardlaw12.BrailleReadSpec', WHERE WHAT IT READS IS OF BULK AT MOST 1048576: true; the input reads as it did. -/
def brailleReadSpecUptoRow : OpenClaim := { program := "ytippeibeiofmnaadoor", sum := "2937d089fd565a41681109ea3f443a7b484be558d15ba9549669394e0f446c96", func := "hansard/hansardlaw12.BrailleReadSpec", spec := "brailleReadSpec", inPlace := ["internal/abi.NoEscape"], unfollowed := true, recurses := true, named := ["unicode/utf8.first", "unicode/utf8.acceptRanges"], apart := false, laid := [("unicode/utf8.acceptRanges", laid_unicode_utf8_acceptRanges), ("unicode/utf8.first", laid_unicode_utf8_first)], narrowed := true }
def BrailleReadSpecUptoSaid : Prop := brailleReadSpecUptoRow.holds Tryd.pinned (OpenSpec.upto brailleReadSpecSpec)

/-- 'hansardlaw12.BrailleFewest', WHERE WHAT IT READS IS OF BULK AT MOST 1048576: true; the input reads as it did. -/
def brailleFewestUptoRow : OpenClaim := { program := "ytippeibeiofmnaadoor", sum := "2937d089fd565a41681109ea3f443a7b484be558d15ba9549669394e0f446c96", func := "hansard/hansardlaw12.BrailleFewest", spec := "brailleFewest", inPlace := ["internal/abi.NoEscape"], unfollowed := true, recurses := true, named := ["unicode/utf8.first", "unicode/utf8.acceptRanges"], apart := false, laid := [("unicode/utf8.acceptRanges", laid_unicode_utf8_acceptRanges), ("unicode/utf8.first", laid_unicode_utf8_first)], narrowed := true }
def BrailleFewestUptoSaid : Prop := brailleFewestUptoRow.holds Tryd.pinned (OpenSpec.upto brailleFewestSpec)

/-- 'hansardlaw12.BrailleUnique', WHERE WHAT IT READS IS OF BULK AT MOST 1048576: true; the input reads as it did. -/
def brailleUniqueUptoRow : OpenClaim := { program := "ytippeibeiofmnaadoor", sum := "2937d089fd565a41681109ea3f443a7b484be558d15ba9549669394e0f446c96", func := "hansard/hansardlaw12.BrailleUnique", spec := "brailleUnique", inPlace := ["internal/abi.NoEscape"], unfollowed := true, recurses := true, named := ["unicode/utf8.first", "unicode/utf8.acceptRanges"], apart := false, laid := [("unicode/utf8.acceptRanges", laid_unicode_utf8_acceptRanges), ("unicode/utf8.first", laid_unicode_utf8_first)], narrowed := true }
def BrailleUniqueUptoSaid : Prop := brailleUniqueUptoRow.holds Tryd.pinned (OpenSpec.upto brailleUniqueSpec)

/-- 'hansardlaw12.BrailleFirst', WHERE WHAT IT READS IS OF BULK AT MOST 1048576: true; the input reads as it did. -/
def brailleFirstUptoRow : OpenClaim := { program := "ytippeibeiofmnaadoor", sum := "2937d089fd565a41681109ea3f443a7b484be558d15ba9549669394e0f446c96", func := "hansard/hansardlaw12.BrailleFirst", spec := "brailleFirst", inPlace := ["internal/abi.NoEscape"], unfollowed := true, recurses := true, named := ["unicode/utf8.first", "unicode/utf8.acceptRanges"], apart := false, laid := [("unicode/utf8.acceptRanges", laid_unicode_utf8_acceptRanges), ("unicode/utf8.first", laid_unicode_utf8_first)], narrowed := true }
def BrailleFirstUptoSaid : Prop := brailleFirstUptoRow.holds Tryd.pinned (OpenSpec.upto brailleFirstSpec)

/-- 'hansardlaw12.BrailleJoined', WHERE WHAT IT READS IS OF BULK AT MOST 1048576: true; the input reads as it did. -/
def brailleJoinedUptoRow : OpenClaim := { program := "ytippeibeiofmnaadoor", sum := "2937d089fd565a41681109ea3f443a7b484be558d15ba9549669394e0f446c96", func := "hansard/hansardlaw12.BrailleJoined", spec := "brailleJoined", inPlace := ["internal/abi.NoEscape"], unfollowed := true, recurses := true, named := ["unicode/utf8.first", "unicode/utf8.acceptRanges"], apart := false, laid := [("unicode/utf8.acceptRanges", laid_unicode_utf8_acceptRanges), ("unicode/utf8.first", laid_unicode_utf8_first)], narrowed := true }
def BrailleJoinedUptoSaid : Prop := brailleJoinedUptoRow.holds Tryd.pinned (OpenSpec.upto brailleJoinedSpec)

end Rows
end Go.Proofs.YtippeibeiofmnaaDoor
