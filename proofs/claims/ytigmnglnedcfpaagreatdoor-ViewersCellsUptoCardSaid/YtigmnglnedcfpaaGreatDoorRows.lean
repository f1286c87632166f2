/-
  NARROWER THAN 'FOR EVERY INPUT', by the rows' own cells (each row's printed sentence says how): ViewersSpec: laid · ViewersTextSpec: laid · ViewersJoined: laid · ViewersOther: laid · ViewersCells: laid.
  DERIVED. THE GIVEN ROWS OF THIS SEAT. 5 by the template 'for every input the law returns true; each argument reads behind the call as it read before'; 0 by the template 'total and deterministic' (their statements: YtigmnglnedcfpaaGreatDoorTotals.lean).
  GIVEN WITH THE SEED: the statements are not yours to turn. If you find one false, say at which input.
  Laid BY PROGRAM, IN A SANDBOX (cutbox-rows.mjs): the forced cells as the released guide's own fill.sh prints them over the translation 64757c75cce206af… (all of the seat's roots in one cut). By AI agents, Wed Nov 11 2026. No macro, syntax, notation, axiom, sorry.
-/
import Derived.Test.YtigmnglnedcfpaaGreatDoorChecked
import GoSem.PinnedTables
import GoSem.Claim
import GoSem.ClaimJoined
import GoSem.ClaimMapViews
import Derived.JoinedTies
import Derived.KernelRfl
namespace Go.Proofs.YtigmnglnedcfpaaGreatDoor
/- THE CELL 'sum', in the pinned program and in every row, IS THE sha256 OF THE DUMP (.gsa) THAT YtigmnglnedcfpaaGreatDoorProg.lean LOADS. Nothing in Lean hashes anything: it is a label: what it is worth is what the hold of that sum in a sandbox is worth. -/
noncomputable def Tryz.pinned : Pinned := { name := "ytigmnglnedcfpaagreatdoor", sum := "64757c75cce206af035c6207063b2be75ab728fc1f8066719f48f5da325d01ac", checked := Tryz.checked }
namespace Rows
def none {H : Type} : Left H := { results := [], args := [] }

/- WHAT THE LISTED PACKAGE-LEVEL VARIABLES READ AS WHEN THE CALL BEGINS. Each datum BY PROGRAM (the guide's laid-datum.mjs) off the statement by which the dump's own 'gosem.cut.vars' lays the variable. In a bare row this is a premise. The card (YtigmnglnedcfpaaGreatDoorCards.lean) ties it to the program's text. -/
def laid_unicode_utf8_acceptRanges {H : Type} : DataW H := .agg [.agg [.lit (.int .u8 128), .lit (.int .u8 191)], .agg [.lit (.int .u8 160), .lit (.int .u8 191)], .agg [.lit (.int .u8 128), .lit (.int .u8 159)], .agg [.lit (.int .u8 144), .lit (.int .u8 191)], .agg [.lit (.int .u8 128), .lit (.int .u8 143)], .agg [.lit (.int .u8 0), .lit (.int .u8 0)], .agg [.lit (.int .u8 0), .lit (.int .u8 0)], .agg [.lit (.int .u8 0), .lit (.int .u8 0)], .agg [.lit (.int .u8 0), .lit (.int .u8 0)], .agg [.lit (.int .u8 0), .lit (.int .u8 0)], .agg [.lit (.int .u8 0), .lit (.int .u8 0)], .agg [.lit (.int .u8 0), .lit (.int .u8 0)], .agg [.lit (.int .u8 0), .lit (.int .u8 0)], .agg [.lit (.int .u8 0), .lit (.int .u8 0)], .agg [.lit (.int .u8 0), .lit (.int .u8 0)], .agg [.lit (.int .u8 0), .lit (.int .u8 0)]]
/-- One of Go's own tables, pinned by name: the form's constant. -/
def laid_unicode_utf8_first : DataW Unit := Go.Pinned.utf8First

/-- 'hansardlaw45.ViewersSpec': WHATEVER THE INPUT: true; the input reads as it did. -/
def viewersSpecSpec : ChangeSpec := { name := "viewersSpec", fn := fun _ => fun
  | [d] => { results := [.lit (.bool true)], args := [d] }
  | _ => none }
def viewersSpecRow : OpenClaim := { program := "ytigmnglnedcfpaagreatdoor", sum := "64757c75cce206af035c6207063b2be75ab728fc1f8066719f48f5da325d01ac", func := "hansard/hansardlaw45.ViewersSpec", spec := "viewersSpec", unfollowed := true, recurses := true, named := ["unicode/utf8.first", "unicode/utf8.acceptRanges"], plainKeys := false, apart := false, laid := [("unicode/utf8.acceptRanges", laid_unicode_utf8_acceptRanges), ("unicode/utf8.first", laid_unicode_utf8_first)] }
def ViewersSpecSaid : Prop := viewersSpecRow.holds Tryz.pinned (OpenSpec.ofChange viewersSpecSpec)

/-- ITS FALSE NEIGHBOUR: 'it returns false'. Refute it at one input. -/
def viewersSpecWrong : ChangeSpec := { name := "viewersSpec", fn := fun _ => fun
  | [d] => { results := [.lit (.bool false)], args := [d] }
  | _ => none }
def ViewersSpecWrongFalsely : Prop := viewersSpecRow.holds Tryz.pinned (OpenSpec.ofChange viewersSpecWrong)

/-- 'hansardlaw45.ViewersTextSpec': WHATEVER THE INPUT: true; the input reads as it did. -/
def viewersTextSpecSpec : ChangeSpec := { name := "viewersTextSpec", fn := fun _ => fun
  | [d1, d2] => { results := [.lit (.bool true)], args := [d1, d2] }
  | _ => none }
def viewersTextSpecRow : OpenClaim := { program := "ytigmnglnedcfpaagreatdoor", sum := "64757c75cce206af035c6207063b2be75ab728fc1f8066719f48f5da325d01ac", func := "hansard/hansardlaw45.ViewersTextSpec", spec := "viewersTextSpec", unfollowed := true, recurses := true, named := ["unicode/utf8.first", "unicode/utf8.acceptRanges"], plainKeys := false, apart := false, laid := [("unicode/utf8.acceptRanges", laid_unicode_utf8_acceptRanges), ("unicode/utf8.first", laid_unicode_utf8_first)] }
def ViewersTextSpecSaid : Prop := viewersTextSpecRow.holds Tryz.pinned (OpenSpec.ofChange viewersTextSpecSpec)

/-- ITS FALSE NEIGHBOUR: 'it returns false'. Refute it at one input. -/
def viewersTextSpecWrong : ChangeSpec := { name := "viewersTextSpec", fn := fun _ => fun
  | [d1, d2] => { results := [.lit (.bool false)], args := [d1, d2] }
  | _ => none }
def ViewersTextSpecWrongFalsely : Prop := viewersTextSpecRow.holds Tryz.pinned (OpenSpec.ofChange viewersTextSpecWrong)

/-- 'hansardlaw45.ViewersJoined': WHATEVER THE INPUT: true; the input reads as it did. -/
def viewersJoinedSpec : ChangeSpec := { name := "viewersJoined", fn := fun _ => fun
  | [d1, d2, d3] => { results := [.lit (.bool true)], args := [d1, d2, d3] }
  | _ => none }
def viewersJoinedRow : OpenClaim := { program := "ytigmnglnedcfpaagreatdoor", sum := "64757c75cce206af035c6207063b2be75ab728fc1f8066719f48f5da325d01ac", func := "hansard/hansardlaw45.ViewersJoined", spec := "viewersJoined", unfollowed := true, recurses := true, named := ["unicode/utf8.first", "unicode/utf8.acceptRanges"], plainKeys := false, apart := false, laid := [("unicode/utf8.acceptRanges", laid_unicode_utf8_acceptRanges), ("unicode/utf8.first", laid_unicode_utf8_first)] }
def ViewersJoinedSaid : Prop := viewersJoinedRow.holds Tryz.pinned (OpenSpec.ofChange viewersJoinedSpec)

/-- ITS FALSE NEIGHBOUR: 'it returns false'. Refute it at one input. -/
def viewersJoinedWrong : ChangeSpec := { name := "viewersJoined", fn := fun _ => fun
  | [d1, d2, d3] => { results := [.lit (.bool false)], args := [d1, d2, d3] }
  | _ => none }
def ViewersJoinedWrongFalsely : Prop := viewersJoinedRow.holds Tryz.pinned (OpenSpec.ofChange viewersJoinedWrong)

/-- 'hansardlaw45.ViewersOther': WHATEVER THE INPUT: true; the input reads as it did. -/
def viewersOtherSpec : ChangeSpec := { name := "viewersOther", fn := fun _ => fun
  | [d1, d2, d3] => { results := [.lit (.bool true)], args := [d1, d2, d3] }
  | _ => none }
def viewersOtherRow : OpenClaim := { program := "ytigmnglnedcfpaagreatdoor", sum := "64757c75cce206af035c6207063b2be75ab728fc1f8066719f48f5da325d01ac", func := "hansard/hansardlaw45.ViewersOther", spec := "viewersOther", unfollowed := true, recurses := true, named := ["unicode/utf8.first", "unicode/utf8.acceptRanges"], plainKeys := false, apart := false, laid := [("unicode/utf8.acceptRanges", laid_unicode_utf8_acceptRanges), ("unicode/utf8.first", laid_unicode_utf8_first)] }
def ViewersOtherSaid : Prop := viewersOtherRow.holds Tryz.pinned (OpenSpec.ofChange viewersOtherSpec)

/-- ITS FALSE NEIGHBOUR: 'it returns false'. Refute it at one input. -/
def viewersOtherWrong : ChangeSpec := { name := "viewersOther", fn := fun _ => fun
  | [d1, d2, d3] => { results := [.lit (.bool false)], args := [d1, d2, d3] }
  | _ => none }
def ViewersOtherWrongFalsely : Prop := viewersOtherRow.holds Tryz.pinned (OpenSpec.ofChange viewersOtherWrong)

/-- 'hansardlaw45.ViewersCells': WHATEVER THE INPUT: true; the input reads as it did. -/
def viewersCellsSpec : ChangeSpec := { name := "viewersCells", fn := fun _ => fun
  | [d1, d2] => { results := [.lit (.bool true)], args := [d1, d2] }
  | _ => none }
def viewersCellsRow : OpenClaim := { program := "ytigmnglnedcfpaagreatdoor", sum := "64757c75cce206af035c6207063b2be75ab728fc1f8066719f48f5da325d01ac", func := "hansard/hansardlaw45.ViewersCells", spec := "viewersCells", unfollowed := true, recurses := true, named := ["unicode/utf8.first", "unicode/utf8.acceptRanges"], plainKeys := false, apart := false, laid := [("unicode/utf8.acceptRanges", laid_unicode_utf8_acceptRanges), ("unicode/utf8.first", laid_unicode_utf8_first)] }
def ViewersCellsSaid : Prop := viewersCellsRow.holds Tryz.pinned (OpenSpec.ofChange viewersCellsSpec)

/-- ITS FALSE NEIGHBOUR: 'it returns false'. Refute it at one input. -/
def viewersCellsWrong : ChangeSpec := { name := "viewersCells", fn := fun _ => fun
  | [d1, d2] => { results := [.lit (.bool false)], args := [d1, d2] }
  | _ => none }
def ViewersCellsWrongFalsely : Prop := viewersCellsRow.holds Tryz.pinned (OpenSpec.ofChange viewersCellsWrong)

/- THE SECOND FORM. 'bulk': how many values and letters a reading holds, each counted each time it is reached (what is shared counts as often as it is met; a slice's spare places count too). A statement '..UptoSaid' is the law's where the arguments, and the package variables that the reading takes, are together of bulk at most 1048576: NARROWER than '..Said'. Prove '..Said' where nothing that the law and all that it calls make is longer than what came in: it says more and counts as full. Else prove '..UptoSaid'. A law counts once. -/
mutual
def uptoBulk {H : Type} : DataW H → Nat
  | .lit (.string bytes) => bytes.length + 1
  | .lit _ => 1
  | .nil => 1
  | .ptr d => uptoBulk d + 1
  | .slice elems spare => uptoBulkAll elems + uptoBulkAll spare + 1
  | .agg parts => uptoBulkAll parts + 1
  | .iface _ d => uptoBulk d + 1
  | .map entries => uptoBulkEntries entries + 1
  | .held _ => 1
def uptoBulkAll {H : Type} : List (DataW H) → Nat
  | [] => 0
  | d :: r => uptoBulk d + uptoBulkAll r
def uptoBulkEntries {H : Type} : List (Lit × DataW H) → Nat
  | [] => 0
  | x :: r => uptoBulkEntry x + uptoBulkEntries r
def uptoBulkEntry {H : Type} : Lit × DataW H → Nat
  | (.string bytes, d) => bytes.length + uptoBulk d + 1
  | (_, d) => uptoBulk d + 1
 end
def uptoSmall : (H : Type) → List (DataW H) → Bool := fun _ ds => decide (uptoBulkAll ds ≤ 1048576)
def OpenSpec.upto (s : _root_.Go.ChangeSpec) : _root_.Go.OpenSpec := { _root_.Go.OpenSpec.ofChange s with cond := some uptoSmall }

/-- 'hansardlaw45.ViewersSpec', WHERE WHAT IT READS IS OF BULK AT MOST 1048576: true; the input reads as it did. -/
def viewersSpecUptoRow : OpenClaim := { program := "ytigmnglnedcfpaagreatdoor", sum := "64757c75cce206af035c6207063b2be75ab728fc1f8066719f48f5da325d01ac", func := "hansard/hansardlaw45.ViewersSpec", spec := "viewersSpec", unfollowed := true, recurses := true, named := ["unicode/utf8.first", "unicode/utf8.acceptRanges"], plainKeys := false, apart := false, laid := [("unicode/utf8.acceptRanges", laid_unicode_utf8_acceptRanges), ("unicode/utf8.first", laid_unicode_utf8_first)], narrowed := true }
def ViewersSpecUptoSaid : Prop := viewersSpecUptoRow.holds Tryz.pinned (OpenSpec.upto viewersSpecSpec)

/-- 'hansardlaw45.ViewersTextSpec', WHERE WHAT IT READS IS OF BULK AT MOST 1048576: true; the input reads as it did. -/
def viewersTextSpecUptoRow : OpenClaim := { program := "ytigmnglnedcfpaagreatdoor", sum := "64757c75cce206af035c6207063b2be75ab728fc1f8066719f48f5da325d01ac", func := "hansard/hansardlaw45.ViewersTextSpec", spec := "viewersTextSpec", unfollowed := true, recurses := true, named := ["unicode/utf8.first", "unicode/utf8.acceptRanges"], plainKeys := false, apart := false, laid := [("unicode/utf8.acceptRanges", laid_unicode_utf8_acceptRanges), ("unicode/utf8.first", laid_unicode_utf8_first)], narrowed := true }
def ViewersTextSpecUptoSaid : Prop := viewersTextSpecUptoRow.holds Tryz.pinned (OpenSpec.upto viewersTextSpecSpec)

/-- 'hansardlaw45.ViewersJoined', WHERE WHAT IT READS IS OF BULK AT MOST 1048576: true; the input reads as it did. -/
def viewersJoinedUptoRow : OpenClaim := { program := "ytigmnglnedcfpaagreatdoor", sum := "64757c75cce206af035c6207063b2be75ab728fc1f8066719f48f5da325d01ac", func := "hansard/hansardlaw45.ViewersJoined", spec := "viewersJoined", unfollowed := true, recurses := true, named := ["unicode/utf8.first", "unicode/utf8.acceptRanges"], plainKeys := false, apart := false, laid := [("unicode/utf8.acceptRanges", laid_unicode_utf8_acceptRanges), ("unicode/utf8.first", laid_unicode_utf8_first)], narrowed := true }
def ViewersJoinedUptoSaid : Prop := viewersJoinedUptoRow.holds Tryz.pinned (OpenSpec.upto viewersJoinedSpec)

/-- 'hansardlaw45.ViewersOther', WHERE WHAT IT READS IS OF BULK AT MOST 1048576: true; the input reads as it did. -/
def viewersOtherUptoRow : OpenClaim := { program := "ytigmnglnedcfpaagreatdoor", sum := "64757c75cce206af035c6207063b2be75ab728fc1f8066719f48f5da325d01ac", func := "hansard/hansardlaw45.ViewersOther", spec := "viewersOther", unfollowed := true, recurses := true, named := ["unicode/utf8.first", "unicode/utf8.acceptRanges"], plainKeys := false, apart := false, laid := [("unicode/utf8.acceptRanges", laid_unicode_utf8_acceptRanges), ("unicode/utf8.first", laid_unicode_utf8_first)], narrowed := true }
def ViewersOtherUptoSaid : Prop := viewersOtherUptoRow.holds Tryz.pinned (OpenSpec.upto viewersOtherSpec)

/-- 'hansardlaw45.ViewersCells', WHERE WHAT IT READS IS OF BULK AT MOST 1048576: true; the input reads as it did. -/
def viewersCellsUptoRow : OpenClaim := { program := "ytigmnglnedcfpaagreatdoor", sum := "64757c75cce206af035c6207063b2be75ab728fc1f8066719f48f5da325d01ac", func := "hansard/hansardlaw45.ViewersCells", spec := "viewersCells", unfollowed := true, recurses := true, named := ["unicode/utf8.first", "unicode/utf8.acceptRanges"], plainKeys := false, apart := false, laid := [("unicode/utf8.acceptRanges", laid_unicode_utf8_acceptRanges), ("unicode/utf8.first", laid_unicode_utf8_first)], narrowed := true }
def ViewersCellsUptoSaid : Prop := viewersCellsUptoRow.holds Tryz.pinned (OpenSpec.upto viewersCellsSpec)

end Rows
end Go.Proofs.YtigmnglnedcfpaaGreatDoor
