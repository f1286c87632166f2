/-
  NARROWER THAN 'FOR EVERY INPUT', by the rows' own cells (each row's printed sentence says how): DirectionSpec: laid · DirectionShowSpec: laid · DirectionNeighbours: laid · DirectionRuns: laid · DirectionLevels: laid · DirectionPlain: laid.
  DERIVED. THE GIVEN ROWS OF THIS SEAT. 6 by the template 'for every input the law returns true; each argument reads behind the call as it read before'; 0 by the template 'total and deterministic' (their statements: YtjhpmmomalaiiaaDoorTotals.lean).
  GIVEN WITH THE SEED: the statements are not yours to turn. If you find one false, say at which input.
  Laid BY PROGRAM, IN A SANDBOX (cutbox-rows.mjs): the forced cells as the released guide's own fill.sh prints them over the translation f250888425d26d6d… (all of the seat's roots in one cut). By AI agents, Wed Nov 11 2026. No macro, syntax, notation, axiom, sorry.
-/
import Derived.Test.YtjhpmmomalaiiaaDoorChecked
import GoSem.PinnedTables
import GoSem.Claim
import GoSem.ClaimJoined
import GoSem.ClaimMapViews
import Derived.JoinedTies
import Derived.KernelRfl
namespace Go.Proofs.YtjhpmmomalaiiaaDoor
/- THE CELL 'sum', in the pinned program and in every row, IS THE sha256 OF THE DUMP (.gsa) THAT YtjhpmmomalaiiaaDoorProg.lean LOADS. Nothing in Lean hashes anything: it is a label: what it is worth is what the hold of that sum in a sandbox is worth. -/
noncomputable def Tryd.pinned : Pinned := { name := "ytjhpmmomalaiiaadoor", sum := "f250888425d26d6d665df7c1d6e16e21ec67a6125e384a4c64527415403c76eb", checked := Tryd.checked }
namespace Rows
def none {H : Type} : Left H := { results := [], args := [] }

/- WHAT THE LISTED PACKAGE-LEVEL VARIABLES READ AS WHEN THE CALL BEGINS. Each datum BY PROGRAM (the guide's laid-datum.mjs) off the statement by which the dump's own 'gosem.cut.vars' lays the variable. In a bare row this is a premise. The card (YtjhpmmomalaiiaaDoorCards.lean) ties it to the program's text. -/
def laid_unicode_utf8_acceptRanges {H : Type} : DataW H := .agg [.agg [.lit (.int .u8 128), .lit (.int .u8 191)], .agg [.lit (.int .u8 160), .lit (.int .u8 191)], .agg [.lit (.int .u8 128), .lit (.int .u8 159)], .agg [.lit (.int .u8 144), .lit (.int .u8 191)], .agg [.lit (.int .u8 128), .lit (.int .u8 143)], .agg [.lit (.int .u8 0), .lit (.int .u8 0)], .agg [.lit (.int .u8 0), .lit (.int .u8 0)], .agg [.lit (.int .u8 0), .lit (.int .u8 0)], .agg [.lit (.int .u8 0), .lit (.int .u8 0)], .agg [.lit (.int .u8 0), .lit (.int .u8 0)], .agg [.lit (.int .u8 0), .lit (.int .u8 0)], .agg [.lit (.int .u8 0), .lit (.int .u8 0)], .agg [.lit (.int .u8 0), .lit (.int .u8 0)], .agg [.lit (.int .u8 0), .lit (.int .u8 0)], .agg [.lit (.int .u8 0), .lit (.int .u8 0)], .agg [.lit (.int .u8 0), .lit (.int .u8 0)]]
/-- One of Go's own tables, pinned by name: the form's constant. -/
def laid_unicode_utf8_first : DataW Unit := Go.Pinned.utf8First

/-- 'hansardlaw10.DirectionSpec': WHATEVER THE INPUT: true; the input reads as it did. -/
def directionSpecSpec : ChangeSpec := { name := "directionSpec", fn := fun _ => fun
  | [d1, d2, d3] => { results := [.lit (.bool true)], args := [d1, d2, d3] }
  | _ => none }
def directionSpecRow : OpenClaim := { program := "ytjhpmmomalaiiaadoor", sum := "f250888425d26d6d665df7c1d6e16e21ec67a6125e384a4c64527415403c76eb", func := "hansard/hansardlaw10.DirectionSpec", spec := "directionSpec", unfollowed := true, recurses := true, named := ["unicode/utf8.first", "unicode/utf8.acceptRanges"], apart := false, laid := [("unicode/utf8.acceptRanges", laid_unicode_utf8_acceptRanges), ("unicode/utf8.first", laid_unicode_utf8_first)] }
def DirectionSpecSaid : Prop := directionSpecRow.holds Tryd.pinned (OpenSpec.ofChange directionSpecSpec)

/-- ITS FALSE NEIGHBOUR: 'it returns false'. Refute it at one input. -/
def directionSpecWrong : ChangeSpec := { name := "directionSpec", fn := fun _ => fun
  | [d1, d2, d3] => { results := [.lit (.bool false)], args := [d1, d2, d3] }
  | _ => none }
def DirectionSpecWrongFalsely : Prop := directionSpecRow.holds Tryd.pinned (OpenSpec.ofChange directionSpecWrong)

/-- 'hansardlaw10.DirectionShowSpec': WHATEVER THE INPUT: true; the input reads as it did. -/
def directionShowSpecSpec : ChangeSpec := { name := "directionShowSpec", fn := fun _ => fun
  | [d1, d2] => { results := [.lit (.bool true)], args := [d1, d2] }
  | _ => none }
def directionShowSpecRow : OpenClaim := { program := "ytjhpmmomalaiiaadoor", sum := "f250888425d26d6d665df7c1d6e16e21ec67a6125e384a4c64527415403c76eb", func := "hansard/hansardlaw10.DirectionShowSpec", spec := "directionShowSpec", unfollowed := true, recurses := true, named := ["unicode/utf8.first", "unicode/utf8.acceptRanges"], apart := false, laid := [("unicode/utf8.acceptRanges", laid_unicode_utf8_acceptRanges), ("unicode/utf8.first", laid_unicode_utf8_first)] }
def DirectionShowSpecSaid : Prop := directionShowSpecRow.holds Tryd.pinned (OpenSpec.ofChange directionShowSpecSpec)

/-- ITS FALSE NEIGHBOUR: 'it returns false'. Refute it at one input. -/
def directionShowSpecWrong : ChangeSpec := { name := "directionShowSpec", fn := fun _ => fun
  | [d1, d2] => { results := [.lit (.bool false)], args := [d1, d2] }
  | _ => none }
def DirectionShowSpecWrongFalsely : Prop := directionShowSpecRow.holds Tryd.pinned (OpenSpec.ofChange directionShowSpecWrong)

/-- 'hansardlaw10.DirectionNeighbours': WHATEVER THE INPUT: true; the input reads as it did. -/
def directionNeighboursSpec : ChangeSpec := { name := "directionNeighbours", fn := fun _ => fun
  | [d] => { results := [.lit (.bool true)], args := [d] }
  | _ => none }
def directionNeighboursRow : OpenClaim := { program := "ytjhpmmomalaiiaadoor", sum := "f250888425d26d6d665df7c1d6e16e21ec67a6125e384a4c64527415403c76eb", func := "hansard/hansardlaw10.DirectionNeighbours", spec := "directionNeighbours", unfollowed := true, recurses := true, named := ["unicode/utf8.first", "unicode/utf8.acceptRanges"], apart := false, laid := [("unicode/utf8.acceptRanges", laid_unicode_utf8_acceptRanges), ("unicode/utf8.first", laid_unicode_utf8_first)] }
def DirectionNeighboursSaid : Prop := directionNeighboursRow.holds Tryd.pinned (OpenSpec.ofChange directionNeighboursSpec)

/-- ITS FALSE NEIGHBOUR: 'it returns false'. Refute it at one input. -/
def directionNeighboursWrong : ChangeSpec := { name := "directionNeighbours", fn := fun _ => fun
  | [d] => { results := [.lit (.bool false)], args := [d] }
  | _ => none }
def DirectionNeighboursWrongFalsely : Prop := directionNeighboursRow.holds Tryd.pinned (OpenSpec.ofChange directionNeighboursWrong)

/-- 'hansardlaw10.DirectionRuns': WHATEVER THE INPUT: true; the input reads as it did. -/
def directionRunsSpec : ChangeSpec := { name := "directionRuns", fn := fun _ => fun
  | [d] => { results := [.lit (.bool true)], args := [d] }
  | _ => none }
def directionRunsRow : OpenClaim := { program := "ytjhpmmomalaiiaadoor", sum := "f250888425d26d6d665df7c1d6e16e21ec67a6125e384a4c64527415403c76eb", func := "hansard/hansardlaw10.DirectionRuns", spec := "directionRuns", unfollowed := true, recurses := true, named := ["unicode/utf8.first", "unicode/utf8.acceptRanges"], apart := false, laid := [("unicode/utf8.acceptRanges", laid_unicode_utf8_acceptRanges), ("unicode/utf8.first", laid_unicode_utf8_first)] }
def DirectionRunsSaid : Prop := directionRunsRow.holds Tryd.pinned (OpenSpec.ofChange directionRunsSpec)

/-- ITS FALSE NEIGHBOUR: 'it returns false'. Refute it at one input. -/
def directionRunsWrong : ChangeSpec := { name := "directionRuns", fn := fun _ => fun
  | [d] => { results := [.lit (.bool false)], args := [d] }
  | _ => none }
def DirectionRunsWrongFalsely : Prop := directionRunsRow.holds Tryd.pinned (OpenSpec.ofChange directionRunsWrong)

/-- 'hansardlaw10.DirectionLevels': WHATEVER THE INPUT: true; the input reads as it did. -/
def directionLevelsSpec : ChangeSpec := { name := "directionLevels", fn := fun _ => fun
  | [d1, d2] => { results := [.lit (.bool true)], args := [d1, d2] }
  | _ => none }
def directionLevelsRow : OpenClaim := { program := "ytjhpmmomalaiiaadoor", sum := "f250888425d26d6d665df7c1d6e16e21ec67a6125e384a4c64527415403c76eb", func := "hansard/hansardlaw10.DirectionLevels", spec := "directionLevels", unfollowed := true, recurses := true, named := ["unicode/utf8.first", "unicode/utf8.acceptRanges"], apart := false, laid := [("unicode/utf8.acceptRanges", laid_unicode_utf8_acceptRanges), ("unicode/utf8.first", laid_unicode_utf8_first)] }
def DirectionLevelsSaid : Prop := directionLevelsRow.holds Tryd.pinned (OpenSpec.ofChange directionLevelsSpec)

/-- ITS FALSE NEIGHBOUR: 'it returns false'. Refute it at one input. -/
def directionLevelsWrong : ChangeSpec := { name := "directionLevels", fn := fun _ => fun
  | [d1, d2] => { results := [.lit (.bool false)], args := [d1, d2] }
  | _ => none }
def DirectionLevelsWrongFalsely : Prop := directionLevelsRow.holds Tryd.pinned (OpenSpec.ofChange directionLevelsWrong)

/-- 'hansardlaw10.DirectionPlain': WHATEVER THE INPUT: true; the input reads as it did. -/
def directionPlainSpec : ChangeSpec := { name := "directionPlain", fn := fun _ => fun
  | [d1, d2] => { results := [.lit (.bool true)], args := [d1, d2] }
  | _ => none }
def directionPlainRow : OpenClaim := { program := "ytjhpmmomalaiiaadoor", sum := "f250888425d26d6d665df7c1d6e16e21ec67a6125e384a4c64527415403c76eb", func := "hansard/hansardlaw10.DirectionPlain", spec := "directionPlain", unfollowed := true, recurses := true, named := ["unicode/utf8.first", "unicode/utf8.acceptRanges"], apart := false, laid := [("unicode/utf8.acceptRanges", laid_unicode_utf8_acceptRanges), ("unicode/utf8.first", laid_unicode_utf8_first)] }
def DirectionPlainSaid : Prop := directionPlainRow.holds Tryd.pinned (OpenSpec.ofChange directionPlainSpec)

/-- ITS FALSE NEIGHBOUR: 'it returns false'. Refute it at one input. -/
def directionPlainWrong : ChangeSpec := { name := "directionPlain", fn := fun _ => fun
  | [d1, d2] => { results := [.lit (.bool false)], args := [d1, d2] }
  | _ => none }
def DirectionPlainWrongFalsely : Prop := directionPlainRow.holds Tryd.pinned (OpenSpec.ofChange directionPlainWrong)

/- THE SECOND FORM. 'bulk': how many values and letters a reading holds, each counted each time it is reached (what is shared counts as often as it is met; a slice's spare places count too). A statement '..UptoSaid' is the law's where the arguments, and the package variables that the reading takes, are together of bulk at most 1048576: NARROWER than '..Said'. Prove '..Said' where nothing that the law and all that it calls make is longer than what came in: it says more and counts as full. Else prove '..UptoSaid'. A law counts once. -/
mutual
def uptoBulk {H : Type} : DataW H → Nat
  | .lit (.string bytes) => bytes.length + 1
  | .lit _ => 1
  | .nil => 1
  | .ptr d => uptoBulk d + 1
  | .slice elems spare => uptoBulkAll elems + uptoBulkAll spare + 1
  | .agg parts => uptoBulkAll parts + 1
  | .iface _ d => uptoBulk d + 1
  | .map entries => uptoBulkEntries entries + 1
  | .held _ => 1
def uptoBulkAll {H : Type} : List (DataW H) → Nat
  | [] => 0
  | d :: r => uptoBulk d + uptoBulkAll r
def uptoBulkEntries {H : Type} : List (Lit × DataW H) → Nat
  | [] => 0
  | x :: r => uptoBulkEntry x + uptoBulkEntries r
def uptoBulkEntry {H : Type} : Lit × DataW H → Nat
  | (.string bytes, d) => bytes.length + uptoBulk d + 1
  | (_, d) => uptoBulk d + 1
 end
def uptoSmall : (H : Type) → List (DataW H) → Bool := fun _ ds => decide (uptoBulkAll ds ≤ 1048576)
def OpenSpec.upto (s : _root_.Go.ChangeSpec) : _root_.Go.OpenSpec := { _root_.Go.OpenSpec.ofChange s with cond := some uptoSmall }

/-- 'hansardlaw10.DirectionSpec', WHERE WHAT IT READS IS OF BULK AT MOST 1048576: true; the input reads as it did. -/
def directionSpecUptoRow : OpenClaim := { program := "ytjhpmmomalaiiaadoor", sum := "f250888425d26d6d665df7c1d6e16e21ec67a6125e384a4c64527415403c76eb", func := "hansard/hansardlaw10.DirectionSpec", spec := "directionSpec", unfollowed := true, recurses := true, named := ["unicode/utf8.first", "unicode/utf8.acceptRanges"], apart := false, laid := [("unicode/utf8.acceptRanges", laid_unicode_utf8_acceptRanges), ("unicode/utf8.first", laid_unicode_utf8_first)], narrowed := true }
def DirectionSpecUptoSaid : Prop := directionSpecUptoRow.holds Tryd.pinned (OpenSpec.upto directionSpecSpec)

/-- 'hansardlaw10.DirectionShowSpec', WHERE WHAT IT READS IS OF BULK AT MOST 1048576: true; the input reads as it did. -/
def directionShowSpecUptoRow : OpenClaim := { program := "ytjhpmmomalaiiaadoor", sum := "f250888425d26d6d665df7c1d6e16e21ec67a6125e384a4c64527415403c76eb", func := "hansard/hansardlaw10.DirectionShowSpec", spec := "directionShowSpec", unfollowed := true, recurses := true, named := ["unicode/utf8.first", "unicode/utf8.acceptRanges"], apart := false, laid := [("unicode/utf8.acceptRanges", laid_unicode_utf8_acceptRanges), ("unicode/utf8.first", laid_unicode_utf8_first)], narrowed := true }
def DirectionShowSpecUptoSaid : Prop := directionShowSpecUptoRow.holds Tryd.pinned (OpenSpec.upto directionShowSpecSpec)

/-- 'hansardlaw10.DirectionNeighbours', WHERE WHAT IT READS IS OF BULK AT MOST 1048576: true; the input reads as it did. -/
def directionNeighboursUptoRow : OpenClaim := { program := "ytjhpmmomalaiiaadoor", sum := "f250888425d26d6d665df7c1d6e16e21ec67a6125e384a4c64527415403c76eb", func := "hansard/hansardlaw10.DirectionNeighbours", spec := "directionNeighbours", unfollowed := true, recurses := true, named := ["unicode/utf8.first", "unicode/utf8.acceptRanges"], apart := false, laid := [("unicode/utf8.acceptRanges", laid_unicode_utf8_acceptRanges), ("unicode/utf8.first", laid_unicode_utf8_first)], narrowed := true }
def DirectionNeighboursUptoSaid : Prop := directionNeighboursUptoRow.holds Tryd.pinned (OpenSpec.upto directionNeighboursSpec)

/-- 'hansardlaw10.DirectionRuns', WHERE WHAT IT READS IS OF BULK AT MOST 1048576: true; the input reads as it did. -/
def directionRunsUptoRow : OpenClaim := { program := "ytjhpmmomalaiiaadoor", sum := "f250888425d26d6d665df7c1d6e16e21ec67a6125e384a4c64527415403c76eb", func := "hansard/hansardlaw10.DirectionRuns", spec := "directionRuns", unfollowed := true, recurses := true, named := ["unicode/utf8.first", "unicode/utf8.acceptRanges"], apart := false, laid := [("unicode/utf8.acceptRanges", laid_unicode_utf8_acceptRanges), ("unicode/utf8.first", laid_unicode_utf8_first)], narrowed := true }
def DirectionRunsUptoSaid : Prop := directionRunsUptoRow.holds Tryd.pinned (OpenSpec.upto directionRunsSpec)

/-- 'hansardlaw10.DirectionLevels', WHERE WHAT IT READS IS OF BULK AT MOST 1048576: true; the input reads as it did. -/
def directionLevelsUptoRow : OpenClaim := { program := "ytjhpmmomalaiiaadoor", sum := "f250888425d26d6d665df7c1d6e16e21ec67a6125e384a4c64527415403c76eb", func := "hansard/hansardlaw10.DirectionLevels", spec := "directionLevels", unfollowed := true, recurses := true, named := ["unicode/utf8.first", "unicode/utf8.acceptRanges"], apart := false, laid := [("unicode/utf8.acceptRanges", laid_unicode_utf8_acceptRanges), ("unicode/utf8.first", laid_unicode_utf8_first)], narrowed := true }
def DirectionLevelsUptoSaid : Prop := directionLevelsUptoRow.holds Tryd.pinned (OpenSpec.upto directionLevelsSpec)

/-- 'hansardlaw10.DirectionPlain', WHERE WHAT IT READS IS OF BULK AT MOST 1048576: true; the input reads as it did. -/
def directionPlainUptoRow : OpenClaim := { program := "ytjhpmmomalaiiaadoor", sum := "f250888425d26d6d665df7c1d6e16e21ec67a6125e384a4c64527415403c76eb", func := "hansard/hansardlaw10.DirectionPlain", spec := "directionPlain", unfollowed := true, recurses := true, named := ["unicode/utf8.first", "unicode/utf8.acceptRanges"], apart := false, laid := [("unicode/utf8.acceptRanges", laid_unicode_utf8_acceptRanges), ("unicode/utf8.first", laid_unicode_utf8_first)], narrowed := true }
def DirectionPlainUptoSaid : Prop := directionPlainUptoRow.holds Tryd.pinned (OpenSpec.upto directionPlainSpec)

end Rows
end Go.Proofs.YtjhpmmomalaiiaaDoor
