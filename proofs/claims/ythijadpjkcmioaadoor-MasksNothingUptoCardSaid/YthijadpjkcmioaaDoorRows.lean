/-
  NARROWER THAN 'FOR EVERY INPUT', by the rows' own cells (each row's printed sentence says how): MasksSpec: laid · MasksNothing: laid · MasksEach: laid · MasksWorse: laid · MasksShown: laid.
  DERIVED. THE GIVEN ROWS OF THIS SEAT. 5 by the template 'for every input the law returns true; each argument reads behind the call as it read before'; 0 by the template 'total and deterministic' (their statements: YthijadpjkcmioaaDoorTotals.lean).
  GIVEN WITH THE SEED: the statements are not yours to turn. If you find one false, say at which input.
  Laid BY PROGRAM, IN A SANDBOX (cutbox-rows.mjs): the forced cells as the released guide's own fill.sh prints them over the translation c65481cb4caaf0d2… (all of the seat's roots in one cut). By AI agents, Wed Nov 11 2026. No macro, syntax, notation, axiom, sorry.
-/
import Derived.Test.YthijadpjkcmioaaDoorChecked
import GoSem.PinnedTables
import GoSem.Claim
import GoSem.ClaimJoined
import GoSem.ClaimMapViews
import Derived.JoinedTies
import Derived.KernelRfl
namespace Go.Proofs.YthijadpjkcmioaaDoor
/- THE CELL 'sum', in the pinned program and in every row, IS THE sha256 OF THE DUMP (.gsa) THAT YthijadpjkcmioaaDoorProg.lean LOADS. Nothing in Lean hashes anything: it is a label: what it is worth is what the hold of that sum in a sandbox is worth. -/
noncomputable def Tryd.pinned : Pinned := { name := "ythijadpjkcmioaadoor", sum := "c65481cb4caaf0d2007e224bac63c5bda5f5725da2f279864f4f1d637903a2db", checked := Tryd.checked }
namespace Rows
def none {H : Type} : Left H := { results := [], args := [] }

/- WHAT THE LISTED PACKAGE-LEVEL VARIABLES READ AS WHEN THE CALL BEGINS. Each datum BY PROGRAM (the guide's laid-datum.mjs) off the statement by which the dump's own 'gosem.cut.vars' lays the variable. In a bare row this is a premise. The card (YthijadpjkcmioaaDoorCards.lean) ties it to the program's text. -/
def laid_unicode_utf8_acceptRanges {H : Type} : DataW H := .agg [.agg [.lit (.int .u8 128), .lit (.int .u8 191)], .agg [.lit (.int .u8 160), .lit (.int .u8 191)], .agg [.lit (.int .u8 128), .lit (.int .u8 159)], .agg [.lit (.int .u8 144), .lit (.int .u8 191)], .agg [.lit (.int .u8 128), .lit (.int .u8 143)], .agg [.lit (.int .u8 0), .lit (.int .u8 0)], .agg [.lit (.int .u8 0), .lit (.int .u8 0)], .agg [.lit (.int .u8 0), .lit (.int .u8 0)], .agg [.lit (.int .u8 0), .lit (.int .u8 0)], .agg [.lit (.int .u8 0), .lit (.int .u8 0)], .agg [.lit (.int .u8 0), .lit (.int .u8 0)], .agg [.lit (.int .u8 0), .lit (.int .u8 0)], .agg [.lit (.int .u8 0), .lit (.int .u8 0)], .agg [.lit (.int .u8 0), .lit (.int .u8 0)], .agg [.lit (.int .u8 0), .lit (.int .u8 0)], .agg [.lit (.int .u8 0), .lit (.int .u8 0)]]
/-- One of Go's own tables, pinned by name: the form's constant. -/
def laid_unicode_utf8_first : DataW Unit := Go.Pinned.utf8First

/-- 'hansardlaw37.MasksSpec': WHATEVER THE INPUT: true; the input reads as it did. -/
def masksSpecSpec : ChangeSpec := { name := "masksSpec", fn := fun _ => fun
  | [d1, d2] => { results := [.lit (.bool true)], args := [d1, d2] }
  | _ => none }
def masksSpecRow : OpenClaim := { program := "ythijadpjkcmioaadoor", sum := "c65481cb4caaf0d2007e224bac63c5bda5f5725da2f279864f4f1d637903a2db", func := "hansard/hansardlaw37.MasksSpec", spec := "masksSpec", unfollowed := true, recurses := true, named := ["unicode/utf8.first", "unicode/utf8.acceptRanges"], apart := false, laid := [("unicode/utf8.acceptRanges", laid_unicode_utf8_acceptRanges), ("unicode/utf8.first", laid_unicode_utf8_first)] }
def MasksSpecSaid : Prop := masksSpecRow.holds Tryd.pinned (OpenSpec.ofChange masksSpecSpec)

/-- ITS FALSE NEIGHBOUR: 'it returns false'. Refute it at one input. -/
def masksSpecWrong : ChangeSpec := { name := "masksSpec", fn := fun _ => fun
  | [d1, d2] => { results := [.lit (.bool false)], args := [d1, d2] }
  | _ => none }
def MasksSpecWrongFalsely : Prop := masksSpecRow.holds Tryd.pinned (OpenSpec.ofChange masksSpecWrong)

/-- 'hansardlaw37.MasksNothing': WHATEVER THE INPUT: true; the input reads as it did. -/
def masksNothingSpec : ChangeSpec := { name := "masksNothing", fn := fun _ => fun
  | [d1, d2, d3] => { results := [.lit (.bool true)], args := [d1, d2, d3] }
  | _ => none }
def masksNothingRow : OpenClaim := { program := "ythijadpjkcmioaadoor", sum := "c65481cb4caaf0d2007e224bac63c5bda5f5725da2f279864f4f1d637903a2db", func := "hansard/hansardlaw37.MasksNothing", spec := "masksNothing", unfollowed := true, recurses := true, named := ["unicode/utf8.first", "unicode/utf8.acceptRanges"], apart := false, laid := [("unicode/utf8.acceptRanges", laid_unicode_utf8_acceptRanges), ("unicode/utf8.first", laid_unicode_utf8_first)] }
def MasksNothingSaid : Prop := masksNothingRow.holds Tryd.pinned (OpenSpec.ofChange masksNothingSpec)

/-- ITS FALSE NEIGHBOUR: 'it returns false'. Refute it at one input. -/
def masksNothingWrong : ChangeSpec := { name := "masksNothing", fn := fun _ => fun
  | [d1, d2, d3] => { results := [.lit (.bool false)], args := [d1, d2, d3] }
  | _ => none }
def MasksNothingWrongFalsely : Prop := masksNothingRow.holds Tryd.pinned (OpenSpec.ofChange masksNothingWrong)

/-- 'hansardlaw37.MasksEach': WHATEVER THE INPUT: true; the input reads as it did. -/
def masksEachSpec : ChangeSpec := { name := "masksEach", fn := fun _ => fun
  | [d1, d2, d3] => { results := [.lit (.bool true)], args := [d1, d2, d3] }
  | _ => none }
def masksEachRow : OpenClaim := { program := "ythijadpjkcmioaadoor", sum := "c65481cb4caaf0d2007e224bac63c5bda5f5725da2f279864f4f1d637903a2db", func := "hansard/hansardlaw37.MasksEach", spec := "masksEach", unfollowed := true, recurses := true, named := ["unicode/utf8.first", "unicode/utf8.acceptRanges"], apart := false, laid := [("unicode/utf8.acceptRanges", laid_unicode_utf8_acceptRanges), ("unicode/utf8.first", laid_unicode_utf8_first)] }
def MasksEachSaid : Prop := masksEachRow.holds Tryd.pinned (OpenSpec.ofChange masksEachSpec)

/-- ITS FALSE NEIGHBOUR: 'it returns false'. Refute it at one input. -/
def masksEachWrong : ChangeSpec := { name := "masksEach", fn := fun _ => fun
  | [d1, d2, d3] => { results := [.lit (.bool false)], args := [d1, d2, d3] }
  | _ => none }
def MasksEachWrongFalsely : Prop := masksEachRow.holds Tryd.pinned (OpenSpec.ofChange masksEachWrong)

/-- 'hansardlaw37.MasksWorse': WHATEVER THE INPUT: true; the input reads as it did. -/
def masksWorseSpec : ChangeSpec := { name := "masksWorse", fn := fun _ => fun
  | [d1, d2, d3, d4] => { results := [.lit (.bool true)], args := [d1, d2, d3, d4] }
  | _ => none }
def masksWorseRow : OpenClaim := { program := "ythijadpjkcmioaadoor", sum := "c65481cb4caaf0d2007e224bac63c5bda5f5725da2f279864f4f1d637903a2db", func := "hansard/hansardlaw37.MasksWorse", spec := "masksWorse", unfollowed := true, recurses := true, named := ["unicode/utf8.first", "unicode/utf8.acceptRanges"], apart := false, laid := [("unicode/utf8.acceptRanges", laid_unicode_utf8_acceptRanges), ("unicode/utf8.first", laid_unicode_utf8_first)] }
def MasksWorseSaid : Prop := masksWorseRow.holds Tryd.pinned (OpenSpec.ofChange masksWorseSpec)

/-- ITS FALSE NEIGHBOUR: 'it returns false'. Refute it at one input. -/
def masksWorseWrong : ChangeSpec := { name := "masksWorse", fn := fun _ => fun
  | [d1, d2, d3, d4] => { results := [.lit (.bool false)], args := [d1, d2, d3, d4] }
  | _ => none }
def MasksWorseWrongFalsely : Prop := masksWorseRow.holds Tryd.pinned (OpenSpec.ofChange masksWorseWrong)

/-- 'hansardlaw37.MasksShown': WHATEVER THE INPUT: true; the input reads as it did. -/
def masksShownSpec : ChangeSpec := { name := "masksShown", fn := fun _ => fun
  | [d1, d2, d3] => { results := [.lit (.bool true)], args := [d1, d2, d3] }
  | _ => none }
def masksShownRow : OpenClaim := { program := "ythijadpjkcmioaadoor", sum := "c65481cb4caaf0d2007e224bac63c5bda5f5725da2f279864f4f1d637903a2db", func := "hansard/hansardlaw37.MasksShown", spec := "masksShown", unfollowed := true, recurses := true, named := ["unicode/utf8.first", "unicode/utf8.acceptRanges"], apart := false, laid := [("unicode/utf8.acceptRanges", laid_unicode_utf8_acceptRanges), ("unicode/utf8.first", laid_unicode_utf8_first)] }
def MasksShownSaid : Prop := masksShownRow.holds Tryd.pinned (OpenSpec.ofChange masksShownSpec)

/-- ITS FALSE NEIGHBOUR: 'it returns false'. Refute it at one input. -/
def masksShownWrong : ChangeSpec := { name := "masksShown", fn := fun _ => fun
  | [d1, d2, d3] => { results := [.lit (.bool false)], args := [d1, d2, d3] }
  | _ => none }
def MasksShownWrongFalsely : Prop := masksShownRow.holds Tryd.pinned (OpenSpec.ofChange masksShownWrong)

/- THE SECOND FORM. 'bulk': how many values and letters a reading holds, each counted each time it is reached (what is shared counts as often as it is met; a slice's spare places count too). A statement '..UptoSaid' is the law's where the arguments, and the package variables that the reading takes, are together of bulk at most 1048576: NARROWER than '..Said'. Prove '..Said' where nothing that the law and all that it calls make is longer than what came in: it says more and counts as full. Else prove '..UptoSaid'. A law counts once. -/
mutual
def uptoBulk {H : Type} : DataW H → Nat
  | .lit (.string bytes) => bytes.length + 1
  | .lit _ => 1
  | .nil => 1
  | .ptr d => uptoBulk d + 1
  | .slice elems spare => uptoBulkAll elems + uptoBulkAll spare + 1
  | .agg parts => uptoBulkAll parts + 1
  | .iface _ d => uptoBulk d + 1
  | .map entries => uptoBulkEntries entries + 1
  | .held _ => 1
def uptoBulkAll {H : Type} : List (DataW H) → Nat
  | [] => 0
  | d :: r => uptoBulk d + uptoBulkAll r
def uptoBulkEntries {H : Type} : List (Lit × DataW H) → Nat
  | [] => 0
  | x :: r => uptoBulkEntry x + uptoBulkEntries r
def uptoBulkEntry {H : Type} : Lit × DataW H → Nat
  | (.string bytes, d) => bytes.length + uptoBulk d + 1
  | (_, d) => uptoBulk d + 1
 end
def uptoSmall : (H : Type) → List (DataW H) → Bool := fun _ ds => decide (uptoBulkAll ds ≤ 1048576)
def OpenSpec.upto (s : _root_.Go.ChangeSpec) : _root_.Go.OpenSpec := { _root_.Go.OpenSpec.ofChange s with cond := some uptoSmall }

/-- 'hansardlaw37.MasksSpec', WHERE WHAT IT READS IS OF BULK AT MOST 1048576: true; the input reads as it did. -/
def masksSpecUptoRow : OpenClaim := { program := "ythijadpjkcmioaadoor", sum := "c65481cb4caaf0d2007e224bac63c5bda5f5725da2f279864f4f1d637903a2db", func := "hansard/hansardlaw37.MasksSpec", spec := "masksSpec", unfollowed := true, recurses := true, named := ["unicode/utf8.first", "unicode/utf8.acceptRanges"], apart := false, laid := [("unicode/utf8.acceptRanges", laid_unicode_utf8_acceptRanges), ("unicode/utf8.first", laid_unicode_utf8_first)], narrowed := true }
def MasksSpecUptoSaid : Prop := masksSpecUptoRow.holds Tryd.pinned (OpenSpec.upto masksSpecSpec)

/-- 'hansardlaw37.MasksNothing', WHERE WHAT IT READS IS OF BULK AT MOST 1048576: true; the input reads as it did. -/
def masksNothingUptoRow : OpenClaim := { program := "ythijadpjkcmioaadoor", sum := "c65481cb4caaf0d2007e224bac63c5bda5f5725da2f279864f4f1d637903a2db", func := "hansard/hansardlaw37.MasksNothing", spec := "masksNothing", unfollowed := true, recurses := true, named := ["unicode/utf8.first", "unicode/utf8.acceptRanges"], apart := false, laid := [("unicode/utf8.acceptRanges", laid_unicode_utf8_acceptRanges), ("unicode/utf8.first", laid_unicode_utf8_first)], narrowed := true }
def MasksNothingUptoSaid : Prop := masksNothingUptoRow.holds Tryd.pinned (OpenSpec.upto masksNothingSpec)

/-- 'hansardlaw37.MasksEach', WHERE WHAT IT READS IS OF BULK AT MOST 1048576: true; the input reads as it did. -/
def masksEachUptoRow : OpenClaim := { program := "ythijadpjkcmioaadoor", sum := "c65481cb4caaf0d2007e224bac63c5bda5f5725da2f279864f4f1d637903a2db", func := "hansard/hansardlaw37.MasksEach", spec := "masksEach", unfollowed := true, recurses := true, named := ["unicode/utf8.first", "unicode/utf8.acceptRanges"], apart := false, laid := [("unicode/utf8.acceptRanges", laid_unicode_utf8_acceptRanges), ("unicode/utf8.first", laid_unicode_utf8_first)], narrowed := true }
def MasksEachUptoSaid : Prop := masksEachUptoRow.holds Tryd.pinned (OpenSpec.upto masksEachSpec)

/-- 'hansardlaw37.MasksWorse', WHERE WHAT IT READS IS OF BULK AT MOST 1048576: true; the input reads as it did. -/
def masksWorseUptoRow : OpenClaim := { program := "ythijadpjkcmioaadoor", sum := "c65481cb4caaf0d2007e224bac63c5bda5f5725da2f279864f4f1d637903a2db", func := "hansard/hansardlaw37.MasksWorse", spec := "masksWorse", unfollowed := true, recurses := true, named := ["unicode/utf8.first", "unicode/utf8.acceptRanges"], apart := false, laid := [("unicode/utf8.acceptRanges", laid_unicode_utf8_acceptRanges), ("unicode/utf8.first", laid_unicode_utf8_first)], narrowed := true }
def MasksWorseUptoSaid : Prop := masksWorseUptoRow.holds Tryd.pinned (OpenSpec.upto masksWorseSpec)

/-- 'hansardlaw37.MasksShown', WHERE WHAT IT READS IS OF BULK AT MOST 1048576: true; the input reads as it did. -/
def masksShownUptoRow : OpenClaim := { program := "ythijadpjkcmioaadoor", sum := "c65481cb4caaf0d2007e224bac63c5bda5f5725da2f279864f4f1d637903a2db", func := "hansard/hansardlaw37.MasksShown", spec := "masksShown", unfollowed := true, recurses := true, named := ["unicode/utf8.first", "unicode/utf8.acceptRanges"], apart := false, laid := [("unicode/utf8.acceptRanges", laid_unicode_utf8_acceptRanges), ("unicode/utf8.first", laid_unicode_utf8_first)], narrowed := true }
def MasksShownUptoSaid : Prop := masksShownUptoRow.holds Tryd.pinned (OpenSpec.upto masksShownSpec)

end Rows
end Go.Proofs.YthijadpjkcmioaaDoor
