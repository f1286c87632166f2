/-
  NARROWER THAN 'FOR EVERY INPUT', by the rows' own cells (each row's printed sentence says how): TextSpec: laid · TextWordsSpec: laid · TextBack: laid · TextBytes: laid · TextJoined: laid · TextPieces: laid · TextWord: laid.
  DERIVED. THE GIVEN ROWS OF THIS SEAT. 7 by the template 'for every input the law returns true; each argument reads behind the call as it read before'; 0 by the template 'total and deterministic' (their statements: YtgeohlknkajlkaaDoorTotals.lean).
  GIVEN WITH THE SEED: the statements are not yours to turn. If you find one false, say at which input.
  Laid BY PROGRAM, IN A SANDBOX (cutbox-rows.mjs): the forced cells as the released guide's own fill.sh prints them over the translation 54f082bce3255875… (all of the seat's roots in one cut). By AI agents, Wed Nov 11 2026. No macro, syntax, notation, axiom, sorry.
-/
import Derived.Test.YtgeohlknkajlkaaDoorChecked
import GoSem.PinnedTables
import GoSem.Claim
import GoSem.ClaimJoined
import GoSem.ClaimMapViews
import Derived.JoinedTies
import Derived.KernelRfl
namespace Go.Proofs.YtgeohlknkajlkaaDoor
/- THE CELL 'sum', in the pinned program and in every row, IS THE sha256 OF THE DUMP (.gsa) THAT YtgeohlknkajlkaaDoorProg.lean LOADS. Nothing in Lean hashes anything: it is a label: what it is worth is what the hold of that sum in a sandbox is worth. -/
noncomputable def Tryd.pinned : Pinned := { name := "ytgeohlknkajlkaadoor", sum := "54f082bce32558754c965ba0a1ed48f221ff69ecc40c8bf1e5e33396e11e640c", checked := Tryd.checked }
namespace Rows
def none {H : Type} : Left H := { results := [], args := [] }

/- WHAT THE LISTED PACKAGE-LEVEL VARIABLES READ AS WHEN THE CALL BEGINS. Each datum BY PROGRAM (the guide's laid-datum.mjs) off the statement by which the dump's own 'gosem.cut.vars' lays the variable. In a bare row this is a premise. The card (YtgeohlknkajlkaaDoorCards.lean) ties it to the program's text. -/
def laid_unicode_utf8_acceptRanges {H : Type} : DataW H := .agg [.agg [.lit (.int .u8 128), .lit (.int .u8 191)], .agg [.lit (.int .u8 160), .lit (.int .u8 191)], .agg [.lit (.int .u8 128), .lit (.int .u8 159)], .agg [.lit (.int .u8 144), .lit (.int .u8 191)], .agg [.lit (.int .u8 128), .lit (.int .u8 143)], .agg [.lit (.int .u8 0), .lit (.int .u8 0)], .agg [.lit (.int .u8 0), .lit (.int .u8 0)], .agg [.lit (.int .u8 0), .lit (.int .u8 0)], .agg [.lit (.int .u8 0), .lit (.int .u8 0)], .agg [.lit (.int .u8 0), .lit (.int .u8 0)], .agg [.lit (.int .u8 0), .lit (.int .u8 0)], .agg [.lit (.int .u8 0), .lit (.int .u8 0)], .agg [.lit (.int .u8 0), .lit (.int .u8 0)], .agg [.lit (.int .u8 0), .lit (.int .u8 0)], .agg [.lit (.int .u8 0), .lit (.int .u8 0)], .agg [.lit (.int .u8 0), .lit (.int .u8 0)]]
/-- One of Go's own tables, pinned by name: the form's constant. -/
def laid_unicode_utf8_first : DataW Unit := Go.Pinned.utf8First

/-- 'hansardlaw09.TextSpec': WHATEVER THE INPUT: true; the input reads as it did. -/
def textSpecSpec : ChangeSpec := { name := "textSpec", fn := fun _ => fun
  | [d1, d2] => { results := [.lit (.bool true)], args := [d1, d2] }
  | _ => none }
def textSpecRow : OpenClaim := { program := "ytgeohlknkajlkaadoor", sum := "54f082bce32558754c965ba0a1ed48f221ff69ecc40c8bf1e5e33396e11e640c", func := "hansard/hansardlaw09.TextSpec", spec := "textSpec", unfollowed := true, recurses := true, named := ["unicode/utf8.first", "unicode/utf8.acceptRanges"], apart := false, laid := [("unicode/utf8.acceptRanges", laid_unicode_utf8_acceptRanges), ("unicode/utf8.first", laid_unicode_utf8_first)] }
def TextSpecSaid : Prop := textSpecRow.holds Tryd.pinned (OpenSpec.ofChange textSpecSpec)

/-- ITS FALSE NEIGHBOUR: 'it returns false'. Refute it at one input. -/
def textSpecWrong : ChangeSpec := { name := "textSpec", fn := fun _ => fun
  | [d1, d2] => { results := [.lit (.bool false)], args := [d1, d2] }
  | _ => none }
def TextSpecWrongFalsely : Prop := textSpecRow.holds Tryd.pinned (OpenSpec.ofChange textSpecWrong)

/-- 'hansardlaw09.TextWordsSpec': WHATEVER THE INPUT: true; the input reads as it did. -/
def textWordsSpecSpec : ChangeSpec := { name := "textWordsSpec", fn := fun _ => fun
  | [d1, d2] => { results := [.lit (.bool true)], args := [d1, d2] }
  | _ => none }
def textWordsSpecRow : OpenClaim := { program := "ytgeohlknkajlkaadoor", sum := "54f082bce32558754c965ba0a1ed48f221ff69ecc40c8bf1e5e33396e11e640c", func := "hansard/hansardlaw09.TextWordsSpec", spec := "textWordsSpec", unfollowed := true, recurses := true, named := ["unicode/utf8.first", "unicode/utf8.acceptRanges"], apart := false, laid := [("unicode/utf8.acceptRanges", laid_unicode_utf8_acceptRanges), ("unicode/utf8.first", laid_unicode_utf8_first)] }
def TextWordsSpecSaid : Prop := textWordsSpecRow.holds Tryd.pinned (OpenSpec.ofChange textWordsSpecSpec)

/-- ITS FALSE NEIGHBOUR: 'it returns false'. Refute it at one input. -/
def textWordsSpecWrong : ChangeSpec := { name := "textWordsSpec", fn := fun _ => fun
  | [d1, d2] => { results := [.lit (.bool false)], args := [d1, d2] }
  | _ => none }
def TextWordsSpecWrongFalsely : Prop := textWordsSpecRow.holds Tryd.pinned (OpenSpec.ofChange textWordsSpecWrong)

/-- 'hansardlaw09.TextBack': WHATEVER THE INPUT: true; the input reads as it did. -/
def textBackSpec : ChangeSpec := { name := "textBack", fn := fun _ => fun
  | [d1, d2] => { results := [.lit (.bool true)], args := [d1, d2] }
  | _ => none }
def textBackRow : OpenClaim := { program := "ytgeohlknkajlkaadoor", sum := "54f082bce32558754c965ba0a1ed48f221ff69ecc40c8bf1e5e33396e11e640c", func := "hansard/hansardlaw09.TextBack", spec := "textBack", unfollowed := true, recurses := true, named := ["unicode/utf8.first", "unicode/utf8.acceptRanges"], apart := false, laid := [("unicode/utf8.acceptRanges", laid_unicode_utf8_acceptRanges), ("unicode/utf8.first", laid_unicode_utf8_first)] }
def TextBackSaid : Prop := textBackRow.holds Tryd.pinned (OpenSpec.ofChange textBackSpec)

/-- ITS FALSE NEIGHBOUR: 'it returns false'. Refute it at one input. -/
def textBackWrong : ChangeSpec := { name := "textBack", fn := fun _ => fun
  | [d1, d2] => { results := [.lit (.bool false)], args := [d1, d2] }
  | _ => none }
def TextBackWrongFalsely : Prop := textBackRow.holds Tryd.pinned (OpenSpec.ofChange textBackWrong)

/-- 'hansardlaw09.TextBytes': WHATEVER THE INPUT: true; the input reads as it did. -/
def textBytesSpec : ChangeSpec := { name := "textBytes", fn := fun _ => fun
  | [d1, d2, d3] => { results := [.lit (.bool true)], args := [d1, d2, d3] }
  | _ => none }
def textBytesRow : OpenClaim := { program := "ytgeohlknkajlkaadoor", sum := "54f082bce32558754c965ba0a1ed48f221ff69ecc40c8bf1e5e33396e11e640c", func := "hansard/hansardlaw09.TextBytes", spec := "textBytes", unfollowed := true, recurses := true, named := ["unicode/utf8.first", "unicode/utf8.acceptRanges"], apart := false, laid := [("unicode/utf8.acceptRanges", laid_unicode_utf8_acceptRanges), ("unicode/utf8.first", laid_unicode_utf8_first)] }
def TextBytesSaid : Prop := textBytesRow.holds Tryd.pinned (OpenSpec.ofChange textBytesSpec)

/-- ITS FALSE NEIGHBOUR: 'it returns false'. Refute it at one input. -/
def textBytesWrong : ChangeSpec := { name := "textBytes", fn := fun _ => fun
  | [d1, d2, d3] => { results := [.lit (.bool false)], args := [d1, d2, d3] }
  | _ => none }
def TextBytesWrongFalsely : Prop := textBytesRow.holds Tryd.pinned (OpenSpec.ofChange textBytesWrong)

/-- 'hansardlaw09.TextJoined': WHATEVER THE INPUT: true; the input reads as it did. -/
def textJoinedSpec : ChangeSpec := { name := "textJoined", fn := fun _ => fun
  | [d1, d2] => { results := [.lit (.bool true)], args := [d1, d2] }
  | _ => none }
def textJoinedRow : OpenClaim := { program := "ytgeohlknkajlkaadoor", sum := "54f082bce32558754c965ba0a1ed48f221ff69ecc40c8bf1e5e33396e11e640c", func := "hansard/hansardlaw09.TextJoined", spec := "textJoined", unfollowed := true, recurses := true, named := ["unicode/utf8.first", "unicode/utf8.acceptRanges"], apart := false, laid := [("unicode/utf8.acceptRanges", laid_unicode_utf8_acceptRanges), ("unicode/utf8.first", laid_unicode_utf8_first)] }
def TextJoinedSaid : Prop := textJoinedRow.holds Tryd.pinned (OpenSpec.ofChange textJoinedSpec)

/-- ITS FALSE NEIGHBOUR: 'it returns false'. Refute it at one input. -/
def textJoinedWrong : ChangeSpec := { name := "textJoined", fn := fun _ => fun
  | [d1, d2] => { results := [.lit (.bool false)], args := [d1, d2] }
  | _ => none }
def TextJoinedWrongFalsely : Prop := textJoinedRow.holds Tryd.pinned (OpenSpec.ofChange textJoinedWrong)

/-- 'hansardlaw09.TextPieces': WHATEVER THE INPUT: true; the input reads as it did. -/
def textPiecesSpec : ChangeSpec := { name := "textPieces", fn := fun _ => fun
  | [d1, d2] => { results := [.lit (.bool true)], args := [d1, d2] }
  | _ => none }
def textPiecesRow : OpenClaim := { program := "ytgeohlknkajlkaadoor", sum := "54f082bce32558754c965ba0a1ed48f221ff69ecc40c8bf1e5e33396e11e640c", func := "hansard/hansardlaw09.TextPieces", spec := "textPieces", unfollowed := true, recurses := true, named := ["unicode/utf8.first", "unicode/utf8.acceptRanges"], apart := false, laid := [("unicode/utf8.acceptRanges", laid_unicode_utf8_acceptRanges), ("unicode/utf8.first", laid_unicode_utf8_first)] }
def TextPiecesSaid : Prop := textPiecesRow.holds Tryd.pinned (OpenSpec.ofChange textPiecesSpec)

/-- ITS FALSE NEIGHBOUR: 'it returns false'. Refute it at one input. -/
def textPiecesWrong : ChangeSpec := { name := "textPieces", fn := fun _ => fun
  | [d1, d2] => { results := [.lit (.bool false)], args := [d1, d2] }
  | _ => none }
def TextPiecesWrongFalsely : Prop := textPiecesRow.holds Tryd.pinned (OpenSpec.ofChange textPiecesWrong)

/-- 'hansardlaw09.TextWord': WHATEVER THE INPUT: true; the input reads as it did. -/
def textWordSpec : ChangeSpec := { name := "textWord", fn := fun _ => fun
  | [d] => { results := [.lit (.bool true)], args := [d] }
  | _ => none }
def textWordRow : OpenClaim := { program := "ytgeohlknkajlkaadoor", sum := "54f082bce32558754c965ba0a1ed48f221ff69ecc40c8bf1e5e33396e11e640c", func := "hansard/hansardlaw09.TextWord", spec := "textWord", unfollowed := true, recurses := true, named := ["unicode/utf8.first", "unicode/utf8.acceptRanges"], apart := false, laid := [("unicode/utf8.acceptRanges", laid_unicode_utf8_acceptRanges), ("unicode/utf8.first", laid_unicode_utf8_first)] }
def TextWordSaid : Prop := textWordRow.holds Tryd.pinned (OpenSpec.ofChange textWordSpec)

/-- ITS FALSE NEIGHBOUR: 'it returns false'. Refute it at one input. -/
def textWordWrong : ChangeSpec := { name := "textWord", fn := fun _ => fun
  | [d] => { results := [.lit (.bool false)], args := [d] }
  | _ => none }
def TextWordWrongFalsely : Prop := textWordRow.holds Tryd.pinned (OpenSpec.ofChange textWordWrong)

/- THE SECOND FORM. 'bulk': how many values and letters a reading holds, each counted each time it is reached (what is shared counts as often as it is met; a slice's spare places count too). A statement '..UptoSaid' is the law's where the arguments, and the package variables that the reading takes, are together of bulk at most 1048576: NARROWER than '..Said'. Prove '..Said' where nothing that the law and all that it calls make is longer than what came in: it says more and counts as full. Else prove '..UptoSaid'. A law counts once. -/
mutual
def uptoBulk {H : Type} : DataW H → Nat
  | .lit (.string bytes) => bytes.length + 1
  | .lit _ => 1
  | .nil => 1
  | .ptr d => uptoBulk d + 1
  | .slice elems spare => uptoBulkAll elems + uptoBulkAll spare + 1
  | .agg parts => uptoBulkAll parts + 1
  | .iface _ d => uptoBulk d + 1
  | .map entries => uptoBulkEntries entries + 1
  | .held _ => 1
def uptoBulkAll {H : Type} : List (DataW H) → Nat
  | [] => 0
  | d :: r => uptoBulk d + uptoBulkAll r
def uptoBulkEntries {H : Type} : List (Lit × DataW H) → Nat
  | [] => 0
  | x :: r => uptoBulkEntry x + uptoBulkEntries r
def uptoBulkEntry {H : Type} : Lit × DataW H → Nat
  | (.string bytes, d) => bytes.length + uptoBulk d + 1
  | (_, d) => uptoBulk d + 1
 end
def uptoSmall : (H : Type) → List (DataW H) → Bool := fun _ ds => decide (uptoBulkAll ds ≤ 1048576)
def OpenSpec.upto (s : _root_.Go.ChangeSpec) : _root_.Go.OpenSpec := { _root_.Go.OpenSpec.ofChange s with cond := some uptoSmall }

/-- 'hansardlaw09.TextSpec', WHERE WHAT IT READS IS OF BULK AT MOST 1048576: true; the input reads as it did. -/
def textSpecUptoRow : OpenClaim := { program := "ytgeohlknkajlkaadoor", sum := "54f082bce32558754c965ba0a1ed48f221ff69ecc40c8bf1e5e33396e11e640c", func := "hansard/hansardlaw09.TextSpec", spec := "textSpec", unfollowed := true, recurses := true, named := ["unicode/utf8.first", "unicode/utf8.acceptRanges"], apart := false, laid := [("unicode/utf8.acceptRanges", laid_unicode_utf8_acceptRanges), ("unicode/utf8.first", laid_unicode_utf8_first)], narrowed := true }
def TextSpecUptoSaid : Prop := textSpecUptoRow.holds Tryd.pinned (OpenSpec.upto textSpecSpec)

/-- 'hansardlaw09.TextWordsSpec', WHERE WHAT IT READS IS OF BULK AT MOST 1048576: true; the input reads as it did. -/
def textWordsSpecUptoRow : OpenClaim := { program := "ytgeohlknkajlkaadoor", sum := "54f082bce32558754c965ba0a1ed48f221ff69ecc40c8bf1e5e33396e11e640c", func := "hansard/hansardlaw09.TextWordsSpec", spec := "textWordsSpec", unfollowed := true, recurses := true, named := ["unicode/utf8.first", "unicode/utf8.acceptRanges"], apart := false, laid := [("unicode/utf8.acceptRanges", laid_unicode_utf8_acceptRanges), ("unicode/utf8.first", laid_unicode_utf8_first)], narrowed := true }
def TextWordsSpecUptoSaid : Prop := textWordsSpecUptoRow.holds Tryd.pinned (OpenSpec.upto textWordsSpecSpec)

/-- 'hansardlaw09.TextBack', WHERE WHAT IT READS IS OF BULK AT MOST 1048576: true; the input reads as it did. -/
def textBackUptoRow : OpenClaim := { program := "ytgeohlknkajlkaadoor", sum := "54f082bce32558754c965ba0a1ed48f221ff69ecc40c8bf1e5e33396e11e640c", func := "hansard/hansardlaw09.TextBack", spec := "textBack", unfollowed := true, recurses := true, named := ["unicode/utf8.first", "unicode/utf8.acceptRanges"], apart := false, laid := [("unicode/utf8.acceptRanges", laid_unicode_utf8_acceptRanges), ("unicode/utf8.first", laid_unicode_utf8_first)], narrowed := true }
def TextBackUptoSaid : Prop := textBackUptoRow.holds Tryd.pinned (OpenSpec.upto textBackSpec)

/-- 'hansardlaw09.TextBytes', WHERE WHAT IT READS IS OF BULK AT MOST 1048576: true; the input reads as it did. -/
def textBytesUptoRow : OpenClaim := { program := "ytgeohlknkajlkaadoor", sum := "54f082bce32558754c965ba0a1ed48f221ff69ecc40c8bf1e5e33396e11e640c", func := "hansard/hansardlaw09.TextBytes", spec := "textBytes", unfollowed := true, recurses := true, named := ["unicode/utf8.first", "unicode/utf8.acceptRanges"], apart := false, laid := [("unicode/utf8.acceptRanges", laid_unicode_utf8_acceptRanges), ("unicode/utf8.first", laid_unicode_utf8_first)], narrowed := true }
def TextBytesUptoSaid : Prop := textBytesUptoRow.holds Tryd.pinned (OpenSpec.upto textBytesSpec)

/-- 'hansardlaw09.TextJoined', WHERE WHAT IT READS IS OF BULK AT MOST 1048576: true; the input reads as it did. -/
def textJoinedUptoRow : OpenClaim := { program := "ytgeohlknkajlkaadoor", sum := "54f082bce32558754c965ba0a1ed48f221ff69ecc40c8bf1e5e33396e11e640c", func := "hansard/hansardlaw09.TextJoined", spec := "textJoined", unfollowed := true, recurses := true, named := ["unicode/utf8.first", "unicode/utf8.acceptRanges"], apart := false, laid := [("unicode/utf8.acceptRanges", laid_unicode_utf8_acceptRanges), ("unicode/utf8.first", laid_unicode_utf8_first)], narrowed := true }
def TextJoinedUptoSaid : Prop := textJoinedUptoRow.holds Tryd.pinned (OpenSpec.upto textJoinedSpec)

/-- 'hansardlaw09.TextPieces', WHERE WHAT IT READS IS OF BULK AT MOST 1048576: true; the input reads as it did. -/
def textPiecesUptoRow : OpenClaim := { program := "ytgeohlknkajlkaadoor", sum := "54f082bce32558754c965ba0a1ed48f221ff69ecc40c8bf1e5e33396e11e640c", func := "hansard/hansardlaw09.TextPieces", spec := "textPieces", unfollowed := true, recurses := true, named := ["unicode/utf8.first", "unicode/utf8.acceptRanges"], apart := false, laid := [("unicode/utf8.acceptRanges", laid_unicode_utf8_acceptRanges), ("unicode/utf8.first", laid_unicode_utf8_first)], narrowed := true }
def TextPiecesUptoSaid : Prop := textPiecesUptoRow.holds Tryd.pinned (OpenSpec.upto textPiecesSpec)

/-- 'hansardlaw09.TextWord', WHERE WHAT IT READS IS OF BULK AT MOST 1048576: true; the input reads as it did. -/
def textWordUptoRow : OpenClaim := { program := "ytgeohlknkajlkaadoor", sum := "54f082bce32558754c965ba0a1ed48f221ff69ecc40c8bf1e5e33396e11e640c", func := "hansard/hansardlaw09.TextWord", spec := "textWord", unfollowed := true, recurses := true, named := ["unicode/utf8.first", "unicode/utf8.acceptRanges"], apart := false, laid := [("unicode/utf8.acceptRanges", laid_unicode_utf8_acceptRanges), ("unicode/utf8.first", laid_unicode_utf8_first)], narrowed := true }
def TextWordUptoSaid : Prop := textWordUptoRow.holds Tryd.pinned (OpenSpec.upto textWordSpec)

end Rows
end Go.Proofs.YtgeohlknkajlkaaDoor
