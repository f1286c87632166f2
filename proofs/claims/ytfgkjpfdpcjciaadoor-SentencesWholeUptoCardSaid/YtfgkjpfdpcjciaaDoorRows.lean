/-
  NARROWER THAN 'FOR EVERY INPUT', by the rows' own cells (each row's printed sentence says how): SentencesSpec: laid · SentencesClosed: laid · SentencesWhole: laid · SentencesRest: laid · SentencesLater: laid.
  DERIVED. THE GIVEN ROWS OF THIS SEAT. 5 by the template 'for every input the law returns true; each argument reads behind the call as it read before'; 0 by the template 'total and deterministic' (their statements: YtfgkjpfdpcjciaaDoorTotals.lean).
  GIVEN WITH THE SEED: the statements are not yours to turn. If you find one false, say at which input.
  Laid BY PROGRAM, IN A SANDBOX (cutbox-rows.mjs): the forced cells as the released guide's own fill.sh prints them over the translation 666a57363f3e74e7… (all of the seat's roots in one cut). By AI agents, Wed Nov 11 2026. No macro, syntax, notation, axiom, sorry.
-/
import Derived.Test.YtfgkjpfdpcjciaaDoorChecked
import GoSem.PinnedTables
import GoSem.Claim
import GoSem.ClaimJoined
import GoSem.ClaimMapViews
import Derived.JoinedTies
import Derived.KernelRfl
namespace Go.Proofs.YtfgkjpfdpcjciaaDoor
/- THE CELL 'sum', in the pinned program and in every row, IS THE sha256 OF THE DUMP (.gsa) THAT YtfgkjpfdpcjciaaDoorProg.lean LOADS. Nothing in Lean hashes anything: it is a label: what it is worth is what the hold of that sum in a sandbox is worth. -/
noncomputable def Tryd.pinned : Pinned := { name := "ytfgkjpfdpcjciaadoor", sum := "666a57363f3e74e71c5d09ca712f7a1e0a4fee2dec01df3b306d262840aeeac0", checked := Tryd.checked }
namespace Rows
def none {H : Type} : Left H := { results := [], args := [] }

/- WHAT THE LISTED PACKAGE-LEVEL VARIABLES READ AS WHEN THE CALL BEGINS. Each datum BY PROGRAM (the guide's laid-datum.mjs) off the statement by which the dump's own 'gosem.cut.vars' lays the variable. In a bare row this is a premise. The card (YtfgkjpfdpcjciaaDoorCards.lean) ties it to the program's text. -/
def laid_unicode_utf8_acceptRanges {H : Type} : DataW H := .agg [.agg [.lit (.int .u8 128), .lit (.int .u8 191)], .agg [.lit (.int .u8 160), .lit (.int .u8 191)], .agg [.lit (.int .u8 128), .lit (.int .u8 159)], .agg [.lit (.int .u8 144), .lit (.int .u8 191)], .agg [.lit (.int .u8 128), .lit (.int .u8 143)], .agg [.lit (.int .u8 0), .lit (.int .u8 0)], .agg [.lit (.int .u8 0), .lit (.int .u8 0)], .agg [.lit (.int .u8 0), .lit (.int .u8 0)], .agg [.lit (.int .u8 0), .lit (.int .u8 0)], .agg [.lit (.int .u8 0), .lit (.int .u8 0)], .agg [.lit (.int .u8 0), .lit (.int .u8 0)], .agg [.lit (.int .u8 0), .lit (.int .u8 0)], .agg [.lit (.int .u8 0), .lit (.int .u8 0)], .agg [.lit (.int .u8 0), .lit (.int .u8 0)], .agg [.lit (.int .u8 0), .lit (.int .u8 0)], .agg [.lit (.int .u8 0), .lit (.int .u8 0)]]
/-- One of Go's own tables, pinned by name: the form's constant. -/
def laid_unicode_utf8_first : DataW Unit := Go.Pinned.utf8First

/-- 'hansardlaw32.SentencesSpec': WHATEVER THE INPUT: true; the input reads as it did. -/
def sentencesSpecSpec : ChangeSpec := { name := "sentencesSpec", fn := fun _ => fun
  | [d1, d2, d3, d4] => { results := [.lit (.bool true)], args := [d1, d2, d3, d4] }
  | _ => none }
def sentencesSpecRow : OpenClaim := { program := "ytfgkjpfdpcjciaadoor", sum := "666a57363f3e74e71c5d09ca712f7a1e0a4fee2dec01df3b306d262840aeeac0", func := "hansard/hansardlaw32.SentencesSpec", spec := "sentencesSpec", inPlace := ["internal/bytealg.IndexByteString", "internal/bytealg.IndexString"], unfollowed := true, recurses := true, named := ["unicode/utf8.first", "unicode/utf8.acceptRanges", "internal/bytealg.MaxLen"], apart := false, laid := [("unicode/utf8.acceptRanges", laid_unicode_utf8_acceptRanges), ("unicode/utf8.first", laid_unicode_utf8_first)] }
def SentencesSpecSaid : Prop := sentencesSpecRow.holds Tryd.pinned (OpenSpec.ofChange sentencesSpecSpec)

/-- ITS FALSE NEIGHBOUR: 'it returns false'. Refute it at one input. -/
def sentencesSpecWrong : ChangeSpec := { name := "sentencesSpec", fn := fun _ => fun
  | [d1, d2, d3, d4] => { results := [.lit (.bool false)], args := [d1, d2, d3, d4] }
  | _ => none }
def SentencesSpecWrongFalsely : Prop := sentencesSpecRow.holds Tryd.pinned (OpenSpec.ofChange sentencesSpecWrong)

/-- 'hansardlaw32.SentencesClosed': WHATEVER THE INPUT: true; the input reads as it did. -/
def sentencesClosedSpec : ChangeSpec := { name := "sentencesClosed", fn := fun _ => fun
  | [d1, d2, d3, d4, d5] => { results := [.lit (.bool true)], args := [d1, d2, d3, d4, d5] }
  | _ => none }
def sentencesClosedRow : OpenClaim := { program := "ytfgkjpfdpcjciaadoor", sum := "666a57363f3e74e71c5d09ca712f7a1e0a4fee2dec01df3b306d262840aeeac0", func := "hansard/hansardlaw32.SentencesClosed", spec := "sentencesClosed", inPlace := ["internal/bytealg.IndexByteString", "internal/bytealg.IndexString"], unfollowed := true, recurses := true, named := ["unicode/utf8.first", "unicode/utf8.acceptRanges", "internal/bytealg.MaxLen"], apart := false, laid := [("unicode/utf8.acceptRanges", laid_unicode_utf8_acceptRanges), ("unicode/utf8.first", laid_unicode_utf8_first)] }
def SentencesClosedSaid : Prop := sentencesClosedRow.holds Tryd.pinned (OpenSpec.ofChange sentencesClosedSpec)

/-- ITS FALSE NEIGHBOUR: 'it returns false'. Refute it at one input. -/
def sentencesClosedWrong : ChangeSpec := { name := "sentencesClosed", fn := fun _ => fun
  | [d1, d2, d3, d4, d5] => { results := [.lit (.bool false)], args := [d1, d2, d3, d4, d5] }
  | _ => none }
def SentencesClosedWrongFalsely : Prop := sentencesClosedRow.holds Tryd.pinned (OpenSpec.ofChange sentencesClosedWrong)

/-- 'hansardlaw32.SentencesWhole': WHATEVER THE INPUT: true; the input reads as it did. -/
def sentencesWholeSpec : ChangeSpec := { name := "sentencesWhole", fn := fun _ => fun
  | [d1, d2, d3] => { results := [.lit (.bool true)], args := [d1, d2, d3] }
  | _ => none }
def sentencesWholeRow : OpenClaim := { program := "ytfgkjpfdpcjciaadoor", sum := "666a57363f3e74e71c5d09ca712f7a1e0a4fee2dec01df3b306d262840aeeac0", func := "hansard/hansardlaw32.SentencesWhole", spec := "sentencesWhole", inPlace := ["internal/bytealg.IndexByteString", "internal/bytealg.IndexString"], unfollowed := true, recurses := true, named := ["unicode/utf8.first", "unicode/utf8.acceptRanges", "internal/bytealg.MaxLen"], apart := false, laid := [("unicode/utf8.acceptRanges", laid_unicode_utf8_acceptRanges), ("unicode/utf8.first", laid_unicode_utf8_first)] }
def SentencesWholeSaid : Prop := sentencesWholeRow.holds Tryd.pinned (OpenSpec.ofChange sentencesWholeSpec)

/-- ITS FALSE NEIGHBOUR: 'it returns false'. Refute it at one input. -/
def sentencesWholeWrong : ChangeSpec := { name := "sentencesWhole", fn := fun _ => fun
  | [d1, d2, d3] => { results := [.lit (.bool false)], args := [d1, d2, d3] }
  | _ => none }
def SentencesWholeWrongFalsely : Prop := sentencesWholeRow.holds Tryd.pinned (OpenSpec.ofChange sentencesWholeWrong)

/-- 'hansardlaw32.SentencesRest': WHATEVER THE INPUT: true; the input reads as it did. -/
def sentencesRestSpec : ChangeSpec := { name := "sentencesRest", fn := fun _ => fun
  | [d1, d2, d3, d4, d5] => { results := [.lit (.bool true)], args := [d1, d2, d3, d4, d5] }
  | _ => none }
def sentencesRestRow : OpenClaim := { program := "ytfgkjpfdpcjciaadoor", sum := "666a57363f3e74e71c5d09ca712f7a1e0a4fee2dec01df3b306d262840aeeac0", func := "hansard/hansardlaw32.SentencesRest", spec := "sentencesRest", inPlace := ["internal/bytealg.IndexByteString", "internal/bytealg.IndexString"], unfollowed := true, recurses := true, named := ["unicode/utf8.first", "unicode/utf8.acceptRanges", "internal/bytealg.MaxLen"], apart := false, laid := [("unicode/utf8.acceptRanges", laid_unicode_utf8_acceptRanges), ("unicode/utf8.first", laid_unicode_utf8_first)] }
def SentencesRestSaid : Prop := sentencesRestRow.holds Tryd.pinned (OpenSpec.ofChange sentencesRestSpec)

/-- ITS FALSE NEIGHBOUR: 'it returns false'. Refute it at one input. -/
def sentencesRestWrong : ChangeSpec := { name := "sentencesRest", fn := fun _ => fun
  | [d1, d2, d3, d4, d5] => { results := [.lit (.bool false)], args := [d1, d2, d3, d4, d5] }
  | _ => none }
def SentencesRestWrongFalsely : Prop := sentencesRestRow.holds Tryd.pinned (OpenSpec.ofChange sentencesRestWrong)

/-- 'hansardlaw32.SentencesLater': WHATEVER THE INPUT: true; the input reads as it did. -/
def sentencesLaterSpec : ChangeSpec := { name := "sentencesLater", fn := fun _ => fun
  | [d1, d2, d3, d4, d5] => { results := [.lit (.bool true)], args := [d1, d2, d3, d4, d5] }
  | _ => none }
def sentencesLaterRow : OpenClaim := { program := "ytfgkjpfdpcjciaadoor", sum := "666a57363f3e74e71c5d09ca712f7a1e0a4fee2dec01df3b306d262840aeeac0", func := "hansard/hansardlaw32.SentencesLater", spec := "sentencesLater", inPlace := ["internal/bytealg.IndexByteString", "internal/bytealg.IndexString"], unfollowed := true, recurses := true, named := ["unicode/utf8.first", "unicode/utf8.acceptRanges", "internal/bytealg.MaxLen"], apart := false, laid := [("unicode/utf8.acceptRanges", laid_unicode_utf8_acceptRanges), ("unicode/utf8.first", laid_unicode_utf8_first)] }
def SentencesLaterSaid : Prop := sentencesLaterRow.holds Tryd.pinned (OpenSpec.ofChange sentencesLaterSpec)

/-- ITS FALSE NEIGHBOUR: 'it returns false'. Refute it at one input. -/
def sentencesLaterWrong : ChangeSpec := { name := "sentencesLater", fn := fun _ => fun
  | [d1, d2, d3, d4, d5] => { results := [.lit (.bool false)], args := [d1, d2, d3, d4, d5] }
  | _ => none }
def SentencesLaterWrongFalsely : Prop := sentencesLaterRow.holds Tryd.pinned (OpenSpec.ofChange sentencesLaterWrong)

/- THE SECOND FORM. 'bulk': how many values and letters a reading holds, each counted each time it is reached (what is shared counts as often as it is met; a slice's spare places count too). A statement '..UptoSaid' is the law's where the arguments, and the package variables that the reading takes, are together of bulk at most 1048576: NARROWER than '..Said'. Prove '..Said' where nothing that the law and all that it calls make is longer than what came in: it says more and counts as full. Else prove '..UptoSaid'. A law counts once. -/
mutual
def uptoBulk {H : Type} : DataW H → Nat
  | .lit (.string bytes) => bytes.length + 1
  | .lit _ => 1
  | .nil => 1
  | .ptr d => uptoBulk d + 1
  | .slice elems spare => uptoBulkAll elems + uptoBulkAll spare + 1
  | .agg parts => uptoBulkAll parts + 1
  | .iface _ d => uptoBulk d + 1
  | .map entries => uptoBulkEntries entries + 1
  | .held _ => 1
def uptoBulkAll {H : Type} : List (DataW H) → Nat
  | [] => 0
  | d :: r => uptoBulk d + uptoBulkAll r
def uptoBulkEntries {H : Type} : List (Lit × DataW H) → Nat
  | [] => 0
  | x :: r => uptoBulkEntry x + uptoBulkEntries r
def uptoBulkEntry {H : Type} : Lit × DataW H → Nat
  | (.string bytes, d) => bytes.length + uptoBulk d + 1
  | (_, d) => uptoBulk d + 1
 end
def uptoSmall : (H : Type) → List (DataW H) → Bool := fun _ ds => decide (uptoBulkAll ds ≤ 1048576)
def OpenSpec.upto (s : _root_.Go.ChangeSpec) : _root_.Go.OpenSpec := { _root_.Go.OpenSpec.ofChange s with cond := some uptoSmall }

/-- 'hansardlaw32.SentencesSpec', WHERE WHAT IT READS IS OF BULK AT MOST 1048576: true; the input reads as it did. -/
def sentencesSpecUptoRow : OpenClaim := { program := "ytfgkjpfdpcjciaadoor", sum := "666a57363f3e74e71c5d09ca712f7a1e0a4fee2dec01df3b306d262840aeeac0", func := "hansard/hansardlaw32.SentencesSpec", spec := "sentencesSpec", inPlace := ["internal/bytealg.IndexByteString", "internal/bytealg.IndexString"], unfollowed := true, recurses := true, named := ["unicode/utf8.first", "unicode/utf8.acceptRanges", "internal/bytealg.MaxLen"], apart := false, laid := [("unicode/utf8.acceptRanges", laid_unicode_utf8_acceptRanges), ("unicode/utf8.first", laid_unicode_utf8_first)], narrowed := true }
def SentencesSpecUptoSaid : Prop := sentencesSpecUptoRow.holds Tryd.pinned (OpenSpec.upto sentencesSpecSpec)

/-- 'hansardlaw32.SentencesClosed', WHERE WHAT IT READS IS OF BULK AT MOST 1048576: true; the input reads as it did. -/
def sentencesClosedUptoRow : OpenClaim := { program := "ytfgkjpfdpcjciaadoor", sum := "666a57363f3e74e71c5d09ca712f7a1e0a4fee2dec01df3b306d262840aeeac0", func := "hansard/hansardlaw32.SentencesClosed", spec := "sentencesClosed", inPlace := ["internal/bytealg.IndexByteString", "internal/bytealg.IndexString"], unfollowed := true, recurses := true, named := ["unicode/utf8.first", "unicode/utf8.acceptRanges", "internal/bytealg.MaxLen"], apart := false, laid := [("unicode/utf8.acceptRanges", laid_unicode_utf8_acceptRanges), ("unicode/utf8.first", laid_unicode_utf8_first)], narrowed := true }
def SentencesClosedUptoSaid : Prop := sentencesClosedUptoRow.holds Tryd.pinned (OpenSpec.upto sentencesClosedSpec)

/-- 'hansardlaw32.SentencesWhole', WHERE WHAT IT READS IS OF BULK AT MOST 1048576: true; the input reads as it did. -/
def sentencesWholeUptoRow : OpenClaim := { program := "ytfgkjpfdpcjciaadoor", sum := "666a57363f3e74e71c5d09ca712f7a1e0a4fee2dec01df3b306d262840aeeac0", func := "hansard/hansardlaw32.SentencesWhole", spec := "sentencesWhole", inPlace := ["internal/bytealg.IndexByteString", "internal/bytealg.IndexString"], unfollowed := true, recurses := true, named := ["unicode/utf8.first", "unicode/utf8.acceptRanges", "internal/bytealg.MaxLen"], apart := false, laid := [("unicode/utf8.acceptRanges", laid_unicode_utf8_acceptRanges), ("unicode/utf8.first", laid_unicode_utf8_first)], narrowed := true }
def SentencesWholeUptoSaid : Prop := sentencesWholeUptoRow.holds Tryd.pinned (OpenSpec.upto sentencesWholeSpec)

/-- 'hansardlaw32.SentencesRest', WHERE WHAT IT READS IS OF BULK AT MOST 1048576: true; the input reads as it did. -/
def sentencesRestUptoRow : OpenClaim := { program := "ytfgkjpfdpcjciaadoor", sum := "666a57363f3e74e71c5d09ca712f7a1e0a4fee2dec01df3b306d262840aeeac0", func := "hansard/hansardlaw32.SentencesRest", spec := "sentencesRest", inPlace := ["internal/bytealg.IndexByteString", "internal/bytealg.IndexString"], unfollowed := true, recurses := true, named := ["unicode/utf8.first", "unicode/utf8.acceptRanges", "internal/bytealg.MaxLen"], apart := false, laid := [("unicode/utf8.acceptRanges", laid_unicode_utf8_acceptRanges), ("unicode/utf8.first", laid_unicode_utf8_first)], narrowed := true }
def SentencesRestUptoSaid : Prop := sentencesRestUptoRow.holds Tryd.pinned (OpenSpec.upto sentencesRestSpec)

/-- 'hansardlaw32.SentencesLater', WHERE WHAT IT READS IS OF BULK AT MOST 1048576: true; the input reads as it did. -/
def sentencesLaterUptoRow : OpenClaim := { program := "ytfgkjpfdpcjciaadoor", sum := "666a57363f3e74e71c5d09ca712f7a1e0a4fee2dec01df3b306d262840aeeac0", func := "hansard/hansardlaw32.SentencesLater", spec := "sentencesLater", inPlace := ["internal/bytealg.IndexByteString", "internal/bytealg.IndexString"], unfollowed := true, recurses := true, named := ["unicode/utf8.first", "unicode/utf8.acceptRanges", "internal/bytealg.MaxLen"], apart := false, laid := [("unicode/utf8.acceptRanges", laid_unicode_utf8_acceptRanges), ("unicode/utf8.first", laid_unicode_utf8_first)], narrowed := true }
def SentencesLaterUptoSaid : Prop := sentencesLaterUptoRow.holds Tryd.pinned (OpenSpec.upto sentencesLaterSpec)

end Rows
end Go.Proofs.YtfgkjpfdpcjciaaDoor
