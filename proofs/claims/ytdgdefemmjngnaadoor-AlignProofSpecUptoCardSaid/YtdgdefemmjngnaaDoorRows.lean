/-
  NARROWER THAN 'FOR EVERY INPUT', by the rows' own cells (each row's printed sentence says how): AlignSpec: laid · AlignProofSpec: laid · AlignBest: laid · AlignMetric: laid · AlignEnds: laid · AlignTurned: laid.
  DERIVED. THE GIVEN ROWS OF THIS SEAT. 6 by the template 'for every input the law returns true; each argument reads behind the call as it read before'; 0 by the template 'total and deterministic' (their statements: YtdgdefemmjngnaaDoorTotals.lean).
  GIVEN WITH THE SEED: the statements are not yours to turn. If you find one false, say at which input.
  Laid BY PROGRAM, IN A SANDBOX (cutbox-rows.mjs): the forced cells as the released guide's own fill.sh prints them over the translation 2fb1a504e543e672… (all of the seat's roots in one cut). By AI agents, Wed Nov 11 2026. No macro, syntax, notation, axiom, sorry.
-/
import Derived.Test.YtdgdefemmjngnaaDoorChecked
import GoSem.PinnedTables
import GoSem.Claim
import GoSem.ClaimJoined
import GoSem.ClaimMapViews
import Derived.JoinedTies
import Derived.KernelRfl
namespace Go.Proofs.YtdgdefemmjngnaaDoor
/- THE CELL 'sum', in the pinned program and in every row, IS THE sha256 OF THE DUMP (.gsa) THAT YtdgdefemmjngnaaDoorProg.lean LOADS. Nothing in Lean hashes anything: it is a label: what it is worth is what the hold of that sum in a sandbox is worth. -/
noncomputable def Tryd.pinned : Pinned := { name := "ytdgdefemmjngnaadoor", sum := "2fb1a504e543e6728b7c9fc8743f6b187fda4abcd90a5ffd4c3377b0ce7739e9", checked := Tryd.checked }
namespace Rows
def none {H : Type} : Left H := { results := [], args := [] }

/- WHAT THE LISTED PACKAGE-LEVEL VARIABLES READ AS WHEN THE CALL BEGINS. Each datum BY PROGRAM (the guide's laid-datum.mjs) off the statement by which the dump's own 'gosem.cut.vars' lays the variable. In a bare row this is a premise. The card (YtdgdefemmjngnaaDoorCards.lean) ties it to the program's text. -/
def laid_unicode_utf8_acceptRanges {H : Type} : DataW H := .agg [.agg [.lit (.int .u8 128), .lit (.int .u8 191)], .agg [.lit (.int .u8 160), .lit (.int .u8 191)], .agg [.lit (.int .u8 128), .lit (.int .u8 159)], .agg [.lit (.int .u8 144), .lit (.int .u8 191)], .agg [.lit (.int .u8 128), .lit (.int .u8 143)], .agg [.lit (.int .u8 0), .lit (.int .u8 0)], .agg [.lit (.int .u8 0), .lit (.int .u8 0)], .agg [.lit (.int .u8 0), .lit (.int .u8 0)], .agg [.lit (.int .u8 0), .lit (.int .u8 0)], .agg [.lit (.int .u8 0), .lit (.int .u8 0)], .agg [.lit (.int .u8 0), .lit (.int .u8 0)], .agg [.lit (.int .u8 0), .lit (.int .u8 0)], .agg [.lit (.int .u8 0), .lit (.int .u8 0)], .agg [.lit (.int .u8 0), .lit (.int .u8 0)], .agg [.lit (.int .u8 0), .lit (.int .u8 0)], .agg [.lit (.int .u8 0), .lit (.int .u8 0)]]
/-- One of Go's own tables, pinned by name: the form's constant. -/
def laid_unicode_utf8_first : DataW Unit := Go.Pinned.utf8First

/-- 'hansardlaw21.AlignSpec': WHATEVER THE INPUT: true; the input reads as it did. -/
def alignSpecSpec : ChangeSpec := { name := "alignSpec", fn := fun _ => fun
  | [d1, d2] => { results := [.lit (.bool true)], args := [d1, d2] }
  | _ => none }
def alignSpecRow : OpenClaim := { program := "ytdgdefemmjngnaadoor", sum := "2fb1a504e543e6728b7c9fc8743f6b187fda4abcd90a5ffd4c3377b0ce7739e9", func := "hansard/hansardlaw21.AlignSpec", spec := "alignSpec", unfollowed := true, recurses := true, named := ["unicode/utf8.first", "unicode/utf8.acceptRanges"], apart := false, laid := [("unicode/utf8.acceptRanges", laid_unicode_utf8_acceptRanges), ("unicode/utf8.first", laid_unicode_utf8_first)] }
def AlignSpecSaid : Prop := alignSpecRow.holds Tryd.pinned (OpenSpec.ofChange alignSpecSpec)

/-- ITS FALSE NEIGHBOUR: 'it returns false'. Refute it at one input. -/
def alignSpecWrong : ChangeSpec := { name := "alignSpec", fn := fun _ => fun
  | [d1, d2] => { results := [.lit (.bool false)], args := [d1, d2] }
  | _ => none }
def AlignSpecWrongFalsely : Prop := alignSpecRow.holds Tryd.pinned (OpenSpec.ofChange alignSpecWrong)

/-- 'hansardlaw21.AlignProofSpec': WHATEVER THE INPUT: true; the input reads as it did. -/
def alignProofSpecSpec : ChangeSpec := { name := "alignProofSpec", fn := fun _ => fun
  | [d1, d2, d3, d4] => { results := [.lit (.bool true)], args := [d1, d2, d3, d4] }
  | _ => none }
def alignProofSpecRow : OpenClaim := { program := "ytdgdefemmjngnaadoor", sum := "2fb1a504e543e6728b7c9fc8743f6b187fda4abcd90a5ffd4c3377b0ce7739e9", func := "hansard/hansardlaw21.AlignProofSpec", spec := "alignProofSpec", unfollowed := true, recurses := true, named := ["unicode/utf8.first", "unicode/utf8.acceptRanges"], apart := false, laid := [("unicode/utf8.acceptRanges", laid_unicode_utf8_acceptRanges), ("unicode/utf8.first", laid_unicode_utf8_first)] }
def AlignProofSpecSaid : Prop := alignProofSpecRow.holds Tryd.pinned (OpenSpec.ofChange alignProofSpecSpec)

/-- ITS FALSE NEIGHBOUR: 'it returns false'. Refute it at one input. -/
def alignProofSpecWrong : ChangeSpec := { name := "alignProofSpec", fn := fun _ => fun
  | [d1, d2, d3, d4] => { results := [.lit (.bool false)], args := [d1, d2, d3, d4] }
  | _ => none }
def AlignProofSpecWrongFalsely : Prop := alignProofSpecRow.holds Tryd.pinned (OpenSpec.ofChange alignProofSpecWrong)

/-- 'hansardlaw21.AlignBest': WHATEVER THE INPUT: true; the input reads as it did. -/
def alignBestSpec : ChangeSpec := { name := "alignBest", fn := fun _ => fun
  | [d1, d2, d3, d4] => { results := [.lit (.bool true)], args := [d1, d2, d3, d4] }
  | _ => none }
def alignBestRow : OpenClaim := { program := "ytdgdefemmjngnaadoor", sum := "2fb1a504e543e6728b7c9fc8743f6b187fda4abcd90a5ffd4c3377b0ce7739e9", func := "hansard/hansardlaw21.AlignBest", spec := "alignBest", unfollowed := true, recurses := true, named := ["unicode/utf8.first", "unicode/utf8.acceptRanges"], apart := false, laid := [("unicode/utf8.acceptRanges", laid_unicode_utf8_acceptRanges), ("unicode/utf8.first", laid_unicode_utf8_first)] }
def AlignBestSaid : Prop := alignBestRow.holds Tryd.pinned (OpenSpec.ofChange alignBestSpec)

/-- ITS FALSE NEIGHBOUR: 'it returns false'. Refute it at one input. -/
def alignBestWrong : ChangeSpec := { name := "alignBest", fn := fun _ => fun
  | [d1, d2, d3, d4] => { results := [.lit (.bool false)], args := [d1, d2, d3, d4] }
  | _ => none }
def AlignBestWrongFalsely : Prop := alignBestRow.holds Tryd.pinned (OpenSpec.ofChange alignBestWrong)

/-- 'hansardlaw21.AlignMetric': WHATEVER THE INPUT: true; the input reads as it did. -/
def alignMetricSpec : ChangeSpec := { name := "alignMetric", fn := fun _ => fun
  | [d1, d2, d3] => { results := [.lit (.bool true)], args := [d1, d2, d3] }
  | _ => none }
def alignMetricRow : OpenClaim := { program := "ytdgdefemmjngnaadoor", sum := "2fb1a504e543e6728b7c9fc8743f6b187fda4abcd90a5ffd4c3377b0ce7739e9", func := "hansard/hansardlaw21.AlignMetric", spec := "alignMetric", unfollowed := true, recurses := true, named := ["unicode/utf8.first", "unicode/utf8.acceptRanges"], apart := false, laid := [("unicode/utf8.acceptRanges", laid_unicode_utf8_acceptRanges), ("unicode/utf8.first", laid_unicode_utf8_first)] }
def AlignMetricSaid : Prop := alignMetricRow.holds Tryd.pinned (OpenSpec.ofChange alignMetricSpec)

/-- ITS FALSE NEIGHBOUR: 'it returns false'. Refute it at one input. -/
def alignMetricWrong : ChangeSpec := { name := "alignMetric", fn := fun _ => fun
  | [d1, d2, d3] => { results := [.lit (.bool false)], args := [d1, d2, d3] }
  | _ => none }
def AlignMetricWrongFalsely : Prop := alignMetricRow.holds Tryd.pinned (OpenSpec.ofChange alignMetricWrong)

/-- 'hansardlaw21.AlignEnds': WHATEVER THE INPUT: true; the input reads as it did. -/
def alignEndsSpec : ChangeSpec := { name := "alignEnds", fn := fun _ => fun
  | [d1, d2, d3, d4, d5] => { results := [.lit (.bool true)], args := [d1, d2, d3, d4, d5] }
  | _ => none }
def alignEndsRow : OpenClaim := { program := "ytdgdefemmjngnaadoor", sum := "2fb1a504e543e6728b7c9fc8743f6b187fda4abcd90a5ffd4c3377b0ce7739e9", func := "hansard/hansardlaw21.AlignEnds", spec := "alignEnds", unfollowed := true, recurses := true, named := ["unicode/utf8.first", "unicode/utf8.acceptRanges"], apart := false, laid := [("unicode/utf8.acceptRanges", laid_unicode_utf8_acceptRanges), ("unicode/utf8.first", laid_unicode_utf8_first)] }
def AlignEndsSaid : Prop := alignEndsRow.holds Tryd.pinned (OpenSpec.ofChange alignEndsSpec)

/-- ITS FALSE NEIGHBOUR: 'it returns false'. Refute it at one input. -/
def alignEndsWrong : ChangeSpec := { name := "alignEnds", fn := fun _ => fun
  | [d1, d2, d3, d4, d5] => { results := [.lit (.bool false)], args := [d1, d2, d3, d4, d5] }
  | _ => none }
def AlignEndsWrongFalsely : Prop := alignEndsRow.holds Tryd.pinned (OpenSpec.ofChange alignEndsWrong)

/-- 'hansardlaw21.AlignTurned': WHATEVER THE INPUT: true; the input reads as it did. -/
def alignTurnedSpec : ChangeSpec := { name := "alignTurned", fn := fun _ => fun
  | [d1, d2] => { results := [.lit (.bool true)], args := [d1, d2] }
  | _ => none }
def alignTurnedRow : OpenClaim := { program := "ytdgdefemmjngnaadoor", sum := "2fb1a504e543e6728b7c9fc8743f6b187fda4abcd90a5ffd4c3377b0ce7739e9", func := "hansard/hansardlaw21.AlignTurned", spec := "alignTurned", unfollowed := true, recurses := true, named := ["unicode/utf8.first", "unicode/utf8.acceptRanges"], apart := false, laid := [("unicode/utf8.acceptRanges", laid_unicode_utf8_acceptRanges), ("unicode/utf8.first", laid_unicode_utf8_first)] }
def AlignTurnedSaid : Prop := alignTurnedRow.holds Tryd.pinned (OpenSpec.ofChange alignTurnedSpec)

/-- ITS FALSE NEIGHBOUR: 'it returns false'. Refute it at one input. -/
def alignTurnedWrong : ChangeSpec := { name := "alignTurned", fn := fun _ => fun
  | [d1, d2] => { results := [.lit (.bool false)], args := [d1, d2] }
  | _ => none }
def AlignTurnedWrongFalsely : Prop := alignTurnedRow.holds Tryd.pinned (OpenSpec.ofChange alignTurnedWrong)

/- THE SECOND FORM. 'bulk': how many values and letters a reading holds, each counted each time it is reached (what is shared counts as often as it is met; a slice's spare places count too). A statement '..UptoSaid' is the law's where the arguments, and the package variables that the reading takes, are together of bulk at most 1048576: NARROWER than '..Said'. Prove '..Said' where nothing that the law and all that it calls make is longer than what came in: it says more and counts as full. Else prove '..UptoSaid'. A law counts once. -/
mutual
def uptoBulk {H : Type} : DataW H → Nat
  | .lit (.string bytes) => bytes.length + 1
  | .lit _ => 1
  | .nil => 1
  | .ptr d => uptoBulk d + 1
  | .slice elems spare => uptoBulkAll elems + uptoBulkAll spare + 1
  | .agg parts => uptoBulkAll parts + 1
  | .iface _ d => uptoBulk d + 1
  | .map entries => uptoBulkEntries entries + 1
  | .held _ => 1
def uptoBulkAll {H : Type} : List (DataW H) → Nat
  | [] => 0
  | d :: r => uptoBulk d + uptoBulkAll r
def uptoBulkEntries {H : Type} : List (Lit × DataW H) → Nat
  | [] => 0
  | x :: r => uptoBulkEntry x + uptoBulkEntries r
def uptoBulkEntry {H : Type} : Lit × DataW H → Nat
  | (.string bytes, d) => bytes.length + uptoBulk d + 1
  | (_, d) => uptoBulk d + 1
 end
def uptoSmall : (H : Type) → List (DataW H) → Bool := fun _ ds => decide (uptoBulkAll ds ≤ 1048576)
def OpenSpec.upto (s : _root_.Go.ChangeSpec) : _root_.Go.OpenSpec := { _root_.Go.OpenSpec.ofChange s with cond := some uptoSmall }

/-- 'hansardlaw21.AlignSpec', WHERE WHAT IT READS IS OF BULK AT MOST 1048576: true; the input reads as it did. -/
def alignSpecUptoRow : OpenClaim := { program := "ytdgdefemmjngnaadoor", sum := "2fb1a504e543e6728b7c9fc8743f6b187fda4abcd90a5ffd4c3377b0ce7739e9", func := "hansard/hansardlaw21.AlignSpec", spec := "alignSpec", unfollowed := true, recurses := true, named := ["unicode/utf8.first", "unicode/utf8.acceptRanges"], apart := false, laid := [("unicode/utf8.acceptRanges", laid_unicode_utf8_acceptRanges), ("unicode/utf8.first", laid_unicode_utf8_first)], narrowed := true }
def AlignSpecUptoSaid : Prop := alignSpecUptoRow.holds Tryd.pinned (OpenSpec.upto alignSpecSpec)

/-- 'hansardlaw21.AlignProofSpec', WHERE WHAT IT READS IS OF BULK AT MOST 1048576: true; the input reads as it did. -/
def alignProofSpecUptoRow : OpenClaim := { program := "ytdgdefemmjngnaadoor", sum := "2fb1a504e543e6728b7c9fc8743f6b187fda4abcd90a5ffd4c3377b0ce7739e9", func := "hansard/hansardlaw21.AlignProofSpec", spec := "alignProofSpec", unfollowed := true, recurses := true, named := ["unicode/utf8.first", "unicode/utf8.acceptRanges"], apart := false, laid := [("unicode/utf8.acceptRanges", laid_unicode_utf8_acceptRanges), ("unicode/utf8.first", laid_unicode_utf8_first)], narrowed := true }
def AlignProofSpecUptoSaid : Prop := alignProofSpecUptoRow.holds Tryd.pinned (OpenSpec.upto alignProofSpecSpec)

/-- 'hansardlaw21.AlignBest', WHERE WHAT IT READS IS OF BULK AT MOST 1048576: true; the input reads as it did. -/
def alignBestUptoRow : OpenClaim := { program := "ytdgdefemmjngnaadoor", sum := "2fb1a504e543e6728b7c9fc8743f6b187fda4abcd90a5ffd4c3377b0ce7739e9", func := "hansard/hansardlaw21.AlignBest", spec := "alignBest", unfollowed := true, recurses := true, named := ["unicode/utf8.first", "unicode/utf8.acceptRanges"], apart := false, laid := [("unicode/utf8.acceptRanges", laid_unicode_utf8_acceptRanges), ("unicode/utf8.first", laid_unicode_utf8_first)], narrowed := true }
def AlignBestUptoSaid : Prop := alignBestUptoRow.holds Tryd.pinned (OpenSpec.upto alignBestSpec)

/-- 'hansardlaw21.AlignMetric', WHERE WHAT IT READS IS OF BULK AT MOST 1048576: true; the input reads as it did. -/
def alignMetricUptoRow : OpenClaim := { program := "ytdgdefemmjngnaadoor", sum := "2fb1a504e543e6728b7c9fc8743f6b187fda4abcd90a5ffd4c3377b0ce7739e9", func := "hansard/hansardlaw21.AlignMetric", spec := "alignMetric", unfollowed := true, recurses := true, named := ["unicode/utf8.first", "unicode/utf8.acceptRanges"], apart := false, laid := [("unicode/utf8.acceptRanges", laid_unicode_utf8_acceptRanges), ("unicode/utf8.first", laid_unicode_utf8_first)], narrowed := true }
def AlignMetricUptoSaid : Prop := alignMetricUptoRow.holds Tryd.pinned (OpenSpec.upto alignMetricSpec)

/-- 'hansardlaw21.AlignEnds', WHERE WHAT IT READS IS OF BULK AT MOST 1048576: true; the input reads as it did. -/
def alignEndsUptoRow : OpenClaim := { program := "ytdgdefemmjngnaadoor", sum := "2fb1a504e543e6728b7c9fc8743f6b187fda4abcd90a5ffd4c3377b0ce7739e9", func := "hansard/hansardlaw21.AlignEnds", spec := "alignEnds", unfollowed := true, recurses := true, named := ["unicode/utf8.first", "unicode/utf8.acceptRanges"], apart := false, laid := [("unicode/utf8.acceptRanges", laid_unicode_utf8_acceptRanges), ("unicode/utf8.first", laid_unicode_utf8_first)], narrowed := true }
def AlignEndsUptoSaid : Prop := alignEndsUptoRow.holds Tryd.pinned (OpenSpec.upto alignEndsSpec)

/-- 'hansardlaw21.AlignTurned', WHERE WHAT IT READS IS OF BULK AT MOST 1048576: true; the input reads as it did. -/
def alignTurnedUptoRow : OpenClaim := { program := "ytdgdefemmjngnaadoor", sum := "2fb1a504e543e6728b7c9fc8743f6b187fda4abcd90a5ffd4c3377b0ce7739e9", func := "hansard/hansardlaw21.AlignTurned", spec := "alignTurned", unfollowed := true, recurses := true, named := ["unicode/utf8.first", "unicode/utf8.acceptRanges"], apart := false, laid := [("unicode/utf8.acceptRanges", laid_unicode_utf8_acceptRanges), ("unicode/utf8.first", laid_unicode_utf8_first)], narrowed := true }
def AlignTurnedUptoSaid : Prop := alignTurnedUptoRow.holds Tryd.pinned (OpenSpec.upto alignTurnedSpec)

end Rows
end Go.Proofs.YtdgdefemmjngnaaDoor
