/-
  NARROWER THAN 'FOR EVERY INPUT', by the rows' own cells (each row's printed sentence says how): FontsSpec: laid · FontsFitSpec: laid · FontsUnused: laid · FontsPairs: laid · FontsJoined: laid · FontsGreatest: laid.
  DERIVED. THE GIVEN ROWS OF THIS SEAT. 6 by the template 'for every input the law returns true; each argument reads behind the call as it read before'; 0 by the template 'total and deterministic' (their statements: YtdfpmhgfmmcopaaDoorTotals.lean).
  GIVEN WITH THE SEED: the statements are not yours to turn. If you find one false, say at which input.
  Laid BY PROGRAM, IN A SANDBOX (cutbox-rows.mjs): the forced cells as the released guide's own fill.sh prints them over the translation e30c441c5a264b61… (all of the seat's roots in one cut). By AI agents, Wed Nov 11 2026. No macro, syntax, notation, axiom, sorry.
-/
import Derived.Test.YtdfpmhgfmmcopaaDoorChecked
import GoSem.PinnedTables
import GoSem.Claim
import GoSem.ClaimJoined
import GoSem.ClaimMapViews
import Derived.JoinedTies
import Derived.KernelRfl
namespace Go.Proofs.YtdfpmhgfmmcopaaDoor
/- THE CELL 'sum', in the pinned program and in every row, IS THE sha256 OF THE DUMP (.gsa) THAT YtdfpmhgfmmcopaaDoorProg.lean LOADS. Nothing in Lean hashes anything: it is a label: what it is worth is what the hold of that sum in a sandbox is worth. -/
noncomputable def Tryd.pinned : Pinned := { name := "ytdfpmhgfmmcopaadoor", sum := "e30c441c5a264b61f5b0c5420e6eef44f76ab9ed89e64758743d69a50db97b71", checked := Tryd.checked }
namespace Rows
def none {H : Type} : Left H := { results := [], args := [] }

/- WHAT THE LISTED PACKAGE-LEVEL VARIABLES READ AS WHEN THE CALL BEGINS. Each datum BY PROGRAM (the guide's laid-datum.mjs) off the statement by which the dump's own 'gosem.cut.vars' lays the variable. In a bare row this is a premise. The card (YtdfpmhgfmmcopaaDoorCards.lean) ties it to the program's text. -/
def laid_unicode_utf8_acceptRanges {H : Type} : DataW H := .agg [.agg [.lit (.int .u8 128), .lit (.int .u8 191)], .agg [.lit (.int .u8 160), .lit (.int .u8 191)], .agg [.lit (.int .u8 128), .lit (.int .u8 159)], .agg [.lit (.int .u8 144), .lit (.int .u8 191)], .agg [.lit (.int .u8 128), .lit (.int .u8 143)], .agg [.lit (.int .u8 0), .lit (.int .u8 0)], .agg [.lit (.int .u8 0), .lit (.int .u8 0)], .agg [.lit (.int .u8 0), .lit (.int .u8 0)], .agg [.lit (.int .u8 0), .lit (.int .u8 0)], .agg [.lit (.int .u8 0), .lit (.int .u8 0)], .agg [.lit (.int .u8 0), .lit (.int .u8 0)], .agg [.lit (.int .u8 0), .lit (.int .u8 0)], .agg [.lit (.int .u8 0), .lit (.int .u8 0)], .agg [.lit (.int .u8 0), .lit (.int .u8 0)], .agg [.lit (.int .u8 0), .lit (.int .u8 0)], .agg [.lit (.int .u8 0), .lit (.int .u8 0)]]
/-- One of Go's own tables, pinned by name: the form's constant. -/
def laid_unicode_utf8_first : DataW Unit := Go.Pinned.utf8First

/-- 'hansardlaw11.FontsSpec': WHATEVER THE INPUT: true; the input reads as it did. -/
def fontsSpecSpec : ChangeSpec := { name := "fontsSpec", fn := fun _ => fun
  | [d1, d2] => { results := [.lit (.bool true)], args := [d1, d2] }
  | _ => none }
def fontsSpecRow : OpenClaim := { program := "ytdfpmhgfmmcopaadoor", sum := "e30c441c5a264b61f5b0c5420e6eef44f76ab9ed89e64758743d69a50db97b71", func := "hansard/hansardlaw11.FontsSpec", spec := "fontsSpec", unfollowed := true, recurses := true, named := ["unicode/utf8.first", "unicode/utf8.acceptRanges"], plainKeys := false, apart := false, laid := [("unicode/utf8.acceptRanges", laid_unicode_utf8_acceptRanges), ("unicode/utf8.first", laid_unicode_utf8_first)] }
def FontsSpecSaid : Prop := fontsSpecRow.holds Tryd.pinned (OpenSpec.ofChange fontsSpecSpec)

/-- ITS FALSE NEIGHBOUR: 'it returns false'. Refute it at one input. -/
def fontsSpecWrong : ChangeSpec := { name := "fontsSpec", fn := fun _ => fun
  | [d1, d2] => { results := [.lit (.bool false)], args := [d1, d2] }
  | _ => none }
def FontsSpecWrongFalsely : Prop := fontsSpecRow.holds Tryd.pinned (OpenSpec.ofChange fontsSpecWrong)

/-- 'hansardlaw11.FontsFitSpec': WHATEVER THE INPUT: true; the input reads as it did. -/
def fontsFitSpecSpec : ChangeSpec := { name := "fontsFitSpec", fn := fun _ => fun
  | [d1, d2, d3] => { results := [.lit (.bool true)], args := [d1, d2, d3] }
  | _ => none }
def fontsFitSpecRow : OpenClaim := { program := "ytdfpmhgfmmcopaadoor", sum := "e30c441c5a264b61f5b0c5420e6eef44f76ab9ed89e64758743d69a50db97b71", func := "hansard/hansardlaw11.FontsFitSpec", spec := "fontsFitSpec", unfollowed := true, recurses := true, named := ["unicode/utf8.first", "unicode/utf8.acceptRanges"], plainKeys := false, apart := false, laid := [("unicode/utf8.acceptRanges", laid_unicode_utf8_acceptRanges), ("unicode/utf8.first", laid_unicode_utf8_first)] }
def FontsFitSpecSaid : Prop := fontsFitSpecRow.holds Tryd.pinned (OpenSpec.ofChange fontsFitSpecSpec)

/-- ITS FALSE NEIGHBOUR: 'it returns false'. Refute it at one input. -/
def fontsFitSpecWrong : ChangeSpec := { name := "fontsFitSpec", fn := fun _ => fun
  | [d1, d2, d3] => { results := [.lit (.bool false)], args := [d1, d2, d3] }
  | _ => none }
def FontsFitSpecWrongFalsely : Prop := fontsFitSpecRow.holds Tryd.pinned (OpenSpec.ofChange fontsFitSpecWrong)

/-- 'hansardlaw11.FontsUnused': WHATEVER THE INPUT: true; the input reads as it did. -/
def fontsUnusedSpec : ChangeSpec := { name := "fontsUnused", fn := fun _ => fun
  | [d1, d2, d3, d4, d5, d6, d7, d8, d9] => { results := [.lit (.bool true)], args := [d1, d2, d3, d4, d5, d6, d7, d8, d9] }
  | _ => none }
def fontsUnusedRow : OpenClaim := { program := "ytdfpmhgfmmcopaadoor", sum := "e30c441c5a264b61f5b0c5420e6eef44f76ab9ed89e64758743d69a50db97b71", func := "hansard/hansardlaw11.FontsUnused", spec := "fontsUnused", unfollowed := true, recurses := true, named := ["unicode/utf8.first", "unicode/utf8.acceptRanges"], plainKeys := false, apart := false, laid := [("unicode/utf8.acceptRanges", laid_unicode_utf8_acceptRanges), ("unicode/utf8.first", laid_unicode_utf8_first)] }
def FontsUnusedSaid : Prop := fontsUnusedRow.holds Tryd.pinned (OpenSpec.ofChange fontsUnusedSpec)

/-- ITS FALSE NEIGHBOUR: 'it returns false'. Refute it at one input. -/
def fontsUnusedWrong : ChangeSpec := { name := "fontsUnused", fn := fun _ => fun
  | [d1, d2, d3, d4, d5, d6, d7, d8, d9] => { results := [.lit (.bool false)], args := [d1, d2, d3, d4, d5, d6, d7, d8, d9] }
  | _ => none }
def FontsUnusedWrongFalsely : Prop := fontsUnusedRow.holds Tryd.pinned (OpenSpec.ofChange fontsUnusedWrong)

/-- 'hansardlaw11.FontsPairs': WHATEVER THE INPUT: true; the input reads as it did. -/
def fontsPairsSpec : ChangeSpec := { name := "fontsPairs", fn := fun _ => fun
  | [d1, d2] => { results := [.lit (.bool true)], args := [d1, d2] }
  | _ => none }
def fontsPairsRow : OpenClaim := { program := "ytdfpmhgfmmcopaadoor", sum := "e30c441c5a264b61f5b0c5420e6eef44f76ab9ed89e64758743d69a50db97b71", func := "hansard/hansardlaw11.FontsPairs", spec := "fontsPairs", unfollowed := true, recurses := true, named := ["unicode/utf8.first", "unicode/utf8.acceptRanges"], plainKeys := false, apart := false, laid := [("unicode/utf8.acceptRanges", laid_unicode_utf8_acceptRanges), ("unicode/utf8.first", laid_unicode_utf8_first)] }
def FontsPairsSaid : Prop := fontsPairsRow.holds Tryd.pinned (OpenSpec.ofChange fontsPairsSpec)

/-- ITS FALSE NEIGHBOUR: 'it returns false'. Refute it at one input. -/
def fontsPairsWrong : ChangeSpec := { name := "fontsPairs", fn := fun _ => fun
  | [d1, d2] => { results := [.lit (.bool false)], args := [d1, d2] }
  | _ => none }
def FontsPairsWrongFalsely : Prop := fontsPairsRow.holds Tryd.pinned (OpenSpec.ofChange fontsPairsWrong)

/-- 'hansardlaw11.FontsJoined': WHATEVER THE INPUT: true; the input reads as it did. -/
def fontsJoinedSpec : ChangeSpec := { name := "fontsJoined", fn := fun _ => fun
  | [d1, d2, d3] => { results := [.lit (.bool true)], args := [d1, d2, d3] }
  | _ => none }
def fontsJoinedRow : OpenClaim := { program := "ytdfpmhgfmmcopaadoor", sum := "e30c441c5a264b61f5b0c5420e6eef44f76ab9ed89e64758743d69a50db97b71", func := "hansard/hansardlaw11.FontsJoined", spec := "fontsJoined", unfollowed := true, recurses := true, named := ["unicode/utf8.first", "unicode/utf8.acceptRanges"], plainKeys := false, apart := false, laid := [("unicode/utf8.acceptRanges", laid_unicode_utf8_acceptRanges), ("unicode/utf8.first", laid_unicode_utf8_first)] }
def FontsJoinedSaid : Prop := fontsJoinedRow.holds Tryd.pinned (OpenSpec.ofChange fontsJoinedSpec)

/-- ITS FALSE NEIGHBOUR: 'it returns false'. Refute it at one input. -/
def fontsJoinedWrong : ChangeSpec := { name := "fontsJoined", fn := fun _ => fun
  | [d1, d2, d3] => { results := [.lit (.bool false)], args := [d1, d2, d3] }
  | _ => none }
def FontsJoinedWrongFalsely : Prop := fontsJoinedRow.holds Tryd.pinned (OpenSpec.ofChange fontsJoinedWrong)

/-- 'hansardlaw11.FontsGreatest': WHATEVER THE INPUT: true; the input reads as it did. -/
def fontsGreatestSpec : ChangeSpec := { name := "fontsGreatest", fn := fun _ => fun
  | [d1, d2, d3] => { results := [.lit (.bool true)], args := [d1, d2, d3] }
  | _ => none }
def fontsGreatestRow : OpenClaim := { program := "ytdfpmhgfmmcopaadoor", sum := "e30c441c5a264b61f5b0c5420e6eef44f76ab9ed89e64758743d69a50db97b71", func := "hansard/hansardlaw11.FontsGreatest", spec := "fontsGreatest", unfollowed := true, recurses := true, named := ["unicode/utf8.first", "unicode/utf8.acceptRanges"], plainKeys := false, apart := false, laid := [("unicode/utf8.acceptRanges", laid_unicode_utf8_acceptRanges), ("unicode/utf8.first", laid_unicode_utf8_first)] }
def FontsGreatestSaid : Prop := fontsGreatestRow.holds Tryd.pinned (OpenSpec.ofChange fontsGreatestSpec)

/-- ITS FALSE NEIGHBOUR: 'it returns false'. Refute it at one input. -/
def fontsGreatestWrong : ChangeSpec := { name := "fontsGreatest", fn := fun _ => fun
  | [d1, d2, d3] => { results := [.lit (.bool false)], args := [d1, d2, d3] }
  | _ => none }
def FontsGreatestWrongFalsely : Prop := fontsGreatestRow.holds Tryd.pinned (OpenSpec.ofChange fontsGreatestWrong)

/- THE SECOND FORM. 'bulk': how many values and letters a reading holds, each counted each time it is reached (what is shared counts as often as it is met; a slice's spare places count too). A statement '..UptoSaid' is the law's where the arguments, and the package variables that the reading takes, are together of bulk at most 1048576: NARROWER than '..Said'. Prove '..Said' where nothing that the law and all that it calls make is longer than what came in: it says more and counts as full. Else prove '..UptoSaid'. A law counts once. -/
mutual
def uptoBulk {H : Type} : DataW H → Nat
  | .lit (.string bytes) => bytes.length + 1
  | .lit _ => 1
  | .nil => 1
  | .ptr d => uptoBulk d + 1
  | .slice elems spare => uptoBulkAll elems + uptoBulkAll spare + 1
  | .agg parts => uptoBulkAll parts + 1
  | .iface _ d => uptoBulk d + 1
  | .map entries => uptoBulkEntries entries + 1
  | .held _ => 1
def uptoBulkAll {H : Type} : List (DataW H) → Nat
  | [] => 0
  | d :: r => uptoBulk d + uptoBulkAll r
def uptoBulkEntries {H : Type} : List (Lit × DataW H) → Nat
  | [] => 0
  | x :: r => uptoBulkEntry x + uptoBulkEntries r
def uptoBulkEntry {H : Type} : Lit × DataW H → Nat
  | (.string bytes, d) => bytes.length + uptoBulk d + 1
  | (_, d) => uptoBulk d + 1
 end
def uptoSmall : (H : Type) → List (DataW H) → Bool := fun _ ds => decide (uptoBulkAll ds ≤ 1048576)
def OpenSpec.upto (s : _root_.Go.ChangeSpec) : _root_.Go.OpenSpec := { _root_.Go.OpenSpec.ofChange s with cond := some uptoSmall }

/-- 'hansardlaw11.FontsSpec', WHERE WHAT IT READS IS OF BULK AT MOST 1048576: true; the input reads as it did. -/
def fontsSpecUptoRow : OpenClaim := { program := "ytdfpmhgfmmcopaadoor", sum := "e30c441c5a264b61f5b0c5420e6eef44f76ab9ed89e64758743d69a50db97b71", func := "hansard/hansardlaw11.FontsSpec", spec := "fontsSpec", unfollowed := true, recurses := true, named := ["unicode/utf8.first", "unicode/utf8.acceptRanges"], plainKeys := false, apart := false, laid := [("unicode/utf8.acceptRanges", laid_unicode_utf8_acceptRanges), ("unicode/utf8.first", laid_unicode_utf8_first)], narrowed := true }
def FontsSpecUptoSaid : Prop := fontsSpecUptoRow.holds Tryd.pinned (OpenSpec.upto fontsSpecSpec)

/-- 'hansardlaw11.FontsFitSpec', WHERE WHAT IT READS IS OF BULK AT MOST 1048576: true; the input reads as it did. -/
def fontsFitSpecUptoRow : OpenClaim := { program := "ytdfpmhgfmmcopaadoor", sum := "e30c441c5a264b61f5b0c5420e6eef44f76ab9ed89e64758743d69a50db97b71", func := "hansard/hansardlaw11.FontsFitSpec", spec := "fontsFitSpec", unfollowed := true, recurses := true, named := ["unicode/utf8.first", "unicode/utf8.acceptRanges"], plainKeys := false, apart := false, laid := [("unicode/utf8.acceptRanges", laid_unicode_utf8_acceptRanges), ("unicode/utf8.first", laid_unicode_utf8_first)], narrowed := true }
def FontsFitSpecUptoSaid : Prop := fontsFitSpecUptoRow.holds Tryd.pinned (OpenSpec.upto fontsFitSpecSpec)

/-- 'hansardlaw11.FontsUnused', WHERE WHAT IT READS IS OF BULK AT MOST 1048576: true; the input reads as it did. -/
def fontsUnusedUptoRow : OpenClaim := { program := "ytdfpmhgfmmcopaadoor", sum := "e30c441c5a264b61f5b0c5420e6eef44f76ab9ed89e64758743d69a50db97b71", func := "hansard/hansardlaw11.FontsUnused", spec := "fontsUnused", unfollowed := true, recurses := true, named := ["unicode/utf8.first", "unicode/utf8.acceptRanges"], plainKeys := false, apart := false, laid := [("unicode/utf8.acceptRanges", laid_unicode_utf8_acceptRanges), ("unicode/utf8.first", laid_unicode_utf8_first)], narrowed := true }
def FontsUnusedUptoSaid : Prop := fontsUnusedUptoRow.holds Tryd.pinned (OpenSpec.upto fontsUnusedSpec)

/-- 'hansardlaw11.FontsPairs', WHERE WHAT IT READS IS OF BULK AT MOST 1048576: true; the input reads as it did. -/
def fontsPairsUptoRow : OpenClaim := { program := "ytdfpmhgfmmcopaadoor", sum := "e30c441c5a264b61f5b0c5420e6eef44f76ab9ed89e64758743d69a50db97b71", func := "hansard/hansardlaw11.FontsPairs", spec := "fontsPairs", unfollowed := true, recurses := true, named := ["unicode/utf8.first", "unicode/utf8.acceptRanges"], plainKeys := false, apart := false, laid := [("unicode/utf8.acceptRanges", laid_unicode_utf8_acceptRanges), ("unicode/utf8.first", laid_unicode_utf8_first)], narrowed := true }
def FontsPairsUptoSaid : Prop := fontsPairsUptoRow.holds Tryd.pinned (OpenSpec.upto fontsPairsSpec)

/-- 'hansardlaw11.FontsJoined', WHERE WHAT IT READS IS OF BULK AT MOST 1048576: true; the input reads as it did. -/
def fontsJoinedUptoRow : OpenClaim := { program := "ytdfpmhgfmmcopaadoor", sum := "e30c441c5a264b61f5b0c5420e6eef44f76ab9ed89e64758743d69a50db97b71", func := "hansard/hansardlaw11.FontsJoined", spec := "fontsJoined", unfollowed := true, recurses := true, named := ["unicode/utf8.first", "unicode/utf8.acceptRanges"], plainKeys := false, apart := false, laid := [("unicode/utf8.acceptRanges", laid_unicode_utf8_acceptRanges), ("unicode/utf8.first", laid_unicode_utf8_first)], narrowed := true }
def FontsJoinedUptoSaid : Prop := fontsJoinedUptoRow.holds Tryd.pinned (OpenSpec.upto fontsJoinedSpec)

/-- 'hansardlaw11.FontsGreatest', WHERE WHAT IT READS IS OF BULK AT MOST 1048576: true; the input reads as it did. -/
def fontsGreatestUptoRow : OpenClaim := { program := "ytdfpmhgfmmcopaadoor", sum := "e30c441c5a264b61f5b0c5420e6eef44f76ab9ed89e64758743d69a50db97b71", func := "hansard/hansardlaw11.FontsGreatest", spec := "fontsGreatest", unfollowed := true, recurses := true, named := ["unicode/utf8.first", "unicode/utf8.acceptRanges"], plainKeys := false, apart := false, laid := [("unicode/utf8.acceptRanges", laid_unicode_utf8_acceptRanges), ("unicode/utf8.first", laid_unicode_utf8_first)], narrowed := true }
def FontsGreatestUptoSaid : Prop := fontsGreatestUptoRow.holds Tryd.pinned (OpenSpec.upto fontsGreatestSpec)

end Rows
end Go.Proofs.YtdfpmhgfmmcopaaDoor
