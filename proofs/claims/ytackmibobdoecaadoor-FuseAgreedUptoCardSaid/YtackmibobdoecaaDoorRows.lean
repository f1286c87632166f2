/-
  NARROWER THAN 'FOR EVERY INPUT', by the rows' own cells (each row's printed sentence says how): FuseSpec: laid · FuseChooseSpec: laid · FuseColumns: laid · FuseCheapest: laid · FuseAgreed: laid · FuseMajority: laid.
  DERIVED. THE GIVEN ROWS OF THIS SEAT. 6 by the template 'for every input the law returns true; each argument reads behind the call as it read before'; 0 by the template 'total and deterministic' (their statements: YtackmibobdoecaaDoorTotals.lean).
  GIVEN WITH THE SEED: the statements are not yours to turn. If you find one false, say at which input.
  Laid BY PROGRAM, IN A SANDBOX (cutbox-rows.mjs): the forced cells as the released guide's own fill.sh prints them over the translation b0610a0ce61e5de5… (all of the seat's roots in one cut). By AI agents, Wed Nov 11 2026. No macro, syntax, notation, axiom, sorry.
-/
import Derived.Test.YtackmibobdoecaaDoorChecked
import GoSem.PinnedTables
import GoSem.Claim
import GoSem.ClaimJoined
import GoSem.ClaimMapViews
import Derived.JoinedTies
import Derived.KernelRfl
namespace Go.Proofs.YtackmibobdoecaaDoor
/- THE CELL 'sum', in the pinned program and in every row, IS THE sha256 OF THE DUMP (.gsa) THAT YtackmibobdoecaaDoorProg.lean LOADS. Nothing in Lean hashes anything: it is a label: what it is worth is what the hold of that sum in a sandbox is worth. -/
noncomputable def Tryd.pinned : Pinned := { name := "ytackmibobdoecaadoor", sum := "b0610a0ce61e5de5c50c96adbaac92354bef9e78aebd8170f1c1b830b20b0a99", checked := Tryd.checked }
namespace Rows
def none {H : Type} : Left H := { results := [], args := [] }

/- WHAT THE LISTED PACKAGE-LEVEL VARIABLES READ AS WHEN THE CALL BEGINS. Each datum BY PROGRAM (the guide's laid-datum.mjs) off the statement by which the dump's own 'gosem.cut.vars' lays the variable. In a bare row this is a premise. The card (YtackmibobdoecaaDoorCards.lean) ties it to the program's text. -/
def laid_unicode_utf8_acceptRanges {H : Type} : DataW H := .agg [.agg [.lit (.int .u8 128), .lit (.int .u8 191)], .agg [.lit (.int .u8 160), .lit (.int .u8 191)], .agg [.lit (.int .u8 128), .lit (.int .u8 159)], .agg [.lit (.int .u8 144), .lit (.int .u8 191)], .agg [.lit (.int .u8 128), .lit (.int .u8 143)], .agg [.lit (.int .u8 0), .lit (.int .u8 0)], .agg [.lit (.int .u8 0), .lit (.int .u8 0)], .agg [.lit (.int .u8 0), .lit (.int .u8 0)], .agg [.lit (.int .u8 0), .lit (.int .u8 0)], .agg [.lit (.int .u8 0), .lit (.int .u8 0)], .agg [.lit (.int .u8 0), .lit (.int .u8 0)], .agg [.lit (.int .u8 0), .lit (.int .u8 0)], .agg [.lit (.int .u8 0), .lit (.int .u8 0)], .agg [.lit (.int .u8 0), .lit (.int .u8 0)], .agg [.lit (.int .u8 0), .lit (.int .u8 0)], .agg [.lit (.int .u8 0), .lit (.int .u8 0)]]
/-- One of Go's own tables, pinned by name: the form's constant. -/
def laid_unicode_utf8_first : DataW Unit := Go.Pinned.utf8First

/-- 'hansardlaw22.FuseSpec': WHATEVER THE INPUT: true; the input reads as it did. -/
def fuseSpecSpec : ChangeSpec := { name := "fuseSpec", fn := fun _ => fun
  | [d] => { results := [.lit (.bool true)], args := [d] }
  | _ => none }
def fuseSpecRow : OpenClaim := { program := "ytackmibobdoecaadoor", sum := "b0610a0ce61e5de5c50c96adbaac92354bef9e78aebd8170f1c1b830b20b0a99", func := "hansard/hansardlaw22.FuseSpec", spec := "fuseSpec", unfollowed := true, recurses := true, named := ["unicode/utf8.first", "unicode/utf8.acceptRanges"], apart := false, laid := [("unicode/utf8.acceptRanges", laid_unicode_utf8_acceptRanges), ("unicode/utf8.first", laid_unicode_utf8_first)] }
def FuseSpecSaid : Prop := fuseSpecRow.holds Tryd.pinned (OpenSpec.ofChange fuseSpecSpec)

/-- ITS FALSE NEIGHBOUR: 'it returns false'. Refute it at one input. -/
def fuseSpecWrong : ChangeSpec := { name := "fuseSpec", fn := fun _ => fun
  | [d] => { results := [.lit (.bool false)], args := [d] }
  | _ => none }
def FuseSpecWrongFalsely : Prop := fuseSpecRow.holds Tryd.pinned (OpenSpec.ofChange fuseSpecWrong)

/-- 'hansardlaw22.FuseChooseSpec': WHATEVER THE INPUT: true; the input reads as it did. -/
def fuseChooseSpecSpec : ChangeSpec := { name := "fuseChooseSpec", fn := fun _ => fun
  | [d] => { results := [.lit (.bool true)], args := [d] }
  | _ => none }
def fuseChooseSpecRow : OpenClaim := { program := "ytackmibobdoecaadoor", sum := "b0610a0ce61e5de5c50c96adbaac92354bef9e78aebd8170f1c1b830b20b0a99", func := "hansard/hansardlaw22.FuseChooseSpec", spec := "fuseChooseSpec", unfollowed := true, recurses := true, named := ["unicode/utf8.first", "unicode/utf8.acceptRanges"], apart := false, laid := [("unicode/utf8.acceptRanges", laid_unicode_utf8_acceptRanges), ("unicode/utf8.first", laid_unicode_utf8_first)] }
def FuseChooseSpecSaid : Prop := fuseChooseSpecRow.holds Tryd.pinned (OpenSpec.ofChange fuseChooseSpecSpec)

/-- ITS FALSE NEIGHBOUR: 'it returns false'. Refute it at one input. -/
def fuseChooseSpecWrong : ChangeSpec := { name := "fuseChooseSpec", fn := fun _ => fun
  | [d] => { results := [.lit (.bool false)], args := [d] }
  | _ => none }
def FuseChooseSpecWrongFalsely : Prop := fuseChooseSpecRow.holds Tryd.pinned (OpenSpec.ofChange fuseChooseSpecWrong)

/-- 'hansardlaw22.FuseColumns': WHATEVER THE INPUT: true; the input reads as it did. -/
def fuseColumnsSpec : ChangeSpec := { name := "fuseColumns", fn := fun _ => fun
  | [d] => { results := [.lit (.bool true)], args := [d] }
  | _ => none }
def fuseColumnsRow : OpenClaim := { program := "ytackmibobdoecaadoor", sum := "b0610a0ce61e5de5c50c96adbaac92354bef9e78aebd8170f1c1b830b20b0a99", func := "hansard/hansardlaw22.FuseColumns", spec := "fuseColumns", unfollowed := true, recurses := true, named := ["unicode/utf8.first", "unicode/utf8.acceptRanges"], apart := false, laid := [("unicode/utf8.acceptRanges", laid_unicode_utf8_acceptRanges), ("unicode/utf8.first", laid_unicode_utf8_first)] }
def FuseColumnsSaid : Prop := fuseColumnsRow.holds Tryd.pinned (OpenSpec.ofChange fuseColumnsSpec)

/-- ITS FALSE NEIGHBOUR: 'it returns false'. Refute it at one input. -/
def fuseColumnsWrong : ChangeSpec := { name := "fuseColumns", fn := fun _ => fun
  | [d] => { results := [.lit (.bool false)], args := [d] }
  | _ => none }
def FuseColumnsWrongFalsely : Prop := fuseColumnsRow.holds Tryd.pinned (OpenSpec.ofChange fuseColumnsWrong)

/-- 'hansardlaw22.FuseCheapest': WHATEVER THE INPUT: true; the input reads as it did. -/
def fuseCheapestSpec : ChangeSpec := { name := "fuseCheapest", fn := fun _ => fun
  | [d] => { results := [.lit (.bool true)], args := [d] }
  | _ => none }
def fuseCheapestRow : OpenClaim := { program := "ytackmibobdoecaadoor", sum := "b0610a0ce61e5de5c50c96adbaac92354bef9e78aebd8170f1c1b830b20b0a99", func := "hansard/hansardlaw22.FuseCheapest", spec := "fuseCheapest", unfollowed := true, recurses := true, named := ["unicode/utf8.first", "unicode/utf8.acceptRanges"], apart := false, laid := [("unicode/utf8.acceptRanges", laid_unicode_utf8_acceptRanges), ("unicode/utf8.first", laid_unicode_utf8_first)] }
def FuseCheapestSaid : Prop := fuseCheapestRow.holds Tryd.pinned (OpenSpec.ofChange fuseCheapestSpec)

/-- ITS FALSE NEIGHBOUR: 'it returns false'. Refute it at one input. -/
def fuseCheapestWrong : ChangeSpec := { name := "fuseCheapest", fn := fun _ => fun
  | [d] => { results := [.lit (.bool false)], args := [d] }
  | _ => none }
def FuseCheapestWrongFalsely : Prop := fuseCheapestRow.holds Tryd.pinned (OpenSpec.ofChange fuseCheapestWrong)

/-- 'hansardlaw22.FuseAgreed': WHATEVER THE INPUT: true; the input reads as it did. -/
def fuseAgreedSpec : ChangeSpec := { name := "fuseAgreed", fn := fun _ => fun
  | [d1, d2] => { results := [.lit (.bool true)], args := [d1, d2] }
  | _ => none }
def fuseAgreedRow : OpenClaim := { program := "ytackmibobdoecaadoor", sum := "b0610a0ce61e5de5c50c96adbaac92354bef9e78aebd8170f1c1b830b20b0a99", func := "hansard/hansardlaw22.FuseAgreed", spec := "fuseAgreed", unfollowed := true, recurses := true, named := ["unicode/utf8.first", "unicode/utf8.acceptRanges"], apart := false, laid := [("unicode/utf8.acceptRanges", laid_unicode_utf8_acceptRanges), ("unicode/utf8.first", laid_unicode_utf8_first)] }
def FuseAgreedSaid : Prop := fuseAgreedRow.holds Tryd.pinned (OpenSpec.ofChange fuseAgreedSpec)

/-- ITS FALSE NEIGHBOUR: 'it returns false'. Refute it at one input. -/
def fuseAgreedWrong : ChangeSpec := { name := "fuseAgreed", fn := fun _ => fun
  | [d1, d2] => { results := [.lit (.bool false)], args := [d1, d2] }
  | _ => none }
def FuseAgreedWrongFalsely : Prop := fuseAgreedRow.holds Tryd.pinned (OpenSpec.ofChange fuseAgreedWrong)

/-- 'hansardlaw22.FuseMajority': WHATEVER THE INPUT: true; the input reads as it did. -/
def fuseMajoritySpec : ChangeSpec := { name := "fuseMajority", fn := fun _ => fun
  | [d] => { results := [.lit (.bool true)], args := [d] }
  | _ => none }
def fuseMajorityRow : OpenClaim := { program := "ytackmibobdoecaadoor", sum := "b0610a0ce61e5de5c50c96adbaac92354bef9e78aebd8170f1c1b830b20b0a99", func := "hansard/hansardlaw22.FuseMajority", spec := "fuseMajority", unfollowed := true, recurses := true, named := ["unicode/utf8.first", "unicode/utf8.acceptRanges"], apart := false, laid := [("unicode/utf8.acceptRanges", laid_unicode_utf8_acceptRanges), ("unicode/utf8.first", laid_unicode_utf8_first)] }
def FuseMajoritySaid : Prop := fuseMajorityRow.holds Tryd.pinned (OpenSpec.ofChange fuseMajoritySpec)

/-- ITS FALSE NEIGHBOUR: 'it returns false'. Refute it at one input. -/
def fuseMajorityWrong : ChangeSpec := { name := "fuseMajority", fn := fun _ => fun
  | [d] => { results := [.lit (.bool false)], args := [d] }
  | _ => none }
def FuseMajorityWrongFalsely : Prop := fuseMajorityRow.holds Tryd.pinned (OpenSpec.ofChange fuseMajorityWrong)

/- THE SECOND FORM. 'bulk': how many values and letters a reading holds, each counted each time it is reached (what is shared counts as often as it is met; a slice's spare places count too). A statement '..UptoSaid' is the law's where the arguments, and the package variables that the reading takes, are together of bulk at most 1048576: NARROWER than '..Said'. Prove '..Said' where nothing that the law and all that it calls make is longer than what came in: it says more and counts as full. Else prove '..UptoSaid'. A law counts once. -/
mutual
def uptoBulk {H : Type} : DataW H → Nat
  | .lit (.string bytes) => bytes.length + 1
  | .lit _ => 1
  | .nil => 1
  | .ptr d => uptoBulk d + 1
  | .slice elems spare => uptoBulkAll elems + uptoBulkAll spare + 1
  | .agg parts => uptoBulkAll parts + 1
  | .iface _ d => uptoBulk d + 1
  | .map entries => uptoBulkEntries entries + 1
  | .held _ => 1
def uptoBulkAll {H : Type} : List (DataW H) → Nat
  | [] => 0
  | d :: r => uptoBulk d + uptoBulkAll r
def uptoBulkEntries {H : Type} : List (Lit × DataW H) → Nat
  | [] => 0
  | x :: r => uptoBulkEntry x + uptoBulkEntries r
def uptoBulkEntry {H : Type} : Lit × DataW H → Nat
  | (.string bytes, d) => bytes.length + uptoBulk d + 1
  | (_, d) => uptoBulk d + 1
 end
def uptoSmall : (H : Type) → List (DataW H) → Bool := fun _ ds => decide (uptoBulkAll ds ≤ 1048576)
def OpenSpec.upto (s : _root_.Go.ChangeSpec) : _root_.Go.OpenSpec := { _root_.Go.OpenSpec.ofChange s with cond := some uptoSmall }

/-- 'hansardlaw22.FuseSpec', WHERE WHAT IT READS IS OF BULK AT MOST 1048576: true; the input reads as it did. -/
def fuseSpecUptoRow : OpenClaim := { program := "ytackmibobdoecaadoor", sum := "b0610a0ce61e5de5c50c96adbaac92354bef9e78aebd8170f1c1b830b20b0a99", func := "hansard/hansardlaw22.FuseSpec", spec := "fuseSpec", unfollowed := true, recurses := true, named := ["unicode/utf8.first", "unicode/utf8.acceptRanges"], apart := false, laid := [("unicode/utf8.acceptRanges", laid_unicode_utf8_acceptRanges), ("unicode/utf8.first", laid_unicode_utf8_first)], narrowed := true }
def FuseSpecUptoSaid : Prop := fuseSpecUptoRow.holds Tryd.pinned (OpenSpec.upto fuseSpecSpec)

/-- 'hansardlaw22.FuseChooseSpec', WHERE WHAT IT READS IS OF BULK AT MOST 1048576: true; the input reads as it did. -/
def fuseChooseSpecUptoRow : OpenClaim := { program := "ytackmibobdoecaadoor", sum := "b0610a0ce61e5de5c50c96adbaac92354bef9e78aebd8170f1c1b830b20b0a99", func := "hansard/hansardlaw22.FuseChooseSpec", spec := "fuseChooseSpec", unfollowed := true, recurses := true, named := ["unicode/utf8.first", "unicode/utf8.acceptRanges"], apart := false, laid := [("unicode/utf8.acceptRanges", laid_unicode_utf8_acceptRanges), ("unicode/utf8.first", laid_unicode_utf8_first)], narrowed := true }
def FuseChooseSpecUptoSaid : Prop := fuseChooseSpecUptoRow.holds Tryd.pinned (OpenSpec.upto fuseChooseSpecSpec)

/-- 'hansardlaw22.FuseColumns', WHERE WHAT IT READS IS OF BULK AT MOST 1048576: true; the input reads as it did. -/
def fuseColumnsUptoRow : OpenClaim := { program := "ytackmibobdoecaadoor", sum := "b0610a0ce61e5de5c50c96adbaac92354bef9e78aebd8170f1c1b830b20b0a99", func := "hansard/hansardlaw22.FuseColumns", spec := "fuseColumns", unfollowed := true, recurses := true, named := ["unicode/utf8.first", "unicode/utf8.acceptRanges"], apart := false, laid := [("unicode/utf8.acceptRanges", laid_unicode_utf8_acceptRanges), ("unicode/utf8.first", laid_unicode_utf8_first)], narrowed := true }
def FuseColumnsUptoSaid : Prop := fuseColumnsUptoRow.holds Tryd.pinned (OpenSpec.upto fuseColumnsSpec)

/-- 'hansardlaw22.FuseCheapest', WHERE WHAT IT READS IS OF BULK AT MOST 1048576: true; the input reads as it did. -/
def fuseCheapestUptoRow : OpenClaim := { program := "ytackmibobdoecaadoor", sum := "b0610a0ce61e5de5c50c96adbaac92354bef9e78aebd8170f1c1b830b20b0a99", func := "hansard/hansardlaw22.FuseCheapest", spec := "fuseCheapest", unfollowed := true, recurses := true, named := ["unicode/utf8.first", "unicode/utf8.acceptRanges"], apart := false, laid := [("unicode/utf8.acceptRanges", laid_unicode_utf8_acceptRanges), ("unicode/utf8.first", laid_unicode_utf8_first)], narrowed := true }
def FuseCheapestUptoSaid : Prop := fuseCheapestUptoRow.holds Tryd.pinned (OpenSpec.upto fuseCheapestSpec)

/-- 'hansardlaw22.FuseAgreed', WHERE WHAT IT READS IS OF BULK AT MOST 1048576: true; the input reads as it did. -/
def fuseAgreedUptoRow : OpenClaim := { program := "ytackmibobdoecaadoor", sum := "b0610a0ce61e5de5c50c96adbaac92354bef9e78aebd8170f1c1b830b20b0a99", func := "hansard/hansardlaw22.FuseAgreed", spec := "fuseAgreed", unfollowed := true, recurses := true, named := ["unicode/utf8.first", "unicode/utf8.acceptRanges"], apart := false, laid := [("unicode/utf8.acceptRanges", laid_unicode_utf8_acceptRanges), ("unicode/utf8.first", laid_unicode_utf8_first)], narrowed := true }
def FuseAgreedUptoSaid : Prop := fuseAgreedUptoRow.holds Tryd.pinned (OpenSpec.upto fuseAgreedSpec)

/-- 'hansardlaw22.FuseMajority', WHERE WHAT IT READS IS OF BULK AT MOST 1048576: true; the input reads as it did. -/
def fuseMajorityUptoRow : OpenClaim := { program := "ytackmibobdoecaadoor", sum := "b0610a0ce61e5de5c50c96adbaac92354bef9e78aebd8170f1c1b830b20b0a99", func := "hansard/hansardlaw22.FuseMajority", spec := "fuseMajority", unfollowed := true, recurses := true, named := ["unicode/utf8.first", "unicode/utf8.acceptRanges"], apart := false, laid := [("unicode/utf8.acceptRanges", laid_unicode_utf8_acceptRanges), ("unicode/utf8.first", laid_unicode_utf8_first)], narrowed := true }
def FuseMajorityUptoSaid : Prop := fuseMajorityUptoRow.holds Tryd.pinned (OpenSpec.upto fuseMajoritySpec)

end Rows
end Go.Proofs.YtackmibobdoecaaDoor
