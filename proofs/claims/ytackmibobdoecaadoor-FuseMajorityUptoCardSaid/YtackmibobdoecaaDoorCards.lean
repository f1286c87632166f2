/-
  DERIVED. GIVEN WITH THE SEED: THE CARDS: each row of YtackmibobdoecaaDoorRows.lean that lists a variable, with what it lists TIED to the program's text (the seventh form; the later family's looks); each row that meets fmt, with fmt's text TOLD by the authors' own Lean function (tested against real Go, not proved from fmt's source: count such statements apart). THE CARD IS WHAT COUNTS. Prove the row's statement (the work); the ties are given (YtackmibobdoecaaDoorTie.lean); close each card by the builder's one call (the guide's Derived/Test/ToyasCard.lean, 'card_holds'). Laid BY PROGRAM, IN A SANDBOX (cutbox-door.mjs). By AI agents, Wed Nov 11 2026. No macro, syntax, notation, axiom, sorry.
-/
import Derived.Test.YtackmibobdoecaaDoorRows
import GoSem.ClaimSeven
namespace Go.Proofs.YtackmibobdoecaaDoor
namespace Rows

/-- THE TIED CARD OF 'hansardlaw22.FuseSpec'. -/
def fuseSpecCard : Claim7 := { stood := { row := fuseSpecRow, standIns := [], harness := (true, "89c5cc476d02a4ee0b6cdea02fe24ff17cc58980422963355397f07fd43c4b90"), looks := true }, kinds := [], alts := [], laidByText := true, laidKinds := [.data, .pinned], laidTests := true, laidLooks := .later }
def FuseSpecCardSaid : Prop := Claim7.holds Tryd.pinned (.plain (OpenSpec.ofChange fuseSpecSpec)) fuseSpecCard

/-- THE TIED CARD OF 'hansardlaw22.FuseChooseSpec'. -/
def fuseChooseSpecCard : Claim7 := { stood := { row := fuseChooseSpecRow, standIns := [], harness := (true, "89c5cc476d02a4ee0b6cdea02fe24ff17cc58980422963355397f07fd43c4b90"), looks := true }, kinds := [], alts := [], laidByText := true, laidKinds := [.data, .pinned], laidTests := true, laidLooks := .later }
def FuseChooseSpecCardSaid : Prop := Claim7.holds Tryd.pinned (.plain (OpenSpec.ofChange fuseChooseSpecSpec)) fuseChooseSpecCard

/-- THE TIED CARD OF 'hansardlaw22.FuseColumns'. -/
def fuseColumnsCard : Claim7 := { stood := { row := fuseColumnsRow, standIns := [], harness := (true, "89c5cc476d02a4ee0b6cdea02fe24ff17cc58980422963355397f07fd43c4b90"), looks := true }, kinds := [], alts := [], laidByText := true, laidKinds := [.data, .pinned], laidTests := true, laidLooks := .later }
def FuseColumnsCardSaid : Prop := Claim7.holds Tryd.pinned (.plain (OpenSpec.ofChange fuseColumnsSpec)) fuseColumnsCard

/-- THE TIED CARD OF 'hansardlaw22.FuseCheapest'. -/
def fuseCheapestCard : Claim7 := { stood := { row := fuseCheapestRow, standIns := [], harness := (true, "89c5cc476d02a4ee0b6cdea02fe24ff17cc58980422963355397f07fd43c4b90"), looks := true }, kinds := [], alts := [], laidByText := true, laidKinds := [.data, .pinned], laidTests := true, laidLooks := .later }
def FuseCheapestCardSaid : Prop := Claim7.holds Tryd.pinned (.plain (OpenSpec.ofChange fuseCheapestSpec)) fuseCheapestCard

/-- THE TIED CARD OF 'hansardlaw22.FuseAgreed'. -/
def fuseAgreedCard : Claim7 := { stood := { row := fuseAgreedRow, standIns := [], harness := (true, "89c5cc476d02a4ee0b6cdea02fe24ff17cc58980422963355397f07fd43c4b90"), looks := true }, kinds := [], alts := [], laidByText := true, laidKinds := [.data, .pinned], laidTests := true, laidLooks := .later }
def FuseAgreedCardSaid : Prop := Claim7.holds Tryd.pinned (.plain (OpenSpec.ofChange fuseAgreedSpec)) fuseAgreedCard

/-- THE TIED CARD OF 'hansardlaw22.FuseMajority'. -/
def fuseMajorityCard : Claim7 := { stood := { row := fuseMajorityRow, standIns := [], harness := (true, "89c5cc476d02a4ee0b6cdea02fe24ff17cc58980422963355397f07fd43c4b90"), looks := true }, kinds := [], alts := [], laidByText := true, laidKinds := [.data, .pinned], laidTests := true, laidLooks := .later }
def FuseMajorityCardSaid : Prop := Claim7.holds Tryd.pinned (.plain (OpenSpec.ofChange fuseMajoritySpec)) fuseMajorityCard

/-- THE SECOND FORM's CARD OF 'hansardlaw22.FuseSpec'. -/
def fuseSpecUptoCard : Claim7 := { stood := { row := fuseSpecUptoRow, standIns := [], harness := (true, "89c5cc476d02a4ee0b6cdea02fe24ff17cc58980422963355397f07fd43c4b90"), looks := true }, kinds := [], alts := [], laidByText := true, laidKinds := [.data, .pinned], laidTests := true, laidLooks := .later }
def FuseSpecUptoCardSaid : Prop := Claim7.holds Tryd.pinned (.plain (OpenSpec.upto fuseSpecSpec)) fuseSpecUptoCard

/-- THE SECOND FORM's CARD OF 'hansardlaw22.FuseChooseSpec'. -/
def fuseChooseSpecUptoCard : Claim7 := { stood := { row := fuseChooseSpecUptoRow, standIns := [], harness := (true, "89c5cc476d02a4ee0b6cdea02fe24ff17cc58980422963355397f07fd43c4b90"), looks := true }, kinds := [], alts := [], laidByText := true, laidKinds := [.data, .pinned], laidTests := true, laidLooks := .later }
def FuseChooseSpecUptoCardSaid : Prop := Claim7.holds Tryd.pinned (.plain (OpenSpec.upto fuseChooseSpecSpec)) fuseChooseSpecUptoCard

/-- THE SECOND FORM's CARD OF 'hansardlaw22.FuseColumns'. -/
def fuseColumnsUptoCard : Claim7 := { stood := { row := fuseColumnsUptoRow, standIns := [], harness := (true, "89c5cc476d02a4ee0b6cdea02fe24ff17cc58980422963355397f07fd43c4b90"), looks := true }, kinds := [], alts := [], laidByText := true, laidKinds := [.data, .pinned], laidTests := true, laidLooks := .later }
def FuseColumnsUptoCardSaid : Prop := Claim7.holds Tryd.pinned (.plain (OpenSpec.upto fuseColumnsSpec)) fuseColumnsUptoCard

/-- THE SECOND FORM's CARD OF 'hansardlaw22.FuseCheapest'. -/
def fuseCheapestUptoCard : Claim7 := { stood := { row := fuseCheapestUptoRow, standIns := [], harness := (true, "89c5cc476d02a4ee0b6cdea02fe24ff17cc58980422963355397f07fd43c4b90"), looks := true }, kinds := [], alts := [], laidByText := true, laidKinds := [.data, .pinned], laidTests := true, laidLooks := .later }
def FuseCheapestUptoCardSaid : Prop := Claim7.holds Tryd.pinned (.plain (OpenSpec.upto fuseCheapestSpec)) fuseCheapestUptoCard

/-- THE SECOND FORM's CARD OF 'hansardlaw22.FuseAgreed'. -/
def fuseAgreedUptoCard : Claim7 := { stood := { row := fuseAgreedUptoRow, standIns := [], harness := (true, "89c5cc476d02a4ee0b6cdea02fe24ff17cc58980422963355397f07fd43c4b90"), looks := true }, kinds := [], alts := [], laidByText := true, laidKinds := [.data, .pinned], laidTests := true, laidLooks := .later }
def FuseAgreedUptoCardSaid : Prop := Claim7.holds Tryd.pinned (.plain (OpenSpec.upto fuseAgreedSpec)) fuseAgreedUptoCard

/-- THE SECOND FORM's CARD OF 'hansardlaw22.FuseMajority'. -/
def fuseMajorityUptoCard : Claim7 := { stood := { row := fuseMajorityUptoRow, standIns := [], harness := (true, "89c5cc476d02a4ee0b6cdea02fe24ff17cc58980422963355397f07fd43c4b90"), looks := true }, kinds := [], alts := [], laidByText := true, laidKinds := [.data, .pinned], laidTests := true, laidLooks := .later }
def FuseMajorityUptoCardSaid : Prop := Claim7.holds Tryd.pinned (.plain (OpenSpec.upto fuseMajoritySpec)) fuseMajorityUptoCard
end Rows
end Go.Proofs.YtackmibobdoecaaDoor
