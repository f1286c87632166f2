/-
  DERIVED. GIVEN WITH THE SEED: THE CARDS: each row of YtigmnglnedcfpaaGreatDoorRows.lean that lists a variable, with what it lists TIED to the program's text (the seventh form; the later family's looks); each row that meets fmt, with fmt's text TOLD by the authors' own Lean function (tested against real Go, not proved from fmt's source: count such statements apart). THE CARD IS WHAT COUNTS. Prove the row's statement (the work); the ties are given (YtigmnglnedcfpaaGreatDoorTie.lean); close each card by the builder's one call (the guide's Derived/Test/ToyasCard.lean, 'card_holds'). Laid BY PROGRAM, IN A SANDBOX (cutbox-door.mjs). By AI agents, Wed Nov 11 2026. No macro, syntax, notation, axiom, sorry.
-/
import Derived.Test.YtigmnglnedcfpaaGreatDoorRows
import GoSem.ClaimSeven
namespace Go.Proofs.YtigmnglnedcfpaaGreatDoor
namespace Rows

/-- THE TIED CARD OF 'hansardlaw45.ViewersSpec'. -/
def viewersSpecCard : Claim7 := { stood := { row := viewersSpecRow, standIns := [], harness := (true, "02067f1c9ae40e68739549e58ccb88c20611cab9a295df24384ae253eb15ce3e"), looks := true }, kinds := [], alts := [], laidByText := true, laidKinds := [.data, .pinned], laidTests := true, laidLooks := .later }
def ViewersSpecCardSaid : Prop := Claim7.holds Tryz.pinned (.plain (OpenSpec.ofChange viewersSpecSpec)) viewersSpecCard

/-- THE TIED CARD OF 'hansardlaw45.ViewersTextSpec'. -/
def viewersTextSpecCard : Claim7 := { stood := { row := viewersTextSpecRow, standIns := [], harness := (true, "02067f1c9ae40e68739549e58ccb88c20611cab9a295df24384ae253eb15ce3e"), looks := true }, kinds := [], alts := [], laidByText := true, laidKinds := [.data, .pinned], laidTests := true, laidLooks := .later }
def ViewersTextSpecCardSaid : Prop := Claim7.holds Tryz.pinned (.plain (OpenSpec.ofChange viewersTextSpecSpec)) viewersTextSpecCard

/-- THE TIED CARD OF 'hansardlaw45.ViewersJoined'. -/
def viewersJoinedCard : Claim7 := { stood := { row := viewersJoinedRow, standIns := [], harness := (true, "02067f1c9ae40e68739549e58ccb88c20611cab9a295df24384ae253eb15ce3e"), looks := true }, kinds := [], alts := [], laidByText := true, laidKinds := [.data, .pinned], laidTests := true, laidLooks := .later }
def ViewersJoinedCardSaid : Prop := Claim7.holds Tryz.pinned (.plain (OpenSpec.ofChange viewersJoinedSpec)) viewersJoinedCard

/-- THE TIED CARD OF 'hansardlaw45.ViewersOther'. -/
def viewersOtherCard : Claim7 := { stood := { row := viewersOtherRow, standIns := [], harness := (true, "02067f1c9ae40e68739549e58ccb88c20611cab9a295df24384ae253eb15ce3e"), looks := true }, kinds := [], alts := [], laidByText := true, laidKinds := [.data, .pinned], laidTests := true, laidLooks := .later }
def ViewersOtherCardSaid : Prop := Claim7.holds Tryz.pinned (.plain (OpenSpec.ofChange viewersOtherSpec)) viewersOtherCard

/-- THE TIED CARD OF 'hansardlaw45.ViewersCells'. -/
def viewersCellsCard : Claim7 := { stood := { row := viewersCellsRow, standIns := [], harness := (true, "02067f1c9ae40e68739549e58ccb88c20611cab9a295df24384ae253eb15ce3e"), looks := true }, kinds := [], alts := [], laidByText := true, laidKinds := [.data, .pinned], laidTests := true, laidLooks := .later }
def ViewersCellsCardSaid : Prop := Claim7.holds Tryz.pinned (.plain (OpenSpec.ofChange viewersCellsSpec)) viewersCellsCard

/-- THE SECOND FORM's CARD OF 'hansardlaw45.ViewersSpec'. -/
def viewersSpecUptoCard : Claim7 := { stood := { row := viewersSpecUptoRow, standIns := [], harness := (true, "02067f1c9ae40e68739549e58ccb88c20611cab9a295df24384ae253eb15ce3e"), looks := true }, kinds := [], alts := [], laidByText := true, laidKinds := [.data, .pinned], laidTests := true, laidLooks := .later }
def ViewersSpecUptoCardSaid : Prop := Claim7.holds Tryz.pinned (.plain (OpenSpec.upto viewersSpecSpec)) viewersSpecUptoCard

/-- THE SECOND FORM's CARD OF 'hansardlaw45.ViewersTextSpec'. -/
def viewersTextSpecUptoCard : Claim7 := { stood := { row := viewersTextSpecUptoRow, standIns := [], harness := (true, "02067f1c9ae40e68739549e58ccb88c20611cab9a295df24384ae253eb15ce3e"), looks := true }, kinds := [], alts := [], laidByText := true, laidKinds := [.data, .pinned], laidTests := true, laidLooks := .later }
def ViewersTextSpecUptoCardSaid : Prop := Claim7.holds Tryz.pinned (.plain (OpenSpec.upto viewersTextSpecSpec)) viewersTextSpecUptoCard

/-- THE SECOND FORM's CARD OF 'hansardlaw45.ViewersJoined'. -/
def viewersJoinedUptoCard : Claim7 := { stood := { row := viewersJoinedUptoRow, standIns := [], harness := (true, "02067f1c9ae40e68739549e58ccb88c20611cab9a295df24384ae253eb15ce3e"), looks := true }, kinds := [], alts := [], laidByText := true, laidKinds := [.data, .pinned], laidTests := true, laidLooks := .later }
def ViewersJoinedUptoCardSaid : Prop := Claim7.holds Tryz.pinned (.plain (OpenSpec.upto viewersJoinedSpec)) viewersJoinedUptoCard

/-- THE SECOND FORM's CARD OF 'hansardlaw45.ViewersOther'. -/
def viewersOtherUptoCard : Claim7 := { stood := { row := viewersOtherUptoRow, standIns := [], harness := (true, "02067f1c9ae40e68739549e58ccb88c20611cab9a295df24384ae253eb15ce3e"), looks := true }, kinds := [], alts := [], laidByText := true, laidKinds := [.data, .pinned], laidTests := true, laidLooks := .later }
def ViewersOtherUptoCardSaid : Prop := Claim7.holds Tryz.pinned (.plain (OpenSpec.upto viewersOtherSpec)) viewersOtherUptoCard

/-- THE SECOND FORM's CARD OF 'hansardlaw45.ViewersCells'. -/
def viewersCellsUptoCard : Claim7 := { stood := { row := viewersCellsUptoRow, standIns := [], harness := (true, "02067f1c9ae40e68739549e58ccb88c20611cab9a295df24384ae253eb15ce3e"), looks := true }, kinds := [], alts := [], laidByText := true, laidKinds := [.data, .pinned], laidTests := true, laidLooks := .later }
def ViewersCellsUptoCardSaid : Prop := Claim7.holds Tryz.pinned (.plain (OpenSpec.upto viewersCellsSpec)) viewersCellsUptoCard
end Rows
end Go.Proofs.YtigmnglnedcfpaaGreatDoor
