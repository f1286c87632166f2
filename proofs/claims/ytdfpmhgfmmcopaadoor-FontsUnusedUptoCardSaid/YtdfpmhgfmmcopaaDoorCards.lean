/-
  DERIVED. GIVEN WITH THE SEED: THE CARDS: each row of YtdfpmhgfmmcopaaDoorRows.lean that lists a variable, with what it lists TIED to the program's text (the seventh form; the later family's looks); each row that meets fmt, with fmt's text TOLD by the authors' own Lean function (tested against real Go, not proved from fmt's source: count such statements apart). THE CARD IS WHAT COUNTS. Prove the row's statement (the work); the ties are given (YtdfpmhgfmmcopaaDoorTie.lean); close each card by the builder's one call (the guide's Derived/Test/ToyasCard.lean, 'card_holds'). Laid BY PROGRAM, IN A SANDBOX (cutbox-door.mjs). By AI agents, Wed Nov 11 2026. No macro, syntax, notation, axiom, sorry.
-/
import Derived.Test.YtdfpmhgfmmcopaaDoorRows
import GoSem.ClaimSeven
namespace Go.Proofs.YtdfpmhgfmmcopaaDoor
namespace Rows

/-- THE TIED CARD OF 'hansardlaw11.FontsSpec'. -/
def fontsSpecCard : Claim7 := { stood := { row := fontsSpecRow, standIns := [], harness := (true, "626a7a0a782caa0d5f72559c261ff52838a43c6065ce66c340c1d8ef97005527"), looks := true }, kinds := [], alts := [], laidByText := true, laidKinds := [.data, .pinned], laidTests := true, laidLooks := .later }
def FontsSpecCardSaid : Prop := Claim7.holds Tryd.pinned (.plain (OpenSpec.ofChange fontsSpecSpec)) fontsSpecCard

/-- THE TIED CARD OF 'hansardlaw11.FontsFitSpec'. -/
def fontsFitSpecCard : Claim7 := { stood := { row := fontsFitSpecRow, standIns := [], harness := (true, "626a7a0a782caa0d5f72559c261ff52838a43c6065ce66c340c1d8ef97005527"), looks := true }, kinds := [], alts := [], laidByText := true, laidKinds := [.data, .pinned], laidTests := true, laidLooks := .later }
def FontsFitSpecCardSaid : Prop := Claim7.holds Tryd.pinned (.plain (OpenSpec.ofChange fontsFitSpecSpec)) fontsFitSpecCard

/-- THE TIED CARD OF 'hansardlaw11.FontsUnused'. -/
def fontsUnusedCard : Claim7 := { stood := { row := fontsUnusedRow, standIns := [], harness := (true, "626a7a0a782caa0d5f72559c261ff52838a43c6065ce66c340c1d8ef97005527"), looks := true }, kinds := [], alts := [], laidByText := true, laidKinds := [.data, .pinned], laidTests := true, laidLooks := .later }
def FontsUnusedCardSaid : Prop := Claim7.holds Tryd.pinned (.plain (OpenSpec.ofChange fontsUnusedSpec)) fontsUnusedCard

/-- THE TIED CARD OF 'hansardlaw11.FontsPairs'. -/
def fontsPairsCard : Claim7 := { stood := { row := fontsPairsRow, standIns := [], harness := (true, "626a7a0a782caa0d5f72559c261ff52838a43c6065ce66c340c1d8ef97005527"), looks := true }, kinds := [], alts := [], laidByText := true, laidKinds := [.data, .pinned], laidTests := true, laidLooks := .later }
def FontsPairsCardSaid : Prop := Claim7.holds Tryd.pinned (.plain (OpenSpec.ofChange fontsPairsSpec)) fontsPairsCard

/-- THE TIED CARD OF 'hansardlaw11.FontsJoined'. -/
def fontsJoinedCard : Claim7 := { stood := { row := fontsJoinedRow, standIns := [], harness := (true, "626a7a0a782caa0d5f72559c261ff52838a43c6065ce66c340c1d8ef97005527"), looks := true }, kinds := [], alts := [], laidByText := true, laidKinds := [.data, .pinned], laidTests := true, laidLooks := .later }
def FontsJoinedCardSaid : Prop := Claim7.holds Tryd.pinned (.plain (OpenSpec.ofChange fontsJoinedSpec)) fontsJoinedCard

/-- THE TIED CARD OF 'hansardlaw11.FontsGreatest'. -/
def fontsGreatestCard : Claim7 := { stood := { row := fontsGreatestRow, standIns := [], harness := (true, "626a7a0a782caa0d5f72559c261ff52838a43c6065ce66c340c1d8ef97005527"), looks := true }, kinds := [], alts := [], laidByText := true, laidKinds := [.data, .pinned], laidTests := true, laidLooks := .later }
def FontsGreatestCardSaid : Prop := Claim7.holds Tryd.pinned (.plain (OpenSpec.ofChange fontsGreatestSpec)) fontsGreatestCard

/-- THE SECOND FORM's CARD OF 'hansardlaw11.FontsSpec'. -/
def fontsSpecUptoCard : Claim7 := { stood := { row := fontsSpecUptoRow, standIns := [], harness := (true, "626a7a0a782caa0d5f72559c261ff52838a43c6065ce66c340c1d8ef97005527"), looks := true }, kinds := [], alts := [], laidByText := true, laidKinds := [.data, .pinned], laidTests := true, laidLooks := .later }
def FontsSpecUptoCardSaid : Prop := Claim7.holds Tryd.pinned (.plain (OpenSpec.upto fontsSpecSpec)) fontsSpecUptoCard

/-- THE SECOND FORM's CARD OF 'hansardlaw11.FontsFitSpec'. -/
def fontsFitSpecUptoCard : Claim7 := { stood := { row := fontsFitSpecUptoRow, standIns := [], harness := (true, "626a7a0a782caa0d5f72559c261ff52838a43c6065ce66c340c1d8ef97005527"), looks := true }, kinds := [], alts := [], laidByText := true, laidKinds := [.data, .pinned], laidTests := true, laidLooks := .later }
def FontsFitSpecUptoCardSaid : Prop := Claim7.holds Tryd.pinned (.plain (OpenSpec.upto fontsFitSpecSpec)) fontsFitSpecUptoCard

/-- THE SECOND FORM's CARD OF 'hansardlaw11.FontsUnused'. -/
def fontsUnusedUptoCard : Claim7 := { stood := { row := fontsUnusedUptoRow, standIns := [], harness := (true, "626a7a0a782caa0d5f72559c261ff52838a43c6065ce66c340c1d8ef97005527"), looks := true }, kinds := [], alts := [], laidByText := true, laidKinds := [.data, .pinned], laidTests := true, laidLooks := .later }
def FontsUnusedUptoCardSaid : Prop := Claim7.holds Tryd.pinned (.plain (OpenSpec.upto fontsUnusedSpec)) fontsUnusedUptoCard

/-- THE SECOND FORM's CARD OF 'hansardlaw11.FontsPairs'. -/
def fontsPairsUptoCard : Claim7 := { stood := { row := fontsPairsUptoRow, standIns := [], harness := (true, "626a7a0a782caa0d5f72559c261ff52838a43c6065ce66c340c1d8ef97005527"), looks := true }, kinds := [], alts := [], laidByText := true, laidKinds := [.data, .pinned], laidTests := true, laidLooks := .later }
def FontsPairsUptoCardSaid : Prop := Claim7.holds Tryd.pinned (.plain (OpenSpec.upto fontsPairsSpec)) fontsPairsUptoCard

/-- THE SECOND FORM's CARD OF 'hansardlaw11.FontsJoined'. -/
def fontsJoinedUptoCard : Claim7 := { stood := { row := fontsJoinedUptoRow, standIns := [], harness := (true, "626a7a0a782caa0d5f72559c261ff52838a43c6065ce66c340c1d8ef97005527"), looks := true }, kinds := [], alts := [], laidByText := true, laidKinds := [.data, .pinned], laidTests := true, laidLooks := .later }
def FontsJoinedUptoCardSaid : Prop := Claim7.holds Tryd.pinned (.plain (OpenSpec.upto fontsJoinedSpec)) fontsJoinedUptoCard

/-- THE SECOND FORM's CARD OF 'hansardlaw11.FontsGreatest'. -/
def fontsGreatestUptoCard : Claim7 := { stood := { row := fontsGreatestUptoRow, standIns := [], harness := (true, "626a7a0a782caa0d5f72559c261ff52838a43c6065ce66c340c1d8ef97005527"), looks := true }, kinds := [], alts := [], laidByText := true, laidKinds := [.data, .pinned], laidTests := true, laidLooks := .later }
def FontsGreatestUptoCardSaid : Prop := Claim7.holds Tryd.pinned (.plain (OpenSpec.upto fontsGreatestSpec)) fontsGreatestUptoCard
end Rows
end Go.Proofs.YtdfpmhgfmmcopaaDoor
