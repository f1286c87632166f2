/-
  DERIVED. GIVEN WITH THE SEED: THE CARDS: each row of YtdgdefemmjngnaaDoorRows.lean that lists a variable, with what it lists TIED to the program's text (the seventh form; the later family's looks); each row that meets fmt, with fmt's text TOLD by the authors' own Lean function (tested against real Go, not proved from fmt's source: count such statements apart). THE CARD IS WHAT COUNTS. Prove the row's statement (the work); the ties are given (YtdgdefemmjngnaaDoorTie.lean); close each card by the builder's one call (the guide's Derived/Test/ToyasCard.lean, 'card_holds'). Laid BY PROGRAM, IN A SANDBOX (cutbox-door.mjs). By AI agents, Wed Nov 11 2026. No macro, syntax, notation, axiom, sorry.
-/
import Derived.Test.YtdgdefemmjngnaaDoorRows
import GoSem.ClaimSeven
namespace Go.Proofs.YtdgdefemmjngnaaDoor
namespace Rows

/-- THE TIED CARD OF 'hansardlaw21.AlignSpec'. -/
def alignSpecCard : Claim7 := { stood := { row := alignSpecRow, standIns := [], harness := (true, "7b94d85165f90c3d4584420ef58fbd79712b08e07f12915ec1e5c8738ad41462"), looks := true }, kinds := [], alts := [], laidByText := true, laidKinds := [.data, .pinned], laidTests := true, laidLooks := .later }
def AlignSpecCardSaid : Prop := Claim7.holds Tryd.pinned (.plain (OpenSpec.ofChange alignSpecSpec)) alignSpecCard

/-- THE TIED CARD OF 'hansardlaw21.AlignProofSpec'. -/
def alignProofSpecCard : Claim7 := { stood := { row := alignProofSpecRow, standIns := [], harness := (true, "7b94d85165f90c3d4584420ef58fbd79712b08e07f12915ec1e5c8738ad41462"), looks := true }, kinds := [], alts := [], laidByText := true, laidKinds := [.data, .pinned], laidTests := true, laidLooks := .later }
def AlignProofSpecCardSaid : Prop := Claim7.holds Tryd.pinned (.plain (OpenSpec.ofChange alignProofSpecSpec)) alignProofSpecCard

/-- THE TIED CARD OF 'hansardlaw21.AlignBest'. -/
def alignBestCard : Claim7 := { stood := { row := alignBestRow, standIns := [], harness := (true, "7b94d85165f90c3d4584420ef58fbd79712b08e07f12915ec1e5c8738ad41462"), looks := true }, kinds := [], alts := [], laidByText := true, laidKinds := [.data, .pinned], laidTests := true, laidLooks := .later }
def AlignBestCardSaid : Prop := Claim7.holds Tryd.pinned (.plain (OpenSpec.ofChange alignBestSpec)) alignBestCard

/-- THE TIED CARD OF 'hansardlaw21.AlignMetric'. -/
def alignMetricCard : Claim7 := { stood := { row := alignMetricRow, standIns := [], harness := (true, "7b94d85165f90c3d4584420ef58fbd79712b08e07f12915ec1e5c8738ad41462"), looks := true }, kinds := [], alts := [], laidByText := true, laidKinds := [.data, .pinned], laidTests := true, laidLooks := .later }
def AlignMetricCardSaid : Prop := Claim7.holds Tryd.pinned (.plain (OpenSpec.ofChange alignMetricSpec)) alignMetricCard

/-- THE TIED CARD OF 'hansardlaw21.AlignEnds'. -/
def alignEndsCard : Claim7 := { stood := { row := alignEndsRow, standIns := [], harness := (true, "7b94d85165f90c3d4584420ef58fbd79712b08e07f12915ec1e5c8738ad41462"), looks := true }, kinds := [], alts := [], laidByText := true, laidKinds := [.data, .pinned], laidTests := true, laidLooks := .later }
def AlignEndsCardSaid : Prop := Claim7.holds Tryd.pinned (.plain (OpenSpec.ofChange alignEndsSpec)) alignEndsCard

/-- THE TIED CARD OF 'hansardlaw21.AlignTurned'. -/
def alignTurnedCard : Claim7 := { stood := { row := alignTurnedRow, standIns := [], harness := (true, "7b94d85165f90c3d4584420ef58fbd79712b08e07f12915ec1e5c8738ad41462"), looks := true }, kinds := [], alts := [], laidByText := true, laidKinds := [.data, .pinned], laidTests := true, laidLooks := .later }
def AlignTurnedCardSaid : Prop := Claim7.holds Tryd.pinned (.plain (OpenSpec.ofChange alignTurnedSpec)) alignTurnedCard

/-- THE SECOND FORM's CARD OF 'hansardlaw21.AlignSpec'. -/
def alignSpecUptoCard : Claim7 := { stood := { row := alignSpecUptoRow, standIns := [], harness := (true, "7b94d85165f90c3d4584420ef58fbd79712b08e07f12915ec1e5c8738ad41462"), looks := true }, kinds := [], alts := [], laidByText := true, laidKinds := [.data, .pinned], laidTests := true, laidLooks := .later }
def AlignSpecUptoCardSaid : Prop := Claim7.holds Tryd.pinned (.plain (OpenSpec.upto alignSpecSpec)) alignSpecUptoCard

/-- THE SECOND FORM's CARD OF 'hansardlaw21.AlignProofSpec'. -/
def alignProofSpecUptoCard : Claim7 := { stood := { row := alignProofSpecUptoRow, standIns := [], harness := (true, "7b94d85165f90c3d4584420ef58fbd79712b08e07f12915ec1e5c8738ad41462"), looks := true }, kinds := [], alts := [], laidByText := true, laidKinds := [.data, .pinned], laidTests := true, laidLooks := .later }
def AlignProofSpecUptoCardSaid : Prop := Claim7.holds Tryd.pinned (.plain (OpenSpec.upto alignProofSpecSpec)) alignProofSpecUptoCard

/-- THE SECOND FORM's CARD OF 'hansardlaw21.AlignBest'. -/
def alignBestUptoCard : Claim7 := { stood := { row := alignBestUptoRow, standIns := [], harness := (true, "7b94d85165f90c3d4584420ef58fbd79712b08e07f12915ec1e5c8738ad41462"), looks := true }, kinds := [], alts := [], laidByText := true, laidKinds := [.data, .pinned], laidTests := true, laidLooks := .later }
def AlignBestUptoCardSaid : Prop := Claim7.holds Tryd.pinned (.plain (OpenSpec.upto alignBestSpec)) alignBestUptoCard

/-- THE SECOND FORM's CARD OF 'hansardlaw21.AlignMetric'. -/
def alignMetricUptoCard : Claim7 := { stood := { row := alignMetricUptoRow, standIns := [], harness := (true, "7b94d85165f90c3d4584420ef58fbd79712b08e07f12915ec1e5c8738ad41462"), looks := true }, kinds := [], alts := [], laidByText := true, laidKinds := [.data, .pinned], laidTests := true, laidLooks := .later }
def AlignMetricUptoCardSaid : Prop := Claim7.holds Tryd.pinned (.plain (OpenSpec.upto alignMetricSpec)) alignMetricUptoCard

/-- THE SECOND FORM's CARD OF 'hansardlaw21.AlignEnds'. -/
def alignEndsUptoCard : Claim7 := { stood := { row := alignEndsUptoRow, standIns := [], harness := (true, "7b94d85165f90c3d4584420ef58fbd79712b08e07f12915ec1e5c8738ad41462"), looks := true }, kinds := [], alts := [], laidByText := true, laidKinds := [.data, .pinned], laidTests := true, laidLooks := .later }
def AlignEndsUptoCardSaid : Prop := Claim7.holds Tryd.pinned (.plain (OpenSpec.upto alignEndsSpec)) alignEndsUptoCard

/-- THE SECOND FORM's CARD OF 'hansardlaw21.AlignTurned'. -/
def alignTurnedUptoCard : Claim7 := { stood := { row := alignTurnedUptoRow, standIns := [], harness := (true, "7b94d85165f90c3d4584420ef58fbd79712b08e07f12915ec1e5c8738ad41462"), looks := true }, kinds := [], alts := [], laidByText := true, laidKinds := [.data, .pinned], laidTests := true, laidLooks := .later }
def AlignTurnedUptoCardSaid : Prop := Claim7.holds Tryd.pinned (.plain (OpenSpec.upto alignTurnedSpec)) alignTurnedUptoCard
end Rows
end Go.Proofs.YtdgdefemmjngnaaDoor
