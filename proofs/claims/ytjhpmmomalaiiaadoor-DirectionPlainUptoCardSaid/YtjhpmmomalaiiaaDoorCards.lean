/-
  DERIVED. GIVEN WITH THE SEED: THE CARDS: each row of YtjhpmmomalaiiaaDoorRows.lean that lists a variable, with what it lists TIED to the program's text (the seventh form; the later family's looks); each row that meets fmt, with fmt's text TOLD by the authors' own Lean function (tested against real Go, not proved from fmt's source: count such statements apart). THE CARD IS WHAT COUNTS. Prove the row's statement (the work); the ties are given (YtjhpmmomalaiiaaDoorTie.lean); close each card by the builder's one call (the guide's Derived/Test/ToyasCard.lean, 'card_holds'). Laid BY PROGRAM, IN A SANDBOX (cutbox-door.mjs). By AI agents, Wed Nov 11 2026. No macro, syntax, notation, axiom, sorry.
-/
import Derived.Test.YtjhpmmomalaiiaaDoorRows
import GoSem.ClaimSeven
namespace Go.Proofs.YtjhpmmomalaiiaaDoor
namespace Rows

/-- THE TIED CARD OF 'hansardlaw10.DirectionSpec'. -/
def directionSpecCard : Claim7 := { stood := { row := directionSpecRow, standIns := [], harness := (true, "8255a02d9f400ad47e90cdb87dc3c98ca586bd00d1a2a59812bcd165bec64620"), looks := true }, kinds := [], alts := [], laidByText := true, laidKinds := [.data, .pinned], laidTests := true, laidLooks := .later }
def DirectionSpecCardSaid : Prop := Claim7.holds Tryd.pinned (.plain (OpenSpec.ofChange directionSpecSpec)) directionSpecCard

/-- THE TIED CARD OF 'hansardlaw10.DirectionShowSpec'. -/
def directionShowSpecCard : Claim7 := { stood := { row := directionShowSpecRow, standIns := [], harness := (true, "8255a02d9f400ad47e90cdb87dc3c98ca586bd00d1a2a59812bcd165bec64620"), looks := true }, kinds := [], alts := [], laidByText := true, laidKinds := [.data, .pinned], laidTests := true, laidLooks := .later }
def DirectionShowSpecCardSaid : Prop := Claim7.holds Tryd.pinned (.plain (OpenSpec.ofChange directionShowSpecSpec)) directionShowSpecCard

/-- THE TIED CARD OF 'hansardlaw10.DirectionNeighbours'. -/
def directionNeighboursCard : Claim7 := { stood := { row := directionNeighboursRow, standIns := [], harness := (true, "8255a02d9f400ad47e90cdb87dc3c98ca586bd00d1a2a59812bcd165bec64620"), looks := true }, kinds := [], alts := [], laidByText := true, laidKinds := [.data, .pinned], laidTests := true, laidLooks := .later }
def DirectionNeighboursCardSaid : Prop := Claim7.holds Tryd.pinned (.plain (OpenSpec.ofChange directionNeighboursSpec)) directionNeighboursCard

/-- THE TIED CARD OF 'hansardlaw10.DirectionRuns'. -/
def directionRunsCard : Claim7 := { stood := { row := directionRunsRow, standIns := [], harness := (true, "8255a02d9f400ad47e90cdb87dc3c98ca586bd00d1a2a59812bcd165bec64620"), looks := true }, kinds := [], alts := [], laidByText := true, laidKinds := [.data, .pinned], laidTests := true, laidLooks := .later }
def DirectionRunsCardSaid : Prop := Claim7.holds Tryd.pinned (.plain (OpenSpec.ofChange directionRunsSpec)) directionRunsCard

/-- THE TIED CARD OF 'hansardlaw10.DirectionLevels'. -/
def directionLevelsCard : Claim7 := { stood := { row := directionLevelsRow, standIns := [], harness := (true, "8255a02d9f400ad47e90cdb87dc3c98ca586bd00d1a2a59812bcd165bec64620"), looks := true }, kinds := [], alts := [], laidByText := true, laidKinds := [.data, .pinned], laidTests := true, laidLooks := .later }
def DirectionLevelsCardSaid : Prop := Claim7.holds Tryd.pinned (.plain (OpenSpec.ofChange directionLevelsSpec)) directionLevelsCard

/-- THE TIED CARD OF 'hansardlaw10.DirectionPlain'. -/
def directionPlainCard : Claim7 := { stood := { row := directionPlainRow, standIns := [], harness := (true, "8255a02d9f400ad47e90cdb87dc3c98ca586bd00d1a2a59812bcd165bec64620"), looks := true }, kinds := [], alts := [], laidByText := true, laidKinds := [.data, .pinned], laidTests := true, laidLooks := .later }
def DirectionPlainCardSaid : Prop := Claim7.holds Tryd.pinned (.plain (OpenSpec.ofChange directionPlainSpec)) directionPlainCard

/-- THE SECOND FORM's CARD OF 'hansardlaw10.DirectionSpec'. -/
def directionSpecUptoCard : Claim7 := { stood := { row := directionSpecUptoRow, standIns := [], harness := (true, "8255a02d9f400ad47e90cdb87dc3c98ca586bd00d1a2a59812bcd165bec64620"), looks := true }, kinds := [], alts := [], laidByText := true, laidKinds := [.data, .pinned], laidTests := true, laidLooks := .later }
def DirectionSpecUptoCardSaid : Prop := Claim7.holds Tryd.pinned (.plain (OpenSpec.upto directionSpecSpec)) directionSpecUptoCard

/-- THE SECOND FORM's CARD OF 'hansardlaw10.DirectionShowSpec'. -/
def directionShowSpecUptoCard : Claim7 := { stood := { row := directionShowSpecUptoRow, standIns := [], harness := (true, "8255a02d9f400ad47e90cdb87dc3c98ca586bd00d1a2a59812bcd165bec64620"), looks := true }, kinds := [], alts := [], laidByText := true, laidKinds := [.data, .pinned], laidTests := true, laidLooks := .later }
def DirectionShowSpecUptoCardSaid : Prop := Claim7.holds Tryd.pinned (.plain (OpenSpec.upto directionShowSpecSpec)) directionShowSpecUptoCard

/-- THE SECOND FORM's CARD OF 'hansardlaw10.DirectionNeighbours'. -/
def directionNeighboursUptoCard : Claim7 := { stood := { row := directionNeighboursUptoRow, standIns := [], harness := (true, "8255a02d9f400ad47e90cdb87dc3c98ca586bd00d1a2a59812bcd165bec64620"), looks := true }, kinds := [], alts := [], laidByText := true, laidKinds := [.data, .pinned], laidTests := true, laidLooks := .later }
def DirectionNeighboursUptoCardSaid : Prop := Claim7.holds Tryd.pinned (.plain (OpenSpec.upto directionNeighboursSpec)) directionNeighboursUptoCard

/-- THE SECOND FORM's CARD OF 'hansardlaw10.DirectionRuns'. -/
def directionRunsUptoCard : Claim7 := { stood := { row := directionRunsUptoRow, standIns := [], harness := (true, "8255a02d9f400ad47e90cdb87dc3c98ca586bd00d1a2a59812bcd165bec64620"), looks := true }, kinds := [], alts := [], laidByText := true, laidKinds := [.data, .pinned], laidTests := true, laidLooks := .later }
def DirectionRunsUptoCardSaid : Prop := Claim7.holds Tryd.pinned (.plain (OpenSpec.upto directionRunsSpec)) directionRunsUptoCard

/-- THE SECOND FORM's CARD OF 'hansardlaw10.DirectionLevels'. -/
def directionLevelsUptoCard : Claim7 := { stood := { row := directionLevelsUptoRow, standIns := [], harness := (true, "8255a02d9f400ad47e90cdb87dc3c98ca586bd00d1a2a59812bcd165bec64620"), looks := true }, kinds := [], alts := [], laidByText := true, laidKinds := [.data, .pinned], laidTests := true, laidLooks := .later }
def DirectionLevelsUptoCardSaid : Prop := Claim7.holds Tryd.pinned (.plain (OpenSpec.upto directionLevelsSpec)) directionLevelsUptoCard

/-- THE SECOND FORM's CARD OF 'hansardlaw10.DirectionPlain'. -/
def directionPlainUptoCard : Claim7 := { stood := { row := directionPlainUptoRow, standIns := [], harness := (true, "8255a02d9f400ad47e90cdb87dc3c98ca586bd00d1a2a59812bcd165bec64620"), looks := true }, kinds := [], alts := [], laidByText := true, laidKinds := [.data, .pinned], laidTests := true, laidLooks := .later }
def DirectionPlainUptoCardSaid : Prop := Claim7.holds Tryd.pinned (.plain (OpenSpec.upto directionPlainSpec)) directionPlainUptoCard
end Rows
end Go.Proofs.YtjhpmmomalaiiaaDoor
