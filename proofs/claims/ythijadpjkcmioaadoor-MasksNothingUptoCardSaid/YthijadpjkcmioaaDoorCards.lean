/-
  DERIVED. GIVEN WITH THE SEED: THE CARDS: each row of YthijadpjkcmioaaDoorRows.lean that lists a variable, with what it lists TIED to the program's text (the seventh form; the later family's looks); each row that meets fmt, with fmt's text TOLD by the authors' own Lean function (tested against real Go, not proved from fmt's source: count such statements apart). THE CARD IS WHAT COUNTS. Prove the row's statement (the work); the ties are given (YthijadpjkcmioaaDoorTie.lean); close each card by the builder's one call (the guide's Derived/Test/ToyasCard.lean, 'card_holds'). Laid BY PROGRAM, IN A SANDBOX (cutbox-door.mjs). By AI agents, Wed Nov 11 2026. No macro, syntax, notation, axiom, sorry.
-/
import Derived.Test.YthijadpjkcmioaaDoorRows
import GoSem.ClaimSeven
namespace Go.Proofs.YthijadpjkcmioaaDoor
namespace Rows

/-- THE TIED CARD OF 'hansardlaw37.MasksSpec'. -/
def masksSpecCard : Claim7 := { stood := { row := masksSpecRow, standIns := [], harness := (true, "b82f754b0fa692952c5f903b70a281448577497283bb56e30ab20d2d1cb91cc6"), looks := true }, kinds := [], alts := [], laidByText := true, laidKinds := [.data, .pinned], laidTests := true, laidLooks := .later }
def MasksSpecCardSaid : Prop := Claim7.holds Tryd.pinned (.plain (OpenSpec.ofChange masksSpecSpec)) masksSpecCard

/-- THE TIED CARD OF 'hansardlaw37.MasksNothing'. -/
def masksNothingCard : Claim7 := { stood := { row := masksNothingRow, standIns := [], harness := (true, "b82f754b0fa692952c5f903b70a281448577497283bb56e30ab20d2d1cb91cc6"), looks := true }, kinds := [], alts := [], laidByText := true, laidKinds := [.data, .pinned], laidTests := true, laidLooks := .later }
def MasksNothingCardSaid : Prop := Claim7.holds Tryd.pinned (.plain (OpenSpec.ofChange masksNothingSpec)) masksNothingCard

/-- THE TIED CARD OF 'hansardlaw37.MasksEach'. -/
def masksEachCard : Claim7 := { stood := { row := masksEachRow, standIns := [], harness := (true, "b82f754b0fa692952c5f903b70a281448577497283bb56e30ab20d2d1cb91cc6"), looks := true }, kinds := [], alts := [], laidByText := true, laidKinds := [.data, .pinned], laidTests := true, laidLooks := .later }
def MasksEachCardSaid : Prop := Claim7.holds Tryd.pinned (.plain (OpenSpec.ofChange masksEachSpec)) masksEachCard

/-- THE TIED CARD OF 'hansardlaw37.MasksWorse'. -/
def masksWorseCard : Claim7 := { stood := { row := masksWorseRow, standIns := [], harness := (true, "b82f754b0fa692952c5f903b70a281448577497283bb56e30ab20d2d1cb91cc6"), looks := true }, kinds := [], alts := [], laidByText := true, laidKinds := [.data, .pinned], laidTests := true, laidLooks := .later }
def MasksWorseCardSaid : Prop := Claim7.holds Tryd.pinned (.plain (OpenSpec.ofChange masksWorseSpec)) masksWorseCard

/-- THE TIED CARD OF 'hansardlaw37.MasksShown'. -/
def masksShownCard : Claim7 := { stood := { row := masksShownRow, standIns := [], harness := (true, "b82f754b0fa692952c5f903b70a281448577497283bb56e30ab20d2d1cb91cc6"), looks := true }, kinds := [], alts := [], laidByText := true, laidKinds := [.data, .pinned], laidTests := true, laidLooks := .later }
def MasksShownCardSaid : Prop := Claim7.holds Tryd.pinned (.plain (OpenSpec.ofChange masksShownSpec)) masksShownCard

/-- THE SECOND FORM's CARD OF 'hansardlaw37.MasksSpec'. -/
def masksSpecUptoCard : Claim7 := { stood := { row := masksSpecUptoRow, standIns := [], harness := (true, "b82f754b0fa692952c5f903b70a281448577497283bb56e30ab20d2d1cb91cc6"), looks := true }, kinds := [], alts := [], laidByText := true, laidKinds := [.data, .pinned], laidTests := true, laidLooks := .later }
def MasksSpecUptoCardSaid : Prop := Claim7.holds Tryd.pinned (.plain (OpenSpec.upto masksSpecSpec)) masksSpecUptoCard

/-- THE SECOND FORM's CARD OF 'hansardlaw37.MasksNothing'. -/
def masksNothingUptoCard : Claim7 := { stood := { row := masksNothingUptoRow, standIns := [], harness := (true, "b82f754b0fa692952c5f903b70a281448577497283bb56e30ab20d2d1cb91cc6"), looks := true }, kinds := [], alts := [], laidByText := true, laidKinds := [.data, .pinned], laidTests := true, laidLooks := .later }
def MasksNothingUptoCardSaid : Prop := Claim7.holds Tryd.pinned (.plain (OpenSpec.upto masksNothingSpec)) masksNothingUptoCard

/-- THE SECOND FORM's CARD OF 'hansardlaw37.MasksEach'. -/
def masksEachUptoCard : Claim7 := { stood := { row := masksEachUptoRow, standIns := [], harness := (true, "b82f754b0fa692952c5f903b70a281448577497283bb56e30ab20d2d1cb91cc6"), looks := true }, kinds := [], alts := [], laidByText := true, laidKinds := [.data, .pinned], laidTests := true, laidLooks := .later }
def MasksEachUptoCardSaid : Prop := Claim7.holds Tryd.pinned (.plain (OpenSpec.upto masksEachSpec)) masksEachUptoCard

/-- THE SECOND FORM's CARD OF 'hansardlaw37.MasksWorse'. -/
def masksWorseUptoCard : Claim7 := { stood := { row := masksWorseUptoRow, standIns := [], harness := (true, "b82f754b0fa692952c5f903b70a281448577497283bb56e30ab20d2d1cb91cc6"), looks := true }, kinds := [], alts := [], laidByText := true, laidKinds := [.data, .pinned], laidTests := true, laidLooks := .later }
def MasksWorseUptoCardSaid : Prop := Claim7.holds Tryd.pinned (.plain (OpenSpec.upto masksWorseSpec)) masksWorseUptoCard

/-- THE SECOND FORM's CARD OF 'hansardlaw37.MasksShown'. -/
def masksShownUptoCard : Claim7 := { stood := { row := masksShownUptoRow, standIns := [], harness := (true, "b82f754b0fa692952c5f903b70a281448577497283bb56e30ab20d2d1cb91cc6"), looks := true }, kinds := [], alts := [], laidByText := true, laidKinds := [.data, .pinned], laidTests := true, laidLooks := .later }
def MasksShownUptoCardSaid : Prop := Claim7.holds Tryd.pinned (.plain (OpenSpec.upto masksShownSpec)) masksShownUptoCard
end Rows
end Go.Proofs.YthijadpjkcmioaaDoor
