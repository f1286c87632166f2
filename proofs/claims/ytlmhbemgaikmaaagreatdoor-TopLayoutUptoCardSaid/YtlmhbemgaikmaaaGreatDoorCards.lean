/-
  DERIVED. GIVEN WITH THE SEED: THE CARDS: each row of YtlmhbemgaikmaaaGreatDoorRows.lean that lists a variable, with what it lists TIED to the program's text (the seventh form; the later family's looks); each row that meets fmt, with fmt's text TOLD by the authors' own Lean function (tested against real Go, not proved from fmt's source: count such statements apart). THE CARD IS WHAT COUNTS. Prove the row's statement (the work); the ties are given (YtlmhbemgaikmaaaGreatDoorTie.lean); close each card by the builder's one call (the guide's Derived/Test/ToyasCard.lean, 'card_holds'). Laid BY PROGRAM, IN A SANDBOX (cutbox-door.mjs). By AI agents, Wed Nov 11 2026. No macro, syntax, notation, axiom, sorry.
-/
import Derived.Test.YtlmhbemgaikmaaaGreatDoorRows
import GoSem.ClaimSeven
namespace Go.Proofs.YtlmhbemgaikmaaaGreatDoor
namespace Rows

/-- THE TIED CARD OF 'hansardtop.TopLayout'. -/
def topLayoutCard : Claim7 := { stood := { row := topLayoutRow, standIns := [], harness := (true, "cea07aea762f6b60dbc62e7474be91388f12c22b42459fcf6f28755fefeb3933"), looks := true }, kinds := [], alts := [], laidByText := true, laidKinds := [.data, .pinned], laidTests := true, laidLooks := .later }
def TopLayoutCardSaid : Prop := Claim7.holds Tryz.pinned (.plain (OpenSpec.ofChange topLayoutSpec)) topLayoutCard

/-- THE SECOND FORM's CARD OF 'hansardtop.TopLayout'. -/
def topLayoutUptoCard : Claim7 := { stood := { row := topLayoutUptoRow, standIns := [], harness := (true, "cea07aea762f6b60dbc62e7474be91388f12c22b42459fcf6f28755fefeb3933"), looks := true }, kinds := [], alts := [], laidByText := true, laidKinds := [.data, .pinned], laidTests := true, laidLooks := .later }
def TopLayoutUptoCardSaid : Prop := Claim7.holds Tryz.pinned (.plain (OpenSpec.upto topLayoutSpec)) topLayoutUptoCard
end Rows
end Go.Proofs.YtlmhbemgaikmaaaGreatDoor
