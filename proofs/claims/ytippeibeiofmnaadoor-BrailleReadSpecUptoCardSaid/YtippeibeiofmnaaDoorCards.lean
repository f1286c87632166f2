/-
  DERIVED. GIVEN WITH THE SEED: THE CARDS: each row of YtippeibeiofmnaaDoorRows.lean that lists a variable, with what it lists TIED to the program's text (the seventh form; the later family's looks); each row that meets fmt, with fmt's text TOLD by the authors' own Lean function (tested against real Go, not proved from fmt's source: count such statements apart). THE CARD IS WHAT COUNTS. Prove the row's statement (the work); the ties are given (YtippeibeiofmnaaDoorTie.lean); close each card by the builder's one call (the guide's Derived/Test/ToyasCard.lean, 'card_holds'). Laid BY PROGRAM, IN A SANDBOX (cutbox-door.mjs). By AI agents, Wed Nov 11 2026. No macro, syntax, notation, axiom, sorry.
-/
import Derived.Test.YtippeibeiofmnaaDoorRows
import GoSem.ClaimSeven
namespace Go.Proofs.YtippeibeiofmnaaDoor
namespace Rows

/-- THE TIED CARD OF 'hansardlaw12.BrailleSpec'. -/
def brailleSpecCard : Claim7 := { stood := { row := brailleSpecRow, standIns := [], harness := (true, "521d9313e18b0b7b1d31a8d344a95ee124c3bb255dfa79ed4a9adbd3e85eca79"), looks := true }, kinds := [], alts := [], laidByText := true, laidKinds := [.data, .pinned], laidTests := true, laidLooks := .later }
def BrailleSpecCardSaid : Prop := Claim7.holds Tryd.pinned (.plain (OpenSpec.ofChange brailleSpecSpec)) brailleSpecCard

/-- THE TIED CARD OF 'hansardlaw12.BrailleReadSpec'. -/
def brailleReadSpecCard : Claim7 := { stood := { row := brailleReadSpecRow, standIns := [], harness := (true, "521d9313e18b0b7b1d31a8d344a95ee124c3bb255dfa79ed4a9adbd3e85eca79"), looks := true }, kinds := [], alts := [], laidByText := true, laidKinds := [.data, .pinned], laidTests := true, laidLooks := .later }
def BrailleReadSpecCardSaid : Prop := Claim7.holds Tryd.pinned (.plain (OpenSpec.ofChange brailleReadSpecSpec)) brailleReadSpecCard

/-- THE TIED CARD OF 'hansardlaw12.BrailleFewest'. -/
def brailleFewestCard : Claim7 := { stood := { row := brailleFewestRow, standIns := [], harness := (true, "521d9313e18b0b7b1d31a8d344a95ee124c3bb255dfa79ed4a9adbd3e85eca79"), looks := true }, kinds := [], alts := [], laidByText := true, laidKinds := [.data, .pinned], laidTests := true, laidLooks := .later }
def BrailleFewestCardSaid : Prop := Claim7.holds Tryd.pinned (.plain (OpenSpec.ofChange brailleFewestSpec)) brailleFewestCard

/-- THE TIED CARD OF 'hansardlaw12.BrailleUnique'. -/
def brailleUniqueCard : Claim7 := { stood := { row := brailleUniqueRow, standIns := [], harness := (true, "521d9313e18b0b7b1d31a8d344a95ee124c3bb255dfa79ed4a9adbd3e85eca79"), looks := true }, kinds := [], alts := [], laidByText := true, laidKinds := [.data, .pinned], laidTests := true, laidLooks := .later }
def BrailleUniqueCardSaid : Prop := Claim7.holds Tryd.pinned (.plain (OpenSpec.ofChange brailleUniqueSpec)) brailleUniqueCard

/-- THE TIED CARD OF 'hansardlaw12.BrailleFirst'. -/
def brailleFirstCard : Claim7 := { stood := { row := brailleFirstRow, standIns := [], harness := (true, "521d9313e18b0b7b1d31a8d344a95ee124c3bb255dfa79ed4a9adbd3e85eca79"), looks := true }, kinds := [], alts := [], laidByText := true, laidKinds := [.data, .pinned], laidTests := true, laidLooks := .later }
def BrailleFirstCardSaid : Prop := Claim7.holds Tryd.pinned (.plain (OpenSpec.ofChange brailleFirstSpec)) brailleFirstCard

/-- THE TIED CARD OF 'hansardlaw12.BrailleJoined'. -/
def brailleJoinedCard : Claim7 := { stood := { row := brailleJoinedRow, standIns := [], harness := (true, "521d9313e18b0b7b1d31a8d344a95ee124c3bb255dfa79ed4a9adbd3e85eca79"), looks := true }, kinds := [], alts := [], laidByText := true, laidKinds := [.data, .pinned], laidTests := true, laidLooks := .later }
def BrailleJoinedCardSaid : Prop := Claim7.holds Tryd.pinned (.plain (OpenSpec.ofChange brailleJoinedSpec)) brailleJoinedCard

/-- THE SECOND FORM's CARD OF 'hansardlaw12.BrailleSpec'. -/
def brailleSpecUptoCard : Claim7 := { stood := { row := brailleSpecUptoRow, standIns := [], harness := (true, "521d9313e18b0b7b1d31a8d344a95ee124c3bb255dfa79ed4a9adbd3e85eca79"), looks := true }, kinds := [], alts := [], laidByText := true, laidKinds := [.data, .pinned], laidTests := true, laidLooks := .later }
def BrailleSpecUptoCardSaid : Prop := Claim7.holds Tryd.pinned (.plain (OpenSpec.upto brailleSpecSpec)) brailleSpecUptoCard

/-- THE SECOND FORM's CARD OF 'hansardlaw12.BrailleReadSpec'. -/
def brailleReadSpecUptoCard : Claim7 := { stood := { row := brailleReadSpecUptoRow, standIns := [], harness := (true, "521d9313e18b0b7b1d31a8d344a95ee124c3bb255dfa79ed4a9adbd3e85eca79"), looks := true }, kinds := [], alts := [], laidByText := true, laidKinds := [.data, .pinned], laidTests := true, laidLooks := .later }
def BrailleReadSpecUptoCardSaid : Prop := Claim7.holds Tryd.pinned (.plain (OpenSpec.upto brailleReadSpecSpec)) brailleReadSpecUptoCard

/-- THE SECOND FORM's CARD OF 'hansardlaw12.BrailleFewest'. -/
def brailleFewestUptoCard : Claim7 := { stood := { row := brailleFewestUptoRow, standIns := [], harness := (true, "521d9313e18b0b7b1d31a8d344a95ee124c3bb255dfa79ed4a9adbd3e85eca79"), looks := true }, kinds := [], alts := [], laidByText := true, laidKinds := [.data, .pinned], laidTests := true, laidLooks := .later }
def BrailleFewestUptoCardSaid : Prop := Claim7.holds Tryd.pinned (.plain (OpenSpec.upto brailleFewestSpec)) brailleFewestUptoCard

/-- THE SECOND FORM's CARD OF 'hansardlaw12.BrailleUnique'. -/
def brailleUniqueUptoCard : Claim7 := { stood := { row := brailleUniqueUptoRow, standIns := [], harness := (true, "521d9313e18b0b7b1d31a8d344a95ee124c3bb255dfa79ed4a9adbd3e85eca79"), looks := true }, kinds := [], alts := [], laidByText := true, laidKinds := [.data, .pinned], laidTests := true, laidLooks := .later }
def BrailleUniqueUptoCardSaid : Prop := Claim7.holds Tryd.pinned (.plain (OpenSpec.upto brailleUniqueSpec)) brailleUniqueUptoCard

/-- THE SECOND FORM's CARD OF 'hansardlaw12.BrailleFirst'. -/
def brailleFirstUptoCard : Claim7 := { stood := { row := brailleFirstUptoRow, standIns := [], harness := (true, "521d9313e18b0b7b1d31a8d344a95ee124c3bb255dfa79ed4a9adbd3e85eca79"), looks := true }, kinds := [], alts := [], laidByText := true, laidKinds := [.data, .pinned], laidTests := true, laidLooks := .later }
def BrailleFirstUptoCardSaid : Prop := Claim7.holds Tryd.pinned (.plain (OpenSpec.upto brailleFirstSpec)) brailleFirstUptoCard

/-- THE SECOND FORM's CARD OF 'hansardlaw12.BrailleJoined'. -/
def brailleJoinedUptoCard : Claim7 := { stood := { row := brailleJoinedUptoRow, standIns := [], harness := (true, "521d9313e18b0b7b1d31a8d344a95ee124c3bb255dfa79ed4a9adbd3e85eca79"), looks := true }, kinds := [], alts := [], laidByText := true, laidKinds := [.data, .pinned], laidTests := true, laidLooks := .later }
def BrailleJoinedUptoCardSaid : Prop := Claim7.holds Tryd.pinned (.plain (OpenSpec.upto brailleJoinedSpec)) brailleJoinedUptoCard
end Rows
end Go.Proofs.YtippeibeiofmnaaDoor
