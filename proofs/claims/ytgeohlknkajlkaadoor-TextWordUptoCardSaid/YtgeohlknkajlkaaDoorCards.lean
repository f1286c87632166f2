/-
  DERIVED. GIVEN WITH THE SEED: THE CARDS: each row of YtgeohlknkajlkaaDoorRows.lean that lists a variable, with what it lists TIED to the program's text (the seventh form; the later family's looks); each row that meets fmt, with fmt's text TOLD by the authors' own Lean function (tested against real Go, not proved from fmt's source: count such statements apart). THE CARD IS WHAT COUNTS. Prove the row's statement (the work); the ties are given (YtgeohlknkajlkaaDoorTie.lean); close each card by the builder's one call (the guide's Derived/Test/ToyasCard.lean, 'card_holds'). Laid BY PROGRAM, IN A SANDBOX (cutbox-door.mjs). By AI agents, Wed Nov 11 2026. No macro, syntax, notation, axiom, sorry.
-/
import Derived.Test.YtgeohlknkajlkaaDoorRows
import GoSem.ClaimSeven
namespace Go.Proofs.YtgeohlknkajlkaaDoor
namespace Rows

/-- THE TIED CARD OF 'hansardlaw09.TextSpec'. -/
def textSpecCard : Claim7 := { stood := { row := textSpecRow, standIns := [], harness := (true, "674cde9b781ee056a4751f2143b5e7c6383cba2711ac0fe1bbfda08c7c5a2d1a"), looks := true }, kinds := [], alts := [], laidByText := true, laidKinds := [.data, .pinned], laidTests := true, laidLooks := .later }
def TextSpecCardSaid : Prop := Claim7.holds Tryd.pinned (.plain (OpenSpec.ofChange textSpecSpec)) textSpecCard

/-- THE TIED CARD OF 'hansardlaw09.TextWordsSpec'. -/
def textWordsSpecCard : Claim7 := { stood := { row := textWordsSpecRow, standIns := [], harness := (true, "674cde9b781ee056a4751f2143b5e7c6383cba2711ac0fe1bbfda08c7c5a2d1a"), looks := true }, kinds := [], alts := [], laidByText := true, laidKinds := [.data, .pinned], laidTests := true, laidLooks := .later }
def TextWordsSpecCardSaid : Prop := Claim7.holds Tryd.pinned (.plain (OpenSpec.ofChange textWordsSpecSpec)) textWordsSpecCard

/-- THE TIED CARD OF 'hansardlaw09.TextBack'. -/
def textBackCard : Claim7 := { stood := { row := textBackRow, standIns := [], harness := (true, "674cde9b781ee056a4751f2143b5e7c6383cba2711ac0fe1bbfda08c7c5a2d1a"), looks := true }, kinds := [], alts := [], laidByText := true, laidKinds := [.data, .pinned], laidTests := true, laidLooks := .later }
def TextBackCardSaid : Prop := Claim7.holds Tryd.pinned (.plain (OpenSpec.ofChange textBackSpec)) textBackCard

/-- THE TIED CARD OF 'hansardlaw09.TextBytes'. -/
def textBytesCard : Claim7 := { stood := { row := textBytesRow, standIns := [], harness := (true, "674cde9b781ee056a4751f2143b5e7c6383cba2711ac0fe1bbfda08c7c5a2d1a"), looks := true }, kinds := [], alts := [], laidByText := true, laidKinds := [.data, .pinned], laidTests := true, laidLooks := .later }
def TextBytesCardSaid : Prop := Claim7.holds Tryd.pinned (.plain (OpenSpec.ofChange textBytesSpec)) textBytesCard

/-- THE TIED CARD OF 'hansardlaw09.TextJoined'. -/
def textJoinedCard : Claim7 := { stood := { row := textJoinedRow, standIns := [], harness := (true, "674cde9b781ee056a4751f2143b5e7c6383cba2711ac0fe1bbfda08c7c5a2d1a"), looks := true }, kinds := [], alts := [], laidByText := true, laidKinds := [.data, .pinned], laidTests := true, laidLooks := .later }
def TextJoinedCardSaid : Prop := Claim7.holds Tryd.pinned (.plain (OpenSpec.ofChange textJoinedSpec)) textJoinedCard

/-- THE TIED CARD OF 'hansardlaw09.TextPieces'. -/
def textPiecesCard : Claim7 := { stood := { row := textPiecesRow, standIns := [], harness := (true, "674cde9b781ee056a4751f2143b5e7c6383cba2711ac0fe1bbfda08c7c5a2d1a"), looks := true }, kinds := [], alts := [], laidByText := true, laidKinds := [.data, .pinned], laidTests := true, laidLooks := .later }
def TextPiecesCardSaid : Prop := Claim7.holds Tryd.pinned (.plain (OpenSpec.ofChange textPiecesSpec)) textPiecesCard

/-- THE TIED CARD OF 'hansardlaw09.TextWord'. -/
def textWordCard : Claim7 := { stood := { row := textWordRow, standIns := [], harness := (true, "674cde9b781ee056a4751f2143b5e7c6383cba2711ac0fe1bbfda08c7c5a2d1a"), looks := true }, kinds := [], alts := [], laidByText := true, laidKinds := [.data, .pinned], laidTests := true, laidLooks := .later }
def TextWordCardSaid : Prop := Claim7.holds Tryd.pinned (.plain (OpenSpec.ofChange textWordSpec)) textWordCard

/-- THE SECOND FORM's CARD OF 'hansardlaw09.TextSpec'. -/
def textSpecUptoCard : Claim7 := { stood := { row := textSpecUptoRow, standIns := [], harness := (true, "674cde9b781ee056a4751f2143b5e7c6383cba2711ac0fe1bbfda08c7c5a2d1a"), looks := true }, kinds := [], alts := [], laidByText := true, laidKinds := [.data, .pinned], laidTests := true, laidLooks := .later }
def TextSpecUptoCardSaid : Prop := Claim7.holds Tryd.pinned (.plain (OpenSpec.upto textSpecSpec)) textSpecUptoCard

/-- THE SECOND FORM's CARD OF 'hansardlaw09.TextWordsSpec'. -/
def textWordsSpecUptoCard : Claim7 := { stood := { row := textWordsSpecUptoRow, standIns := [], harness := (true, "674cde9b781ee056a4751f2143b5e7c6383cba2711ac0fe1bbfda08c7c5a2d1a"), looks := true }, kinds := [], alts := [], laidByText := true, laidKinds := [.data, .pinned], laidTests := true, laidLooks := .later }
def TextWordsSpecUptoCardSaid : Prop := Claim7.holds Tryd.pinned (.plain (OpenSpec.upto textWordsSpecSpec)) textWordsSpecUptoCard

/-- THE SECOND FORM's CARD OF 'hansardlaw09.TextBack'. -/
def textBackUptoCard : Claim7 := { stood := { row := textBackUptoRow, standIns := [], harness := (true, "674cde9b781ee056a4751f2143b5e7c6383cba2711ac0fe1bbfda08c7c5a2d1a"), looks := true }, kinds := [], alts := [], laidByText := true, laidKinds := [.data, .pinned], laidTests := true, laidLooks := .later }
def TextBackUptoCardSaid : Prop := Claim7.holds Tryd.pinned (.plain (OpenSpec.upto textBackSpec)) textBackUptoCard

/-- THE SECOND FORM's CARD OF 'hansardlaw09.TextBytes'. -/
def textBytesUptoCard : Claim7 := { stood := { row := textBytesUptoRow, standIns := [], harness := (true, "674cde9b781ee056a4751f2143b5e7c6383cba2711ac0fe1bbfda08c7c5a2d1a"), looks := true }, kinds := [], alts := [], laidByText := true, laidKinds := [.data, .pinned], laidTests := true, laidLooks := .later }
def TextBytesUptoCardSaid : Prop := Claim7.holds Tryd.pinned (.plain (OpenSpec.upto textBytesSpec)) textBytesUptoCard

/-- THE SECOND FORM's CARD OF 'hansardlaw09.TextJoined'. -/
def textJoinedUptoCard : Claim7 := { stood := { row := textJoinedUptoRow, standIns := [], harness := (true, "674cde9b781ee056a4751f2143b5e7c6383cba2711ac0fe1bbfda08c7c5a2d1a"), looks := true }, kinds := [], alts := [], laidByText := true, laidKinds := [.data, .pinned], laidTests := true, laidLooks := .later }
def TextJoinedUptoCardSaid : Prop := Claim7.holds Tryd.pinned (.plain (OpenSpec.upto textJoinedSpec)) textJoinedUptoCard

/-- THE SECOND FORM's CARD OF 'hansardlaw09.TextPieces'. -/
def textPiecesUptoCard : Claim7 := { stood := { row := textPiecesUptoRow, standIns := [], harness := (true, "674cde9b781ee056a4751f2143b5e7c6383cba2711ac0fe1bbfda08c7c5a2d1a"), looks := true }, kinds := [], alts := [], laidByText := true, laidKinds := [.data, .pinned], laidTests := true, laidLooks := .later }
def TextPiecesUptoCardSaid : Prop := Claim7.holds Tryd.pinned (.plain (OpenSpec.upto textPiecesSpec)) textPiecesUptoCard

/-- THE SECOND FORM's CARD OF 'hansardlaw09.TextWord'. -/
def textWordUptoCard : Claim7 := { stood := { row := textWordUptoRow, standIns := [], harness := (true, "674cde9b781ee056a4751f2143b5e7c6383cba2711ac0fe1bbfda08c7c5a2d1a"), looks := true }, kinds := [], alts := [], laidByText := true, laidKinds := [.data, .pinned], laidTests := true, laidLooks := .later }
def TextWordUptoCardSaid : Prop := Claim7.holds Tryd.pinned (.plain (OpenSpec.upto textWordSpec)) textWordUptoCard
end Rows
end Go.Proofs.YtgeohlknkajlkaaDoor
