/-
  DERIVED. GIVEN WITH THE SEED: THE CARDS: each row of YtfgkjpfdpcjciaaDoorRows.lean that lists a variable, with what it lists TIED to the program's text (the seventh form; the later family's looks); each row that meets fmt, with fmt's text TOLD by the authors' own Lean function (tested against real Go, not proved from fmt's source: count such statements apart). THE CARD IS WHAT COUNTS. Prove the row's statement (the work); the ties are given (YtfgkjpfdpcjciaaDoorTie.lean); close each card by the builder's one call (the guide's Derived/Test/ToyasCard.lean, 'card_holds'). Laid BY PROGRAM, IN A SANDBOX (cutbox-door.mjs). By AI agents, Wed Nov 11 2026. No macro, syntax, notation, axiom, sorry.
-/
import Derived.Test.YtfgkjpfdpcjciaaDoorRows
import GoSem.ClaimSeven
namespace Go.Proofs.YtfgkjpfdpcjciaaDoor
namespace Rows

/-- THE TIED CARD OF 'hansardlaw32.SentencesSpec'. -/
def sentencesSpecCard : Claim7 := { stood := { row := sentencesSpecRow, standIns := [], harness := (true, "bf0b37a35571640635d023aab88ae90c3c17ade6ec13835fe1a4e3d106785af9"), looks := true }, kinds := [], alts := [], laidByText := true, laidKinds := [.data, .pinned], laidTests := true, laidLooks := .later }
def SentencesSpecCardSaid : Prop := Claim7.holds Tryd.pinned (.plain (OpenSpec.ofChange sentencesSpecSpec)) sentencesSpecCard

/-- THE TIED CARD OF 'hansardlaw32.SentencesClosed'. -/
def sentencesClosedCard : Claim7 := { stood := { row := sentencesClosedRow, standIns := [], harness := (true, "bf0b37a35571640635d023aab88ae90c3c17ade6ec13835fe1a4e3d106785af9"), looks := true }, kinds := [], alts := [], laidByText := true, laidKinds := [.data, .pinned], laidTests := true, laidLooks := .later }
def SentencesClosedCardSaid : Prop := Claim7.holds Tryd.pinned (.plain (OpenSpec.ofChange sentencesClosedSpec)) sentencesClosedCard

/-- THE TIED CARD OF 'hansardlaw32.SentencesWhole'. -/
def sentencesWholeCard : Claim7 := { stood := { row := sentencesWholeRow, standIns := [], harness := (true, "bf0b37a35571640635d023aab88ae90c3c17ade6ec13835fe1a4e3d106785af9"), looks := true }, kinds := [], alts := [], laidByText := true, laidKinds := [.data, .pinned], laidTests := true, laidLooks := .later }
def SentencesWholeCardSaid : Prop := Claim7.holds Tryd.pinned (.plain (OpenSpec.ofChange sentencesWholeSpec)) sentencesWholeCard

/-- THE TIED CARD OF 'hansardlaw32.SentencesRest'. -/
def sentencesRestCard : Claim7 := { stood := { row := sentencesRestRow, standIns := [], harness := (true, "bf0b37a35571640635d023aab88ae90c3c17ade6ec13835fe1a4e3d106785af9"), looks := true }, kinds := [], alts := [], laidByText := true, laidKinds := [.data, .pinned], laidTests := true, laidLooks := .later }
def SentencesRestCardSaid : Prop := Claim7.holds Tryd.pinned (.plain (OpenSpec.ofChange sentencesRestSpec)) sentencesRestCard

/-- THE TIED CARD OF 'hansardlaw32.SentencesLater'. -/
def sentencesLaterCard : Claim7 := { stood := { row := sentencesLaterRow, standIns := [], harness := (true, "bf0b37a35571640635d023aab88ae90c3c17ade6ec13835fe1a4e3d106785af9"), looks := true }, kinds := [], alts := [], laidByText := true, laidKinds := [.data, .pinned], laidTests := true, laidLooks := .later }
def SentencesLaterCardSaid : Prop := Claim7.holds Tryd.pinned (.plain (OpenSpec.ofChange sentencesLaterSpec)) sentencesLaterCard

/-- THE SECOND FORM's CARD OF 'hansardlaw32.SentencesSpec'. -/
def sentencesSpecUptoCard : Claim7 := { stood := { row := sentencesSpecUptoRow, standIns := [], harness := (true, "bf0b37a35571640635d023aab88ae90c3c17ade6ec13835fe1a4e3d106785af9"), looks := true }, kinds := [], alts := [], laidByText := true, laidKinds := [.data, .pinned], laidTests := true, laidLooks := .later }
def SentencesSpecUptoCardSaid : Prop := Claim7.holds Tryd.pinned (.plain (OpenSpec.upto sentencesSpecSpec)) sentencesSpecUptoCard

/-- THE SECOND FORM's CARD OF 'hansardlaw32.SentencesClosed'. -/
def sentencesClosedUptoCard : Claim7 := { stood := { row := sentencesClosedUptoRow, standIns := [], harness := (true, "bf0b37a35571640635d023aab88ae90c3c17ade6ec13835fe1a4e3d106785af9"), looks := true }, kinds := [], alts := [], laidByText := true, laidKinds := [.data, .pinned], laidTests := true, laidLooks := .later }
def SentencesClosedUptoCardSaid : Prop := Claim7.holds Tryd.pinned (.plain (OpenSpec.upto sentencesClosedSpec)) sentencesClosedUptoCard

/-- THE SECOND FORM's CARD OF 'hansardlaw32.SentencesWhole'. -/
def sentencesWholeUptoCard : Claim7 := { stood := { row := sentencesWholeUptoRow, standIns := [], harness := (true, "bf0b37a35571640635d023aab88ae90c3c17ade6ec13835fe1a4e3d106785af9"), looks := true }, kinds := [], alts := [], laidByText := true, laidKinds := [.data, .pinned], laidTests := true, laidLooks := .later }
def SentencesWholeUptoCardSaid : Prop := Claim7.holds Tryd.pinned (.plain (OpenSpec.upto sentencesWholeSpec)) sentencesWholeUptoCard

/-- THE SECOND FORM's CARD OF 'hansardlaw32.SentencesRest'. -/
def sentencesRestUptoCard : Claim7 := { stood := { row := sentencesRestUptoRow, standIns := [], harness := (true, "bf0b37a35571640635d023aab88ae90c3c17ade6ec13835fe1a4e3d106785af9"), looks := true }, kinds := [], alts := [], laidByText := true, laidKinds := [.data, .pinned], laidTests := true, laidLooks := .later }
def SentencesRestUptoCardSaid : Prop := Claim7.holds Tryd.pinned (.plain (OpenSpec.upto sentencesRestSpec)) sentencesRestUptoCard

/-- THE SECOND FORM's CARD OF 'hansardlaw32.SentencesLater'. -/
def sentencesLaterUptoCard : Claim7 := { stood := { row := sentencesLaterUptoRow, standIns := [], harness := (true, "bf0b37a35571640635d023aab88ae90c3c17ade6ec13835fe1a4e3d106785af9"), looks := true }, kinds := [], alts := [], laidByText := true, laidKinds := [.data, .pinned], laidTests := true, laidLooks := .later }
def SentencesLaterUptoCardSaid : Prop := Claim7.holds Tryd.pinned (.plain (OpenSpec.upto sentencesLaterSpec)) sentencesLaterUptoCard
end Rows
end Go.Proofs.YtfgkjpfdpcjciaaDoor
