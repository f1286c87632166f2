/-
  DERIVED. GIVEN WITH THE SEED: THE CARDS: each row of YtgfomibaakpdnaaDoorRows.lean that lists a variable, with what it lists TIED to the program's text (the seventh form; the later family's looks); each row that meets fmt, with fmt's text TOLD by the authors' own Lean function (tested against real Go, not proved from fmt's source: count such statements apart). THE CARD IS WHAT COUNTS. Prove the row's statement (the work); the ties are given (YtgfomibaakpdnaaDoorTie.lean); close each card by the builder's one call (the guide's Derived/Test/ToyasCard.lean, 'card_holds'). Laid BY PROGRAM, IN A SANDBOX (cutbox-door.mjs). By AI agents, Wed Nov 11 2026. No macro, syntax, notation, axiom, sorry.
-/
import Derived.Test.YtgfomibaakpdnaaDoorRows
import GoSem.ClaimSeven
namespace Go.Proofs.YtgfomibaakpdnaaDoor
namespace Rows

/-- THE TIED CARD OF 'hansardlaw20.LatticeSpec'. -/
def latticeSpecCard : Claim7 := { stood := { row := latticeSpecRow, standIns := [], harness := (true, "50baabe5ae502d2d91aa50c3d3c416178aa0c34b5128922d12fcb547d2929be1"), looks := true }, kinds := [], alts := [], laidByText := true, laidKinds := [.data, .pinned], laidTests := true, laidLooks := .later }
def LatticeSpecCardSaid : Prop := Claim7.holds Tryd.pinned (.plain (OpenSpec.ofChange latticeSpecSpec)) latticeSpecCard

/-- THE TIED CARD OF 'hansardlaw20.LatticeProveSpec'. -/
def latticeProveSpecCard : Claim7 := { stood := { row := latticeProveSpecRow, standIns := [], harness := (true, "50baabe5ae502d2d91aa50c3d3c416178aa0c34b5128922d12fcb547d2929be1"), looks := true }, kinds := [], alts := [], laidByText := true, laidKinds := [.data, .pinned], laidTests := true, laidLooks := .later }
def LatticeProveSpecCardSaid : Prop := Claim7.holds Tryd.pinned (.plain (OpenSpec.ofChange latticeProveSpecSpec)) latticeProveSpecCard

/-- THE TIED CARD OF 'hansardlaw20.LatticeLeast'. -/
def latticeLeastCard : Claim7 := { stood := { row := latticeLeastRow, standIns := [], harness := (true, "50baabe5ae502d2d91aa50c3d3c416178aa0c34b5128922d12fcb547d2929be1"), looks := true }, kinds := [], alts := [], laidByText := true, laidKinds := [.data, .pinned], laidTests := true, laidLooks := .later }
def LatticeLeastCardSaid : Prop := Claim7.holds Tryd.pinned (.plain (OpenSpec.ofChange latticeLeastSpec)) latticeLeastCard

/-- THE TIED CARD OF 'hansardlaw20.LatticeSound'. -/
def latticeSoundCard : Claim7 := { stood := { row := latticeSoundRow, standIns := [], harness := (true, "50baabe5ae502d2d91aa50c3d3c416178aa0c34b5128922d12fcb547d2929be1"), looks := true }, kinds := [], alts := [], laidByText := true, laidKinds := [.data, .pinned], laidTests := true, laidLooks := .later }
def LatticeSoundCardSaid : Prop := Claim7.holds Tryd.pinned (.plain (OpenSpec.ofChange latticeSoundSpec)) latticeSoundCard

/-- THE TIED CARD OF 'hansardlaw20.LatticeSaid'. -/
def latticeSaidCard : Claim7 := { stood := { row := latticeSaidRow, standIns := [], harness := (true, "50baabe5ae502d2d91aa50c3d3c416178aa0c34b5128922d12fcb547d2929be1"), looks := true }, kinds := [], alts := [], laidByText := true, laidKinds := [.data, .pinned], laidTests := true, laidLooks := .later }
def LatticeSaidCardSaid : Prop := Claim7.holds Tryd.pinned (.plain (OpenSpec.ofChange latticeSaidSpec)) latticeSaidCard

/-- THE TIED CARD OF 'hansardlaw20.LatticeMore'. -/
def latticeMoreCard : Claim7 := { stood := { row := latticeMoreRow, standIns := [], harness := (true, "50baabe5ae502d2d91aa50c3d3c416178aa0c34b5128922d12fcb547d2929be1"), looks := true }, kinds := [], alts := [], laidByText := true, laidKinds := [.data, .pinned], laidTests := true, laidLooks := .later }
def LatticeMoreCardSaid : Prop := Claim7.holds Tryd.pinned (.plain (OpenSpec.ofChange latticeMoreSpec)) latticeMoreCard

/-- THE SECOND FORM's CARD OF 'hansardlaw20.LatticeSpec'. -/
def latticeSpecUptoCard : Claim7 := { stood := { row := latticeSpecUptoRow, standIns := [], harness := (true, "50baabe5ae502d2d91aa50c3d3c416178aa0c34b5128922d12fcb547d2929be1"), looks := true }, kinds := [], alts := [], laidByText := true, laidKinds := [.data, .pinned], laidTests := true, laidLooks := .later }
def LatticeSpecUptoCardSaid : Prop := Claim7.holds Tryd.pinned (.plain (OpenSpec.upto latticeSpecSpec)) latticeSpecUptoCard

/-- THE SECOND FORM's CARD OF 'hansardlaw20.LatticeProveSpec'. -/
def latticeProveSpecUptoCard : Claim7 := { stood := { row := latticeProveSpecUptoRow, standIns := [], harness := (true, "50baabe5ae502d2d91aa50c3d3c416178aa0c34b5128922d12fcb547d2929be1"), looks := true }, kinds := [], alts := [], laidByText := true, laidKinds := [.data, .pinned], laidTests := true, laidLooks := .later }
def LatticeProveSpecUptoCardSaid : Prop := Claim7.holds Tryd.pinned (.plain (OpenSpec.upto latticeProveSpecSpec)) latticeProveSpecUptoCard

/-- THE SECOND FORM's CARD OF 'hansardlaw20.LatticeLeast'. -/
def latticeLeastUptoCard : Claim7 := { stood := { row := latticeLeastUptoRow, standIns := [], harness := (true, "50baabe5ae502d2d91aa50c3d3c416178aa0c34b5128922d12fcb547d2929be1"), looks := true }, kinds := [], alts := [], laidByText := true, laidKinds := [.data, .pinned], laidTests := true, laidLooks := .later }
def LatticeLeastUptoCardSaid : Prop := Claim7.holds Tryd.pinned (.plain (OpenSpec.upto latticeLeastSpec)) latticeLeastUptoCard

/-- THE SECOND FORM's CARD OF 'hansardlaw20.LatticeSound'. -/
def latticeSoundUptoCard : Claim7 := { stood := { row := latticeSoundUptoRow, standIns := [], harness := (true, "50baabe5ae502d2d91aa50c3d3c416178aa0c34b5128922d12fcb547d2929be1"), looks := true }, kinds := [], alts := [], laidByText := true, laidKinds := [.data, .pinned], laidTests := true, laidLooks := .later }
def LatticeSoundUptoCardSaid : Prop := Claim7.holds Tryd.pinned (.plain (OpenSpec.upto latticeSoundSpec)) latticeSoundUptoCard

/-- THE SECOND FORM's CARD OF 'hansardlaw20.LatticeSaid'. -/
def latticeSaidUptoCard : Claim7 := { stood := { row := latticeSaidUptoRow, standIns := [], harness := (true, "50baabe5ae502d2d91aa50c3d3c416178aa0c34b5128922d12fcb547d2929be1"), looks := true }, kinds := [], alts := [], laidByText := true, laidKinds := [.data, .pinned], laidTests := true, laidLooks := .later }
def LatticeSaidUptoCardSaid : Prop := Claim7.holds Tryd.pinned (.plain (OpenSpec.upto latticeSaidSpec)) latticeSaidUptoCard

/-- THE SECOND FORM's CARD OF 'hansardlaw20.LatticeMore'. -/
def latticeMoreUptoCard : Claim7 := { stood := { row := latticeMoreUptoRow, standIns := [], harness := (true, "50baabe5ae502d2d91aa50c3d3c416178aa0c34b5128922d12fcb547d2929be1"), looks := true }, kinds := [], alts := [], laidByText := true, laidKinds := [.data, .pinned], laidTests := true, laidLooks := .later }
def LatticeMoreUptoCardSaid : Prop := Claim7.holds Tryd.pinned (.plain (OpenSpec.upto latticeMoreSpec)) latticeMoreUptoCard
end Rows
end Go.Proofs.YtgfomibaakpdnaaDoor
