/-
  DERIVED. GIVEN WITH THE SEED: THE CARDS: each row of YtkdpmihdhiokkaaGreatDoorRows.lean that lists a variable, with what it lists TIED to the program's text (the seventh form; the later family's looks); each row that meets fmt, with fmt's text TOLD by the authors' own Lean function (tested against real Go, not proved from fmt's source: count such statements apart). THE CARD IS WHAT COUNTS. Prove the row's statement (the work); the ties are given (YtkdpmihdhiokkaaGreatDoorTie.lean); close each card by the builder's one call (the guide's Derived/Test/ToyasCard.lean, 'card_holds'). Laid BY PROGRAM, IN A SANDBOX (cutbox-door.mjs). By AI agents, Wed Nov 11 2026. No macro, syntax, notation, axiom, sorry.
-/
import Derived.Test.YtkdpmihdhiokkaaGreatDoorRows
import GoSem.ClaimSeven
namespace Go.Proofs.YtkdpmihdhiokkaaGreatDoor
namespace Rows

/-- THE TIED CARD OF 'coblelaw06.LanesPlans'. -/
def lanesPlansCard : Claim7 := { stood := { row := lanesPlansRow, standIns := [], harness := (true, "f3df21857211e0976fe06458f347613497298c2f74d2fac1eaca8a3da4c0b518"), looks := false }, kinds := [], alts := [], laidByText := true, laidKinds := [.data], laidTests := true, laidLooks := .later }
def LanesPlansCardSaid : Prop := Claim7.holds Tryz.pinned (.plain (OpenSpec.ofChange lanesPlansSpec)) lanesPlansCard

/-- THE TIED CARD OF 'coblelaw06.LanesRoutes'. -/
def lanesRoutesCard : Claim7 := { stood := { row := lanesRoutesRow, standIns := [], harness := (true, "f3df21857211e0976fe06458f347613497298c2f74d2fac1eaca8a3da4c0b518"), looks := false }, kinds := [], alts := [], laidByText := true, laidKinds := [.data], laidTests := true, laidLooks := .later }
def LanesRoutesCardSaid : Prop := Claim7.holds Tryz.pinned (.plain (OpenSpec.ofChange lanesRoutesSpec)) lanesRoutesCard

/-- THE SECOND FORM's CARD OF 'coblelaw06.LanesPlans'. -/
def lanesPlansUptoCard : Claim7 := { stood := { row := lanesPlansUptoRow, standIns := [], harness := (true, "f3df21857211e0976fe06458f347613497298c2f74d2fac1eaca8a3da4c0b518"), looks := false }, kinds := [], alts := [], laidByText := true, laidKinds := [.data], laidTests := true, laidLooks := .later }
def LanesPlansUptoCardSaid : Prop := Claim7.holds Tryz.pinned (.plain (OpenSpec.upto lanesPlansSpec)) lanesPlansUptoCard

/-- THE SECOND FORM's CARD OF 'coblelaw06.LanesRoutes'. -/
def lanesRoutesUptoCard : Claim7 := { stood := { row := lanesRoutesUptoRow, standIns := [], harness := (true, "f3df21857211e0976fe06458f347613497298c2f74d2fac1eaca8a3da4c0b518"), looks := false }, kinds := [], alts := [], laidByText := true, laidKinds := [.data], laidTests := true, laidLooks := .later }
def LanesRoutesUptoCardSaid : Prop := Claim7.holds Tryz.pinned (.plain (OpenSpec.upto lanesRoutesSpec)) lanesRoutesUptoCard
end Rows
end Go.Proofs.YtkdpmihdhiokkaaGreatDoor
