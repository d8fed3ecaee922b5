/-
  DERIVED. GIVEN WITH THE SEED: THE CARDS: each row of YtnbeembnnjdmdaaGreatDoorRows.lean that lists a variable, with what it lists TIED to the program's text (the seventh form; the later family's looks); each row that meets fmt, with fmt's text TOLD by the authors' own Lean function (tested against real Go, not proved from fmt's source: count such statements apart). THE CARD IS WHAT COUNTS. Prove the row's statement (the work); the ties are given (YtnbeembnnjdmdaaGreatDoorTie.lean); close each card by the builder's one call (the guide's Derived/Test/ToyasCard.lean, 'card_holds'). Laid BY PROGRAM, IN A SANDBOX (cutbox-door.mjs). By AI agents, Wed Nov 11 2026. No macro, syntax, notation, axiom, sorry.
-/
import Derived.Test.YtnbeembnnjdmdaaGreatDoorRows
import GoSem.ClaimSeven
namespace Go.Proofs.YtnbeembnnjdmdaaGreatDoor
namespace Rows

/-- THE TIED CARD OF 'coblelaw02.DriftSteps'. -/
def driftStepsCard : Claim7 := { stood := { row := driftStepsRow, standIns := [], harness := (true, "0d3ef3032c7ecb2f43c25bb5c5aab71eee071e87f2ac07254ff77ae9d8d9cba3"), looks := false }, kinds := [], alts := [], laidByText := true, laidKinds := [.data], laidTests := true, laidLooks := .later }
def DriftStepsCardSaid : Prop := Claim7.holds Tryz.pinned (.plain (OpenSpec.ofChange driftStepsSpec)) driftStepsCard

/-- THE TIED CARD OF 'coblelaw02.DriftNames'. -/
def driftNamesCard : Claim7 := { stood := { row := driftNamesRow, standIns := [], harness := (true, "0d3ef3032c7ecb2f43c25bb5c5aab71eee071e87f2ac07254ff77ae9d8d9cba3"), looks := false }, kinds := [], alts := [], laidByText := true, laidKinds := [.data, .data], laidTests := true, laidLooks := .later }
def DriftNamesCardSaid : Prop := Claim7.holds Tryz.pinned (.plain (OpenSpec.ofChange driftNamesSpec)) driftNamesCard

/-- THE TIED CARD OF 'coblelaw02.DriftStruck'. -/
def driftStruckCard : Claim7 := { stood := { row := driftStruckRow, standIns := [], harness := (true, "0d3ef3032c7ecb2f43c25bb5c5aab71eee071e87f2ac07254ff77ae9d8d9cba3"), looks := false }, kinds := [], alts := [], laidByText := true, laidKinds := [.data], laidTests := true, laidLooks := .later }
def DriftStruckCardSaid : Prop := Claim7.holds Tryz.pinned (.plain (OpenSpec.ofChange driftStruckSpec)) driftStruckCard

/-- THE TIED CARD OF 'coblelaw02.DriftWithin'. -/
def driftWithinCard : Claim7 := { stood := { row := driftWithinRow, standIns := [], harness := (true, "0d3ef3032c7ecb2f43c25bb5c5aab71eee071e87f2ac07254ff77ae9d8d9cba3"), looks := false }, kinds := [], alts := [], laidByText := true, laidKinds := [.data, .data], laidTests := true, laidLooks := .later }
def DriftWithinCardSaid : Prop := Claim7.holds Tryz.pinned (.plain (OpenSpec.ofChange driftWithinSpec)) driftWithinCard

/-- THE TIED CARD OF 'coblelaw02.DriftFewer'. -/
def driftFewerCard : Claim7 := { stood := { row := driftFewerRow, standIns := [], harness := (true, "0d3ef3032c7ecb2f43c25bb5c5aab71eee071e87f2ac07254ff77ae9d8d9cba3"), looks := false }, kinds := [], alts := [], laidByText := true, laidKinds := [.data, .data], laidTests := true, laidLooks := .later }
def DriftFewerCardSaid : Prop := Claim7.holds Tryz.pinned (.plain (OpenSpec.ofChange driftFewerSpec)) driftFewerCard

/-- THE TIED CARD OF 'coblelaw02.DriftPlaces'. -/
def driftPlacesCard : Claim7 := { stood := { row := driftPlacesRow, standIns := [], harness := (true, "0d3ef3032c7ecb2f43c25bb5c5aab71eee071e87f2ac07254ff77ae9d8d9cba3"), looks := false }, kinds := [], alts := [], laidByText := true, laidKinds := [.data, .data], laidTests := true, laidLooks := .later }
def DriftPlacesCardSaid : Prop := Claim7.holds Tryz.pinned (.plain (OpenSpec.ofChange driftPlacesSpec)) driftPlacesCard

/-- THE TIED CARD OF 'coblelaw02.DriftReal'. -/
def driftRealCard : Claim7 := { stood := { row := driftRealRow, standIns := [], harness := (true, "0d3ef3032c7ecb2f43c25bb5c5aab71eee071e87f2ac07254ff77ae9d8d9cba3"), looks := false }, kinds := [], alts := [], laidByText := true, laidKinds := [.data, .data], laidTests := true, laidLooks := .later }
def DriftRealCardSaid : Prop := Claim7.holds Tryz.pinned (.plain (OpenSpec.ofChange driftRealSpec)) driftRealCard

/-- THE TIED CARD OF 'coblelaw02.DriftHope'. -/
def driftHopeCard : Claim7 := { stood := { row := driftHopeRow, standIns := [], harness := (true, "0d3ef3032c7ecb2f43c25bb5c5aab71eee071e87f2ac07254ff77ae9d8d9cba3"), looks := false }, kinds := [], alts := [], laidByText := true, laidKinds := [.data, .data], laidTests := true, laidLooks := .later }
def DriftHopeCardSaid : Prop := Claim7.holds Tryz.pinned (.plain (OpenSpec.ofChange driftHopeSpec)) driftHopeCard

/-- THE TIED CARD OF 'coblelaw02.DriftLives'. -/
def driftLivesCard : Claim7 := { stood := { row := driftLivesRow, standIns := [], harness := (true, "0d3ef3032c7ecb2f43c25bb5c5aab71eee071e87f2ac07254ff77ae9d8d9cba3"), looks := false }, kinds := [], alts := [], laidByText := true, laidKinds := [.data, .data], laidTests := true, laidLooks := .later }
def DriftLivesCardSaid : Prop := Claim7.holds Tryz.pinned (.plain (OpenSpec.ofChange driftLivesSpec)) driftLivesCard

/-- THE SECOND FORM's CARD OF 'coblelaw02.DriftSteps'. -/
def driftStepsUptoCard : Claim7 := { stood := { row := driftStepsUptoRow, standIns := [], harness := (true, "0d3ef3032c7ecb2f43c25bb5c5aab71eee071e87f2ac07254ff77ae9d8d9cba3"), looks := false }, kinds := [], alts := [], laidByText := true, laidKinds := [.data], laidTests := true, laidLooks := .later }
def DriftStepsUptoCardSaid : Prop := Claim7.holds Tryz.pinned (.plain (OpenSpec.upto driftStepsSpec)) driftStepsUptoCard

/-- THE SECOND FORM's CARD OF 'coblelaw02.DriftNames'. -/
def driftNamesUptoCard : Claim7 := { stood := { row := driftNamesUptoRow, standIns := [], harness := (true, "0d3ef3032c7ecb2f43c25bb5c5aab71eee071e87f2ac07254ff77ae9d8d9cba3"), looks := false }, kinds := [], alts := [], laidByText := true, laidKinds := [.data, .data], laidTests := true, laidLooks := .later }
def DriftNamesUptoCardSaid : Prop := Claim7.holds Tryz.pinned (.plain (OpenSpec.upto driftNamesSpec)) driftNamesUptoCard

/-- THE SECOND FORM's CARD OF 'coblelaw02.DriftStruck'. -/
def driftStruckUptoCard : Claim7 := { stood := { row := driftStruckUptoRow, standIns := [], harness := (true, "0d3ef3032c7ecb2f43c25bb5c5aab71eee071e87f2ac07254ff77ae9d8d9cba3"), looks := false }, kinds := [], alts := [], laidByText := true, laidKinds := [.data], laidTests := true, laidLooks := .later }
def DriftStruckUptoCardSaid : Prop := Claim7.holds Tryz.pinned (.plain (OpenSpec.upto driftStruckSpec)) driftStruckUptoCard

/-- THE SECOND FORM's CARD OF 'coblelaw02.DriftWithin'. -/
def driftWithinUptoCard : Claim7 := { stood := { row := driftWithinUptoRow, standIns := [], harness := (true, "0d3ef3032c7ecb2f43c25bb5c5aab71eee071e87f2ac07254ff77ae9d8d9cba3"), looks := false }, kinds := [], alts := [], laidByText := true, laidKinds := [.data, .data], laidTests := true, laidLooks := .later }
def DriftWithinUptoCardSaid : Prop := Claim7.holds Tryz.pinned (.plain (OpenSpec.upto driftWithinSpec)) driftWithinUptoCard

/-- THE SECOND FORM's CARD OF 'coblelaw02.DriftFewer'. -/
def driftFewerUptoCard : Claim7 := { stood := { row := driftFewerUptoRow, standIns := [], harness := (true, "0d3ef3032c7ecb2f43c25bb5c5aab71eee071e87f2ac07254ff77ae9d8d9cba3"), looks := false }, kinds := [], alts := [], laidByText := true, laidKinds := [.data, .data], laidTests := true, laidLooks := .later }
def DriftFewerUptoCardSaid : Prop := Claim7.holds Tryz.pinned (.plain (OpenSpec.upto driftFewerSpec)) driftFewerUptoCard

/-- THE SECOND FORM's CARD OF 'coblelaw02.DriftPlaces'. -/
def driftPlacesUptoCard : Claim7 := { stood := { row := driftPlacesUptoRow, standIns := [], harness := (true, "0d3ef3032c7ecb2f43c25bb5c5aab71eee071e87f2ac07254ff77ae9d8d9cba3"), looks := false }, kinds := [], alts := [], laidByText := true, laidKinds := [.data, .data], laidTests := true, laidLooks := .later }
def DriftPlacesUptoCardSaid : Prop := Claim7.holds Tryz.pinned (.plain (OpenSpec.upto driftPlacesSpec)) driftPlacesUptoCard

/-- THE SECOND FORM's CARD OF 'coblelaw02.DriftReal'. -/
def driftRealUptoCard : Claim7 := { stood := { row := driftRealUptoRow, standIns := [], harness := (true, "0d3ef3032c7ecb2f43c25bb5c5aab71eee071e87f2ac07254ff77ae9d8d9cba3"), looks := false }, kinds := [], alts := [], laidByText := true, laidKinds := [.data, .data], laidTests := true, laidLooks := .later }
def DriftRealUptoCardSaid : Prop := Claim7.holds Tryz.pinned (.plain (OpenSpec.upto driftRealSpec)) driftRealUptoCard

/-- THE SECOND FORM's CARD OF 'coblelaw02.DriftHope'. -/
def driftHopeUptoCard : Claim7 := { stood := { row := driftHopeUptoRow, standIns := [], harness := (true, "0d3ef3032c7ecb2f43c25bb5c5aab71eee071e87f2ac07254ff77ae9d8d9cba3"), looks := false }, kinds := [], alts := [], laidByText := true, laidKinds := [.data, .data], laidTests := true, laidLooks := .later }
def DriftHopeUptoCardSaid : Prop := Claim7.holds Tryz.pinned (.plain (OpenSpec.upto driftHopeSpec)) driftHopeUptoCard

/-- THE SECOND FORM's CARD OF 'coblelaw02.DriftLives'. -/
def driftLivesUptoCard : Claim7 := { stood := { row := driftLivesUptoRow, standIns := [], harness := (true, "0d3ef3032c7ecb2f43c25bb5c5aab71eee071e87f2ac07254ff77ae9d8d9cba3"), looks := false }, kinds := [], alts := [], laidByText := true, laidKinds := [.data, .data], laidTests := true, laidLooks := .later }
def DriftLivesUptoCardSaid : Prop := Claim7.holds Tryz.pinned (.plain (OpenSpec.upto driftLivesSpec)) driftLivesUptoCard
end Rows
end Go.Proofs.YtnbeembnnjdmdaaGreatDoor
