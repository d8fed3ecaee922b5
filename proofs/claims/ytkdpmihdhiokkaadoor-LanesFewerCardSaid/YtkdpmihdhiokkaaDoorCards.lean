/-
  DERIVED. GIVEN WITH THE SEED: THE CARDS: each row of YtkdpmihdhiokkaaDoorRows.lean that lists a variable, with what it lists TIED to the program's text (the seventh form; the later family's looks); each row that meets fmt, with fmt's text TOLD by the authors' own Lean function (tested against real Go, not proved from fmt's source: count such statements apart). THE CARD IS WHAT COUNTS. Prove the row's statement (the work); the ties are given (YtkdpmihdhiokkaaDoorTie.lean); close each card by the builder's one call (the guide's Derived/Test/ToyasCard.lean, 'card_holds'). Laid BY PROGRAM, IN A SANDBOX (cutbox-door.mjs). By AI agents, Wed Nov 11 2026. No macro, syntax, notation, axiom, sorry.
-/
import Derived.Test.YtkdpmihdhiokkaaDoorRows
import GoSem.ClaimSeven
namespace Go.Proofs.YtkdpmihdhiokkaaDoor
namespace Rows

/-- THE TIED CARD OF 'coblelaw06.LanesApart'. -/
def lanesApartCard : Claim7 := { stood := { row := lanesApartRow, standIns := [], harness := (true, "1c17eb3caa6c2c793d1a3754602792b4de568d67cdb36a23f441c2cf006856eb"), looks := false }, kinds := [], alts := [], laidByText := true, laidKinds := [.data], laidTests := true, laidLooks := .later }
def LanesApartCardSaid : Prop := Claim7.holds Tryd.pinned (.plain (OpenSpec.ofChange lanesApartSpec)) lanesApartCard

/-- THE TIED CARD OF 'coblelaw06.LanesEither'. -/
def lanesEitherCard : Claim7 := { stood := { row := lanesEitherRow, standIns := [], harness := (true, "1c17eb3caa6c2c793d1a3754602792b4de568d67cdb36a23f441c2cf006856eb"), looks := false }, kinds := [], alts := [], laidByText := true, laidKinds := [.data], laidTests := true, laidLooks := .later }
def LanesEitherCardSaid : Prop := Claim7.holds Tryd.pinned (.plain (OpenSpec.ofChange lanesEitherSpec)) lanesEitherCard

/-- THE TIED CARD OF 'coblelaw06.LanesOpen'. -/
def lanesOpenCard : Claim7 := { stood := { row := lanesOpenRow, standIns := [], harness := (true, "1c17eb3caa6c2c793d1a3754602792b4de568d67cdb36a23f441c2cf006856eb"), looks := false }, kinds := [], alts := [], laidByText := true, laidKinds := [.data], laidTests := true, laidLooks := .later }
def LanesOpenCardSaid : Prop := Claim7.holds Tryd.pinned (.plain (OpenSpec.ofChange lanesOpenSpec)) lanesOpenCard

/-- THE TIED CARD OF 'coblelaw06.LanesClashes'. -/
def lanesClashesCard : Claim7 := { stood := { row := lanesClashesRow, standIns := [], harness := (true, "1c17eb3caa6c2c793d1a3754602792b4de568d67cdb36a23f441c2cf006856eb"), looks := false }, kinds := [], alts := [], laidByText := true, laidKinds := [.data], laidTests := true, laidLooks := .later }
def LanesClashesCardSaid : Prop := Claim7.holds Tryd.pinned (.plain (OpenSpec.ofChange lanesClashesSpec)) lanesClashesCard

/-- THE TIED CARD OF 'coblelaw06.LanesFewer'. -/
def lanesFewerCard : Claim7 := { stood := { row := lanesFewerRow, standIns := [], harness := (true, "1c17eb3caa6c2c793d1a3754602792b4de568d67cdb36a23f441c2cf006856eb"), looks := false }, kinds := [], alts := [], laidByText := true, laidKinds := [.data], laidTests := true, laidLooks := .later }
def LanesFewerCardSaid : Prop := Claim7.holds Tryd.pinned (.plain (OpenSpec.ofChange lanesFewerSpec)) lanesFewerCard

/-- THE TIED CARD OF 'coblelaw06.LanesPlanned'. -/
def lanesPlannedCard : Claim7 := { stood := { row := lanesPlannedRow, standIns := [], harness := (true, "1c17eb3caa6c2c793d1a3754602792b4de568d67cdb36a23f441c2cf006856eb"), looks := false }, kinds := [], alts := [], laidByText := true, laidKinds := [.data], laidTests := true, laidLooks := .later }
def LanesPlannedCardSaid : Prop := Claim7.holds Tryd.pinned (.plain (OpenSpec.ofChange lanesPlannedSpec)) lanesPlannedCard

/-- THE TIED CARD OF 'coblelaw06.LanesFirst'. -/
def lanesFirstCard : Claim7 := { stood := { row := lanesFirstRow, standIns := [], harness := (true, "1c17eb3caa6c2c793d1a3754602792b4de568d67cdb36a23f441c2cf006856eb"), looks := false }, kinds := [], alts := [], laidByText := true, laidKinds := [.data], laidTests := true, laidLooks := .later }
def LanesFirstCardSaid : Prop := Claim7.holds Tryd.pinned (.plain (OpenSpec.ofChange lanesFirstSpec)) lanesFirstCard

/-- THE TIED CARD OF 'coblelaw06.LanesBlocked'. -/
def lanesBlockedCard : Claim7 := { stood := { row := lanesBlockedRow, standIns := [], harness := (true, "1c17eb3caa6c2c793d1a3754602792b4de568d67cdb36a23f441c2cf006856eb"), looks := false }, kinds := [], alts := [], laidByText := true, laidKinds := [.data], laidTests := true, laidLooks := .later }
def LanesBlockedCardSaid : Prop := Claim7.holds Tryd.pinned (.plain (OpenSpec.ofChange lanesBlockedSpec)) lanesBlockedCard

/-- THE SECOND FORM's CARD OF 'coblelaw06.LanesApart'. -/
def lanesApartUptoCard : Claim7 := { stood := { row := lanesApartUptoRow, standIns := [], harness := (true, "1c17eb3caa6c2c793d1a3754602792b4de568d67cdb36a23f441c2cf006856eb"), looks := false }, kinds := [], alts := [], laidByText := true, laidKinds := [.data], laidTests := true, laidLooks := .later }
def LanesApartUptoCardSaid : Prop := Claim7.holds Tryd.pinned (.plain (OpenSpec.upto lanesApartSpec)) lanesApartUptoCard

/-- THE SECOND FORM's CARD OF 'coblelaw06.LanesEither'. -/
def lanesEitherUptoCard : Claim7 := { stood := { row := lanesEitherUptoRow, standIns := [], harness := (true, "1c17eb3caa6c2c793d1a3754602792b4de568d67cdb36a23f441c2cf006856eb"), looks := false }, kinds := [], alts := [], laidByText := true, laidKinds := [.data], laidTests := true, laidLooks := .later }
def LanesEitherUptoCardSaid : Prop := Claim7.holds Tryd.pinned (.plain (OpenSpec.upto lanesEitherSpec)) lanesEitherUptoCard

/-- THE SECOND FORM's CARD OF 'coblelaw06.LanesOpen'. -/
def lanesOpenUptoCard : Claim7 := { stood := { row := lanesOpenUptoRow, standIns := [], harness := (true, "1c17eb3caa6c2c793d1a3754602792b4de568d67cdb36a23f441c2cf006856eb"), looks := false }, kinds := [], alts := [], laidByText := true, laidKinds := [.data], laidTests := true, laidLooks := .later }
def LanesOpenUptoCardSaid : Prop := Claim7.holds Tryd.pinned (.plain (OpenSpec.upto lanesOpenSpec)) lanesOpenUptoCard

/-- THE SECOND FORM's CARD OF 'coblelaw06.LanesClashes'. -/
def lanesClashesUptoCard : Claim7 := { stood := { row := lanesClashesUptoRow, standIns := [], harness := (true, "1c17eb3caa6c2c793d1a3754602792b4de568d67cdb36a23f441c2cf006856eb"), looks := false }, kinds := [], alts := [], laidByText := true, laidKinds := [.data], laidTests := true, laidLooks := .later }
def LanesClashesUptoCardSaid : Prop := Claim7.holds Tryd.pinned (.plain (OpenSpec.upto lanesClashesSpec)) lanesClashesUptoCard

/-- THE SECOND FORM's CARD OF 'coblelaw06.LanesFewer'. -/
def lanesFewerUptoCard : Claim7 := { stood := { row := lanesFewerUptoRow, standIns := [], harness := (true, "1c17eb3caa6c2c793d1a3754602792b4de568d67cdb36a23f441c2cf006856eb"), looks := false }, kinds := [], alts := [], laidByText := true, laidKinds := [.data], laidTests := true, laidLooks := .later }
def LanesFewerUptoCardSaid : Prop := Claim7.holds Tryd.pinned (.plain (OpenSpec.upto lanesFewerSpec)) lanesFewerUptoCard

/-- THE SECOND FORM's CARD OF 'coblelaw06.LanesPlanned'. -/
def lanesPlannedUptoCard : Claim7 := { stood := { row := lanesPlannedUptoRow, standIns := [], harness := (true, "1c17eb3caa6c2c793d1a3754602792b4de568d67cdb36a23f441c2cf006856eb"), looks := false }, kinds := [], alts := [], laidByText := true, laidKinds := [.data], laidTests := true, laidLooks := .later }
def LanesPlannedUptoCardSaid : Prop := Claim7.holds Tryd.pinned (.plain (OpenSpec.upto lanesPlannedSpec)) lanesPlannedUptoCard

/-- THE SECOND FORM's CARD OF 'coblelaw06.LanesFirst'. -/
def lanesFirstUptoCard : Claim7 := { stood := { row := lanesFirstUptoRow, standIns := [], harness := (true, "1c17eb3caa6c2c793d1a3754602792b4de568d67cdb36a23f441c2cf006856eb"), looks := false }, kinds := [], alts := [], laidByText := true, laidKinds := [.data], laidTests := true, laidLooks := .later }
def LanesFirstUptoCardSaid : Prop := Claim7.holds Tryd.pinned (.plain (OpenSpec.upto lanesFirstSpec)) lanesFirstUptoCard

/-- THE SECOND FORM's CARD OF 'coblelaw06.LanesBlocked'. -/
def lanesBlockedUptoCard : Claim7 := { stood := { row := lanesBlockedUptoRow, standIns := [], harness := (true, "1c17eb3caa6c2c793d1a3754602792b4de568d67cdb36a23f441c2cf006856eb"), looks := false }, kinds := [], alts := [], laidByText := true, laidKinds := [.data], laidTests := true, laidLooks := .later }
def LanesBlockedUptoCardSaid : Prop := Claim7.holds Tryd.pinned (.plain (OpenSpec.upto lanesBlockedSpec)) lanesBlockedUptoCard
end Rows
end Go.Proofs.YtkdpmihdhiokkaaDoor
