/-
  DERIVED. GIVEN WITH THE SEED: THE CARDS: each row of YtnbeembnnjdmdaaDoorRows.lean that lists a variable, with what it lists TIED to the program's text (the seventh form; the later family's looks); each row that meets fmt, with fmt's text TOLD by the authors' own Lean function (tested against real Go, not proved from fmt's source: count such statements apart). THE CARD IS WHAT COUNTS. Prove the row's statement (the work); the ties are given (YtnbeembnnjdmdaaDoorTie.lean); close each card by the builder's one call (the guide's Derived/Test/ToyasCard.lean, 'card_holds'). Laid BY PROGRAM, IN A SANDBOX (cutbox-door.mjs). By AI agents, Wed Nov 11 2026. No macro, syntax, notation, axiom, sorry.
-/
import Derived.Test.YtnbeembnnjdmdaaDoorRows
import GoSem.ClaimSeven
namespace Go.Proofs.YtnbeembnnjdmdaaDoor
namespace Rows

/-- THE TIED CARD OF 'coblelaw02.DriftWider'. -/
def driftWiderCard : Claim7 := { stood := { row := driftWiderRow, standIns := [], harness := (true, "1be6bb728ebc70a061712fa58c9290380a2137f07bf55e13ab4bbaf714d13418"), looks := false }, kinds := [], alts := [], laidByText := true, laidKinds := [.data, .data], laidTests := true, laidLooks := .later }
def DriftWiderCardSaid : Prop := Claim7.holds Tryd.pinned (.plain (OpenSpec.ofChange driftWiderSpec)) driftWiderCard

/-- THE TIED CARD OF 'coblelaw02.DriftNamed'. -/
def driftNamedCard : Claim7 := { stood := { row := driftNamedRow, standIns := [], harness := (true, "1be6bb728ebc70a061712fa58c9290380a2137f07bf55e13ab4bbaf714d13418"), looks := false }, kinds := [], alts := [], laidByText := true, laidKinds := [.data, .data], laidTests := true, laidLooks := .later }
def DriftNamedCardSaid : Prop := Claim7.holds Tryd.pinned (.plain (OpenSpec.ofChange driftNamedSpec)) driftNamedCard

/-- THE SECOND FORM's CARD OF 'coblelaw02.DriftWider'. -/
def driftWiderUptoCard : Claim7 := { stood := { row := driftWiderUptoRow, standIns := [], harness := (true, "1be6bb728ebc70a061712fa58c9290380a2137f07bf55e13ab4bbaf714d13418"), looks := false }, kinds := [], alts := [], laidByText := true, laidKinds := [.data, .data], laidTests := true, laidLooks := .later }
def DriftWiderUptoCardSaid : Prop := Claim7.holds Tryd.pinned (.plain (OpenSpec.upto driftWiderSpec)) driftWiderUptoCard

/-- THE SECOND FORM's CARD OF 'coblelaw02.DriftNamed'. -/
def driftNamedUptoCard : Claim7 := { stood := { row := driftNamedUptoRow, standIns := [], harness := (true, "1be6bb728ebc70a061712fa58c9290380a2137f07bf55e13ab4bbaf714d13418"), looks := false }, kinds := [], alts := [], laidByText := true, laidKinds := [.data, .data], laidTests := true, laidLooks := .later }
def DriftNamedUptoCardSaid : Prop := Claim7.holds Tryd.pinned (.plain (OpenSpec.upto driftNamedSpec)) driftNamedUptoCard
end Rows
end Go.Proofs.YtnbeembnnjdmdaaDoor
