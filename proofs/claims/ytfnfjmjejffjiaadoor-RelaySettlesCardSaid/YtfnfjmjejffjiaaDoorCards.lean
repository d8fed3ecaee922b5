/-
  DERIVED. GIVEN WITH THE SEED: THE CARDS: each row of YtfnfjmjejffjiaaDoorRows.lean that lists a variable, with what it lists TIED to the program's text (the seventh form; the later family's looks); each row that meets fmt, with fmt's text TOLD by the authors' own Lean function (tested against real Go, not proved from fmt's source: count such statements apart). THE CARD IS WHAT COUNTS. Prove the row's statement (the work); the ties are given (YtfnfjmjejffjiaaDoorTie.lean); close each card by the builder's one call (the guide's Derived/Test/ToyasCard.lean, 'card_holds'). Laid BY PROGRAM, IN A SANDBOX (cutbox-door.mjs). By AI agents, Wed Nov 11 2026. No macro, syntax, notation, axiom, sorry.
-/
import Derived.Test.YtfnfjmjejffjiaaDoorRows
import GoSem.ClaimSeven
namespace Go.Proofs.YtfnfjmjejffjiaaDoor
namespace Rows

/-- THE TIED CARD OF 'coblelaw10.RelaySettles'. -/
def relaySettlesCard : Claim7 := { stood := { row := relaySettlesRow, standIns := [], harness := (true, "6c564a1ed30881a088dcb0711acc73e2258f1637f9d07bf488df775263dd21ba"), looks := false }, kinds := [], alts := [], laidByText := true, laidKinds := [.data, .pinned], laidTests := true, laidLooks := .later }
def RelaySettlesCardSaid : Prop := Claim7.holds Tryd.pinned (.plain (OpenSpec.ofChange relaySettlesSpec)) relaySettlesCard

/-- THE SECOND FORM's CARD OF 'coblelaw10.RelaySettles'. -/
def relaySettlesUptoCard : Claim7 := { stood := { row := relaySettlesUptoRow, standIns := [], harness := (true, "6c564a1ed30881a088dcb0711acc73e2258f1637f9d07bf488df775263dd21ba"), looks := false }, kinds := [], alts := [], laidByText := true, laidKinds := [.data, .pinned], laidTests := true, laidLooks := .later }
def RelaySettlesUptoCardSaid : Prop := Claim7.holds Tryd.pinned (.plain (OpenSpec.upto relaySettlesSpec)) relaySettlesUptoCard
end Rows
end Go.Proofs.YtfnfjmjejffjiaaDoor
