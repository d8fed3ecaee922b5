/-
  DERIVED. GIVEN WITH THE SEED: THE CARDS: each row of YtbjggnecfppjgaaDoorRows.lean that lists a variable, with what it lists TIED to the program's text (the seventh form; the later family's looks); each row that meets fmt, with fmt's text TOLD by the authors' own Lean function (tested against real Go, not proved from fmt's source: count such statements apart). THE CARD IS WHAT COUNTS. Prove the row's statement (the work); the ties are given (YtbjggnecfppjgaaDoorTie.lean); close each card by the builder's one call (the guide's Derived/Test/ToyasCard.lean, 'card_holds'). Laid BY PROGRAM, IN A SANDBOX (cutbox-door.mjs). By AI agents, Wed Nov 11 2026. No macro, syntax, notation, axiom, sorry.
-/
import Derived.Test.YtbjggnecfppjgaaDoorRows
import GoSem.ClaimSeven
namespace Go.Proofs.YtbjggnecfppjgaaDoor
namespace Rows

/-- THE TIED CARD OF 'coblelaw10.RelaySent'. -/
def relaySentCard : Claim7 := { stood := { row := relaySentRow, standIns := [], harness := (true, "bf487f904f179d0dececd76e1ff238a9f435e1e2a74f9d7babafa54efafe1ca6"), looks := false }, kinds := [], alts := [], laidByText := true, laidKinds := [.data, .pinned], laidTests := true, laidLooks := .later }
def RelaySentCardSaid : Prop := Claim7.holds Tryd.pinned (.plain (OpenSpec.ofChange relaySentSpec)) relaySentCard

/-- THE TIED CARD OF 'coblelaw10.RelayRuns'. -/
def relayRunsCard : Claim7 := { stood := { row := relayRunsRow, standIns := [], harness := (true, "bf487f904f179d0dececd76e1ff238a9f435e1e2a74f9d7babafa54efafe1ca6"), looks := false }, kinds := [], alts := [], laidByText := true, laidKinds := [.data, .pinned], laidTests := true, laidLooks := .later }
def RelayRunsCardSaid : Prop := Claim7.holds Tryd.pinned (.plain (OpenSpec.ofChange relayRunsSpec)) relayRunsCard

/-- THE TIED CARD OF 'coblelaw10.RelayLosses'. -/
def relayLossesCard : Claim7 := { stood := { row := relayLossesRow, standIns := [], harness := (true, "bf487f904f179d0dececd76e1ff238a9f435e1e2a74f9d7babafa54efafe1ca6"), looks := false }, kinds := [], alts := [], laidByText := true, laidKinds := [.data, .pinned], laidTests := true, laidLooks := .later }
def RelayLossesCardSaid : Prop := Claim7.holds Tryd.pinned (.plain (OpenSpec.ofChange relayLossesSpec)) relayLossesCard

/-- THE TIED CARD OF 'coblelaw10.RelayTwice'. -/
def relayTwiceCard : Claim7 := { stood := { row := relayTwiceRow, standIns := [], harness := (true, "bf487f904f179d0dececd76e1ff238a9f435e1e2a74f9d7babafa54efafe1ca6"), looks := false }, kinds := [], alts := [], laidByText := true, laidKinds := [.data, .pinned], laidTests := true, laidLooks := .later }
def RelayTwiceCardSaid : Prop := Claim7.holds Tryd.pinned (.plain (OpenSpec.ofChange relayTwiceSpec)) relayTwiceCard

/-- THE TIED CARD OF 'coblelaw10.RelaySettles'. -/
def relaySettlesCard : Claim7 := { stood := { row := relaySettlesRow, standIns := [], harness := (true, "bf487f904f179d0dececd76e1ff238a9f435e1e2a74f9d7babafa54efafe1ca6"), looks := false }, kinds := [], alts := [], laidByText := true, laidKinds := [.data, .pinned], laidTests := true, laidLooks := .later }
def RelaySettlesCardSaid : Prop := Claim7.holds Tryd.pinned (.plain (OpenSpec.ofChange relaySettlesSpec)) relaySettlesCard

/-- THE SECOND FORM's CARD OF 'coblelaw10.RelaySent'. -/
def relaySentUptoCard : Claim7 := { stood := { row := relaySentUptoRow, standIns := [], harness := (true, "bf487f904f179d0dececd76e1ff238a9f435e1e2a74f9d7babafa54efafe1ca6"), looks := false }, kinds := [], alts := [], laidByText := true, laidKinds := [.data, .pinned], laidTests := true, laidLooks := .later }
def RelaySentUptoCardSaid : Prop := Claim7.holds Tryd.pinned (.plain (OpenSpec.upto relaySentSpec)) relaySentUptoCard

/-- THE SECOND FORM's CARD OF 'coblelaw10.RelayRuns'. -/
def relayRunsUptoCard : Claim7 := { stood := { row := relayRunsUptoRow, standIns := [], harness := (true, "bf487f904f179d0dececd76e1ff238a9f435e1e2a74f9d7babafa54efafe1ca6"), looks := false }, kinds := [], alts := [], laidByText := true, laidKinds := [.data, .pinned], laidTests := true, laidLooks := .later }
def RelayRunsUptoCardSaid : Prop := Claim7.holds Tryd.pinned (.plain (OpenSpec.upto relayRunsSpec)) relayRunsUptoCard

/-- THE SECOND FORM's CARD OF 'coblelaw10.RelayLosses'. -/
def relayLossesUptoCard : Claim7 := { stood := { row := relayLossesUptoRow, standIns := [], harness := (true, "bf487f904f179d0dececd76e1ff238a9f435e1e2a74f9d7babafa54efafe1ca6"), looks := false }, kinds := [], alts := [], laidByText := true, laidKinds := [.data, .pinned], laidTests := true, laidLooks := .later }
def RelayLossesUptoCardSaid : Prop := Claim7.holds Tryd.pinned (.plain (OpenSpec.upto relayLossesSpec)) relayLossesUptoCard

/-- THE SECOND FORM's CARD OF 'coblelaw10.RelayTwice'. -/
def relayTwiceUptoCard : Claim7 := { stood := { row := relayTwiceUptoRow, standIns := [], harness := (true, "bf487f904f179d0dececd76e1ff238a9f435e1e2a74f9d7babafa54efafe1ca6"), looks := false }, kinds := [], alts := [], laidByText := true, laidKinds := [.data, .pinned], laidTests := true, laidLooks := .later }
def RelayTwiceUptoCardSaid : Prop := Claim7.holds Tryd.pinned (.plain (OpenSpec.upto relayTwiceSpec)) relayTwiceUptoCard

/-- THE SECOND FORM's CARD OF 'coblelaw10.RelaySettles'. -/
def relaySettlesUptoCard : Claim7 := { stood := { row := relaySettlesUptoRow, standIns := [], harness := (true, "bf487f904f179d0dececd76e1ff238a9f435e1e2a74f9d7babafa54efafe1ca6"), looks := false }, kinds := [], alts := [], laidByText := true, laidKinds := [.data, .pinned], laidTests := true, laidLooks := .later }
def RelaySettlesUptoCardSaid : Prop := Claim7.holds Tryd.pinned (.plain (OpenSpec.upto relaySettlesSpec)) relaySettlesUptoCard
end Rows
end Go.Proofs.YtbjggnecfppjgaaDoor
