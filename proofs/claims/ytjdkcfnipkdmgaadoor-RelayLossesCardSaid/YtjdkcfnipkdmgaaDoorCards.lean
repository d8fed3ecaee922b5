/-
  DERIVED. GIVEN WITH THE SEED: THE CARDS: each row of YtjdkcfnipkdmgaaDoorRows.lean that lists a variable, with what it lists TIED to the program's text (the seventh form; the later family's looks); each row that meets fmt, with fmt's text TOLD by the authors' own Lean function (tested against real Go, not proved from fmt's source: count such statements apart). THE CARD IS WHAT COUNTS. Prove the row's statement (the work); the ties are given (YtjdkcfnipkdmgaaDoorTie.lean); close each card by the builder's one call (the guide's Derived/Test/ToyasCard.lean, 'card_holds'). Laid BY PROGRAM, IN A SANDBOX (cutbox-door.mjs). By AI agents, Wed Nov 11 2026. No macro, syntax, notation, axiom, sorry.
-/
import Derived.Test.YtjdkcfnipkdmgaaDoorRows
import GoSem.ClaimSeven
namespace Go.Proofs.YtjdkcfnipkdmgaaDoor
namespace Rows

/-- THE TIED CARD OF 'coblelaw10.RelayHears'. -/
def relayHearsCard : Claim7 := { stood := { row := relayHearsRow, standIns := [], harness := (true, "c8ce54fc8972dafc524e59f115e763b244259f9ec4cb18ebc20dd8127ddc8fae"), looks := false }, kinds := [], alts := [], laidByText := true, laidKinds := [.data, .pinned], laidTests := true, laidLooks := .later }
def RelayHearsCardSaid : Prop := Claim7.holds Tryd.pinned (.plain (OpenSpec.ofChange relayHearsSpec)) relayHearsCard

/-- THE TIED CARD OF 'coblelaw10.RelaySent'. -/
def relaySentCard : Claim7 := { stood := { row := relaySentRow, standIns := [], harness := (true, "c8ce54fc8972dafc524e59f115e763b244259f9ec4cb18ebc20dd8127ddc8fae"), looks := false }, kinds := [], alts := [], laidByText := true, laidKinds := [.data, .pinned], laidTests := true, laidLooks := .later }
def RelaySentCardSaid : Prop := Claim7.holds Tryd.pinned (.plain (OpenSpec.ofChange relaySentSpec)) relaySentCard

/-- THE TIED CARD OF 'coblelaw10.RelaySpreads'. -/
def relaySpreadsCard : Claim7 := { stood := { row := relaySpreadsRow, standIns := [], harness := (true, "c8ce54fc8972dafc524e59f115e763b244259f9ec4cb18ebc20dd8127ddc8fae"), looks := false }, kinds := [], alts := [], laidByText := true, laidKinds := [.data, .pinned], laidTests := true, laidLooks := .later }
def RelaySpreadsCardSaid : Prop := Claim7.holds Tryd.pinned (.plain (OpenSpec.ofChange relaySpreadsSpec)) relaySpreadsCard

/-- THE TIED CARD OF 'coblelaw10.RelaySure'. -/
def relaySureCard : Claim7 := { stood := { row := relaySureRow, standIns := [], harness := (true, "c8ce54fc8972dafc524e59f115e763b244259f9ec4cb18ebc20dd8127ddc8fae"), looks := false }, kinds := [], alts := [], laidByText := true, laidKinds := [.data, .pinned], laidTests := true, laidLooks := .later }
def RelaySureCardSaid : Prop := Claim7.holds Tryd.pinned (.plain (OpenSpec.ofChange relaySureSpec)) relaySureCard

/-- THE TIED CARD OF 'coblelaw10.RelayRuns'. -/
def relayRunsCard : Claim7 := { stood := { row := relayRunsRow, standIns := [], harness := (true, "c8ce54fc8972dafc524e59f115e763b244259f9ec4cb18ebc20dd8127ddc8fae"), looks := false }, kinds := [], alts := [], laidByText := true, laidKinds := [.data, .pinned], laidTests := true, laidLooks := .later }
def RelayRunsCardSaid : Prop := Claim7.holds Tryd.pinned (.plain (OpenSpec.ofChange relayRunsSpec)) relayRunsCard

/-- THE TIED CARD OF 'coblelaw10.RelayNever'. -/
def relayNeverCard : Claim7 := { stood := { row := relayNeverRow, standIns := [], harness := (true, "c8ce54fc8972dafc524e59f115e763b244259f9ec4cb18ebc20dd8127ddc8fae"), looks := false }, kinds := [], alts := [], laidByText := true, laidKinds := [.data, .pinned], laidTests := true, laidLooks := .later }
def RelayNeverCardSaid : Prop := Claim7.holds Tryd.pinned (.plain (OpenSpec.ofChange relayNeverSpec)) relayNeverCard

/-- THE TIED CARD OF 'coblelaw10.RelayLosses'. -/
def relayLossesCard : Claim7 := { stood := { row := relayLossesRow, standIns := [], harness := (true, "c8ce54fc8972dafc524e59f115e763b244259f9ec4cb18ebc20dd8127ddc8fae"), looks := false }, kinds := [], alts := [], laidByText := true, laidKinds := [.data, .pinned], laidTests := true, laidLooks := .later }
def RelayLossesCardSaid : Prop := Claim7.holds Tryd.pinned (.plain (OpenSpec.ofChange relayLossesSpec)) relayLossesCard

/-- THE TIED CARD OF 'coblelaw10.RelayTwice'. -/
def relayTwiceCard : Claim7 := { stood := { row := relayTwiceRow, standIns := [], harness := (true, "c8ce54fc8972dafc524e59f115e763b244259f9ec4cb18ebc20dd8127ddc8fae"), looks := false }, kinds := [], alts := [], laidByText := true, laidKinds := [.data, .pinned], laidTests := true, laidLooks := .later }
def RelayTwiceCardSaid : Prop := Claim7.holds Tryd.pinned (.plain (OpenSpec.ofChange relayTwiceSpec)) relayTwiceCard

/-- THE TIED CARD OF 'coblelaw10.RelayTurns'. -/
def relayTurnsCard : Claim7 := { stood := { row := relayTurnsRow, standIns := [], harness := (true, "c8ce54fc8972dafc524e59f115e763b244259f9ec4cb18ebc20dd8127ddc8fae"), looks := false }, kinds := [], alts := [], laidByText := true, laidKinds := [.data, .pinned], laidTests := true, laidLooks := .later }
def RelayTurnsCardSaid : Prop := Claim7.holds Tryd.pinned (.plain (OpenSpec.ofChange relayTurnsSpec)) relayTurnsCard

/-- THE TIED CARD OF 'coblelaw10.RelaySettles'. -/
def relaySettlesCard : Claim7 := { stood := { row := relaySettlesRow, standIns := [], harness := (true, "c8ce54fc8972dafc524e59f115e763b244259f9ec4cb18ebc20dd8127ddc8fae"), looks := false }, kinds := [], alts := [], laidByText := true, laidKinds := [.data, .pinned], laidTests := true, laidLooks := .later }
def RelaySettlesCardSaid : Prop := Claim7.holds Tryd.pinned (.plain (OpenSpec.ofChange relaySettlesSpec)) relaySettlesCard

/-- THE TIED CARD OF 'coblelaw10.RelayEnds'. -/
def relayEndsCard : Claim7 := { stood := { row := relayEndsRow, standIns := [], harness := (true, "c8ce54fc8972dafc524e59f115e763b244259f9ec4cb18ebc20dd8127ddc8fae"), looks := false }, kinds := [], alts := [], laidByText := true, laidKinds := [.data, .pinned], laidTests := true, laidLooks := .later }
def RelayEndsCardSaid : Prop := Claim7.holds Tryd.pinned (.plain (OpenSpec.ofChange relayEndsSpec)) relayEndsCard

/-- THE SECOND FORM's CARD OF 'coblelaw10.RelayHears'. -/
def relayHearsUptoCard : Claim7 := { stood := { row := relayHearsUptoRow, standIns := [], harness := (true, "c8ce54fc8972dafc524e59f115e763b244259f9ec4cb18ebc20dd8127ddc8fae"), looks := false }, kinds := [], alts := [], laidByText := true, laidKinds := [.data, .pinned], laidTests := true, laidLooks := .later }
def RelayHearsUptoCardSaid : Prop := Claim7.holds Tryd.pinned (.plain (OpenSpec.upto relayHearsSpec)) relayHearsUptoCard

/-- THE SECOND FORM's CARD OF 'coblelaw10.RelaySent'. -/
def relaySentUptoCard : Claim7 := { stood := { row := relaySentUptoRow, standIns := [], harness := (true, "c8ce54fc8972dafc524e59f115e763b244259f9ec4cb18ebc20dd8127ddc8fae"), looks := false }, kinds := [], alts := [], laidByText := true, laidKinds := [.data, .pinned], laidTests := true, laidLooks := .later }
def RelaySentUptoCardSaid : Prop := Claim7.holds Tryd.pinned (.plain (OpenSpec.upto relaySentSpec)) relaySentUptoCard

/-- THE SECOND FORM's CARD OF 'coblelaw10.RelaySpreads'. -/
def relaySpreadsUptoCard : Claim7 := { stood := { row := relaySpreadsUptoRow, standIns := [], harness := (true, "c8ce54fc8972dafc524e59f115e763b244259f9ec4cb18ebc20dd8127ddc8fae"), looks := false }, kinds := [], alts := [], laidByText := true, laidKinds := [.data, .pinned], laidTests := true, laidLooks := .later }
def RelaySpreadsUptoCardSaid : Prop := Claim7.holds Tryd.pinned (.plain (OpenSpec.upto relaySpreadsSpec)) relaySpreadsUptoCard

/-- THE SECOND FORM's CARD OF 'coblelaw10.RelaySure'. -/
def relaySureUptoCard : Claim7 := { stood := { row := relaySureUptoRow, standIns := [], harness := (true, "c8ce54fc8972dafc524e59f115e763b244259f9ec4cb18ebc20dd8127ddc8fae"), looks := false }, kinds := [], alts := [], laidByText := true, laidKinds := [.data, .pinned], laidTests := true, laidLooks := .later }
def RelaySureUptoCardSaid : Prop := Claim7.holds Tryd.pinned (.plain (OpenSpec.upto relaySureSpec)) relaySureUptoCard

/-- THE SECOND FORM's CARD OF 'coblelaw10.RelayRuns'. -/
def relayRunsUptoCard : Claim7 := { stood := { row := relayRunsUptoRow, standIns := [], harness := (true, "c8ce54fc8972dafc524e59f115e763b244259f9ec4cb18ebc20dd8127ddc8fae"), looks := false }, kinds := [], alts := [], laidByText := true, laidKinds := [.data, .pinned], laidTests := true, laidLooks := .later }
def RelayRunsUptoCardSaid : Prop := Claim7.holds Tryd.pinned (.plain (OpenSpec.upto relayRunsSpec)) relayRunsUptoCard

/-- THE SECOND FORM's CARD OF 'coblelaw10.RelayNever'. -/
def relayNeverUptoCard : Claim7 := { stood := { row := relayNeverUptoRow, standIns := [], harness := (true, "c8ce54fc8972dafc524e59f115e763b244259f9ec4cb18ebc20dd8127ddc8fae"), looks := false }, kinds := [], alts := [], laidByText := true, laidKinds := [.data, .pinned], laidTests := true, laidLooks := .later }
def RelayNeverUptoCardSaid : Prop := Claim7.holds Tryd.pinned (.plain (OpenSpec.upto relayNeverSpec)) relayNeverUptoCard

/-- THE SECOND FORM's CARD OF 'coblelaw10.RelayLosses'. -/
def relayLossesUptoCard : Claim7 := { stood := { row := relayLossesUptoRow, standIns := [], harness := (true, "c8ce54fc8972dafc524e59f115e763b244259f9ec4cb18ebc20dd8127ddc8fae"), looks := false }, kinds := [], alts := [], laidByText := true, laidKinds := [.data, .pinned], laidTests := true, laidLooks := .later }
def RelayLossesUptoCardSaid : Prop := Claim7.holds Tryd.pinned (.plain (OpenSpec.upto relayLossesSpec)) relayLossesUptoCard

/-- THE SECOND FORM's CARD OF 'coblelaw10.RelayTwice'. -/
def relayTwiceUptoCard : Claim7 := { stood := { row := relayTwiceUptoRow, standIns := [], harness := (true, "c8ce54fc8972dafc524e59f115e763b244259f9ec4cb18ebc20dd8127ddc8fae"), looks := false }, kinds := [], alts := [], laidByText := true, laidKinds := [.data, .pinned], laidTests := true, laidLooks := .later }
def RelayTwiceUptoCardSaid : Prop := Claim7.holds Tryd.pinned (.plain (OpenSpec.upto relayTwiceSpec)) relayTwiceUptoCard

/-- THE SECOND FORM's CARD OF 'coblelaw10.RelayTurns'. -/
def relayTurnsUptoCard : Claim7 := { stood := { row := relayTurnsUptoRow, standIns := [], harness := (true, "c8ce54fc8972dafc524e59f115e763b244259f9ec4cb18ebc20dd8127ddc8fae"), looks := false }, kinds := [], alts := [], laidByText := true, laidKinds := [.data, .pinned], laidTests := true, laidLooks := .later }
def RelayTurnsUptoCardSaid : Prop := Claim7.holds Tryd.pinned (.plain (OpenSpec.upto relayTurnsSpec)) relayTurnsUptoCard

/-- THE SECOND FORM's CARD OF 'coblelaw10.RelaySettles'. -/
def relaySettlesUptoCard : Claim7 := { stood := { row := relaySettlesUptoRow, standIns := [], harness := (true, "c8ce54fc8972dafc524e59f115e763b244259f9ec4cb18ebc20dd8127ddc8fae"), looks := false }, kinds := [], alts := [], laidByText := true, laidKinds := [.data, .pinned], laidTests := true, laidLooks := .later }
def RelaySettlesUptoCardSaid : Prop := Claim7.holds Tryd.pinned (.plain (OpenSpec.upto relaySettlesSpec)) relaySettlesUptoCard

/-- THE SECOND FORM's CARD OF 'coblelaw10.RelayEnds'. -/
def relayEndsUptoCard : Claim7 := { stood := { row := relayEndsUptoRow, standIns := [], harness := (true, "c8ce54fc8972dafc524e59f115e763b244259f9ec4cb18ebc20dd8127ddc8fae"), looks := false }, kinds := [], alts := [], laidByText := true, laidKinds := [.data, .pinned], laidTests := true, laidLooks := .later }
def RelayEndsUptoCardSaid : Prop := Claim7.holds Tryd.pinned (.plain (OpenSpec.upto relayEndsSpec)) relayEndsUptoCard
end Rows
end Go.Proofs.YtjdkcfnipkdmgaaDoor
