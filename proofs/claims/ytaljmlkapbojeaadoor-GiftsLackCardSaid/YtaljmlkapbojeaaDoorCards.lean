/-
  DERIVED. GIVEN WITH THE SEED: THE CARDS: each row of YtaljmlkapbojeaaDoorRows.lean that lists a variable, with what it lists TIED to the program's text (the seventh form; the later family's looks); each row that meets fmt, with fmt's text TOLD by the authors' own Lean function (tested against real Go, not proved from fmt's source: count such statements apart). THE CARD IS WHAT COUNTS. Prove the row's statement (the work); the ties are given (YtaljmlkapbojeaaDoorTie.lean); close each card by the builder's one call (the guide's Derived/Test/ToyasCard.lean, 'card_holds'). Laid BY PROGRAM, IN A SANDBOX (cutbox-door.mjs). By AI agents, Wed Nov 11 2026. No macro, syntax, notation, axiom, sorry.
-/
import Derived.Test.YtaljmlkapbojeaaDoorRows
import GoSem.ClaimSeven
namespace Go.Proofs.YtaljmlkapbojeaaDoor
namespace Rows

/-- THE TIED CARD OF 'coblelaw11.GiftsPays'. -/
def giftsPaysCard : Claim7 := { stood := { row := giftsPaysRow, standIns := [], harness := (true, "488c3477e6434d41734953dd8dcb20f9315bd50fdc6b1f7c7737e52a6b86f047"), looks := false }, kinds := [], alts := [], laidByText := true, laidKinds := [.data, .data], laidTests := true, laidLooks := .later }
def GiftsPaysCardSaid : Prop := Claim7.holds Tryd.pinned (.plain (OpenSpec.ofChange giftsPaysSpec)) giftsPaysCard

/-- THE TIED CARD OF 'coblelaw11.GiftsLack'. -/
def giftsLackCard : Claim7 := { stood := { row := giftsLackRow, standIns := [], harness := (true, "488c3477e6434d41734953dd8dcb20f9315bd50fdc6b1f7c7737e52a6b86f047"), looks := false }, kinds := [], alts := [], laidByText := true, laidKinds := [.data, .data], laidTests := true, laidLooks := .later }
def GiftsLackCardSaid : Prop := Claim7.holds Tryd.pinned (.plain (OpenSpec.ofChange giftsLackSpec)) giftsLackCard

/-- THE TIED CARD OF 'coblelaw11.GiftsShops'. -/
def giftsShopsCard : Claim7 := { stood := { row := giftsShopsRow, standIns := [], harness := (true, "488c3477e6434d41734953dd8dcb20f9315bd50fdc6b1f7c7737e52a6b86f047"), looks := false }, kinds := [], alts := [], laidByText := true, laidKinds := [.data, .data], laidTests := true, laidLooks := .later }
def GiftsShopsCardSaid : Prop := Claim7.holds Tryd.pinned (.plain (OpenSpec.ofChange giftsShopsSpec)) giftsShopsCard

/-- THE TIED CARD OF 'coblelaw11.GiftsHelpers'. -/
def giftsHelpersCard : Claim7 := { stood := { row := giftsHelpersRow, standIns := [], harness := (true, "488c3477e6434d41734953dd8dcb20f9315bd50fdc6b1f7c7737e52a6b86f047"), looks := false }, kinds := [], alts := [], laidByText := true, laidKinds := [.data, .data], laidTests := true, laidLooks := .later }
def GiftsHelpersCardSaid : Prop := Claim7.holds Tryd.pinned (.plain (OpenSpec.ofChange giftsHelpersSpec)) giftsHelpersCard

/-- THE SECOND FORM's CARD OF 'coblelaw11.GiftsPays'. -/
def giftsPaysUptoCard : Claim7 := { stood := { row := giftsPaysUptoRow, standIns := [], harness := (true, "488c3477e6434d41734953dd8dcb20f9315bd50fdc6b1f7c7737e52a6b86f047"), looks := false }, kinds := [], alts := [], laidByText := true, laidKinds := [.data, .data], laidTests := true, laidLooks := .later }
def GiftsPaysUptoCardSaid : Prop := Claim7.holds Tryd.pinned (.plain (OpenSpec.upto giftsPaysSpec)) giftsPaysUptoCard

/-- THE SECOND FORM's CARD OF 'coblelaw11.GiftsLack'. -/
def giftsLackUptoCard : Claim7 := { stood := { row := giftsLackUptoRow, standIns := [], harness := (true, "488c3477e6434d41734953dd8dcb20f9315bd50fdc6b1f7c7737e52a6b86f047"), looks := false }, kinds := [], alts := [], laidByText := true, laidKinds := [.data, .data], laidTests := true, laidLooks := .later }
def GiftsLackUptoCardSaid : Prop := Claim7.holds Tryd.pinned (.plain (OpenSpec.upto giftsLackSpec)) giftsLackUptoCard

/-- THE SECOND FORM's CARD OF 'coblelaw11.GiftsShops'. -/
def giftsShopsUptoCard : Claim7 := { stood := { row := giftsShopsUptoRow, standIns := [], harness := (true, "488c3477e6434d41734953dd8dcb20f9315bd50fdc6b1f7c7737e52a6b86f047"), looks := false }, kinds := [], alts := [], laidByText := true, laidKinds := [.data, .data], laidTests := true, laidLooks := .later }
def GiftsShopsUptoCardSaid : Prop := Claim7.holds Tryd.pinned (.plain (OpenSpec.upto giftsShopsSpec)) giftsShopsUptoCard

/-- THE SECOND FORM's CARD OF 'coblelaw11.GiftsHelpers'. -/
def giftsHelpersUptoCard : Claim7 := { stood := { row := giftsHelpersUptoRow, standIns := [], harness := (true, "488c3477e6434d41734953dd8dcb20f9315bd50fdc6b1f7c7737e52a6b86f047"), looks := false }, kinds := [], alts := [], laidByText := true, laidKinds := [.data, .data], laidTests := true, laidLooks := .later }
def GiftsHelpersUptoCardSaid : Prop := Claim7.holds Tryd.pinned (.plain (OpenSpec.upto giftsHelpersSpec)) giftsHelpersUptoCard
end Rows
end Go.Proofs.YtaljmlkapbojeaaDoor
