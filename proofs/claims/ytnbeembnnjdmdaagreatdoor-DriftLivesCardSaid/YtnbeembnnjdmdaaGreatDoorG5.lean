/- drift: Leeways of a valid drift, drifter and sightings. -/
import Derived.Test.YtnbeembnnjdmdaaGreatDoorD31
namespace Go.Proofs.YtnbeembnnjdmdaaGreatDoor
open Go.RowKit Go.Maps Go.Shelf

section
variable {d : M.Dr} {zA cA wA dA tA sA : Option Addr} {cl : Nat → Nat} {B P m1 m2 dc tc sc zc cc wc : Nat} {cb fb ob B' ta xc hn hc n : Nat} {xL : List Int} {lo hi fc ft fl : Int} {xA hA : Option Addr} {Xs : Nat → SgV} {W W' : World}
theorem own_notes {B1 t1 k1 n1 Zs : Nat} {v : Value} {F : Nat → Nat → Value} {X : World} {row : Option Nat} (h : Own X B1 t1 k1 v n1 F) (hr : ∀ r, row = some r → Zs ≤ r ∧ ∃ o, X.heap[r]? = some o ∧ o.isCells = false) : v.ownBlock = none ∨ v.ownBlock ≠ row := by
 cases row with
 | none =>
  cases hv : v.ownBlock with
  | none => exact .inl rfl
  | some g => exact .inr (by simp)
 | some r =>
  obtain ⟨o, ho, hc⟩ := (hr r rfl).2
  exact .inr (Own.cells_ne h ho hc)
end
section
variable {d : M.Dr} {zA cA wA dA tA sA xA hA : Option Addr} {cl : Nat → Nat} {B dc tc sc zc cc wc xc hn hc : Nat} {at_ lo hi : Int} {xL : List Int} {Xs : Nat → SgV} {w : World}
attribute [local go_sem] Oper.semAt_some
end
end Go.Proofs.YtnbeembnnjdmdaaGreatDoor
