/- drift.Places of a valid drift, drifter and sightings. -/
import Derived.Test.YtnbeembnnjdmdaaGreatDoorG5
import Derived.Test.YtnbeembnnjdmdaaGreatDoorD31
import Derived.Test.YtnbeembnnjdmdaaGreatDoorMixIn
namespace Go.Proofs.YtnbeembnnjdmdaaGreatDoor
open Go.RowKit Go.Maps Go.Shelf

structure RwO (P m1 m2 : Nat) (base ow m : Nat) (U : Nat → Value) (R : Nat → List Int) (A : World) : Prop where
 o : Own A base 22 1 (.slice (some ⟨ow, 0, none⟩) m m) m (fun i _ => U i)
 r : ∀ k, k < m → IL A base (U k) (R k)
 t : ¬ TS P m1 m2 A ow
 rt : ∀ k, k < m → ∀ g, (U k).ownBlock = some g → ¬ TS P m1 m2 A g
 rd : ∀ k j, k < m → j < m → k ≠ j → ∀ g, (U k).ownBlock = some g → (U j).ownBlock ≠ some g
section
variable {P m1 m2 base ow m : Nat} {U : Nat → Value} {R R' : Nat → List Int} {A A' : World}
theorem RwO.grown {row : Option Nat} (h : RwO P m1 m2 base ow m U R A) (hg : A.grownBy A' row) (ht : ∀ k, TS P m1 m2 A' k → TS P m1 m2 A k) (hr : ∀ r, row = some r → r ≠ ow ∧ ∀ k, k < m → (U k).ownBlock ≠ some r) : RwO P m1 m2 base ow m U R A' := by
 refine ⟨Own.grown h.o hg (.inr fun e => (hr ow e.symm).1 rfl), fun k hk => Own.grown (h.r k hk) hg ?_, fun e => h.t (ht _ e), fun k hk g e h3 => h.rt k hk g e (ht _ h3), h.rd⟩
 cases hv : (U k).ownBlock with
 | none => exact .inl rfl
 | some g => exact .inr fun e => (hr g e.symm).2 k hk hv
theorem RwO.notes {row : Option Nat} {Zs : Nat} (h : RwO P m1 m2 base ow m U R A) (hg : A.grownBy A' row) (ht : ∀ k, TS P m1 m2 A' k → TS P m1 m2 A k) (hr : ∀ r, row = some r → Zs ≤ r ∧ ∃ o, A.heap[r]? = some o ∧ o.isCells = false) : RwO P m1 m2 base ow m U R A' :=
 ⟨Own.grown h.o hg (own_notes h.o hr), fun k hk => Own.grown (h.r k hk) hg (own_notes (h.r k hk) hr), fun e => h.t (ht _ e), fun k hk g e h3 => h.rt k hk g e (ht _ h3), h.rd⟩
theorem RwO.mv (h : RwO P m1 m2 base ow m U R A) (hv : Mv m1 m2 A A') (h1 : IsMap' A m1) (h2 : IsMap' A m2) (ht : ∀ k, TS P m1 m2 A' k → TS P m1 m2 A k ∨ A.heap.size ≤ k) : RwO P m1 m2 base ow m U R A' := by
 refine ⟨Own.mv h.o hv h1 h2, fun k hk => Own.mv (h.r k hk) hv h1 h2, fun e => ?_, fun k hk g e h3 => ?_, h.rd⟩
 ·
  rcases ht _ e with h4 | h4
  · exact h.t h4
  · have := (Own.block (g := ow) h.o rfl).2; omega
 ·
  rcases ht _ h3 with h4 | h4
  · exact h.rt k hk g e h4
  · have := (Own.block (h.r k hk) e).2; omega
end
section
variable {d : M.Dr} {zA cA wA dA tA sA : Option Addr} {cl : Nat → Nat} {B P m1 m2 dc tc sc zc cc wc : Nat} {cb fb B' ta xc hn hc m : Nat} {xL : List Int} {lo hi fc ft fl : Int} {xA hA : Option Addr} {Xs : Nat → SgV} {w A A' : World} {ob base ow : Nat} {U : Nat → Value} {R R' : Nat → List Int}
end
section
variable {d : M.Dr} {at_ lo hi : Int} {xL : List Int} {hn : Nat} {Xs : Nat → SgV}
end
section
variable {d : M.Dr} {zA cA wA dA tA sA : Option Addr} {cl : Nat → Nat} {B P m1 m2 dc tc sc zc cc wc : Nat} {cb fb B' ta xc hn hc m : Nat} {xL : List Int} {lo hi fc ft fl : Int} {xA hA : Option Addr} {Xs : Nat → SgV} {w A A' : World} {ob base : Nat} {pC : List Int → Nat → List Int}
end
section
variable {d : M.Dr} {zA cA wA dA tA sA xA hA : Option Addr} {cl : Nat → Nat} {B dc tc sc zc cc wc xc hn hc : Nat} {at_ lo hi : Int} {xL : List Int} {Xs : Nat → SgV} {w : World}
attribute [local go_sem] Oper.semAt_some
end
end Go.Proofs.YtnbeembnnjdmdaaGreatDoor
