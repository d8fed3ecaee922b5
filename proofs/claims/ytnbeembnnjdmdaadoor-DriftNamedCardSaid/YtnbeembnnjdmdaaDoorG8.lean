/- The reference's copy of sightings. -/
import Derived.Test.YtnbeembnnjdmdaaDoorG4
import Derived.Test.YtnbeembnnjdmdaaDoorD27
import Derived.Test.YtnbeembnnjdmdaaDoorE9
namespace Go.Proofs.YtnbeembnnjdmdaaDoor
open Go.RowKit

/-- a sighting, its cells given -/
def sgRow (x : SgV) (u : Value) : Nat → Value := fun j => if j = 0 then .int .i64 x.tk else if j = 1 then u else .bool x.seen
def sgVV (X : Nat → SgV) (V : Nat → Value) : Nat → Nat → Value := fun i => sgRow (X i) (V i)
theorem sgRow_one (x : SgV) (A : Option Addr) (n c j : Nat) : (sgRow x (.slice A n c) j).oneCell' = true := by
  unfold sgRow
  split
  · rfl
  · split <;> rfl
theorem sgVV_upd (X : Nat → SgV) (V : Nat → Value) (n : Nat) (x : SgV) (u : Value) : upd (sgVV X V) n (sgRow x u) = sgVV (fun i => if i = n then x else X i) (fun i => if i = n then u else V i) := by
  funext i
  unfold upd sgVV
  by_cases e : i = n
  · simp only [e, if_true]
  · simp only [if_neg e]
/-- the same sighting, its cells elsewhere -/
def SgV.at_ (x : SgV) (u : Value) : SgV := match u with
  | .slice A _ c => ⟨x.tk, A, c, x.L, x.seen⟩
  | _ => x
theorem SgV.at_sg (x : SgV) (u : Value) : (x.at_ u).sg = x.sg := by unfold SgV.at_; split <;> rfl
theorem SgV.at_tk (x : SgV) (u : Value) : (x.at_ u).tk = x.tk := by unfold SgV.at_; split <;> rfl
theorem SgV.at_L (x : SgV) (u : Value) : (x.at_ u).L = x.L := by unfold SgV.at_; split <;> rfl
theorem SgV.at_seen (x : SgV) (u : Value) : (x.at_ u).seen = x.seen := by unfold SgV.at_; split <;> rfl
/-- sightings that a call has made, each with cells that it has made -/
def CS (W : World) (base : Nat) (v : Value) (n : Nat) (X : Nat → SgV) : Prop := ∃ V, Own W base 75 3 v n (sgVV X V) ∧ ∀ i, i < n → IL W base (V i) (X i).L
section
variable {W W' : World} {base n : Nat} {v : Value} {X : Nat → SgV}
theorem CS.below (h : CS W base v n X) (hb : Below W.heap.size W W') : CS W' base v n X := by
  obtain ⟨V, h1, h2⟩ := h
  exact ⟨V, h1.below hb, fun i hi => Own.below (h2 i hi) hb⟩
theorem CS.nil_ : CS W base (.slice none 0 0) 0 X := ⟨fun _ => .slice none 0 0, Own.nil_, fun i hi => absurd hi (by omega)⟩
theorem CS.form (h : CS W base v n X) : ∃ A c, v = .slice A n c := by
  obtain ⟨V, h1, _⟩ := h
  exact h1.form
theorem CS.less {base' : Nat} (h : CS W base v n X) (hb : base' ≤ base) : CS W base' v n X := by
  obtain ⟨V, h1, h2⟩ := h
  exact ⟨V, h1.less hb, fun i hi => Own.less (h2 i hi) hb⟩
theorem CS.congr {X' : Nat → SgV} (h : CS W base v n X) (hX : ∀ i, i < n → X i = X' i) : CS W base v n X' := by
  obtain ⟨V, h1, h2⟩ := h
  refine ⟨V, h1.congr fun i j hi _ => ?_, fun i hi => ?_⟩
  · unfold sgVV; rw [hX i hi]
  · rw [← hX i hi]; exact h2 i hi
theorem CS.rd {A : Option Addr} {c : Nat} (h : CS W base (.slice A n c) n X) (hl : ∀ i, i < n → (X i).L.length ≤ maxLen) : ∃ V : Nat → Value, RdS W W.heap.size A n fun i => (X i).at_ (V i) := by
  obtain ⟨V, h1, h2⟩ := h
  refine ⟨V, ?_⟩
  rcases Nat.eq_zero_or_pos n with h0 | h0
  · exact .inl h0
  · obtain ⟨g, c', e⟩ := Own.nz h1 h0
    cases e
    refine .inr ⟨g, 0, rfl, (Own.block h1 rfl).2, fun i hi => ?_⟩
    have c0 := Own.cell h1 hi (show 0 < 3 by omega)
    have c1 := Own.cell h1 hi (show 1 < 3 by omega)
    have c2 := Own.cell h1 hi (show 2 < 3 by omega)
    have hi2 := h2 i hi
    obtain ⟨A', c', e⟩ := Own.form hi2
    dsimp only
    rw [SgV.at_tk, SgV.at_L, SgV.at_seen]
    have e' : (X i).at_ (V i) = ⟨(X i).tk, A', c', (X i).L, (X i).seen⟩ := by rw [e]; rfl
    rw [e']
    have hrd := Own.rd1' (show Own W base 3 1 (.slice A' (X i).L.length c') (X i).L.length (ints fun j => (X i).L.getD j 0) from by rw [← e]; exact hi2)
    refine ⟨⟨?_, ?_, ?_⟩, hrd, hl i hi⟩
    · rw [Nat.zero_add]; exact c0
    · rw [Nat.zero_add, ← e]; exact c1
    · rw [Nat.zero_add]; exact c2
/-- behind the append of one more -/
theorem CS.app {v' u : Value} {x : SgV} {V : Nat → Value} (h1 : Own W base 75 3 v n (sgVV X V)) (h2 : ∀ i, i < n → IL W base (V i) (X i).L) (hu : IL W base u x.L) (hg : W.grownBy W' v.ownBlock)
    (ho : Own W' base 75 3 v' (n + 1) (upd (sgVV X V) n (sgRow x u))) : CS W' base v' (n + 1) (fun i => if i = n then x else X i) := by
  refine ⟨fun i => if i = n then u else V i, by rw [← sgVV_upd]; exact ho, fun i hi => ?_⟩
  by_cases e : i = n
  · subst e
    simp only [if_true]
    exact Own.apart_grown hu (h1.apart_type hu (by decide)) hg
  · simp only [if_neg e]
    have h3 := h2 i (by omega)
    exact Own.apart_grown h3 (h1.apart_type h3 (by decide)) hg
end
theorem sg_tmp (W : World) (x : SgV) (u : Value) : ∀ j, j < 3 → (W.alloc (.cells #[.int .i64 x.tk, u, .bool x.seen] 75)).cell? ⟨W.heap.size, j, none⟩ = some (sgRow x u j) := by
  intro j hj
  refine ((Blk.new W 75 #[.int .i64 x.tk, u, .bool x.seen]).cell j).trans ?_
  obtain rfl | rfl | rfl : j = 0 ∨ j = 1 ∨ j = 2 := by omega
  all_goals rfl
theorem rd_v {w : World} {B : Nat} {A : Option Addr} {L : List Int} (h : Rd1 w B A L.length (fun k => L.getD k 0)) : RdV w B A 1 L.length (ints fun k => L.getD k 0) := by
  rcases h with h | ⟨b, off, e, hb, hc⟩
  · exact .inl h
  · refine .inr ⟨b, off, e, hb, fun i j hi hj => ?_⟩
    obtain rfl : j = 0 := by omega
    rw [Nat.mul_one, Nat.add_zero]
    exact hc i hi
end Go.Proofs.YtnbeembnnjdmdaaDoor
