/- Slices of strings below a block; strings in the walk. -/
import Derived.Test.YtfnfjmjejffjiaaDoorOwn
import Derived.Test.YtfnfjmjejffjiaaDoorWMath
namespace Go.Proofs.YtfnfjmjejffjiaaDoor
open Go.RowKit

/-- n strings below block B. -/
def RdS (w : World) (B : Nat) (A : Option Addr) (n : Nat) (f : Nat → ByteArray) : Prop :=
  n = 0 ∨ ∃ b off, A = some ⟨b, off, none⟩ ∧ b < B ∧ ∀ i, i < n → w.cell? ⟨b, off + i, none⟩ = some (.string (f i))
section
variable {w w' : World} {B B' n : Nat} {A : Option Addr} {f : Nat → ByteArray}
theorem RdS.keep (h : RdS w B A n f) (hk : ∀ p : Addr, p.block < B → w'.cell? p = w.cell? p) : RdS w' B A n f := by
  rcases h with h | ⟨b, off, hA, hb, hc⟩
  · exact .inl h
  · exact .inr ⟨b, off, hA, hb, fun i hi => (hk _ hb).trans (hc i hi)⟩
theorem RdS.below (h : RdS w B A n f) (hb : Below B w w') : RdS w' B A n f := h.keep fun _ hp => hb.cell hp
theorem RdS.more (h : RdS w B A n f) (hB : B ≤ B') : RdS w B' A n f := by
  rcases h with h | ⟨b, off, hA, hb, hc⟩
  · exact .inl h
  · exact .inr ⟨b, off, hA, by omega, hc⟩
theorem RdS.at_ (h : RdS w B A n f) {k : Nat} (hk : k < n) : ∃ b off, A = some ⟨b, off, none⟩ ∧ b < B ∧ w.cell? ⟨b, off + k, none⟩ = some (.string (f k)) := by
  rcases h with h | ⟨b, off, hA, hb, hc⟩
  · omega
  · exact ⟨b, off, hA, hb, hc k hk⟩
theorem RdS.at0 (h : RdS w B A n f) {k : Nat} (hk : k < n) : ∃ b off, A = some ⟨b, off, none⟩ ∧ b < B ∧ w.cell? ⟨b, off + k, none⟩ = some (.string (f k)) ∧ w.cell? ⟨b, off, none⟩ = some (.string (f 0)) := by
  rcases h with h | ⟨b, off, hA, hb, hc⟩
  · omega
  · exact ⟨b, off, hA, hb, hc k hk, hc 0 (by omega)⟩
end
/-- the address of the first element of a slice that is not empty -/
theorem str_eq {a b : ByteArray} : (a.toList == b.toList) = decide (a = b) := by
  by_cases h : a = b
  · subst h; simp
  · rw [decide_eq_false h]
    rw [beq_eq_false_iff_ne]
    intro h1
    rw [ByteArray.toList_eq, ByteArray.toList_eq] at h1
    have h2 : a.data = b.data := Array.toList_inj.1 h1
    apply h
    cases a; cases b
    simp only at h2
    rw [h2]
end Go.Proofs.YtfnfjmjejffjiaaDoor
