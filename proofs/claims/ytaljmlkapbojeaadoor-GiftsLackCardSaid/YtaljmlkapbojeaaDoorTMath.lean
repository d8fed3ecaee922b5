/- The fewest bills that cannot all be paid. Plain, no program. -/
import Derived.Test.YtaljmlkapbojeaaDoorHMath
import Derived.Test.YtaljmlkapbojeaaDoorCMath
namespace Go.Proofs.YtaljmlkapbojeaaDoor
open Go.RowKit

/-- the soonest set of bills below q that lacks money -/
def M.lackTo (gn bn : Nat) (G H : Nat → Nat → Int) : Nat → Option Nat
  | 0 => none
  | s + 1 => match M.lackTo gn bn G H s with
    | none => if M.spareF gn bn G H s < 0 then some s else none
    | some t => if M.spareF gn bn G H s < 0 ∧ M.soonS bn s t = true then some s else some t
def shortS (gn bn : Nat) (G H : Nat → Nat → Int) : Option Nat := if M.okF gn bn G H then M.lackTo gn bn G H (2 ^ bn) else none
def listOf (bn : Nat) : Option Nat → List Nat
  | none => []
  | some t => M.elL bn t
def shortE (gn bn : Nat) (G H : Nat → Nat → Int) : Int := if M.okF gn bn G H then (if M.lackTo gn bn G H (2 ^ bn) = none then 3 else 0) else 110
section
variable {gn bn : Nat} {G H : Nat → Nat → Int}
theorem lack_keep {s : Nat} (h : 0 ≤ M.spareF gn bn G H s) : M.lackTo gn bn G H (s + 1) = M.lackTo gn bn G H s := by
  simp only [M.lackTo]
  cases M.lackTo gn bn G H s with
  | none => simp; omega
  | some t => simp; omega
theorem lack_first {s : Nat} (h : M.spareF gn bn G H s < 0) (h0 : M.lackTo gn bn G H s = none) : M.lackTo gn bn G H (s + 1) = some s := by simp [M.lackTo, h0, h]
theorem lack_sooner {s t : Nat} (h : M.spareF gn bn G H s < 0) (h0 : M.lackTo gn bn G H s = some t) (h1 : M.soonS bn s t = true) : M.lackTo gn bn G H (s + 1) = some s := by simp [M.lackTo, h0, h, h1]
theorem lack_later {s t : Nat} (h0 : M.lackTo gn bn G H s = some t) (h1 : M.soonS bn s t = false) : M.lackTo gn bn G H (s + 1) = some t := by simp [M.lackTo, h0, h1]
theorem soonS_lt {n s t : Nat} (h : (M.elL n s).length < (M.elL n t).length) : M.soonS n s t = true := by
  unfold M.soonS M.soonB; rw [if_neg (by omega)]; exact decide_eq_true h
theorem soonS_gt {n s t : Nat} (h : (M.elL n t).length < (M.elL n s).length) : M.soonS n s t = false := by
  unfold M.soonS M.soonB; rw [if_neg (by omega)]; exact decide_eq_false (by omega)
theorem lack_inv (q : Nat) : (M.lackTo gn bn G H q = none → ∀ s : Nat, s < q → 0 ≤ M.spareF gn bn G H s) ∧
    ∀ t, M.lackTo gn bn G H q = some t → t < q ∧ M.spareF gn bn G H t < 0 ∧ ∀ s : Nat, s < q → M.spareF gn bn G H s < 0 → M.soonS bn s t = false := by
  induction q with
  | zero => exact ⟨fun _ s hs => absurd hs (by omega), fun t h => by simp [M.lackTo] at h⟩
  | succ q ih =>
    by_cases hq : 0 ≤ M.spareF gn bn G H q
    · rw [lack_keep hq]
      refine ⟨fun h s hs => ?_, fun t h => ?_⟩
      · rcases Nat.lt_succ_iff_lt_or_eq.1 hs with h2 | h2
        · exact ih.1 h s h2
        · subst h2; exact hq
      · obtain ⟨h1, h2, h3⟩ := ih.2 t h
        refine ⟨by omega, h2, fun s hs hl => ?_⟩
        rcases Nat.lt_succ_iff_lt_or_eq.1 hs with h4 | h4
        · exact h3 s h4 hl
        · subst h4; omega
    · cases h0 : M.lackTo gn bn G H q with
      | none =>
        rw [lack_first (by omega) h0]
        refine ⟨fun h => (by cases h), fun t h => ?_⟩
        injection h with h; subst h
        refine ⟨by omega, by omega, fun s hs hl => ?_⟩
        rcases Nat.lt_succ_iff_lt_or_eq.1 hs with h4 | h4
        · have := ih.1 h0 s h4; omega
        · subst h4; exact M.soon_self _ _
      | some t =>
        obtain ⟨h1, h2, h3⟩ := ih.2 t h0
        cases hs : M.soonS bn q t
        · rw [lack_later h0 hs]
          refine ⟨fun h => (by cases h), fun t' h => ?_⟩
          injection h with h; subst h
          refine ⟨by omega, h2, fun s hs' hl => ?_⟩
          rcases Nat.lt_succ_iff_lt_or_eq.1 hs' with h4 | h4
          · exact h3 s h4 hl
          · subst h4; exact hs
        · rw [lack_sooner (by omega) h0 hs]
          refine ⟨fun h => (by cases h), fun t' h => ?_⟩
          injection h with h; subst h
          refine ⟨by omega, by omega, fun s hs' hl => ?_⟩
          rcases Nat.lt_succ_iff_lt_or_eq.1 hs' with h4 | h4
          · cases h5 : M.soonS bn s q
            · rfl
            · have h6 : M.soonS bn s t = true := M.soon_trans h5 hs
              rw [h3 s h4 hl] at h6; cases h6
          · subst h4; exact M.soon_self _ _
theorem spare_zero : M.spareF gn bn G H 0 = 0 := by
  have h1 : ∀ i, M.bt 0 i = false := fun i => by simp [M.bt]
  have h2 : ∀ g, M.helpsF bn G H g 0 = false := fun g => by
    refine Bool.eq_false_iff.2 fun h => ?_
    obtain ⟨i, _, hi⟩ := M.anyTo_iff.1 h
    rw [h1] at hi; cases hi
  have e1 : M.haveF gn bn G H 0 = 0 := by
    unfold M.haveF
    rw [M.sumTo_congr (g := fun _ => 0) fun g _ => by rw [h2]; rfl]
    exact M.sumTo_zero fun _ _ => rfl
  have e2 : M.needsF bn H 0 = 0 := by
    unfold M.needsF
    rw [M.sumTo_congr (g := fun _ => 0) fun i _ => by rw [h1]; rfl]
    exact M.sumTo_zero fun _ _ => rfl
  unfold M.spareF
  rw [e1, e2]; rfl
/-- none lacks exactly if all can be paid -/
theorem lack_paid : M.lackTo gn bn G H (2 ^ bn) = none ↔ lpd gn bn G H = true := by
  rw [lpd_iff]
  constructor
  · exact fun h => (lack_inv (2 ^ bn)).1 h
  · intro h
    cases h0 : M.lackTo gn bn G H (2 ^ bn) with
    | none => rfl
    | some t => have h2 := (lack_inv (gn := gn) (bn := bn) (G := G) (H := H) (2 ^ bn)).2 t h0; have := h t h2.1; omega
end
end Go.Proofs.YtaljmlkapbojeaaDoor
