/- Trips planned one after the other. Plain. -/
import Derived.Test.YtkdpmihdhiokkaaDoorLaE
namespace Go.Proofs.YtkdpmihdhiokkaaDoor.M

section
variable (s : Sea) (L : Nat → Leg) (n : Nat) (R : Nat → Trip)
/-- the leg of the first route of a trip -/
def firstLeg (m : Nat) (X : Nat → Leg) (r : Trip) : Leg := legOf r (endK s X m r + 1) (routeF s X m r (endK s X m r))
/-- the legs behind i trips -/
def planL : Nat → Nat × (Nat → Leg)
  | 0 => (n, L)
  | i + 1 => if hasR s (planL i).2 (planL i).1 (R i) then ((planL i).1 + 1, fun j => if j = (planL i).1 then firstLeg s (planL i).1 (planL i).2 (R i) else (planL i).2 j) else planL i
/-- when a trip ends; -1: never -/
def endT (m : Nat) (X : Nat → Leg) (r : Trip) : Int := if hasR s X m r then r.at_ + endK s X m r else -1
def planE (i : Nat) : Int := endT s (planL s L n R i).1 (planL s L n R i).2 (R i)
end
section
variable {s : Sea} {L : Nat → Leg} {n : Nat} {R : Nat → Trip}
theorem plan_pre : ∀ i, n ≤ (planL s L n R i).1 ∧ (planL s L n R i).1 ≤ n + i ∧ (∀ j, j < n → (planL s L n R i).2 j = L j) ∧ ∀ j, n ≤ j → j < (planL s L n R i).1 → ∃ k, k < i ∧ ((planL s L n R i).2 j).lv = (R k).lv
  | 0 => ⟨Nat.le_refl _, Nat.le_refl _, fun _ _ => rfl, fun j h1 h2 => absurd h2 (by show ¬ j < n; omega)⟩
  | i + 1 => by
    obtain ⟨h1, h2, h3, h4⟩ := plan_pre i
    simp only [planL]
    split
    · refine ⟨by show n ≤ _ + 1; omega, by show _ + 1 ≤ _; omega, fun j hj => ?_, fun j hj1 hj2 => ?_⟩
      · show (if j = _ then _ else _) = _
        rw [if_neg (by omega)]
        exact h3 j hj
      · show ∃ k, k < i + 1 ∧ (if j = _ then _ else _ : Leg).lv = _
        by_cases e : j = (planL s L n R i).1
        · rw [if_pos e]
          exact ⟨i, by omega, rfl⟩
        · rw [if_neg e]
          obtain ⟨k, hk, h⟩ := h4 j hj1 (by simp only at hj2; omega)
          exact ⟨k, by omega, h⟩
    · exact ⟨h1, by omega, h3, fun j hj1 hj2 => by obtain ⟨k, hk, h⟩ := h4 j hj1 hj2; exact ⟨k, by omega, h⟩⟩
theorem plan_ok (hs : s.Ok) (hL : ∀ i, i < n → LegOk s (L i)) : ∀ i, (∀ k, k < i → tripOk s (R k) = true) → ∀ j, j < (planL s L n R i).1 → LegOk s ((planL s L n R i).2 j)
  | 0, _ => hL
  | i + 1, hR => by
    have ih := plan_ok hs hL i fun k hk => hR k (by omega)
    simp only [planL]
    split
    · rename_i hh
      intro j hj
      show LegOk s (if j = _ then _ else _)
      by_cases e : j = (planL s L n R i).1
      · rw [if_pos e]
        have h1 := endK_is hs (hR i (by omega)) (of_decide_eq_true hh)
        unfold isRoute at h1
        simp only [Bool.and_eq_true] at h1
        exact legOk_iff.1 h1.1.1.1.2
      · rw [if_neg e]
        exact ih j (by simp only at hj; omega)
    · exact ih
theorem endT_ge {m m' : Nat} {X X' : Nat → Leg} {r : Trip} (hat : 0 ≤ r.at_) (h : ∀ i, i < m' → ∃ j, j < m ∧ X' i = X j) (he : 0 ≤ endT s m X r) : 0 ≤ endT s m' X' r ∧ endT s m' X' r ≤ endT s m X r := by
  unfold endT at *
  cases h1 : hasR s X m r
  · rw [h1] at he
    simp at he
  · have h2 := of_decide_eq_true h1
    have h3 := endK_mono (L := X) (L' := X') (n := m) (n' := m') (r := r) (r' := r) rfl rfl rfl (fun p q t hg => goes_sub h hg) h2
    have h4 : hasR s X' m' r = true := decide_eq_true (by omega)
    rw [h4]
    simp only [if_true]
    omega
theorem hit_other {m m' : Nat} {X X' : Nat → Leg} {lv : Int} {tl : Bool} {p q t : Int} (hm : m' ≤ m) (hX : ∀ i, i < m' → X' i = X i) (ho : ∀ i, m' ≤ i → i < m → (X i).lv ≠ lv) : hit X m lv tl p q t = hit X' m' lv tl p q t := by
  unfold hit
  apply bool_ext
  rw [anyTo_iff, anyTo_iff]
  constructor
  · rintro ⟨i, hi, h⟩
    rcases Nat.lt_or_ge i m' with h1 | h1
    · exact ⟨i, h1, by rw [hX i h1]; exact h⟩
    · have : decide (lv = (X i).lv) = false := decide_eq_false fun e => ho i h1 hi e.symm
      unfold clash at h
      rw [this] at h
      simp at h
  · rintro ⟨i, hi, h⟩
    exact ⟨i, by omega, by rw [← hX i hi]; exact h⟩
theorem goes_other {m m' : Nat} {X X' : Nat → Leg} {r : Trip} (hm : m' ≤ m) (hX : ∀ i, i < m' → X' i = X i) (ho : ∀ i, m' ≤ i → i < m → (X i).lv ≠ r.lv) (p : Int) (q t : Nat) : goes s X m r p q t = goes s X' m' r p q t := by
  unfold goes
  rw [hit_other hm hX ho]
theorem reach_congr {m m' : Nat} {X X' : Nat → Leg} {r : Trip} (hg : ∀ p q t, goes s X m r p q t = goes s X' m' r p q t) : ∀ k c, reach s X m r k c = reach s X' m' r k c
  | 0, c => by simp only [reach, hg]
  | k + 1, c => by
    simp only [reach]
    exact anyTo_congr fun b _ => by rw [reach_congr hg k b, hg]
theorem endT_other {m m' : Nat} {X X' : Nat → Leg} {r : Trip} (hm : m' ≤ m) (hX : ∀ i, i < m' → X' i = X i) (ho : ∀ i, m' ≤ i → i < m → (X i).lv ≠ r.lv) : endT s m X r = endT s m' X' r := by
  have h1 : ∀ k c, reach s X m r k c = reach s X' m' r k c := reach_congr (goes_other hm hX ho)
  have h2 : endK s X m r = endK s X' m' r := by unfold endK; congr 1; funext k; exact h1 _ _
  unfold endT hasR
  rw [h2]
theorem plan_ge {i : Nat} (hat : 0 ≤ (R i).at_) (he : 0 ≤ planE s L n R i) : 0 ≤ endT s n L (R i) ∧ endT s n L (R i) ≤ planE s L n R i := by
  obtain ⟨h1, h2, h3, h4⟩ := plan_pre (s := s) (L := L) (n := n) (R := R) i
  exact endT_ge hat (fun j hj => ⟨j, by omega, (h3 j hj).symm⟩) he
theorem plan_other {i : Nat} (ho : ∀ k, k < i → (R k).lv ≠ (R i).lv) : planE s L n R i = endT s n L (R i) := by
  obtain ⟨h1, h2, h3, h4⟩ := plan_pre (s := s) (L := L) (n := n) (R := R) i
  exact endT_other h1 (fun j hj => (h3 j hj).symm) fun j hj1 hj2 => by
    obtain ⟨k, hk, h⟩ := h4 j hj1 hj2
    rw [h]; exact ho k hk
end
end Go.Proofs.YtkdpmihdhiokkaaDoor.M
