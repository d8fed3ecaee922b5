/- Spans of ticks, as long as possible. Plain. -/
import Derived.Test.YtkdpmihdhiokkaaDoorLaB
namespace Go.Proofs.YtkdpmihdhiokkaaDoor.M

/-- the spans of the ticks below t: how many, and their ends -/
def spN (free : Nat → Bool) : Nat → Nat × (Nat → Nat → Int)
  | 0 => (0, fun _ _ => 0)
  | t + 1 =>
    let x := spN free t
    if free t then
      if 0 < x.1 ∧ x.2 (x.1 - 1) 1 = (t : Int) - 1 then (x.1, fun i j => if i = x.1 - 1 ∧ j = 1 then (t : Int) else x.2 i j)
      else (x.1 + 1, fun i j => if i = x.1 then (t : Int) else x.2 i j)
    else x
structure SpOk (free : Nat → Bool) (t m : Nat) (F : Nat → Nat → Int) : Prop where
  le : m ≤ t
  ord : ∀ i, i < m → 0 ≤ F i 0 ∧ F i 0 ≤ F i 1 ∧ F i 1 < t
  gap : ∀ i, i + 1 < m → F i 1 + 1 < F (i + 1) 0
  mem : ∀ u : Nat, u < t → (free u = true ↔ ∃ i, i < m ∧ F i 0 ≤ u ∧ (u : Int) ≤ F i 1)
theorem spOk (free : Nat → Bool) : ∀ t, SpOk free t (spN free t).1 (spN free t).2
  | 0 => ⟨Nat.le_refl _, fun i hi => absurd hi (by simp [spN]), fun i hi => absurd hi (by simp [spN]), fun u hu => absurd hu (by omega)⟩
  | t + 1 => by
    have ih := spOk free t
    generalize hx : spN free t = x at ih
    obtain ⟨m, F⟩ := x
    have h1 := ih.le
    have h2 := ih.ord
    have h3 := ih.gap
    have h4 := ih.mem
    simp only at h1 h2 h3 h4
    simp only [spN, hx]
    cases hf : free t
    · simp only [Bool.false_eq_true, if_false]
      refine ⟨by omega, fun i hi => by have := h2 i hi; omega, h3, fun u hu => ?_⟩
      by_cases e : u = t
      · subst e
        rw [hf]
        refine ⟨fun h => (by cases h), fun ⟨i, hi, h5, h6⟩ => (by have := h2 i hi; omega)⟩
      · exact h4 u (by omega)
    · simp only [if_true]
      by_cases hc : 0 < m ∧ F (m - 1) 1 = (t : Int) - 1
      · rw [if_pos hc]
        refine ⟨by show m ≤ t + 1; omega, fun i hi => ?_, fun i hi => ?_, fun u hu => ?_⟩
        · have := h2 i hi
          show 0 ≤ (if i = m - 1 ∧ 0 = 1 then (t : Int) else F i 0) ∧ _
          by_cases e : i = m - 1
          · simp [e]; rw [e] at this; omega
          · simp [e]; omega
        · have := h3 i hi
          have e : ¬ i = m - 1 := by simp only at hi; omega
          simp [e]
          exact this
        · simp only
          by_cases e : u = t
          · subst e
            refine ⟨fun _ => ⟨m - 1, by omega, ?_, ?_⟩, fun _ => hf⟩
            · have := h2 (m - 1) (by omega)
              simp; omega
            · simp
          · rw [h4 u (by omega)]
            constructor
            · rintro ⟨i, hi, h5, h6⟩
              refine ⟨i, hi, by simpa using h5, ?_⟩
              by_cases e2 : i = m - 1
              · simp [e2]; omega
              · simp [e2]; exact h6
            · rintro ⟨i, hi, h5, h6⟩
              refine ⟨i, hi, by simpa using h5, ?_⟩
              by_cases e2 : i = m - 1
              · rw [e2, hc.2]; omega
              · simpa [e2] using h6
      · rw [if_neg hc]
        refine ⟨by show m + 1 ≤ t + 1; omega, fun i hi => ?_, fun i hi => ?_, fun u hu => ?_⟩
        · simp only at hi ⊢
          by_cases e : i = m
          · simp [e]; omega
          · have := h2 i (by omega)
            simp [e]; omega
        · simp only at hi ⊢
          have e : ¬ i = m := by omega
          by_cases e2 : i + 1 = m
          · simp only [e, if_false, e2, if_true]
            have h5 := h2 i (by omega)
            have e3 : m - 1 = i := by omega
            have : ¬ F i 1 = (t : Int) - 1 := fun h => hc ⟨by omega, by rw [e3]; exact h⟩
            omega
          · simp only [e, if_false, e2]
            exact h3 i (by omega)
        · simp only
          by_cases e : u = t
          · subst e
            exact ⟨fun _ => ⟨m, by omega, by simp, by simp⟩, fun _ => hf⟩
          · rw [h4 u (by omega)]
            constructor
            · rintro ⟨i, hi, h5, h6⟩
              have e2 : ¬ i = m := by omega
              exact ⟨i, by omega, by simp [e2]; exact h5, by simp [e2]; exact h6⟩
            · rintro ⟨i, hi, h5, h6⟩
              by_cases e2 : i = m
              · simp [e2] at h5 h6; omega
              · simp [e2] at h5 h6
                exact ⟨i, by omega, h5, h6⟩
end Go.Proofs.YtkdpmihdhiokkaaDoor.M
