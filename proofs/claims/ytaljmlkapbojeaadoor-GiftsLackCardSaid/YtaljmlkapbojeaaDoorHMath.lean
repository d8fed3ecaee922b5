/- The shops that are opened are the best: plain, no program. -/
import Derived.Test.YtaljmlkapbojeaaDoorSHMath
namespace Go.Proofs.YtaljmlkapbojeaaDoor.M

def elP (n : Nat) (p : Nat → Bool) : List Nat := (List.range n).filter p
theorem elP_succ (n : Nat) (p : Nat → Bool) : elP (n + 1) p = elP n p ++ (if p n then [n] else []) := by
  unfold elP
  rw [List.range_succ, List.filter_append]
  cases h : p n <;> simp [h]
theorem elP_len (n : Nat) (p : Nat → Bool) : (elP n p).length ≤ n := by
  have := List.length_filter_le p (List.range n)
  simpa [elP] using this
theorem bitsOf (p : Nat → Bool) : ∀ n, ∃ s, s < 2 ^ n ∧ ∀ i, i < n → s.testBit i = p i
  | 0 => ⟨0, by simp, fun i hi => absurd hi (by omega)⟩
  | n + 1 => by
    obtain ⟨s, hs, h⟩ := bitsOf p n
    cases hp : p n
    · refine ⟨s, by rw [Nat.pow_succ]; omega, fun i hi => ?_⟩
      by_cases e : i = n
      · subst e; rw [hp]; exact Nat.testBit_lt_two_pow hs
      · exact h i (by omega)
    · refine ⟨2 ^ n + s, by rw [Nat.pow_succ]; omega, fun i hi => ?_⟩
      by_cases e : i = n
      · subst e; rw [hp, Nat.testBit_two_pow_add_eq, Nat.testBit_lt_two_pow hs]; rfl
      · rw [Nat.testBit_two_pow_add_gt (by omega)]; exact h i (by omega)
theorem elP_set (n : Nat) (p : Nat → Bool) : ∃ s, s < 2 ^ n ∧ elP n p = elL n s := by
  obtain ⟨s, hs, h⟩ := bitsOf p n
  exact ⟨s, hs, List.filter_congr fun i hi => (h i (List.mem_range.1 hi)).symm⟩
theorem elL_rise {n c i : Nat} (hi : i + 1 < (elL n c).length) : (elL n c).getD i 0 < (elL n c).getD (i + 1) 0 := by
  have h : (elL n c).Pairwise (· < ·) := List.Pairwise.filter _ List.pairwise_lt_range
  have h2 := List.pairwise_iff_getElem.1 h i (i + 1) (by omega) hi (by omega)
  rw [List.getD_eq_getElem?_getD, List.getD_eq_getElem?_getD, List.getElem?_eq_getElem hi, List.getElem?_eq_getElem (show i < (elL n c).length by omega)]
  exact h2
theorem colTo_app (S : Nat → Nat → Int) (j : Nat) (l : List Nat) (a : Nat) : colTo S j (l ++ [a]) (l ++ [a]).length = colTo S j l l.length + S a j := by
  unfold colTo
  rw [List.length_append]
  simp only [List.length_singleton, sumTo]
  rw [sumTo_congr (g := fun i => S (l.getD i 0) j) fun i hi => by simp [List.getElem?_append_left hi]]
  simp

theorem cmp_none {f f' : Nat → Int} {n : Nat} : cmpTo f f' n = none ↔ ∀ i, i < n → f i = f' i := by
  induction n with
  | zero => simp [cmpTo]
  | succ n ih =>
    constructor
    · intro h i hi
      simp only [cmpTo] at h
      cases hc : cmpTo f f' n with
      | some b => rw [hc] at h; cases h
      | none =>
        rw [hc] at h
        by_cases e : i = n
        · subst e
          by_cases e2 : f i = f' i
          · exact e2
          · simp [e2] at h
        · exact ih.1 hc i (by omega)
    · intro h
      exact cmpTo_succ (ih.2 fun i hi => h i (by omega)) (h n (by omega))
theorem cmp_some {f f' : Nat → Int} {n : Nat} {b : Bool} (h : cmpTo f f' n = some b) : ∃ k, k < n ∧ (∀ i, i < k → f i = f' i) ∧ f k ≠ f' k ∧ b = decide (f k < f' k) := by
  induction n with
  | zero => simp [cmpTo] at h
  | succ n ih =>
    simp only [cmpTo] at h
    cases hc : cmpTo f f' n with
    | some c =>
      rw [hc] at h
      obtain ⟨k, hk, h1, h2, h3⟩ := ih (by rw [hc]; exact h)
      exact ⟨k, by omega, h1, h2, h3⟩
    | none =>
      rw [hc] at h
      by_cases e2 : f n = f' n
      · simp [e2] at h
      · simp [e2] at h
        exact ⟨n, by omega, cmp_none.1 hc, e2, by rw [← h]⟩
theorem cmp_trans {f f' f'' : Nat → Int} {n : Nat} (h : cmpTo f f' n = some true) (h' : cmpTo f' f'' n = some true) : cmpTo f f'' n = some true := by
  obtain ⟨k, hk, h1, h2, h3⟩ := cmp_some h
  obtain ⟨k', hk', h1', h2', h3'⟩ := cmp_some h'
  have h3 : f k < f' k := of_decide_eq_true h3.symm
  have h3' : f' k' < f'' k' := of_decide_eq_true h3'.symm
  by_cases e : k < k'
  · have e1 := h1' k e
    rw [cmpTo_at hk (cmp_none.2 fun i hi => by rw [h1 i hi, h1' i (by omega)]) (by omega)]
    simp; omega
  · by_cases e2 : k = k'
    · subst e2
      rw [cmpTo_at hk (cmp_none.2 fun i hi => by rw [h1 i hi, h1' i hi]) (by omega)]
      simp; omega
    · have e1 := h1 k' (by omega)
      rw [cmpTo_at hk' (cmp_none.2 fun i hi => by rw [h1 i (by omega), h1' i hi]) (by omega)]
      simp; omega
theorem soon_trans {n n' n'' : Nat} {f f' f'' : Nat → Int} (h : soonB n n' f f' = true) (h' : soonB n' n'' f' f'' = true) : soonB n n'' f f'' = true := by
  unfold soonB at *
  by_cases e : n = n'
  · subst e
    rw [if_pos rfl] at h
    by_cases e2 : n = n''
    · subst e2
      rw [if_pos rfl] at h' ⊢
      have a : cmpTo f f' n = some true := by cases hc : cmpTo f f' n with | none => rw [hc] at h; cases h | some b => rw [hc] at h; simp at h; rw [h]
      have b : cmpTo f' f'' n = some true := by cases hc : cmpTo f' f'' n with | none => rw [hc] at h'; cases h' | some b => rw [hc] at h'; simp at h'; rw [h']
      rw [cmp_trans a b]; rfl
    · rw [if_neg e2] at h' ⊢; exact h'
  · rw [if_neg e] at h
    have h := of_decide_eq_true h
    by_cases e2 : n' = n''
    · subst e2
      rw [if_neg e]; exact decide_eq_true h
    · rw [if_neg e2] at h'
      have h' := of_decide_eq_true h'
      rw [if_neg (by omega)]; exact decide_eq_true (by omega)
theorem soon_self (n : Nat) (f : Nat → Int) : soonB n n f f = false := by
  unfold soonB
  rw [if_pos rfl, cmp_none.2 fun _ _ => rfl]; rfl
theorem brings_zero (n : Nat) (S : Nat → Nat → Int) : brings n S 0 = 0 := by simp [brings, colTo, elL_zero, sumTo]
theorem staffs_zero (n : Nat) (S : Nat → Nat → Int) : staffs n S 0 = 0 := by simp [staffs, colTo, elL_zero, sumTo]
theorem shTo_inv {n : Nat} {S : Nat → Nat → Int} {st : Int} (hst : 0 ≤ st) (q : Nat) :
    (shTo n S st q).2 = brings n S (shTo n S st q).1 ∧ staffs n S (shTo n S st q).1 ≤ st ∧ ∀ s, s < q → staffs n S s ≤ st → brings n S s < (shTo n S st q).2 ∨ (brings n S s = (shTo n S st q).2 ∧ soonS n s (shTo n S st q).1 = false) := by
  induction q with
  | zero => exact ⟨(brings_zero n S).symm, by rw [show (shTo n S st 0).1 = 0 from rfl, staffs_zero]; exact hst, fun s hs => absurd hs (by omega)⟩
  | succ q ih =>
    obtain ⟨i1, i2, i3⟩ := ih
    simp only [shTo]
    generalize shTo n S st q = t at *
    split
    · rename_i h
      unfold takes at h
      simp only [Bool.and_eq_true, Bool.or_eq_true, decide_eq_true_eq] at h
      refine ⟨rfl, h.1, fun s hs hss => ?_⟩
      dsimp only
      by_cases e : s = q
      · subst e; exact .inr ⟨rfl, soon_self _ _⟩
      · have h2 := i3 s (by omega) hss
        rcases h.2 with h4 | ⟨h4, h5⟩
        · left; rcases h2 with h2 | h2 <;> omega
        · rcases h2 with h2 | ⟨h2, h3⟩
          · left; omega
          · right
            refine ⟨by omega, Bool.eq_false_iff.2 fun h6 => ?_⟩
            rw [show soonS n s t.1 = true from soon_trans h6 h5] at h3
            cases h3
    · rename_i h
      refine ⟨i1, i2, fun s hs hss => ?_⟩
      by_cases e : s = q
      · subst e
        unfold takes at h
        simp only [Bool.and_eq_true, Bool.or_eq_true, decide_eq_true_eq, not_and, not_or] at h
        have h2 := h hss
        by_cases e2 : brings n S s = t.2
        · right
          refine ⟨e2, ?_⟩
          have := h2.2 e2
          simpa using this
        · left; omega
      · exact i3 s (by omega) hss
end Go.Proofs.YtaljmlkapbojeaaDoor.M
