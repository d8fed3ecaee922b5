/- The elements of a set; which of two lists comes sooner. Plain, no program. -/
import Derived.Test.YtaljmlkapbojeaaDoorGPay
import Derived.Lib.TrailingZeros
namespace Go.Proofs.YtaljmlkapbojeaaDoor.M

/-- the elements below n of a set -/
def elL (n c : Nat) : List Nat := (List.range n).filter fun i => c.testBit i
theorem filter_low {p q : Nat → Bool} {k : Nat} (h0 : ∀ j, j ≤ k → q j = false) (h1 : ∀ j, p j = (decide (j = k) || q j)) : ∀ n, k < n → (List.range n).filter p = k :: (List.range n).filter q
  | 0, h => by omega
  | n + 1, h => by
    rw [List.range_succ, List.filter_append, List.filter_append]
    by_cases e : k = n
    · subst e
      have hp : (List.range k).filter p = [] := List.filter_eq_nil_iff.2 fun j hj => by
        have := List.mem_range.1 hj
        rw [h1, h0 j (by omega)]
        simp; omega
      have hq : (List.range k).filter q = [] := List.filter_eq_nil_iff.2 fun j hj => by
        have := List.mem_range.1 hj
        rw [h0 j (by omega)]
        simp
      rw [hp, hq]
      simp [h1, h0 k (Nat.le_refl _)]
    · rw [filter_low h0 h1 n (by omega)]
      have : p n = q n := by rw [h1]; simp; intro e2; exact absurd e2.symm e
      simp [List.filter_cons, this]
theorem bit_odd (k m j : Nat) : (2 ^ k * (2 * m + 1)).testBit j = (decide (j = k) || (2 ^ k * (2 * m)).testBit j) := by
  rw [Nat.mul_comm (2 ^ k), Nat.mul_comm (2 ^ k), Nat.testBit_mul_two_pow, Nat.testBit_mul_two_pow]
  by_cases h : k ≤ j
  · by_cases e : j = k
    · subst e; simp [Nat.testBit_zero]
    · obtain ⟨d, rfl⟩ : ∃ d, j = k + (d + 1) := ⟨j - k - 1, by omega⟩
      have e3 : k + (d + 1) - k = d + 1 := by omega
      rw [e3, Nat.testBit_succ, Nat.testBit_succ, show (2 * m + 1) / 2 = m by omega, show 2 * m / 2 = m by omega]
      simp
  · simp [h]; omega
theorem bit_low (k m j : Nat) (hj : j ≤ k) : (2 ^ k * (2 * m)).testBit j = false := by
  rw [Nat.mul_comm (2 ^ k), Nat.testBit_mul_two_pow]
  by_cases e : j = k
  · subst e; simp [Nat.testBit_zero]
  · simp [show ¬ k ≤ j by omega]
theorem and_pred (k m : Nat) : (2 ^ k * (2 * m + 1)) &&& (2 ^ k * (2 * m + 1) - 1) = 2 ^ k * (2 * m) := by
  apply Nat.eq_of_testBit_eq
  intro j
  have hp := Nat.two_pow_pos k
  have e : 2 ^ k * (2 * m + 1) - 1 = 2 ^ k * (2 * m) + (2 ^ k - 1) := by rw [Nat.mul_add, Nat.mul_one]; omega
  rw [Nat.testBit_and, bit_odd, e, Nat.testBit_two_pow_mul_add _ (by omega), Nat.testBit_two_pow_sub_one]
  by_cases hj : j < k
  · rw [bit_low k m j (by omega)]
    simp [show ¬ j = k by omega]
  · simp only [hj, if_false]
    rw [Nat.mul_comm (2 ^ k), Nat.testBit_mul_two_pow]
    simp only [show k ≤ j by omega, decide_true, Bool.true_and]
    by_cases e2 : j = k
    · subst e2; simp [Nat.testBit_zero]
    · simp [e2]
/-- the first element of a set, and the others -/
theorem elL_next {n c : Nat} (hc : c < 2 ^ n) (h0 : c ≠ 0) (hn : n ≤ 62) : Lib.ctz 64 c < n ∧ elL n c = Lib.ctz 64 c :: elL n (c &&& (c - 1)) ∧ (c &&& (c - 1)) < c := by
  have h64 : c < 2 ^ 64 := Nat.lt_of_lt_of_le hc (Nat.pow_le_pow_right (by omega) (by omega))
  obtain ⟨m, hm, _⟩ := Lib.ctzFrom_spec 64 c (by omega) h64
  have hk : Lib.ctz 64 c = Lib.ctzFrom 64 c := by unfold Lib.ctz; rw [if_neg h0]
  rw [← hk] at hm
  obtain ⟨k, hkk⟩ : ∃ k, k = Lib.ctz 64 c := ⟨_, rfl⟩
  rw [← hkk] at hm ⊢
  clear hk hkk
  have hp := Nat.two_pow_pos k
  have hkn : k < n := by
    refine Nat.lt_of_not_le fun h => ?_
    have h1 : 2 ^ n ≤ 2 ^ k := Nat.pow_le_pow_right (by omega) h
    have h2 : 2 ^ k ≤ 2 ^ k * (2 * m + 1) := Nat.le_mul_of_pos_right _ (by omega)
    omega
  subst hm
  rw [and_pred]
  refine ⟨hkn, filter_low (bit_low k m) (bit_odd k m) n hkn, ?_⟩
  rw [Nat.mul_add, Nat.mul_one]
  omega
theorem elL_zero (n : Nat) : elL n 0 = [] := by simp [elL]
theorem elL_len (n c : Nat) : (elL n c).length ≤ n := by
  have := List.length_filter_le (fun i => c.testBit i) (List.range n)
  simpa [elL] using this
theorem elL_succ (n c : Nat) : elL (n + 1) c = elL n c ++ (if c.testBit n then [n] else []) := by
  unfold elL
  rw [List.range_succ, List.filter_append]
  cases h : c.testBit n <;> simp [h]
theorem elL_lt {n c i : Nat} (hi : i < (elL n c).length) : (elL n c).getD i 0 < n := by
  rw [List.getD_eq_getElem?_getD, List.getElem?_eq_getElem hi, Option.getD_some]
  exact List.mem_range.1 (List.mem_filter.1 (List.getElem_mem hi)).1

/-- how two lists of the same length stand to each other at the first place at which they differ -/
def cmpTo (f f' : Nat → Int) : Nat → Option Bool
  | 0 => none
  | k + 1 => match cmpTo f f' k with
    | some b => some b
    | none => if f k = f' k then none else some (decide (f k < f' k))
def soonB (n n' : Nat) (f f' : Nat → Int) : Bool := if n = n' then (cmpTo f f' n).getD false else decide (n < n')
theorem cmpTo_more {f f' : Nat → Int} {k : Nat} {b : Bool} (h : cmpTo f f' k = some b) : ∀ n, k ≤ n → cmpTo f f' n = some b := by
  intro n
  induction n with
  | zero => intro hk; obtain rfl : k = 0 := by omega
            exact h
  | succ n ih =>
    intro hk
    by_cases e : k = n + 1
    · subst e; exact h
    · simp only [cmpTo, ih (by omega)]
theorem cmpTo_at {f f' : Nat → Int} {k n : Nat} (hk : k < n) (h : cmpTo f f' k = none) (hne : f k ≠ f' k) : cmpTo f f' n = some (decide (f k < f' k)) := by
  refine cmpTo_more (k := k + 1) ?_ n hk
  simp only [cmpTo, h]
  rw [if_neg hne]
theorem cmpTo_succ {f f' : Nat → Int} {k : Nat} (h : cmpTo f f' k = none) (he : f k = f' k) : cmpTo f f' (k + 1) = none := by
  simp only [cmpTo, h]
  rw [if_pos he]
def cmpI : Option Bool → Int
  | none => 0
  | some true => -1
  | some false => 1
end Go.Proofs.YtaljmlkapbojeaaDoor.M
