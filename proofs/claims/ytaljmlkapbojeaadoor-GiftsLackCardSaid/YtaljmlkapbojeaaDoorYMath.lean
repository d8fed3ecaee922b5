/- Plain definitions for the reserve: what is over behind each month. No program here. -/
import Derived.Test.YtaljmlkapbojeaaDoorGMath
namespace Go.Proofs.YtaljmlkapbojeaaDoor.M
def worst (m : Nat → Nat → Int) (i : Nat) : Int := m i 0 - m i 3
def best (m : Nat → Nat → Int) (i : Nat) : Int := m i 1 - m i 2
def okS (a b : Int) : Bool := decide (0 ≤ a) && decide (a ≤ b) && decide (b ≤ 1000000)
def okM (m : Nat → Nat → Int) (i : Nat) : Bool := okS (m i 0) (m i 1) && okS (m i 2) (m i 3)
def okY (r l : Int) (n : Nat) (m : Nat → Nat → Int) : Bool := within r 0 1000000 && within l 0 r && decide (n ≤ 60) && allTo n (okM m)
def chkY (r l : Int) (n : Nat) (m : Nat → Nat → Int) : Int := if okY r l n m then 0 else 111
/-- what is over behind month k -/
def over (x : Int) (d : Nat → Int) (k : Nat) : Int := x + sumTo (k + 1) d
/-- for how many months it lasts -/
def lastTo (o : Nat → Int) : Nat → Nat
  | 0 => 0
  | k + 1 => if lastTo o k = k ∧ 0 ≤ o k then k + 1 else lastTo o k
def lackOf (o : Nat → Int) (k : Nat) : Int := max 0 (-(o k))
def onceTo (o : Nat → Int) : Nat → Int
  | 0 => 0
  | k + 1 => max (onceTo o k) (lackOf o k)
def monTo (o : Nat → Int) : Nat → Int
  | 0 => 0
  | k + 1 => max (monTo o k) ((lackOf o k + k) / (k + 1))

theorem okY_iff {r l : Int} {n : Nat} {m : Nat → Nat → Int} : okY r l n m = true ↔ 0 ≤ r ∧ r ≤ 1000000 ∧ 0 ≤ l ∧ l ≤ r ∧ n ≤ 60 ∧
    (∀ i, i < n → 0 ≤ m i 0 ∧ m i 0 ≤ m i 1 ∧ m i 1 ≤ 1000000 ∧ 0 ≤ m i 2 ∧ m i 2 ≤ m i 3 ∧ m i 3 ≤ 1000000) := by
  simp only [okY, Bool.and_eq_true, decide_eq_true_eq, allTo_iff, okM, okS, within]
  constructor
  · rintro ⟨⟨⟨h1, h2⟩, h3⟩, h4⟩
    exact ⟨h1.1, h1.2, h2.1, h2.2, h3, fun i hi => by have := h4 i hi; omega⟩
  · rintro ⟨h1, h2, h3, h4, h5, h6⟩
    exact ⟨⟨⟨⟨h1, h2⟩, h3, h4⟩, h5⟩, fun i hi => by have := h6 i hi; omega⟩
theorem sumTo_bd2 {n : Nat} {f : Nat → Int} {c : Int} (h : ∀ i, i < n → -c ≤ f i ∧ f i ≤ c) : -(n * c) ≤ sumTo n f ∧ sumTo n f ≤ n * c := by
  induction n with
  | zero => simp [sumTo]
  | succ n ih =>
    have h1 := ih fun i hi => h i (by omega)
    have h2 := h n (by omega)
    simp only [sumTo]
    have : ((n + 1 : Nat) : Int) * c = n * c + c := by rw [Int.natCast_add, Int.add_mul]; simp
    omega
theorem lastTo_le (o : Nat → Int) (k : Nat) : lastTo o k ≤ k := by
  induction k with
  | zero => exact Nat.le_refl _
  | succ k ih => simp only [lastTo]; split <;> omega
/-- it has lasted so far, exactly if nothing was below 0 -/
theorem lastTo_eq {o : Nat → Int} {k : Nat} : lastTo o k = k ↔ ∀ i, i < k → 0 ≤ o i := by
  induction k with
  | zero => simp [lastTo]
  | succ k ih =>
    simp only [lastTo]
    constructor
    · split
      · rename_i h
        intro _ i hi
        rcases Nat.lt_succ_iff_lt_or_eq.1 hi with h1 | h1
        · exact ih.1 h.1 i h1
        · subst h1; exact h.2
      · intro h; have := lastTo_le o k; omega
    · intro h
      rw [if_pos ⟨ih.2 fun i hi => h i (by omega), h k (by omega)⟩]
theorem lastTo_stop {o : Nat → Int} {k : Nat} (h : ∀ i, i < k → 0 ≤ o i) (hk : o k < 0) : ∀ n, k < n → lastTo o n = k := by
  intro n
  induction n with
  | zero => omega
  | succ n ih =>
    intro hn
    simp only [lastTo]
    by_cases e : k = n
    · subst e
      rw [if_neg (by omega), lastTo_eq.2 h]
    · rw [if_neg (by rw [ih (by omega)]; omega), ih (by omega)]
theorem monTo_bd {o : Nat → Int} {c : Int} (hc : 0 ≤ c) (h : ∀ i, -c ≤ o i) (k : Nat) : 0 ≤ monTo o k ∧ monTo o k ≤ c := by
  induction k with
  | zero => exact ⟨Int.le_refl _, hc⟩
  | succ k ih =>
    simp only [monTo]
    have h1 : 0 ≤ (lackOf o k + k) / (k + 1) := Int.ediv_nonneg (by unfold lackOf; omega) (by omega)
    have h2 : (lackOf o k + k) / (k + 1) ≤ c := by
      have h3 : lackOf o k ≤ c := by unfold lackOf; have := h k; omega
      refine Int.lt_add_one_iff.1 (Int.ediv_lt_of_lt_mul (by omega) ?_)
      have h4 : (c + 1) * ((k : Int) + 1) = c * k + c + k + 1 := by rw [Int.add_mul, Int.mul_add]; omega
      have h5 : 0 ≤ c * (k : Int) := Int.mul_nonneg hc (by omega)
      omega
    omega
end Go.Proofs.YtaljmlkapbojeaaDoor.M
