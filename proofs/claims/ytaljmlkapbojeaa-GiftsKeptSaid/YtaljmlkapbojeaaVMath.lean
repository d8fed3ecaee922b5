/- The reserve: what the amounts of Appeal do. Plain, no program. -/
import Derived.Test.YtaljmlkapbojeaaYMath
namespace Go.Proofs.Ytaljmlkapbojeaa.M

theorem lastTo_ge {o : Nat → Int} {k : Nat} (h : ∀ i, i < k → 0 ≤ o i) : ∀ n, k ≤ n → k ≤ lastTo o n := by
  intro n
  induction n with
  | zero => intro hk; omega
  | succ n ih =>
    intro hk
    simp only [lastTo]
    by_cases e : k = n + 1
    · subst e
      rw [if_pos ⟨lastTo_eq.2 fun i hi => h i (by omega), h n (by omega)⟩]
      exact Nat.le_refl _
    · have := ih (by omega)
      split <;> omega
theorem lastTo_all {o : Nat → Int} {n : Nat} : ∀ i, i < lastTo o n → 0 ≤ o i := by
  induction n with
  | zero => intro i hi; simp [lastTo] at hi
  | succ n ih =>
    intro i hi
    simp only [lastTo] at hi
    split at hi
    · rename_i h
      rcases Nat.lt_succ_iff_lt_or_eq.1 hi with h1 | h1
      · exact lastTo_eq.1 h.1 i h1
      · subst h1; exact h.2
    · exact ih i hi
theorem lastTo_mono {o o' : Nat → Int} {n : Nat} (h : ∀ i, i < n → o i ≤ o' i) : lastTo o n ≤ lastTo o' n :=
  lastTo_ge (fun i hi => Int.le_trans (lastTo_all i hi) (h i (by have := lastTo_le o n; omega))) n (lastTo_le o n)
theorem lastTo_congr {o o' : Nat → Int} {n : Nat} (h : ∀ i, i < n → o i = o' i) : lastTo o n = lastTo o' n :=
  Nat.le_antisymm (lastTo_mono fun i hi => Int.le_of_eq (h i hi)) (lastTo_mono fun i hi => Int.le_of_eq (h i hi).symm)

theorem onceTo_ge {o : Nat → Int} {n i : Nat} (hi : i < n) : lackOf o i ≤ onceTo o n := by
  induction n with
  | zero => omega
  | succ n ih =>
    simp only [onceTo]
    rcases Nat.lt_succ_iff_lt_or_eq.1 hi with h | h
    · have := ih h; omega
    · subst h; omega
theorem onceTo_nn {o : Nat → Int} {n : Nat} : 0 ≤ onceTo o n := by
  induction n with
  | zero => exact Int.le_refl _
  | succ n ih => simp only [onceTo]; omega
theorem onceTo_at {o : Nat → Int} {n : Nat} (h : 0 < onceTo o n) : ∃ i, i < n ∧ onceTo o n = lackOf o i := by
  induction n with
  | zero => simp [onceTo] at h
  | succ n ih =>
    simp only [onceTo] at h ⊢
    by_cases hc : lackOf o n ≤ onceTo o n
    · rw [Int.max_eq_left hc] at h ⊢
      obtain ⟨i, hi, e⟩ := ih h
      exact ⟨i, by omega, e⟩
    · rw [Int.max_eq_right (by omega)]
      exact ⟨n, by omega, rfl⟩
theorem monTo_ge {o : Nat → Int} {n i : Nat} (hi : i < n) : (lackOf o i + i) / (i + 1) ≤ monTo o n := by
  induction n with
  | zero => omega
  | succ n ih =>
    simp only [monTo]
    rcases Nat.lt_succ_iff_lt_or_eq.1 hi with h | h
    · have := ih h; omega
    · subst h; omega
theorem monTo_at {o : Nat → Int} {n : Nat} (h : 0 < monTo o n) : ∃ i : Nat, i < n ∧ monTo o n = (lackOf o i + i) / (i + 1) := by
  induction n with
  | zero => simp [monTo] at h
  | succ n ih =>
    simp only [monTo] at h ⊢
    by_cases hc : (lackOf o n + n) / (n + 1) ≤ monTo o n
    · rw [Int.max_eq_left hc] at h ⊢
      obtain ⟨i, hi, e⟩ := ih h
      exact ⟨i, by omega, e⟩
    · rw [Int.max_eq_right (by omega)]
      exact ⟨n, by omega, rfl⟩

/-- a flow: incomes, costs; and so much each month -/
def dfl (f : Nat → Nat → Int) (mo : Int) (i : Nat) : Int := f i 0 - f i 1 + mo
def inSpan (m f : Nat → Nat → Int) (i : Nat) : Bool := decide (m i 0 ≤ f i 0 ∧ f i 0 ≤ m i 1 ∧ m i 2 ≤ f i 1 ∧ f i 1 ≤ m i 3)
def flF (best : Bool) (m : Nat → Nat → Int) : Nat → Nat → Int := fun i j => if best then (if j = 0 then m i 1 else m i 2) else (if j = 0 then m i 0 else m i 3)

theorem sumTo_addc (n : Nat) (f : Nat → Int) (c : Int) : sumTo n (fun i => f i + c) = sumTo n f + n * c := by
  induction n with
  | zero => simp [sumTo]
  | succ n ih =>
    simp only [sumTo, ih]
    have : ((n + 1 : Nat) : Int) * c = n * c + c := by rw [Int.natCast_add, Int.add_mul]; simp
    omega
theorem sumTo_lev {n : Nat} {f g : Nat → Int} (h : ∀ i, i < n → f i ≤ g i) : sumTo n f ≤ sumTo n g := by
  induction n with
  | zero => exact Int.le_refl _
  | succ n ih =>
    simp only [sumTo]
    have h1 := ih fun i hi => h i (by omega)
    have h2 := h n (by omega)
    omega
theorem over_dfl (x once mo : Int) (f : Nat → Nat → Int) (k : Nat) : over (x + once) (dfl f mo) k = over x (fun i => f i 0 - f i 1) k + once + (k + 1) * mo := by
  unfold over
  have : sumTo (k + 1) (dfl f mo) = sumTo (k + 1) (fun i => f i 0 - f i 1) + ((k + 1 : Nat) : Int) * mo := sumTo_addc (k + 1) (fun i => f i 0 - f i 1) mo
  rw [this]
  have e : ((k + 1 : Nat) : Int) * mo = ((k : Int) + 1) * mo := by simp
  omega
/-- for how many months it lasts with a flow, and so much more -/
def fLast (r le : Int) (n : Nat) (f : Nat → Nat → Int) (once mo : Int) : Nat := lastTo (over (r + once - le) (dfl f mo)) n
def spansOk (n : Nat) (m f : Nat → Nat → Int) : Bool := allTo n (inSpan m f)

theorem dfl_worst (m : Nat → Nat → Int) (i : Nat) : flF false m i 0 - flF false m i 1 = worst m i := by simp [flF, worst]
theorem dfl_best (m : Nat → Nat → Int) (i : Nat) : flF true m i 0 - flF true m i 1 = best m i := by simp [flF, best]
theorem over_w (r le once mo : Int) (m : Nat → Nat → Int) (k : Nat) : over (r + once - le) (dfl (flF false m) mo) k = over (r - le) (worst m) k + once + (k + 1) * mo := by
  rw [show r + once - le = (r - le) + once by omega, over_dfl]
  unfold over
  rw [sumTo_congr (g := worst m) fun i _ => dfl_worst m i]
theorem over_b (r le once mo : Int) (m : Nat → Nat → Int) (k : Nat) : over (r + once - le) (dfl (flF true m) mo) k = over (r - le) (best m) k + once + (k + 1) * mo := by
  rw [show r + once - le = (r - le) + once by omega, over_dfl]
  unfold over
  rw [sumTo_congr (g := best m) fun i _ => dfl_best m i]
theorem fLast_sure (r le : Int) (n : Nat) (m : Nat → Nat → Int) : fLast r le n (flF false m) 0 0 = lastTo (over (r - le) (worst m)) n := by
  unfold fLast; exact lastTo_congr fun i _ => by rw [over_w]; simp
theorem fLast_may (r le : Int) (n : Nat) (m : Nat → Nat → Int) : fLast r le n (flF true m) 0 0 = lastTo (over (r - le) (best m)) n := by
  unfold fLast; exact lastTo_congr fun i _ => by rw [over_b]; simp
theorem mon_enough (l k q : Int) (hk : 0 ≤ k) (h : (l + k) / (k + 1) ≤ q) : l ≤ (k + 1) * q := by
  have h1 := Int.lt_mul_ediv_self_add (x := l + k) (k := k + 1) (by omega)
  have h2 : (k + 1) * ((l + k) / (k + 1)) ≤ (k + 1) * q := Int.mul_le_mul_of_nonneg_left h (by omega)
  omega
theorem mon_least (l k : Int) (hk : 0 ≤ k) : (k + 1) * ((l + k) / (k + 1) - 1) < l := by
  have h1 := Int.mul_ediv_self_le (x := l + k) (k := k + 1) (by omega)
  rw [Int.mul_sub, Int.mul_one]
  omega
theorem fLast_le (r le : Int) (n : Nat) (f : Nat → Nat → Int) (once mo : Int) : fLast r le n f once mo ≤ n := lastTo_le _ _
theorem fLast_once (r le : Int) (n : Nat) (m : Nat → Nat → Int) : fLast r le n (flF false m) (onceTo (over (r - le) (worst m)) n) 0 = n := by
  unfold fLast
  refine lastTo_eq.2 fun i hi => ?_
  have h := onceTo_ge (o := over (r - le) (worst m)) hi
  rw [over_w]
  unfold lackOf at h
  simp
  omega
theorem fLast_mon (r le : Int) (n : Nat) (m : Nat → Nat → Int) : fLast r le n (flF false m) 0 (monTo (over (r - le) (worst m)) n) = n := by
  unfold fLast
  refine lastTo_eq.2 fun i hi => ?_
  have h := mon_enough _ _ _ (by omega) (monTo_ge (o := over (r - le) (worst m)) hi)
  rw [over_w]
  unfold lackOf at h
  omega
theorem fLast_once1 (r le : Int) (n : Nat) (m : Nat → Nat → Int) (h : 0 < onceTo (over (r - le) (worst m)) n) : fLast r le n (flF false m) (onceTo (over (r - le) (worst m)) n - 1) 0 ≠ n := by
  intro e
  obtain ⟨i, hi, e2⟩ := onceTo_at h
  have h2 := lastTo_eq.1 e i hi
  rw [over_w, e2] at h2
  rw [e2] at h
  unfold lackOf at h h2
  simp at h2
  omega
theorem fLast_mon1 (r le : Int) (n : Nat) (m : Nat → Nat → Int) (h : 0 < monTo (over (r - le) (worst m)) n) : fLast r le n (flF false m) 0 (monTo (over (r - le) (worst m)) n - 1) ≠ n := by
  intro e
  obtain ⟨i, hi, e2⟩ := monTo_at h
  have h2 := lastTo_eq.1 e i hi
  rw [over_w, e2] at h2
  have h3 := mon_least (lackOf (over (r - le) (worst m)) i) i (by omega)
  have hl : lackOf (over (r - le) (worst m)) i = -(over (r - le) (worst m) i) ∨ lackOf (over (r - le) (worst m)) i = 0 := by unfold lackOf; omega
  rcases hl with hl | hl
  · omega
  · rw [e2, hl] at h
    have : (0 + (i : Int)) / (i + 1) = 0 := Int.ediv_eq_zero_of_lt (by omega) (by omega)
    omega
theorem inSpan_iff {m f : Nat → Nat → Int} {i : Nat} : inSpan m f i = true ↔ m i 0 ≤ f i 0 ∧ f i 0 ≤ m i 1 ∧ m i 2 ≤ f i 1 ∧ f i 1 ≤ m i 3 := by simp [inSpan]
theorem flow_ge (r le : Int) (n : Nat) (m f : Nat → Nat → Int) (once mo : Int) (h : spansOk n m f = true) : fLast r le n (flF false m) once mo ≤ fLast r le n f once mo := by
  unfold fLast
  refine lastTo_mono fun i hi => ?_
  unfold over
  have : sumTo (i + 1) (dfl (flF false m) mo) ≤ sumTo (i + 1) (dfl f mo) := sumTo_lev fun j hj => by
    have h1 := inSpan_iff.1 (allTo_iff.1 h j (by omega))
    simp only [dfl, flF]
    simp
    omega
  omega
theorem flow_le (r le : Int) (n : Nat) (m f : Nat → Nat → Int) (once mo : Int) (h : spansOk n m f = true) : fLast r le n f once mo ≤ fLast r le n (flF true m) once mo := by
  unfold fLast
  refine lastTo_mono fun i hi => ?_
  unfold over
  have : sumTo (i + 1) (dfl f mo) ≤ sumTo (i + 1) (dfl (flF true m) mo) := sumTo_lev fun j hj => by
    have h1 := inSpan_iff.1 (allTo_iff.1 h j (by omega))
    simp only [dfl, flF]
    simp
    omega
  omega
end Go.Proofs.Ytaljmlkapbojeaa.M
