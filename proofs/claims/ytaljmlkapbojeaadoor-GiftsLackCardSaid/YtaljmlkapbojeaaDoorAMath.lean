/- What payments and Audit say of amounts. Plain, no program. -/
import Derived.Test.YtaljmlkapbojeaaDoorUMath
namespace Go.Proofs.YtaljmlkapbojeaaDoor.M

/-- what has been taken of gift j behind place (k, g) -/
def takTo (k g : Nat) (R : Nat → Nat → Int) (j : Nat) : Int := sumTo k (fun i => R i j) + (if j < g then R k j else 0)
theorem takTo_set (k g : Nat) (R : Nat → Nat → Int) : setI (takTo k g R) g (takTo k g R g + R k g) = takTo k (g + 1) R := by
  funext j
  unfold setI takTo
  by_cases e : j = g
  · subst e; simp
  · by_cases e2 : j < g
    · simp [e, e2, show j < g + 1 by omega]
    · simp [e, e2, show ¬ j < g + 1 by omega]
theorem takTo_next {k gn j : Nat} {R : Nat → Nat → Int} (hj : j < gn) : takTo k gn R j = takTo (k + 1) 0 R j := by simp [takTo, sumTo, hj]

/-- may this amount be paid from gift g for bill i? -/
def cellOk (G H R : Nat → Nat → Int) (i g : Nat) : Bool := decide (0 ≤ R i g) && decide (R i g ≤ 1000000) && (decide (R i g ≤ 0) || srv G H g i)
def rowOk (gn : Nat) (G H R : Nat → Nat → Int) (rm : Nat → Nat) (i : Nat) : Bool := decide (rm i = gn) && allTo gn (cellOk G H R i) && decide (sumTo gn (R i) = H i 2)
def payB (rn : Nat) (rm : Nat → Nat) (gn bn : Nat) (G H R : Nat → Nat → Int) : Bool := decide (rn = bn) && allTo bn (rowOk gn G H R rm) && allTo gn fun g => decide (sumTo bn (fun i => R i g) ≤ G g 2)

theorem rowOk_bad {gn k g : Nat} {G H R : Nat → Nat → Int} {rm : Nat → Nat} (hg : g < gn) (h : cellOk G H R k g = false) : rowOk gn G H R rm k = false := by
  refine Bool.eq_false_iff.2 fun h2 => ?_
  unfold rowOk at h2
  simp only [Bool.and_eq_true] at h2
  rw [allTo_iff.1 h2.1.2 g hg] at h
  cases h
theorem payB_bad {rn gn bn k : Nat} {G H R : Nat → Nat → Int} {rm : Nat → Nat} (hk : k < bn) (h : rowOk gn G H R rm k = false) : payB rn rm gn bn G H R = false := by
  refine Bool.eq_false_iff.2 fun h2 => ?_
  unfold payB at h2
  simp only [Bool.and_eq_true] at h2
  rw [allTo_iff.1 h2.1.2 k hk] at h
  cases h
theorem cell_bd {gn k : Nat} {G H R : Nat → Nat → Int} (h : allTo gn (cellOk G H R k) = true) : ∀ j, j < gn → 0 ≤ R k j ∧ R k j ≤ 1000000 := fun j hj => by
  have := allTo_iff.1 h j hj
  unfold cellOk at this
  simp only [Bool.and_eq_true, decide_eq_true_eq] at this
  exact this.1
theorem row_bd {gn k : Nat} {G H R : Nat → Nat → Int} {rm : Nat → Nat} (h : allTo k (rowOk gn G H R rm) = true) : ∀ i, i < k → ∀ j, j < gn → 0 ≤ R i j ∧ R i j ≤ 1000000 := fun i hi => by
  have := allTo_iff.1 h i hi
  unfold rowOk at this
  simp only [Bool.and_eq_true] at this
  exact cell_bd this.1.2

/-- the first thing that is wrong at a place: 0, if nothing is -/
def rsn (G H R : Nat → Nat → Int) (i g : Nat) : Int :=
  if R i g < 0 then 1 else if 0 < R i g ∧ bt (G g 0) (H i 0).toNat = false then 2 else if 0 < R i g ∧ H i 1 < G g 1 then 3 else if G g 2 < takTo i g R g + R i g then 4 else 0
def audRow (G H R : Nat → Nat → Int) (i : Nat) : Nat → Option (Int × Int × Int)
  | 0 => none
  | k + 1 => match audRow G H R i k with
    | some x => some x
    | none => if rsn G H R i k = 0 then none else some (rsn G H R i k, (i : Int), (k : Int))
def audTo (gn : Nat) (G H R : Nat → Nat → Int) : Nat → Option (Int × Int × Int)
  | 0 => none
  | k + 1 => match audTo gn G H R k with
    | some x => some x
    | none => match audRow G H R k gn with
      | some x => some x
      | none => if sumTo gn (R k) = H k 2 then none else some (5, (k : Int), -1)
def aud (gn bn : Nat) (G H R : Nat → Nat → Int) : Int × Int × Int := (audTo gn G H R bn).getD (0, 0, 0)
section
variable {G H R : Nat → Nat → Int} {gn bn : Nat}
theorem audRow_more {i k : Nat} {x : Int × Int × Int} (h : audRow G H R i k = some x) : ∀ n, k ≤ n → audRow G H R i n = some x := by
  intro n
  induction n with
  | zero => intro hk; obtain rfl : k = 0 := by omega
            exact h
  | succ n ih =>
    intro hk
    by_cases e : k = n + 1
    · subst e; exact h
    · simp only [audRow, ih (by omega)]
theorem audTo_more {k : Nat} {x : Int × Int × Int} (h : audTo gn G H R k = some x) : ∀ n, k ≤ n → audTo gn G H R n = some x := by
  intro n
  induction n with
  | zero => intro hk; obtain rfl : k = 0 := by omega
            exact h
  | succ n ih =>
    intro hk
    by_cases e : k = n + 1
    · subst e; exact h
    · simp only [audTo, ih (by omega)]
theorem aud_at {i g : Nat} (hi : i < bn) (hg : g < gn) (h1 : audTo gn G H R i = none) (h2 : audRow G H R i g = none) (h3 : rsn G H R i g ≠ 0) : aud gn bn G H R = (rsn G H R i g, (i : Int), (g : Int)) := by
  have h4 : audRow G H R i (g + 1) = some (rsn G H R i g, (i : Int), (g : Int)) := by simp only [audRow, h2]; rw [if_neg h3]
  have h5 := audRow_more h4 gn hg
  have h6 : audTo gn G H R (i + 1) = some (rsn G H R i g, (i : Int), (g : Int)) := by simp only [audTo, h1, h5]
  unfold aud
  rw [audTo_more h6 bn hi]
  rfl
theorem aud_sum {i : Nat} (hi : i < bn) (h1 : audTo gn G H R i = none) (h2 : audRow G H R i gn = none) (h3 : sumTo gn (R i) ≠ H i 2) : aud gn bn G H R = (5, (i : Int), -1) := by
  have h6 : audTo gn G H R (i + 1) = some (5, (i : Int), -1) := by simp only [audTo, h1, h2]; rw [if_neg h3]
  unfold aud
  rw [audTo_more h6 bn hi]
  rfl
theorem audRow_succ {i g : Nat} (h2 : audRow G H R i g = none) (h3 : rsn G H R i g = 0) : audRow G H R i (g + 1) = none := by simp only [audRow, h2]; rw [if_pos h3]
theorem audTo_succ {i : Nat} (h1 : audTo gn G H R i = none) (h2 : audRow G H R i gn = none) (h3 : sumTo gn (R i) = H i 2) : audTo gn G H R (i + 1) = none := by simp only [audTo, h1, h2]; rw [if_pos h3]
theorem aud_none (h1 : audTo gn G H R bn = none) : aud gn bn G H R = (0, 0, 0) := by unfold aud; rw [h1]; rfl
theorem rsn_1 {i g : Nat} (h : R i g < 0) : rsn G H R i g = 1 := by unfold rsn; rw [if_pos h]
theorem rsn_2 {i g : Nat} (h : 0 < R i g) (h2 : bt (G g 0) (H i 0).toNat = false) : rsn G H R i g = 2 := by unfold rsn; rw [if_neg (by omega), if_pos ⟨h, h2⟩]
theorem rsn_3 {i g : Nat} (h : 0 < R i g) (h2 : bt (G g 0) (H i 0).toNat = true) (h3 : H i 1 < G g 1) : rsn G H R i g = 3 := by unfold rsn; rw [if_neg (by omega), if_neg (by rw [h2]; simp), if_pos ⟨h, h3⟩]
theorem rsn_4 {i g : Nat} (h : 0 ≤ R i g) (h2 : 0 < R i g → bt (G g 0) (H i 0).toNat = true ∧ G g 1 ≤ H i 1) (h3 : G g 2 < takTo i g R g + R i g) : rsn G H R i g = 4 := by
  unfold rsn
  rw [if_neg (by omega), if_neg (fun h4 => by rw [(h2 h4.1).1] at h4; exact absurd h4.2 (by decide)), if_neg (fun h4 => Int.not_lt.2 (h2 h4.1).2 h4.2), if_pos h3]
theorem rsn_0 {i g : Nat} (h : 0 ≤ R i g) (h2 : 0 < R i g → bt (G g 0) (H i 0).toNat = true ∧ G g 1 ≤ H i 1) (h3 : ¬ G g 2 < takTo i g R g + R i g) : rsn G H R i g = 0 := by
  unfold rsn
  rw [if_neg (by omega), if_neg (fun h4 => by rw [(h2 h4.1).1] at h4; exact absurd h4.2 (by decide)), if_neg (fun h4 => Int.not_lt.2 (h2 h4.1).2 h4.2), if_neg h3]
/-- is each row as long as the gifts are many, and within bounds? -/
def cellsIn (R : Nat → Nat → Int) (i : Nat) (n : Nat) : Bool := allTo n fun g => within (R i g) (-1000000) 1000000
def rowsIn (rn : Nat) (rm : Nat → Nat) (gn bn : Nat) (R : Nat → Nat → Int) : Bool := decide (rn = bn) && allTo rn fun i => decide (rm i = gn) && cellsIn R i (rm i)
def audE (rn : Nat) (rm : Nat → Nat) (gn bn : Nat) (G H R : Nat → Nat → Int) : Int := if okF gn bn G H then (if rowsIn rn rm gn bn R then 0 else 1) else 110
def aud3 (rn : Nat) (rm : Nat → Nat) (gn bn : Nat) (G H R : Nat → Nat → Int) : Int × Int × Int := if okF gn bn G H && rowsIn rn rm gn bn R then aud gn bn G H R else (0, 0, 0)
theorem within_bd {R : Nat → Nat → Int} {rn gn bn : Nat} {rm : Nat → Nat} (h : rowsIn rn rm gn bn R = true) : rn = bn ∧ ∀ i, i < rn → rm i = gn ∧ ∀ j, j < gn → -1000000 ≤ R i j ∧ R i j ≤ 1000000 := by
  unfold rowsIn at h
  simp only [Bool.and_eq_true, decide_eq_true_eq] at h
  refine ⟨h.1, fun i hi => ?_⟩
  have h2 := allTo_iff.1 h.2 i hi
  simp only [Bool.and_eq_true, decide_eq_true_eq] at h2
  refine ⟨h2.1, fun j hj => ?_⟩
  have h3 := h2.2
  unfold cellsIn at h3
  have h4 := allTo_iff.1 h3 j (by omega)
  simpa [within] using h4
theorem takTo_bd {k g j gn : Nat} (hk : k ≤ 10) (hj : j < gn) (h : ∀ i, i ≤ k → ∀ j, j < gn → (i < k ∨ j < g) → -1000000 ≤ R i j ∧ R i j ≤ 1000000) : -11000000 ≤ takTo k g R j ∧ takTo k g R j ≤ 11000000 := by
  have h1 : -(k * 1000000) ≤ sumTo k (fun i => R i j) ∧ sumTo k (fun i => R i j) ≤ k * 1000000 := by
    have : ∀ n, n ≤ k → -((n : Int) * 1000000) ≤ sumTo n (fun i => R i j) ∧ sumTo n (fun i => R i j) ≤ (n : Int) * 1000000 := by
      intro n
      induction n with
      | zero => intro _; simp [sumTo]
      | succ n ih =>
        intro hn
        have h2 := ih (by omega)
        have h3 := h n (by omega) j hj (.inl (by omega))
        simp only [sumTo]
        have : ((n + 1 : Nat) : Int) * 1000000 = n * 1000000 + 1000000 := by omega
        omega
    exact this k (Nat.le_refl _)
  unfold takTo
  split
  · rename_i hlt
    have := h k (Nat.le_refl _) j hj (.inr hlt)
    omega
  · omega
end
end Go.Proofs.YtaljmlkapbojeaaDoor.M
namespace Go.Proofs.YtaljmlkapbojeaaDoor
open Go.RowKit
theorem Blk.drew {W : World} {g : Nat} {t : TypeId} {cs : Array Value} (h : Blk W g t cs) : Blk W.drew g t cs := h
theorem Blk.drewN {W : World} {g : Nat} {t : TypeId} {cs : Array Value} (h : Blk W g t cs) (n : Nat) : Blk (W.drewN n) g t cs := h
end Go.Proofs.YtaljmlkapbojeaaDoor
