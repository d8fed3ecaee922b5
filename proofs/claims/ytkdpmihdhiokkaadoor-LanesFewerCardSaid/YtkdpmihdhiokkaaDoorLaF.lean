/- Which legs clash, and when first; when no unit occupies a cell. Plain. -/
import Derived.Test.YtkdpmihdhiokkaaDoorLaB
namespace Go.Proofs.YtkdpmihdhiokkaaDoor.M

section
variable (s : Sea) (L : Nat → Leg)
def firstC (i k : Nat) : Nat := firstTo s.nt fun t => legC (L i) (L k) (t : Int)
/-- the clashes of leg i with the m legs behind it -/
def clIn (i : Nat) : Nat → List (Nat × Nat × Nat)
  | 0 => []
  | m + 1 => if firstC s L i (i + 1 + m) < s.nt then clIn i m ++ [(i, i + 1 + m, firstC s L i (i + 1 + m))] else clIn i m
def clAll (n : Nat) : Nat → List (Nat × Nat × Nat)
  | 0 => []
  | i + 1 => clAll n i ++ clIn s L i (n - (i + 1))
end
section
variable {s : Sea} {L L' : Nat → Leg} {n : Nat}
theorem firstC_none {i k : Nat} (h : ∀ t, t < s.nt → legC (L i) (L k) (t : Int) = false) : ¬ firstC s L i k < s.nt := fun h2 => by
  have := (firstTo_spec s.nt (fun t => legC (L i) (L k) (t : Int))).2 h2
  have h3 := h _ h2
  unfold firstC at h3
  rw [h3] at this; cases this
theorem clIn_congr {i : Nat} : ∀ {m}, (∀ k, k < i + 1 + m → L k = L' k) → clIn s L i m = clIn s L' i m
  | 0, _ => rfl
  | m + 1, h => by
    have h1 : firstC s L i (i + 1 + m) = firstC s L' i (i + 1 + m) := by unfold firstC; rw [h i (by omega), h (i + 1 + m) (by omega)]
    simp only [clIn]
    rw [h1, clIn_congr fun k hk => h k (by omega)]
/-- one leg more that clashes with none -/
theorem clAll_more (hL : ∀ k, k < n → L k = L' k) (hno : ∀ i, i < n → ∀ t, t < s.nt → legC (L' i) (L' n) (t : Int) = false) : clAll s L' (n + 1) (n + 1) = clAll s L n n := by
  have h1 : ∀ i, i ≤ n → clAll s L' (n + 1) i = clAll s L n i := by
    intro i
    induction i with
    | zero => intro _; rfl
    | succ i ih =>
      intro hi
      simp only [clAll]
      rw [ih (by omega)]
      congr 1
      have e : n + 1 - (i + 1) = (n - (i + 1)) + 1 := by omega
      rw [e]
      simp only [clIn]
      have e2 : i + 1 + (n - (i + 1)) = n := by omega
      rw [e2, if_neg (firstC_none (hno i (by omega)))]
      exact (clIn_congr fun k hk => hL k (by omega)).symm
  show clAll s L' (n + 1) n ++ clIn s L' n (n + 1 - (n + 1)) = _
  rw [h1 n (Nat.le_refl _), show n + 1 - (n + 1) = 0 by omega]
  simp [clIn]
/-- two legs: in either order -/
theorem clTwo (L : Nat → Leg) : clAll s L 2 2 = if firstC s L 0 1 < s.nt then [(0, 1, firstC s L 0 1)] else [] := by
  simp [clAll, clIn]
theorem firstC_symm (a b : Leg) : firstC s (fun i => if i = 0 then a else b) 0 1 = firstC s (fun i => if i = 0 then b else a) 0 1 := by
  unfold firstC
  congr 1
  funext t
  simp only [if_true, show ¬ (1 = 0) by omega, if_false]
  exact legC_symm a b t
theorem legC_level {a b : Leg} {t : Int} (h : a.lv ≠ b.lv) : legC a b t = false := by
  unfold legC clash
  rw [decide_eq_false h]; simp
theorem legC_apart {a b : Leg} {t : Int} (h : a.at_ ≥ b.at_ + b.n ∨ b.at_ ≥ a.at_ + a.n) : legC a b t = false := by
  unfold legC
  by_cases h1 : t < a.at_ ∨ a.at_ + a.n ≤ t
  · rw [atC_out h1]; simp
  · rw [atC_out (l := b) (t := t) (by omega)]; simp
end
end Go.Proofs.YtkdpmihdhiokkaaDoor.M
