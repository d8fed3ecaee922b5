/- What is left of a gift: the program's numbers and the document's are the same. Plain, no program. -/
import Derived.Test.YtaljmlkapbojeaaDoorSMath
namespace Go.Proofs.YtaljmlkapbojeaaDoor
open Go.RowKit
/-- what the gift may be used for together -/
def M.allF (bn : Nat) (N : Nat → Int) (U : Nat → Nat) (g : Nat) : Int := M.sumTo bn fun i => M.sel (M.bt (U i) g) (N i)
/-- what it must be used for, over the sets below n -/
def M.leastTo (gn bn : Nat) (L N : Nat → Int) (U : Nat → Nat) (g : Nat) : Nat → Int
  | 0 => 0
  | s + 1 => if M.bt (M.giftsF bn U s) g then max (M.leastTo gn bn L N U g s) (L g - M.moneyF gn bn L N U s) else M.leastTo gn bn L N U g s
def M.usedTo (k : Nat) (G H : Nat → Nat → Int) (g : Nat) : Int := M.sumTo k fun i => M.sel (M.srv G H g i) (H i 2)
def M.highTo (gn bn : Nat) (G H : Nat → Nat → Int) (g : Nat) : Nat → Int
  | 0 => G g 2
  | s + 1 => if M.helpsF bn G H g s then min (M.highTo gn bn G H g s) (M.spareF gn bn G H s) else M.highTo gn bn G H g s
/-- what is left of gift g: at least, at most -/
def leftSp (gn bn : Nat) (G H : Nat → Nat → Int) : Nat → Nat → Int := fun g j => if j = 0 then max 0 (G g 2 - M.usedTo bn G H g) else M.highTo gn bn G H g (2 ^ bn)
def leftN (gn bn : Nat) (G H : Nat → Nat → Int) : Nat := if M.okF gn bn G H && lpd gn bn G H then gn else 0
def leftE (gn bn : Nat) (G H : Nat → Nat → Int) : Int := if M.okF gn bn G H then (if lpd gn bn G H then 0 else 3) else 110
theorem all_used {gn bn : Nat} {G H : Nat → Nat → Int} {g : Nat} (hg : g < gn) : M.allF bn (s0 G H gn).N (s0 G H gn).U g = M.usedTo bn G H g := by
  unfold M.allF M.usedTo
  refine M.sumTo_congr fun i _ => ?_
  show M.sel (M.bt (M.useTo G H i gn : Nat) g) (H i 2) = _
  rw [M.bt_nat, useTo_bit]
  simp [hg]
theorem high_least {gn bn : Nat} {G H : Nat → Nat → Int} {g : Nat} (hg : g < gn) (q : Nat) : M.highTo gn bn G H g q = G g 2 - M.leastTo gn bn (s0 G H gn).L (s0 G H gn).N (s0 G H gn).U g q := by
  induction q with
  | zero => simp [M.highTo, M.leastTo]
  | succ q ih =>
    simp only [M.highTo, M.leastTo]
    have h : M.bt (M.giftsF bn (s0 G H gn).U q : Nat) g = M.helpsF bn G H g q := gifts_helps hg q
    rw [h]
    by_cases hh : M.helpsF bn G H g q = true
    · rw [if_pos hh, if_pos hh, ih, money_spare]
      show _ = G g 2 - max _ (G g 2 - _)
      omega
    · rw [if_neg hh, if_neg hh, ih]
theorem leftSp_prog {gn bn : Nat} {G H : Nat → Nat → Int} {g : Nat} (hg : g < gn) : leftSp gn bn G H g 0 = (s0 G H gn).L g - min (M.allF bn (s0 G H gn).N (s0 G H gn).U g) ((s0 G H gn).L g) ∧
    leftSp gn bn G H g 1 = (s0 G H gn).L g - M.leastTo gn bn (s0 G H gn).L (s0 G H gn).N (s0 G H gn).U g (2 ^ bn) := by
  constructor
  · unfold leftSp
    rw [if_pos rfl, all_used hg]
    show _ = G g 2 - min _ (G g 2)
    omega
  · unfold leftSp
    rw [if_neg (by omega), high_least hg]
    rfl
section
variable {gn bn : Nat} {G H : Nat → Nat → Int} {L N : Nat → Int} {U : Nat → Nat}
theorem usedTo_bd (hn : bn ≤ 8) (h : ∀ i, i < bn → 0 ≤ H i 2 ∧ H i 2 ≤ 1000000) (g : Nat) {k : Nat} (hk : k ≤ bn) : 0 ≤ M.usedTo k G H g ∧ M.usedTo k G H g ≤ 8000000 := by
  have h := M.sumTo_bd (n := k) (f := fun i => M.sel (M.srv G H g i) (H i 2)) (c := 1000000) fun i hi => M.sel_bd (by have := h i (by omega); omega)
  unfold M.usedTo
  omega
theorem allF_bd (hn : bn ≤ 8) (h : ∀ i, i < bn → 0 ≤ N i ∧ N i ≤ 1000000) (g : Nat) {k : Nat} (hk : k ≤ bn) : 0 ≤ M.allF k N U g ∧ M.allF k N U g ≤ 8000000 := by
  have h := M.sumTo_bd (n := k) (f := fun i => M.sel (M.bt (U i) g) (N i)) (c := 1000000) fun i hi => M.sel_bd (by have := h i (by omega); omega)
  unfold M.allF
  omega
theorem leastTo_bd {g : Nat} (hL : 0 ≤ L g ∧ L g ≤ 1000000) (h : ∀ s : Int, -8000000 ≤ M.moneyF gn bn L N U s ∧ M.moneyF gn bn L N U s ≤ 10000000) (q : Nat) : 0 ≤ M.leastTo gn bn L N U g q ∧ M.leastTo gn bn L N U g q ≤ 9000000 := by
  induction q with
  | zero => simp [M.leastTo]
  | succ q ih =>
    simp only [M.leastTo]
    have := h q
    split <;> omega
theorem highTo_bd {g : Nat} (hL : 0 ≤ G g 2 ∧ G g 2 ≤ 1000000) (h : ∀ s : Int, -8000000 ≤ M.spareF gn bn G H s ∧ M.spareF gn bn G H s ≤ 10000000) (q : Nat) : -8000000 ≤ M.highTo gn bn G H g q ∧ M.highTo gn bn G H g q ≤ 1000000 := by
  induction q with
  | zero => simp only [M.highTo]; omega
  | succ q ih =>
    simp only [M.highTo]
    have := h q
    split <;> omega
end
end Go.Proofs.YtaljmlkapbojeaaDoor
