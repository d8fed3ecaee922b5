/- The document's spare and the program's money are the same. Plain, no program. -/
import Derived.Test.YtaljmlkapbojeaaDoorG9
namespace Go.Proofs.YtaljmlkapbojeaaDoor
open Go.RowKit
theorem useTo_bit {G H : Nat → Nat → Int} {i g gn : Nat} : (M.useTo G H i gn).testBit g = (decide (g < gn) && M.srv G H g i) := by
  unfold M.useTo
  rw [M.testBit_orTo]
  refine M.bool_eq ?_
  rw [M.anyTo_iff]
  constructor
  · rintro ⟨j, hj, h⟩
    unfold M.selN M.bit at h
    split at h
    · rw [Nat.testBit_two_pow] at h
      simp at h; subst h
      simp [hj]; assumption
    · simp at h
  · intro h
    simp only [Bool.and_eq_true, decide_eq_true_eq] at h
    exact ⟨g, h.1, by simp [M.selN, M.bit, h.2]⟩
theorem gifts_helps {G H : Nat → Nat → Int} {g gn bn : Nat} (hg : g < gn) (s : Int) : M.bt (M.giftsF bn (fun i => M.useTo G H i gn) s : Nat) g = M.helpsF bn G H g s := by
  rw [M.bt_nat, M.giftsF, M.testBit_orTo]
  unfold M.helpsF
  refine M.anyTo_congr fun i _ => ?_
  unfold M.selN
  cases M.bt s i
  · simp
  · simp [useTo_bit, hg]
theorem money_spare {G H : Nat → Nat → Int} {gn bn : Nat} (s : Int) : M.moneyF gn bn (s0 G H gn).L (s0 G H gn).N (s0 G H gn).U s = M.spareF gn bn G H s := by
  unfold M.moneyF M.spareF M.leftF M.haveF M.needF M.needsF
  congr 1
  refine M.sumTo_congr fun g hg => ?_
  show M.sel (M.bt (M.giftsF bn (fun i => M.useTo G H i gn) s : Nat) g) (G g 2) = _
  rw [gifts_helps hg]
theorem lpd_paid {G H : Nat → Nat → Int} {gn bn : Nat} : lpd gn bn G H = M.paidF gn bn G H := by
  unfold lpd M.lpaidF M.paidF
  have : (fun s : Nat => decide (0 ≤ M.moneyF gn bn (s0 G H gn).L (s0 G H gn).N (s0 G H gn).U s)) = fun s : Nat => decide (0 ≤ M.spareF gn bn G H s) := by
    funext s; rw [money_spare]
  rw [this]
end Go.Proofs.YtaljmlkapbojeaaDoor
