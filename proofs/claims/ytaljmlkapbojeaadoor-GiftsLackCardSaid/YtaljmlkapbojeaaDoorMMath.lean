/- More money, or lesser bills: still payments. Plain, no program. -/
import Derived.Test.YtaljmlkapbojeaaDoorG9
namespace Go.Proofs.YtaljmlkapbojeaaDoor
open Go.RowKit
theorem M.sumTo_mono {n : Nat} {f g : Nat → Int} (h : ∀ i, i < n → f i ≤ g i) : M.sumTo n f ≤ M.sumTo n g := by
  induction n with
  | zero => exact Int.le_refl _
  | succ n ih =>
    simp only [M.sumTo]
    have h1 := ih fun i hi => h i (by omega)
    have h2 := h n (by omega)
    omega
theorem M.orTo_congr {n : Nat} {f g : Nat → Nat} (h : ∀ i, i < n → f i = g i) : M.orTo n f = M.orTo n g := by
  induction n with
  | zero => rfl
  | succ n ih => simp only [M.orTo]; rw [ih fun i hi => h i (by omega), h n (by omega)]
theorem M.sel_mono {c : Bool} {x y : Int} (h : x ≤ y) : M.sel c x ≤ M.sel c y := by unfold M.sel; split <;> omega
theorem M.useTo_congr {gn : Nat} {G H G' H' : Nat → Nat → Int} {i : Nat} (hG : ∀ g, g < gn → G' g 0 = G g 0 ∧ G' g 1 = G g 1) (hH : H' i 0 = H i 0 ∧ H' i 1 = H i 1) : M.useTo G' H' i gn = M.useTo G H i gn := by
  unfold M.useTo
  refine M.orTo_congr fun g hg => ?_
  unfold M.srv
  rw [(hG g hg).1, (hG g hg).2, hH.1, hH.2]
theorem lpd_more {gn bn : Nat} {G H G' H' : Nat → Nat → Int} (hG : ∀ g, g < gn → G' g 0 = G g 0 ∧ G' g 1 = G g 1 ∧ G g 2 ≤ G' g 2) (hH : ∀ i, i < bn → H' i 0 = H i 0 ∧ H' i 1 = H i 1 ∧ H' i 2 ≤ H i 2) (h : lpd gn bn G H = true) : lpd gn bn G' H' = true := by
  unfold lpd M.lpaidF at *
  rw [M.allTo_iff] at h ⊢
  intro s hs
  have h1 := h s hs
  rw [decide_eq_true_eq] at h1 ⊢
  have e : M.giftsF bn (s0 G' H' gn).U s = M.giftsF bn (s0 G H gn).U s := by
    unfold M.giftsF
    refine M.orTo_congr fun i hi => ?_
    show M.selN _ (M.useTo G' H' i gn) = M.selN _ (M.useTo G H i gn)
    rw [M.useTo_congr (fun g hg => ⟨(hG g hg).1, (hG g hg).2.1⟩) ⟨(hH i hi).1, (hH i hi).2.1⟩]
  unfold M.moneyF at *
  rw [e]
  have h2 : M.leftF gn (s0 G H gn).L (M.giftsF bn (s0 G H gn).U s) ≤ M.leftF gn (s0 G' H' gn).L (M.giftsF bn (s0 G H gn).U s) := M.sumTo_mono fun g hg => M.sel_mono (hG g hg).2.2
  have h3 : M.needF bn (s0 G' H' gn).N s ≤ M.needF bn (s0 G H gn).N s := M.sumTo_mono fun i hi => M.sel_mono (hH i hi).2.2
  omega

def set2 (F : Nat → Nat → Int) (k j : Nat) (u : Int) : Nat → Nat → Int := fun a b => if a = k ∧ b = j then u else F a b
theorem upd2_ints (F : Nat → Nat → Int) (k j : Nat) (u : Int) : upd2 (fun i j => .int .i64 (F i j)) k j (.int .i64 u) = fun x y => .int .i64 (set2 F k j u x y) := by
  funext a b
  by_cases h : a = k ∧ b = j
  · simp [upd2, set2, h]
  · simp only [upd2, set2, if_neg h]
def payE (gn bn : Nat) (G H : Nat → Nat → Int) : Int := if M.okF gn bn G H then (if lpd gn bn G H then 0 else 3) else 110
theorem payE_paid {gn bn : Nat} {G H : Nat → Nat → Int} (hk : M.okF gn bn G H = true) (h : lpd gn bn G H = true) : payE gn bn G H = 0 := by simp [payE, hk, h]
theorem payE_none {gn bn : Nat} {G H : Nat → Nat → Int} (hk : M.okF gn bn G H = true) (h : lpd gn bn G H = false) : payE gn bn G H = 3 := by simp [payE, hk, h]
end Go.Proofs.YtaljmlkapbojeaaDoor
