/- Pay's rows are payments, and Audit finds nothing wrong; other payments. Plain, no program. -/
import Derived.Test.YtaljmlkapbojeaaDoorAMath
import Derived.Test.YtaljmlkapbojeaaDoorG10
namespace Go.Proofs.YtaljmlkapbojeaaDoor
open Go.RowKit
section
variable {gn bn : Nat} {G H : Nat → Nat → Int}
theorem ub_srv {i g : Nat} (hg : g < gn) : M.ubOf (s0 G H gn).U i g = M.srv G H g i := by
  show (M.useTo G H i gn).testBit g = _
  rw [useTo_bit]; simp [hg]
theorem payB_FP {rn : Nat} {rm : Nat → Nat} {R : Nat → Nat → Int} (h : M.payB rn rm gn bn G H R = true) : rn = bn ∧ (∀ i, i < bn → rm i = gn) ∧ M.FP gn bn (s0 G H gn).L (s0 G H gn).N (M.ubOf (s0 G H gn).U) R := by
  unfold M.payB at h
  simp only [Bool.and_eq_true, decide_eq_true_eq] at h
  obtain ⟨⟨h1, h2⟩, h3⟩ := h
  have row : ∀ i, i < bn → rm i = gn ∧ (∀ g, g < gn → 0 ≤ R i g ∧ (R i g ≤ 0 ∨ M.srv G H g i = true)) ∧ M.sumTo gn (R i) = H i 2 := fun i hi => by
    have h4 := M.allTo_iff.1 h2 i hi
    unfold M.rowOk at h4
    simp only [Bool.and_eq_true, decide_eq_true_eq] at h4
    refine ⟨h4.1.1, fun g hg => ?_, h4.2⟩
    have h5 := M.allTo_iff.1 h4.1.2 g hg
    unfold M.cellOk at h5
    simp only [Bool.and_eq_true, Bool.or_eq_true, decide_eq_true_eq] at h5
    exact ⟨h5.1.1, h5.2⟩
  refine ⟨h1, fun i hi => (row i hi).1, fun i hi g hg => ((row i hi).2.1 g hg).1, fun i hi g hg hu => ?_, fun i hi => (row i hi).2.2, fun g hg => ?_⟩
  · rw [ub_srv hg] at hu
    have := (row i hi).2.1 g hg
    rcases this.2 with h4 | h4
    · omega
    · rw [hu] at h4; cases h4
  · have h4 := M.allTo_iff.1 h3 g hg
    exact of_decide_eq_true h4
theorem payB_lpd {rn : Nat} {rm : Nat → Nat} {R : Nat → Nat → Int} (h : M.payB rn rm gn bn G H R = true) : lpd gn bn G H = true := M.feas_iff.2 (payB_FP h).2.2.feas
theorem payB_lex {rn : Nat} {rm : Nat → Nat} {R : Nat → Nat → Int} (h : M.payB rn rm gn bn G H R = true) {b g : Nat} (hb : b < bn) (hg : g < gn) (h1 : ∀ i, i < b → ∀ j, j < gn → R i j = M.payAt gn bn (s0 G H gn) i j)
    (h2 : ∀ j, j < g → R b j = M.payAt gn bn (s0 G H gn) b j) : R b g ≤ M.payAt gn bn (s0 G H gn) b g := (payB_FP h).2.2.lex hb hg h1 h2
theorem M.sumTo_more {n m : Nat} {f : Nat → Int} (h : n ≤ m) (hf : ∀ i, i < m → 0 ≤ f i) : M.sumTo n f ≤ M.sumTo m f := by
  induction m with
  | zero => obtain rfl : n = 0 := by omega
            exact Int.le_refl _
  | succ m ih =>
    by_cases e : n = m + 1
    · subst e; exact Int.le_refl _
    · have := ih (by omega) fun i hi => hf i (by omega)
      have := hf m (by omega)
      simp only [M.sumTo]; omega
/-- amounts that are payments -/
structure PayOk (gn bn : Nat) (G H R : Nat → Nat → Int) : Prop where
  cell : ∀ i, i < bn → ∀ g, g < gn → 0 ≤ R i g ∧ R i g ≤ 1000000 ∧ (0 < R i g → M.srv G H g i = true)
  row : ∀ i, i < bn → M.sumTo gn (R i) = H i 2
  col : ∀ g, g < gn → M.sumTo bn (fun i => R i g) ≤ G g 2
theorem payOk_pay (ok : Ok gn bn G H) (hp : lpd gn bn G H = true) : PayOk gn bn G H (M.payAt gn bn (s0 G H gn)) := by
  have hI := inv_of ok hp
  have h := M.pay_FP hI
  refine ⟨fun i hi g hg => ⟨h.1 i hi g hg, M.payAt_le hI hi hg, fun h0 => ?_⟩, fun i hi => h.2.2.1 i hi, fun g hg => h.2.2.2 g hg⟩
  cases hs : M.srv G H g i
  · have := h.2.1 i hi g hg (by rw [ub_srv hg]; exact hs)
    omega
  · rfl
theorem PayOk.payB {R : Nat → Nat → Int} (h : PayOk gn bn G H R) : M.payB bn (fun _ => gn) gn bn G H R = true := by
  unfold M.payB
  simp only [Bool.and_eq_true, decide_eq_true_eq]
  refine ⟨⟨trivial, M.allTo_iff.2 fun i hi => ?_⟩, M.allTo_iff.2 fun g hg => by simpa using h.col g hg⟩
  unfold M.rowOk
  simp only [Bool.and_eq_true, decide_eq_true_eq]
  refine ⟨⟨trivial, M.allTo_iff.2 fun g hg => ?_⟩, h.row i hi⟩
  have := h.cell i hi g hg
  unfold M.cellOk
  simp only [Bool.and_eq_true, Bool.or_eq_true, decide_eq_true_eq]
  exact ⟨⟨this.1, this.2.1⟩, by by_cases h0 : 0 < R i g
                                · exact .inr (this.2.2 h0)
                                · exact .inl (by omega)⟩
theorem PayOk.audit {R : Nat → Nat → Int} (h : PayOk gn bn G H R) : M.aud gn bn G H R = (0, 0, 0) := by
  refine M.aud_none ?_
  have key : ∀ k, k ≤ bn → M.audTo gn G H R k = none := by
    intro k
    induction k with
    | zero => intro _; rfl
    | succ k ih =>
      intro hk
      refine M.audTo_succ (ih (by omega)) ?_ (h.row k (by omega))
      have rowk : ∀ g, g ≤ gn → M.audRow G H R k g = none := by
        intro g
        induction g with
        | zero => intro _; rfl
        | succ g ihg =>
          intro hg
          refine M.audRow_succ (ihg (by omega)) ?_
          have hc := h.cell k (by omega) g (by omega)
          refine M.rsn_0 hc.1 (fun h0 => ?_) ?_
          · have := hc.2.2 h0
            unfold M.srv at this
            simpa using this
          · have h1 := M.sumTo_more (n := k + 1) (m := bn) (f := fun i => R i g) (by omega) fun i hi => (h.cell i hi g (by omega)).1
            have h2 := h.col g (by omega)
            simp only [M.sumTo] at h1
            simp only [M.takTo, Nat.lt_irrefl, if_false]
            omega
      exact rowk gn (Nat.le_refl _)
  exact key bn (Nat.le_refl _)
theorem PayOk.rowsIn {R : Nat → Nat → Int} (h : PayOk gn bn G H R) : M.rowsIn bn (fun _ => gn) gn bn R = true := by
  unfold M.rowsIn
  simp only [Bool.and_eq_true, decide_eq_true_eq]
  refine ⟨trivial, M.allTo_iff.2 fun i hi => ?_⟩
  simp only [Bool.and_eq_true, decide_eq_true_eq]
  refine ⟨trivial, M.allTo_iff.2 fun g hg => ?_⟩
  have := h.cell i hi g hg
  simp [M.within]
  omega
theorem PayOk.aud3 {R : Nat → Nat → Int} (h : PayOk gn bn G H R) (hok : M.okF gn bn G H = true) : M.aud3 bn (fun _ => gn) gn bn G H R = (0, 0, 0) ∧ M.audE bn (fun _ => gn) gn bn G H R = 0 := by
  refine ⟨?_, by simp [M.audE, hok, h.rowsIn]⟩
  unfold M.aud3
  rw [hok, h.rowsIn]
  exact h.audit
end
end Go.Proofs.YtaljmlkapbojeaaDoor
