/- What is left of a gift: the bounds, with any payments, and that both ends come true. Plain, no program. -/
import Derived.Test.YtaljmlkapbojeaaDoorBMath
import Derived.Test.YtaljmlkapbojeaaDoorLMath
import Derived.Test.YtaljmlkapbojeaaDoorMMath
namespace Go.Proofs.YtaljmlkapbojeaaDoor
open Go.RowKit
section
variable {gn bn : Nat} {G H : Nat → Nat → Int}
theorem payB_cell {rn : Nat} {rm : Nat → Nat} {R : Nat → Nat → Int} (h : M.payB rn rm gn bn G H R = true) {i j : Nat} (hi : i < bn) (hj : j < gn) : 0 ≤ R i j ∧ R i j ≤ 1000000 := by
  unfold M.payB at h
  simp only [Bool.and_eq_true, decide_eq_true_eq] at h
  exact M.row_bd h.1.2 i hi j hj
theorem spare_mny (s : Int) : M.spareF gn bn G H s = M.mny gn bn (s0 G H gn).L (s0 G H gn).N (M.ubOf (s0 G H gn).U) fun i => M.bt s i := by
  rw [← money_spare, M.money_eq]
theorem helps_Gm {g : Nat} (hg : g < gn) (s : Int) : M.helpsF bn G H g s = M.Gm bn (M.ubOf (s0 G H gn).U) (fun i => M.bt s i) g := by
  have h : M.bt (M.giftsF bn (s0 G H gn).U s : Nat) g = M.helpsF bn G H g s := gifts_helps hg s
  rw [← h, M.gifts_bit]
theorem highTo_le (g q : Nat) : M.highTo gn bn G H g q ≤ G g 2 ∧ ∀ s : Nat, s < q → M.helpsF bn G H g s = true → M.highTo gn bn G H g q ≤ M.spareF gn bn G H s := by
  induction q with
  | zero => exact ⟨Int.le_refl _, fun s hs => absurd hs (by omega)⟩
  | succ q ih =>
    simp only [M.highTo]
    split
    · rename_i h
      refine ⟨by omega, fun s hs hh => ?_⟩
      rcases Nat.lt_succ_iff_lt_or_eq.1 hs with h1 | h1
      · have := ih.2 s h1 hh; omega
      · subst h1; omega
    · rename_i h
      refine ⟨ih.1, fun s hs hh => ?_⟩
      rcases Nat.lt_succ_iff_lt_or_eq.1 hs with h1 | h1
      · exact ih.2 s h1 hh
      · subst h1; exact absurd hh h
theorem highTo_at (g q : Nat) : M.highTo gn bn G H g q = G g 2 ∨ ∃ s : Nat, s < q ∧ M.helpsF bn G H g s = true ∧ M.highTo gn bn G H g q = M.spareF gn bn G H s := by
  induction q with
  | zero => exact .inl rfl
  | succ q ih =>
    have up : M.highTo gn bn G H g q = G g 2 ∨ ∃ s : Nat, s < q + 1 ∧ M.helpsF bn G H g s = true ∧ M.highTo gn bn G H g q = M.spareF gn bn G H s := by
      rcases ih with h | ⟨s, hs, h⟩
      · exact .inl h
      · exact .inr ⟨s, by omega, h⟩
    simp only [M.highTo]
    split
    · rename_i h
      by_cases hlt : M.spareF gn bn G H q < M.highTo gn bn G H g q
      · rw [Int.min_eq_right (by omega)]
        exact .inr ⟨q, by omega, h, rfl⟩
      · rw [Int.min_eq_left (by omega)]
        exact up
    · exact up
theorem lpd_iff : lpd gn bn G H = true ↔ ∀ s : Nat, s < 2 ^ bn → 0 ≤ M.spareF gn bn G H s := by
  rw [lpd_paid]
  unfold M.paidF
  rw [M.allTo_iff]
  simp
/-- without the bills that a gift serves, the money is no more than what is left of it besides -/
theorem spare_used (ok : Ok gn bn G H) (hp : lpd gn bn G H = true) {g : Nat} (hg : g < gn) (s : Int) (hh : M.helpsF bn G H g s = true) : G g 2 - M.usedTo bn G H g ≤ M.spareF gn bn G H s := by
  have hF : M.Feas gn bn (s0 G H gn).L (s0 G H gn).N (M.ubOf (s0 G H gn).U) := M.feas_iff.1 hp
  rw [spare_mny]
  rw [helps_Gm hg] at hh
  obtain ⟨p, hpp⟩ : ∃ p, p = fun i => M.bt s i := ⟨_, rfl⟩
  rw [← hpp] at hh ⊢
  have hN : ∀ i, i < bn → 0 ≤ (s0 G H gn).N i := fun i hi => (ok.2.2.2 i hi).2.2.2.2.1
  have hL : ∀ j, j < gn → 0 ≤ (s0 G H gn).L j := fun j hj => (ok.2.2.1 j hj).2.2.2.2.1
  have h0 := hF fun i => p i && !M.ubOf (s0 G H gn).U i g
  unfold M.mny at h0 ⊢
  dsimp only at h0
  have hU : M.usedTo bn G H g = M.sumTo bn fun i => M.sel (M.ubOf (s0 G H gn).U i g) ((s0 G H gn).N i) := by
    unfold M.usedTo
    exact M.sumTo_congr fun i _ => by rw [ub_srv hg]; rfl
  have h1 : M.sumTo bn (fun i => M.sel (p i) ((s0 G H gn).N i)) ≤ M.sumTo bn (fun i => M.sel (p i && !M.ubOf (s0 G H gn).U i g) ((s0 G H gn).N i)) + M.usedTo bn G H g := by
    rw [hU, M.sumTo_add]
    refine M.sumTo_le fun i hi => ?_
    have := hN i hi
    cases p i <;> cases M.ubOf (s0 G H gn).U i g <;> simp [M.sel] <;> omega
  have h2 : M.sumTo gn (fun j => M.sel (M.Gm bn (M.ubOf (s0 G H gn).U) (fun i => p i && !M.ubOf (s0 G H gn).U i g) j) ((s0 G H gn).L j)) + G g 2 ≤ M.sumTo gn (fun j => M.sel (M.Gm bn (M.ubOf (s0 G H gn).U) p j) ((s0 G H gn).L j)) := by
    have h3 := M.sumTo_upd (n := gn) (k := g) (f := fun j => M.sel (M.Gm bn (M.ubOf (s0 G H gn).U) (fun i => p i && !M.ubOf (s0 G H gn).U i g) j) ((s0 G H gn).L j))
      (f' := fun j => if j = g then G g 2 else M.sel (M.Gm bn (M.ubOf (s0 G H gn).U) (fun i => p i && !M.ubOf (s0 G H gn).U i g) j) ((s0 G H gn).L j)) hg (fun j _ hne => by simp [hne])
    have h4 : M.Gm bn (M.ubOf (s0 G H gn).U) (fun i => p i && !M.ubOf (s0 G H gn).U i g) g = false := by
      refine Bool.eq_false_iff.2 fun h => ?_
      obtain ⟨i, _, h5, h6⟩ := M.Gm_iff.1 h
      simp [h6] at h5
    have h5 : M.sumTo gn (fun j => if j = g then G g 2 else M.sel (M.Gm bn (M.ubOf (s0 G H gn).U) (fun i => p i && !M.ubOf (s0 G H gn).U i g) j) ((s0 G H gn).L j)) ≤ M.sumTo gn (fun j => M.sel (M.Gm bn (M.ubOf (s0 G H gn).U) p j) ((s0 G H gn).L j)) := by
      refine M.sumTo_le fun j hj => ?_
      by_cases e : j = g
      · subst e; rw [hh]; simp [M.sel, s0]
      · simp only [e, if_false]
        exact M.sel_le (hL j hj) fun h => M.Gm_mono (fun i _ hi => by simp at hi; exact hi.1) h
    simp only [h4, if_true] at h3
    have h6 : M.sel false ((s0 G H gn).L g) = 0 := rfl
    rw [h6] at h3
    omega
  rw [hU] at h1 ⊢
  omega
/-- the bounds of what is left -/
theorem left_bounds (ok : Ok gn bn G H) (hp : lpd gn bn G H = true) {g : Nat} (hg : g < gn) : 0 ≤ leftSp gn bn G H g 0 ∧ leftSp gn bn G H g 0 ≤ leftSp gn bn G H g 1 ∧ leftSp gn bn G H g 1 ≤ G g 2 := by
  have hG := (ok.2.2.1 g hg).2.2.2.2.1
  have hu : 0 ≤ M.usedTo bn G H g := (usedTo_bd ok.2.1 (fun i hi => ⟨(ok.2.2.2 i hi).2.2.2.2.1, (ok.2.2.2 i hi).2.2.2.2.2⟩) g (Nat.le_refl _)).1
  have e0 : leftSp gn bn G H g 0 = max 0 (G g 2 - M.usedTo bn G H g) := rfl
  have e1 : leftSp gn bn G H g 1 = M.highTo gn bn G H g (2 ^ bn) := rfl
  rw [e0, e1]
  refine ⟨by omega, ?_, (highTo_le g _).1⟩
  rcases highTo_at (gn := gn) (bn := bn) (G := G) (H := H) g (2 ^ bn) with h | ⟨s, hs, h1, h2⟩
  · rw [h]; omega
  · rw [h2]
    have h3 := lpd_iff.1 hp s hs
    have h4 := spare_used ok hp hg s h1
    omega
/-- with any payments what is left lies within them -/
theorem left_any {rn : Nat} {rm : Nat → Nat} {O : Nat → Nat → Int} (h : M.payB rn rm gn bn G H O = true) {g : Nat} (hg : g < gn) :
    leftSp gn bn G H g 0 ≤ G g 2 - M.sumTo bn (fun i => O i g) ∧ G g 2 - M.sumTo bn (fun i => O i g) ≤ leftSp gn bn G H g 1 := by
  have hF := (payB_FP h).2.2
  have hcol : M.sumTo bn (fun i => O i g) ≤ G g 2 := hF.2.2.2 g hg
  have hnn : 0 ≤ M.sumTo bn (fun i => O i g) := M.sumTo_nn fun i hi => hF.1 i hi g hg
  constructor
  · show max 0 (G g 2 - M.usedTo bn G H g) ≤ _
    have : M.sumTo bn (fun i => O i g) ≤ M.usedTo bn G H g := by
      refine M.sumTo_le fun i hi => ?_
      cases hs : M.srv G H g i
      · rw [hF.2.1 i hi g hg (by rw [ub_srv hg]; exact hs)]; exact Int.le_refl _
      · have h1 := M.sumTo_one (f := O i) hg fun j hj => hF.1 i hi j hj
        rw [hF.2.2.1 i hi] at h1
        exact h1
    omega
  · show _ ≤ M.highTo gn bn G H g (2 ^ bn)
    rcases highTo_at (gn := gn) (bn := bn) (G := G) (H := H) g (2 ^ bn) with h1 | ⟨s, _, h1, h2⟩
    · rw [h1]; omega
    · rw [h2, spare_mny]
      rw [helps_Gm hg] at h1
      obtain ⟨p, hpp⟩ : ∃ p, p = fun i => M.bt (s : Int) i := ⟨_, rfl⟩
      rw [← hpp] at h1 ⊢
      unfold M.mny
      have h3 : M.sumTo bn (fun i => M.sel (p i) ((s0 G H gn).N i)) = M.sumTo gn fun j => M.sumTo bn fun i => M.sel (p i) (O i j) := by
        rw [← M.sumTo_swap]
        refine M.sumTo_congr fun i hi => ?_
        rw [← hF.2.2.1 i hi, M.sel_sum]
      rw [h3]
      have h4 := M.sumTo_upd (n := gn) (k := g) (f := fun j => M.sel (M.Gm bn (M.ubOf (s0 G H gn).U) p j) ((s0 G H gn).L j))
        (f' := fun j => if j = g then M.sumTo bn (fun i => O i g) else M.sel (M.Gm bn (M.ubOf (s0 G H gn).U) p j) ((s0 G H gn).L j)) hg (fun j _ hne => by simp [hne])
      have h5 : M.sumTo gn (fun j => M.sumTo bn fun i => M.sel (p i) (O i j)) ≤ M.sumTo gn (fun j => if j = g then M.sumTo bn (fun i => O i g) else M.sel (M.Gm bn (M.ubOf (s0 G H gn).U) p j) ((s0 G H gn).L j)) := by
        refine M.sumTo_le fun j hj => ?_
        have hle : M.sumTo bn (fun i => M.sel (p i) (O i j)) ≤ M.sumTo bn fun i => O i j := M.sumTo_le fun i hi => by
          have := hF.1 i hi j hj
          unfold M.sel; split <;> omega
        by_cases e : j = g
        · subst e; simp only [if_true]; exact hle
        · simp only [e, if_false]
          cases hG : M.Gm bn (M.ubOf (s0 G H gn).U) p j
          · refine Int.le_of_eq (M.sumTo_zero fun i hi => ?_)
            unfold M.sel
            split
            · rename_i hpi
              refine hF.2.1 i hi j hj (Bool.eq_false_iff.2 fun hu => ?_)
              rw [M.Gm_iff.2 ⟨i, hi, hpi, hu⟩] at hG
              cases hG
            · rfl
          · exact Int.le_trans hle (hF.2.2.2 j hj)
      simp only [h1, if_true] at h4
      simp only [M.sel] at h4 h5 ⊢
      simp at h4
      have hLg : (s0 G H gn).L g = G g 2 := rfl
      omega
/-- so much less of a gift -/
theorem spare_less {g : Nat} (hg : g < gn) (x : Int) (s : Int) : M.spareF gn bn (set2 G g 2 (G g 2 - x)) H s = M.spareF gn bn G H s - M.sel (M.helpsF bn G H g s) x := by
  have hh : ∀ j, M.helpsF bn (set2 G g 2 (G g 2 - x)) H j s = M.helpsF bn G H j s := fun j => M.anyTo_congr fun i _ => by
    have : M.srv (set2 G g 2 (G g 2 - x)) H j i = M.srv G H j i := by simp [M.srv, set2]
    rw [this]
  unfold M.spareF M.haveF
  rw [M.sumTo_upd (n := gn) (k := g) (f := fun j => M.sel (M.helpsF bn G H j s) (G j 2)) hg (fun j _ hne => by rw [hh]; simp [set2, hne])]
  rw [hh]
  cases M.helpsF bn G H g s <;> simp [M.sel, set2] <;> omega
theorem less_ok (hp : lpd gn bn G H = true) {g : Nat} (hg : g < gn) : lpd gn bn (set2 G g 2 (G g 2 - leftSp gn bn G H g 1)) H = true := by
  refine lpd_iff.2 fun s hs => ?_
  rw [spare_less hg]
  have h1 := lpd_iff.1 hp s hs
  cases hh : M.helpsF bn G H g s
  · simp only [M.sel]; simp; exact h1
  · have := (highTo_le (gn := gn) (bn := bn) (G := G) (H := H) g (2 ^ bn)).2 s hs hh
    show 0 ≤ _ - M.highTo gn bn G H g (2 ^ bn)
    omega
theorem less_not {g : Nat} (hg : g < gn) (h : 0 < G g 2 - leftSp gn bn G H g 1) : lpd gn bn (set2 G g 2 (G g 2 - leftSp gn bn G H g 1 - 1)) H = false := by
  refine Bool.eq_false_iff.2 fun h2 => ?_
  have h3 : leftSp gn bn G H g 1 = M.highTo gn bn G H g (2 ^ bn) := rfl
  rcases highTo_at (gn := gn) (bn := bn) (G := G) (H := H) g (2 ^ bn) with h4 | ⟨s, hs, h5, h6⟩
  · omega
  · have h7 := lpd_iff.1 h2 s hs
    rw [show G g 2 - leftSp gn bn G H g 1 - 1 = G g 2 - (leftSp gn bn G H g 1 + 1) by omega, spare_less hg, h5] at h7
    simp only [M.sel] at h7
    simp at h7
    omega
theorem less_okF (ok : Ok gn bn G H) {g : Nat} (hg : g < gn) {x : Int} (hx : 0 ≤ x ∧ x ≤ 1000000) : M.okF gn bn (set2 G g 2 x) H = true := by
  refine M.okF_iff.2 ⟨ok.1, ok.2.1, fun j hj => ?_, ok.2.2.2⟩
  have := ok.2.2.1 j hj
  by_cases e : j = g
  · subst e; simp [set2]; omega
  · simp [set2, e]; omega
end
end Go.Proofs.YtaljmlkapbojeaaDoor
