/- Payments: any payments keep the sets' money, take no more than Pay at the first place, and Pay's are payments. Plain, no program. -/
import Derived.Test.YtaljmlkapbojeaaDoorSMath
namespace Go.Proofs.YtaljmlkapbojeaaDoor.M

theorem sumTo_zero {n : Nat} {f : Nat → Int} (h : ∀ i, i < n → f i = 0) : sumTo n f = 0 := by
  induction n with
  | zero => rfl
  | succ n ih => simp only [sumTo]; rw [ih fun i hi => h i (by omega), h n (by omega)]; rfl
theorem sumTo_swap (n m : Nat) (f : Nat → Nat → Int) : sumTo n (fun i => sumTo m fun j => f i j) = sumTo m fun j => sumTo n fun i => f i j := by
  induction n with
  | zero => exact (sumTo_zero fun _ _ => rfl).symm
  | succ n ih => simp only [sumTo]; rw [ih, sumTo_add]
theorem sumTo_nn {n : Nat} {f : Nat → Int} (h : ∀ i, i < n → 0 ≤ f i) : 0 ≤ sumTo n f := by
  have := sumTo_le (n := n) (f := fun _ => 0) (g := f) h
  rw [sumTo_zero fun _ _ => rfl] at this
  exact this
theorem sumTo_one {n k : Nat} {f : Nat → Int} (hk : k < n) (h : ∀ i, i < n → 0 ≤ f i) : f k ≤ sumTo n f := by
  induction n with
  | zero => omega
  | succ n ih =>
    simp only [sumTo]
    rcases Nat.lt_succ_iff_lt_or_eq.1 hk with h1 | h1
    · have := ih h1 fun i hi => h i (by omega)
      have := h n (by omega)
      omega
    · subst h1
      have := sumTo_nn (n := k) fun i hi => h i (by omega)
      omega
theorem sel_sum {c : Bool} {n : Nat} {f : Nat → Int} : sel c (sumTo n f) = sumTo n fun i => sel c (f i) := by
  cases c
  · exact (sumTo_zero fun _ _ => rfl).symm
  · rfl

/-- amounts that are left to pay -/
def FP (ng nb : Nat) (L N : Nat → Int) (ub : Nat → Nat → Bool) (R : Nat → Nat → Int) : Prop :=
  (∀ i, i < nb → ∀ g, g < ng → 0 ≤ R i g) ∧ (∀ i, i < nb → ∀ g, g < ng → ub i g = false → R i g = 0) ∧ (∀ i, i < nb → sumTo ng (R i) = N i) ∧ (∀ g, g < ng → sumTo nb (fun i => R i g) ≤ L g)

section
variable {ng nb : Nat} {L N : Nat → Int} {ub : Nat → Nat → Bool} {R : Nat → Nat → Int}
/-- what the bills of a set need comes from their gifts; so much more is taken from these by another bill -/
theorem FP.money (h : FP ng nb L N ub R) (p : Nat → Bool) (b : Nat) (hb : b < nb) (hp : p b = false) : sumTo ng (fun g => sel (Gm nb ub p g) (R b g)) ≤ mny ng nb L N ub p := by
  unfold mny
  have h1 : sumTo nb (fun i => sel (p i) (N i)) = sumTo ng fun g => sumTo nb fun i => sel (p i) (R i g) := by
    rw [← sumTo_swap]
    refine sumTo_congr fun i hi => ?_
    rw [← h.2.2.1 i hi, sel_sum]
  rw [h1]
  have h2 : sumTo ng (fun g => sel (Gm nb ub p g) (R b g)) + sumTo ng (fun g => sumTo nb fun i => sel (p i) (R i g)) ≤ sumTo ng fun g => sel (Gm nb ub p g) (L g) := by
    rw [sumTo_add]
    refine sumTo_le fun g hg => ?_
    by_cases hG : Gm nb ub p g = true
    · rw [hG]
      refine Int.le_trans ?_ (h.2.2.2 g hg)
      show R b g + _ ≤ _
      have h3 := sumTo_upd (n := nb) (k := b) (f := fun i => sel (p i) (R i g)) (f' := fun i => if i = b then R b g else sel (p i) (R i g)) hb (fun i _ hne => by simp [hne])
      have h4 : sumTo nb (fun i => if i = b then R b g else sel (p i) (R i g)) ≤ sumTo nb fun i => R i g := sumTo_le fun i hi => by
        by_cases e : i = b
        · subst e; simp
        · simp only [e, if_false]
          have := h.1 i hi g hg
          unfold sel; split <;> omega
      simp only [hp, if_true] at h3
      unfold sel at h3 ⊢
      simp at h3 ⊢
      unfold sel at h4
      omega
    · have hG' : Gm nb ub p g = false := by simpa using hG
      rw [hG']
      show 0 + _ ≤ (0 : Int)
      have : sumTo nb (fun i => sel (p i) (R i g)) = 0 := sumTo_zero fun i hi => by
        unfold sel
        split
        · rename_i hpi
          refine h.2.1 i hi g hg (Bool.eq_false_iff.2 fun hu => hG (Gm_iff.2 ⟨i, hi, hpi, hu⟩))
        · rfl
      omega
  omega
theorem FP.feas (h : FP ng nb L N ub R) : Feas ng nb L N ub := by
  intro p
  unfold mny
  have h1 : sumTo nb (fun i => sel (p i) (N i)) = sumTo ng fun g => sumTo nb fun i => sel (p i) (R i g) := by
    rw [← sumTo_swap]
    refine sumTo_congr fun i hi => ?_
    rw [← h.2.2.1 i hi, sel_sum]
  rw [h1]
  have h2 : sumTo ng (fun g => sumTo nb fun i => sel (p i) (R i g)) ≤ sumTo ng fun g => sel (Gm nb ub p g) (L g) := by
    refine sumTo_le fun g hg => ?_
    by_cases hG : Gm nb ub p g = true
    · rw [hG]
      refine Int.le_trans (sumTo_le fun i hi => ?_) (h.2.2.2 g hg)
      have := h.1 i hi g hg
      unfold sel; split <;> omega
    · have hG' : Gm nb ub p g = false := by simpa using hG
      rw [hG']
      show _ ≤ (0 : Int)
      have : sumTo nb (fun i => sel (p i) (R i g)) = 0 := sumTo_zero fun i hi => by
        unfold sel
        split
        · rename_i hpi
          refine h.2.1 i hi g hg (Bool.eq_false_iff.2 fun hu => hG (Gm_iff.2 ⟨i, hi, hpi, hu⟩))
        · rfl
      omega
  omega
end

section
variable {ng nb : Nat} {s : St} {R : Nat → Nat → Int}
theorem FP.le_most (h : FP ng nb s.L s.N (ubOf s.U) R) {b g : Nat} (hb : b < nb) (hg : g < ng) : R b g ≤ mostS ng nb s b g := by
  unfold mostS mostF
  by_cases hu : bt (s.U b) g = true
  · rw [if_pos hu]
    have rb := sumTo_one (f := R b) hg (fun j hj => h.1 b hb j hj)
    rw [h.2.2.1 b hb] at rb
    have rg := sumTo_one (f := fun i => R i g) hb (fun i hi => h.1 i hi g hg)
    have rg' := h.2.2.2 g hg
    rcases mostTo_at (ng := ng) (nb := nb) (L := s.L) (N := s.N) (U := s.U) (b := b) (g := g) (2 ^ nb) with h4 | h4 | ⟨t, _, h5, h6, h4⟩
    · rw [h4]; exact rb
    · rw [h4]; exact Int.le_trans rg rg'
    · rw [h4, money_eq]
      refine Int.le_trans ?_ (h.money _ b hb h5)
      have := sumTo_one (f := fun j => sel (Gm nb (ubOf s.U) (fun i => bt t i) j) (R b j)) hg (fun j hj => by have := h.1 b hb j hj; unfold sel; split <;> omega)
      rw [gifts_bit] at h6
      simp only [h6] at this
      exact this
  · rw [if_neg hu]
    have : ubOf s.U b g = false := by rw [bt_nat] at hu; simpa [ubOf] using hu
    rw [h.2.1 b hb g hg this]
    exact Int.le_refl _
def zero2 (R : Nat → Nat → Int) (b g : Nat) : Nat → Nat → Int := fun i j => if i = b ∧ j = g then 0 else R i j
theorem FP.step (h : FP ng nb s.L s.N (ubOf s.U) R) {b g : Nat} (hb : b < nb) (hg : g < ng) (hm : R b g = mostS ng nb s b g) : FP ng nb (step ng nb s b g).L (step ng nb s b g).N (ubOf (step ng nb s b g).U) (zero2 R b g) := by
  refine ⟨fun i hi j hj => ?_, fun i hi j hj hu => ?_, fun i hi => ?_, fun j hj => ?_⟩
  · unfold zero2; split
    · exact Int.le_refl _
    · exact h.1 i hi j hj
  · unfold zero2; split
    · rfl
    · rename_i hne
      refine h.2.1 i hi j hj ?_
      simp only [M.step, ub_step, clrB] at hu
      by_cases e : i = b
      · by_cases e2 : j = g
        · exact absurd ⟨e, e2⟩ hne
        · simpa [e2] using hu
      · simpa [e] using hu
  · simp only [M.step, setI]
    by_cases e : i = b
    · subst e
      rw [if_pos rfl, ← hm, ← h.2.2.1 i hi, sumTo_upd (f := R i) hg (fun j _ hne => by simp [zero2, hne])]
      simp [zero2]
      omega
    · rw [if_neg e, ← h.2.2.1 i hi]
      exact sumTo_congr fun j _ => by simp [zero2, e]
  · simp only [M.step, setI]
    by_cases e : j = g
    · subst e
      rw [if_pos rfl, ← hm, sumTo_upd (f := fun i => R i j) hb (fun i _ hne => by simp [zero2, hne])]
      have := h.2.2.2 j hj
      simp [zero2]
      omega
    · rw [if_neg e, sumTo_congr (g := fun i => R i j) fun i _ => by simp [zero2, e]]
      exact h.2.2.2 j hj
/-- what has not come yet -/
def rest (b g : Nat) (R : Nat → Nat → Int) : Nat → Nat → Int := fun i j => if i < b ∨ (i = b ∧ j < g) then 0 else R i j
theorem FP.congr {L N : Nat → Int} {ub : Nat → Nat → Bool} {R' : Nat → Nat → Int} (h : FP ng nb L N ub R) (e : ∀ i, i < nb → ∀ j, j < ng → R' i j = R i j) : FP ng nb L N ub R' :=
  ⟨fun i hi j hj => by rw [e i hi j hj]; exact h.1 i hi j hj, fun i hi j hj hu => by rw [e i hi j hj]; exact h.2.1 i hi j hj hu, fun i hi => by rw [sumTo_congr fun j hj => e i hi j hj]; exact h.2.2.1 i hi,
    fun j hj => by rw [sumTo_congr (g := fun i => R i j) fun i hi => e i hi j hj]; exact h.2.2.2 j hj⟩
theorem FP.row {b : Nat} (h : FP ng nb s.L s.N (ubOf s.U) (rest b 0 R)) (hb : b < nb) : ∀ g, g ≤ ng → (∀ j, j < g → R b j = rowAt ng nb s b j) → FP ng nb (rowSt ng nb s b g).L (rowSt ng nb s b g).N (ubOf (rowSt ng nb s b g).U) (rest b g R)
  | 0, _, _ => h
  | g + 1, hg, he => by
    have h1 := FP.row h hb g (by omega) (fun j hj => he j (by omega))
    have h2 : rest b g R b g = R b g := by simp [rest]
    have h3 := h1.step hb (show g < ng by omega) (by rw [h2, he g (by omega)]; rfl)
    refine h3.congr fun i _ j _ => ?_
    unfold rest zero2
    by_cases e : i = b
    · subst e
      by_cases e2 : j = g
      · subst e2; simp
      · by_cases e3 : j < g
        · simp [e3, show j < g + 1 by omega]
        · simp [e2, e3, show ¬ j < g + 1 by omega]
    · simp [e]
theorem FP.pay (h : FP ng nb s.L s.N (ubOf s.U) R) : ∀ b, b ≤ nb → (∀ i, i < b → ∀ j, j < ng → R i j = payAt ng nb s i j) → FP ng nb (paySt ng nb s b).L (paySt ng nb s b).N (ubOf (paySt ng nb s b).U) (rest b 0 R)
  | 0, _, _ => h.congr fun i _ j _ => by simp [rest]
  | b + 1, hb, he => by
    have h1 := FP.pay h b (by omega) (fun i hi => he i (by omega))
    have h2 := FP.row h1 (by omega) ng (Nat.le_refl _) (fun j hj => he b (by omega) j hj)
    refine h2.congr fun i _ j hj => ?_
    unfold rest
    by_cases e : i < b
    · simp [e, show i < b + 1 by omega]
    · by_cases e2 : i = b
      · subst e2; simp [hj]
      · simp [e, e2, show ¬ i < b + 1 by omega]
/-- any other payments take less at the first place -/
theorem FP.lex (h : FP ng nb s.L s.N (ubOf s.U) R) {b g : Nat} (hb : b < nb) (hg : g < ng) (h1 : ∀ i, i < b → ∀ j, j < ng → R i j = payAt ng nb s i j) (h2 : ∀ j, j < g → R b j = payAt ng nb s b j) : R b g ≤ payAt ng nb s b g := by
  have h3 := FP.row (FP.pay h b (by omega) h1) hb g (by omega) h2
  have h4 := h3.le_most hb hg
  have h5 : rest b g R b g = R b g := by simp [rest]
  rw [h5] at h4
  exact h4
end

section
variable {ng nb : Nat} {s : St}
theorem rowSt_other {b i : Nat} (hi : i ≠ b) : ∀ g, (rowSt ng nb s b g).N i = s.N i ∧ (rowSt ng nb s b g).U i = s.U i
  | 0 => ⟨rfl, rfl⟩
  | g + 1 => by
    have := rowSt_other (b := b) hi g
    simp only [rowSt, step, setI, setN, hi, if_false]
    exact this
theorem rowSt_N {b : Nat} : ∀ g, (rowSt ng nb s b g).N b = s.N b - sumTo g (rowAt ng nb s b)
  | 0 => by simp [rowSt, sumTo]
  | g + 1 => by
    have h : (rowSt ng nb s b (g + 1)).N b = (rowSt ng nb s b g).N b - rowAt ng nb s b g := by simp [rowSt, step, setI, rowAt]
    rw [h, rowSt_N g]
    simp only [sumTo]
    omega
theorem rowSt_L {b j : Nat} : ∀ g, (rowSt ng nb s b g).L j = s.L j - (if j < g then rowAt ng nb s b j else 0)
  | 0 => by simp [rowSt]
  | g + 1 => by
    have ih := rowSt_L (b := b) (j := j) g
    by_cases e : j = g
    · subst e
      have h : (rowSt ng nb s b (j + 1)).L j = (rowSt ng nb s b j).L j - rowAt ng nb s b j := by simp [rowSt, step, setI, rowAt]
      rw [h, ih]
      simp
    · have h : (rowSt ng nb s b (g + 1)).L j = (rowSt ng nb s b g).L j := by simp [rowSt, step, setI, e]
      rw [h, ih]
      by_cases e2 : j < g
      · simp [e2, show j < g + 1 by omega]
      · simp [e2, show ¬ j < g + 1 by omega]
theorem rowSt_U {b j : Nat} : ∀ g : Nat, ((rowSt ng nb s b g).U b).testBit j = ((s.U b).testBit j && !decide (j < g))
  | 0 => by simp [rowSt]
  | g + 1 => by
    have h : (rowSt ng nb s b (g + 1)).U b = clrN ((rowSt ng nb s b g).U b) g := by simp [rowSt, step, setN]
    rw [h, clrN_bit, rowSt_U g]
    by_cases e : j = g
    · subst e; simp
    · by_cases e2 : j < g
      · simp [e2, show j < g + 1 by omega]
      · simp [e, e2, show ¬ j < g + 1 by omega]
/-- behind a row its bill is paid -/
theorem row_paid (h : Inv ng nb s) {b : Nat} (hb : b < nb) : sumTo ng (rowAt ng nb s b) = s.N b := by
  have hI := h.row hb ng (Nat.le_refl _)
  have h1 := hI.2.2.2 (fun i => i == b)
  have h2 := (hI.2.1 b hb).1
  have hm : mny ng nb (rowSt ng nb s b ng).L (rowSt ng nb s b ng).N (ubOf (rowSt ng nb s b ng).U) (fun i => i == b) = -(rowSt ng nb s b ng).N b := by
    unfold mny
    rw [sumTo_zero (n := ng) fun g hg => ?_]
    · have : sumTo nb (fun i => sel (i == b) ((rowSt ng nb s b ng).N i)) = (rowSt ng nb s b ng).N b := by
        rw [sumTo_upd (n := nb) (k := b) (f := fun _ => 0) hb (fun i _ hne => by simp [sel, hne]), sumTo_zero fun _ _ => rfl]
        simp [sel]
      rw [this]; omega
    · have : Gm nb (ubOf (rowSt ng nb s b ng).U) (fun i => i == b) g = false := by
        refine Bool.eq_false_iff.2 fun hG => ?_
        obtain ⟨i, _, e, hu⟩ := Gm_iff.1 hG
        have e : i = b := by simpa using e
        subst e
        unfold ubOf at hu
        rw [rowSt_U] at hu
        simp [hg] at hu
      rw [this]; rfl
  rw [hm] at h1
  have h3 := rowSt_N (ng := ng) (nb := nb) (s := s) (b := b) ng
  omega
theorem paySt_later {i : Nat} : ∀ b, b ≤ i → (paySt ng nb s b).N i = s.N i ∧ (paySt ng nb s b).U i = s.U i
  | 0, _ => ⟨rfl, rfl⟩
  | b + 1, hb => by
    have h := paySt_later (i := i) b (by omega)
    have h2 := rowSt_other (ng := ng) (nb := nb) (s := paySt ng nb s b) (b := b) (i := i) (by omega) ng
    exact ⟨h2.1.trans h.1, h2.2.trans h.2⟩
theorem paySt_L {s : St} {j : Nat} (hj : j < ng) : ∀ b : Nat, (paySt ng nb s b).L j = s.L j - sumTo b fun i => payAt ng nb s i j
  | 0 => by simp [paySt, sumTo]
  | b + 1 => by
    have h := paySt_L (s := s) hj b
    have h2 := rowSt_L (ng := ng) (nb := nb) (s := paySt ng nb s b) (b := b) (j := j) ng
    rw [if_pos hj] at h2
    show (rowSt ng nb (paySt ng nb s b) b ng).L j = _
    rw [h2, h]
    simp only [sumTo, payAt]
    omega
/-- Pay's rows are payments -/
theorem pay_FP (h : Inv ng nb s) : FP ng nb s.L s.N (ubOf s.U) (payAt ng nb s) := by
  refine ⟨fun i hi g hg => ?_, fun i hi g hg hu => ?_, fun i hi => ?_, fun g hg => ?_⟩
  · exact (most_bd ((h.pay i (by omega)).row hi g (by omega)) hi hg).1
  · show mostS ng nb (rowSt ng nb (paySt ng nb s i) i g) i g = 0
    unfold mostS mostF
    rw [if_neg]
    rw [bt_nat, rowSt_U, (paySt_later (ng := ng) (nb := nb) (s := s) i (Nat.le_refl _)).2]
    unfold ubOf at hu
    rw [hu]; simp
  · have := row_paid (h.pay i (by omega)) hi
    rw [(paySt_later (ng := ng) (nb := nb) (s := s) i (Nat.le_refl _)).1] at this
    exact this
  · have h1 := (h.pay nb (Nat.le_refl _)).1 g hg
    rw [paySt_L hg] at h1
    omega
theorem payAt_le (h : Inv ng nb s) {i g : Nat} (hi : i < nb) (hg : g < ng) : payAt ng nb s i g ≤ 1000000 := by
  have h1 := (h.pay i (by omega)).row hi g (by omega)
  have h2 := most_bd h1 hi hg
  have h3 := h1.1 g hg
  exact Int.le_trans h2.2.1 h3.2
end
end Go.Proofs.YtaljmlkapbojeaaDoor.M
