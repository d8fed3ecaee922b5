/- The document's payments are the program's. Plain, no program. -/
import Derived.Test.YtaljmlkapbojeaaDoorBMath
import Derived.Test.YtaljmlkapbojeaaDoorMMath
namespace Go.Proofs.YtaljmlkapbojeaaDoor.M

section
variable {ng nb : Nat} {L N : Nat → Int} {ub ub' : Nat → Nat → Bool} {b g : Nat}
/-- the bills of a set behind bill b -/
def aft (b : Nat) (p : Nat → Bool) : Nat → Bool := fun i => p i && decide (b < i)
theorem Gm_aft (hlo : ∀ i, i < b → ∀ j, j < ng → ub i j = false) (hhi : ∀ i, b < i → i < nb → ∀ j, j < ng → ub i j = ub' i j) {p : Nat → Bool} (hp : p b = false) (hg : g < ng) : Gm nb ub p g = Gm nb ub' (aft b p) g := by
  refine anyTo_congr fun i hi => ?_
  unfold aft
  rcases Nat.lt_trichotomy i b with h | h | h
  · simp [hlo i h g hg, show ¬ b < i by omega]
  · subst h; simp [hp]
  · simp [hhi i h hi g hg, h]
theorem need_aft (hz : ∀ i, i < b → N i = 0) {p : Nat → Bool} (hp : p b = false) : sumTo nb (fun i => sel (p i) (N i)) = sumTo nb fun i => sel (aft b p i) (N i) := by
  refine sumTo_congr fun i _ => ?_
  unfold aft
  rcases Nat.lt_trichotomy i b with h | h | h
  · simp [hz i h, show ¬ b < i by omega, sel]
  · subst h; simp [hp, sel]
  · simp [h]
theorem mny_aft (hlo : ∀ i, i < b → ∀ j, j < ng → ub i j = false) (hhi : ∀ i, b < i → i < nb → ∀ j, j < ng → ub i j = ub' i j) (hz : ∀ i, i < b → N i = 0) {p : Nat → Bool} (hp : p b = false) : mny ng nb L N ub p = mny ng nb L N ub' (aft b p) := by
  unfold mny
  rw [need_aft hz hp]
  congr 1
  exact sumTo_congr fun k hk => by rw [Gm_aft hlo hhi hp hk]
theorem mny_more (hL : ∀ k, k < ng → 0 ≤ L k) (hz : ∀ i, i < b → N i = 0) (hg : g < ng) {p : Nat → Bool} (hp : p b = false) : mny ng nb L N ub' (aft b p) + sel (Gm nb ub' p g && !Gm nb ub' (aft b p) g) (L g) ≤ mny ng nb L N ub' p := by
  have hm : ∀ k, Gm nb ub' (aft b p) k = true → Gm nb ub' p k = true := fun k h => Gm_mono (fun i _ hi => by unfold aft at hi; rw [Bool.and_eq_true] at hi; exact hi.1) h
  unfold mny
  rw [need_aft hz hp]
  have h1 := sumTo_upd (n := ng) (k := g) (f := fun k => sel (Gm nb ub' (aft b p) k) (L k)) (f' := fun k => if k = g then sel (Gm nb ub' p g) (L g) else sel (Gm nb ub' (aft b p) k) (L k)) hg (fun i _ hne => by simp [hne])
  have h2 : sumTo ng (fun k => if k = g then sel (Gm nb ub' p g) (L g) else sel (Gm nb ub' (aft b p) k) (L k)) ≤ sumTo ng fun k => sel (Gm nb ub' p k) (L k) := sumTo_le fun k hk => by
    split
    · subst_vars; exact Int.le_refl _
    · exact sel_le (hL k hk) (hm k)
  simp only [if_true] at h1
  have h3 : sel (Gm nb ub' p g && !Gm nb ub' (aft b p) g) (L g) = sel (Gm nb ub' p g) (L g) - sel (Gm nb ub' (aft b p) g) (L g) := by
    cases e : Gm nb ub' (aft b p) g
    · simp [sel]
    · rw [hm g e]; simp [sel]
  omega
end

section
variable {ng nb : Nat} {s : St}
theorem paySt_before (h : Inv ng nb s) {i : Nat} : ∀ b, b ≤ nb → i < b → (paySt ng nb s b).N i = 0 ∧ ∀ j, j < ng → ubOf (paySt ng nb s b).U i j = false
  | 0, _, hi => absurd hi (by omega)
  | b + 1, hb, hi => by
    by_cases e : i = b
    · subst e
      have h1 := rowSt_N (ng := ng) (nb := nb) (s := paySt ng nb s i) (b := i) ng
      have h2 := row_paid (h.pay i (by omega)) (b := i) (by omega)
      refine ⟨by show (rowSt ng nb (paySt ng nb s i) i ng).N i = 0; omega, fun j hj => ?_⟩
      show ((rowSt ng nb (paySt ng nb s i) i ng).U i).testBit j = false
      rw [rowSt_U]; simp [hj]
    · have h1 := rowSt_other (ng := ng) (nb := nb) (s := paySt ng nb s b) (b := b) (i := i) e ng
      have ih := paySt_before h (i := i) b (by omega) (by omega)
      refine ⟨h1.1.trans ih.1, fun j hj => ?_⟩
      show ((rowSt ng nb (paySt ng nb s b) b ng).U i).testBit j = false
      rw [h1.2]
      exact ih.2 j hj
end
end Go.Proofs.YtaljmlkapbojeaaDoor.M
namespace Go.Proofs.YtaljmlkapbojeaaDoor
open Go.RowKit

/-- how much can be used of a gift for a bill, by the document -/
def M.rmostTo (gn bn : Nat) (G H : Nat → Nat → Int) (b g : Nat) : Nat → Int
  | 0 => min (G g 2) (H b 2)
  | s + 1 => if M.bt s b then M.rmostTo gn bn G H b g s else if M.helpsF bn G H g s then min (M.rmostTo gn bn G H b g s) (M.spareF gn bn G H s) else M.rmostTo gn bn G H b g s
def M.rmostF (gn bn : Nat) (G H : Nat → Nat → Int) (b g : Nat) : Int := if M.srv G H g b then M.rmostTo gn bn G H b g (2 ^ bn) else 0
/-- with other amounts -/
def gAm (G : Nat → Nat → Int) (L : Nat → Int) : Nat → Nat → Int := fun k c => if c = 2 then L k else G k c

section
variable {gn bn : Nat} {G H : Nat → Nat → Int}
theorem rmostTo_le (b g q : Nat) : M.rmostTo gn bn G H b g q ≤ G g 2 ∧ M.rmostTo gn bn G H b g q ≤ H b 2 ∧ ∀ s : Nat, s < q → M.bt s b = false → M.helpsF bn G H g s = true → M.rmostTo gn bn G H b g q ≤ M.spareF gn bn G H s := by
  induction q with
  | zero => exact ⟨by simp only [M.rmostTo]; omega, by simp only [M.rmostTo]; omega, fun s hs => absurd hs (by omega)⟩
  | succ q ih =>
    obtain ⟨h1, h2, h3⟩ := ih
    simp only [M.rmostTo]
    split
    · refine ⟨h1, h2, fun s hs hb hg => ?_⟩
      rcases Nat.lt_succ_iff_lt_or_eq.1 hs with h | h
      · exact h3 s h hb hg
      · subst h; simp_all
    · split
      · refine ⟨by omega, by omega, fun s hs hb hg => ?_⟩
        rcases Nat.lt_succ_iff_lt_or_eq.1 hs with h | h
        · have := h3 s h hb hg; omega
        · subst h; omega
      · refine ⟨h1, h2, fun s hs hb hg => ?_⟩
        rcases Nat.lt_succ_iff_lt_or_eq.1 hs with h | h
        · exact h3 s h hb hg
        · subst h; simp_all
theorem rmostTo_at (b g q : Nat) : M.rmostTo gn bn G H b g q = G g 2 ∨ M.rmostTo gn bn G H b g q = H b 2 ∨ ∃ s : Nat, s < q ∧ M.bt s b = false ∧ M.helpsF bn G H g s = true ∧ M.rmostTo gn bn G H b g q = M.spareF gn bn G H s := by
  induction q with
  | zero => simp only [M.rmostTo]; omega
  | succ q ih =>
    have up : M.rmostTo gn bn G H b g q = G g 2 ∨ M.rmostTo gn bn G H b g q = H b 2 ∨ ∃ s : Nat, s < q + 1 ∧ M.bt s b = false ∧ M.helpsF bn G H g s = true ∧ M.rmostTo gn bn G H b g q = M.spareF gn bn G H s := by
      rcases ih with h | h | ⟨s, hs, h⟩
      · exact .inl h
      · exact .inr (.inl h)
      · exact .inr (.inr ⟨s, by omega, h⟩)
    simp only [M.rmostTo]
    split
    · exact up
    · split
      · rename_i h1 h2
        by_cases hlt : M.spareF gn bn G H q < M.rmostTo gn bn G H b g q
        · rw [Int.min_eq_right (by omega)]
          exact .inr (.inr ⟨q, by omega, by simpa using h1, h2, rfl⟩)
        · rw [Int.min_eq_left (by omega)]
          exact up
      · exact up
theorem rmost_bd {b g : Nat} (hG : 0 ≤ G g 2 ∧ G g 2 ≤ 1000000) (hH : 0 ≤ H b 2 ∧ H b 2 ≤ 1000000) (h : ∀ s : Int, -8000000 ≤ M.spareF gn bn G H s ∧ M.spareF gn bn G H s ≤ 10000000) (q : Nat) : -8000000 ≤ M.rmostTo gn bn G H b g q ∧ M.rmostTo gn bn G H b g q ≤ 1000000 := by
  have h1 := rmostTo_le (gn := gn) (bn := bn) (G := G) (H := H) b g q
  rcases rmostTo_at (gn := gn) (bn := bn) (G := G) (H := H) b g q with h2 | h2 | ⟨s, _, _, _, h2⟩
  · omega
  · omega
  · have := h s; omega
theorem gAm_srv (L N : Nat → Int) (g i : Nat) : M.srv (gAm G L) (gAm H N) g i = M.srv G H g i := by simp [M.srv, gAm]
/-- what is spare, in the program's words -/
theorem spare_am (L N : Nat → Int) (s : Int) : M.spareF gn bn (gAm G L) (gAm H N) s = M.mny gn bn L N (fun i g => M.srv G H g i) fun i => M.bt s i := by
  unfold M.spareF M.haveF M.needsF M.mny
  congr 1
theorem helps_am (L N : Nat → Int) (g : Nat) (s : Int) : M.helpsF bn (gAm G L) (gAm H N) g s = M.Gm bn (fun i g => M.srv G H g i) (fun i => M.bt s i) g := by
  unfold M.helpsF M.Gm
  exact M.anyTo_congr fun i _ => by rw [gAm_srv]
theorem M.Gm_congr {nb : Nat} {ub : Nat → Nat → Bool} {p q : Nat → Bool} {g : Nat} (h : ∀ i, i < nb → p i = q i) : M.Gm nb ub p g = M.Gm nb ub q g := M.anyTo_congr fun i hi => by rw [h i hi]

/-- the state before place (b, g) -/
abbrev stAt (gn bn : Nat) (G H : Nat → Nat → Int) (b g : Nat) : M.St := M.rowSt gn bn (M.paySt gn bn (s0 G H gn) b) b g
theorem rmost_pay (ok : Ok gn bn G H) (hp : lpd gn bn G H = true) {b g : Nat} (hb : b < bn) (hg : g < gn) : M.rmostF gn bn (gAm G (stAt gn bn G H b g).L) (gAm H (stAt gn bn G H b g).N) b g = M.payAt gn bn (s0 G H gn) b g := by
  have hI := inv_of ok hp
  have hIt := (hI.pay b (by omega)).row hb g (by omega)
  have e : M.payAt gn bn (s0 G H gn) b g = M.mostF gn bn (stAt gn bn G H b g).L (stAt gn bn G H b g).N (stAt gn bn G H b g).U b g := rfl
  rw [e]
  obtain ⟨t, ht⟩ : ∃ t, t = stAt gn bn G H b g := ⟨_, rfl⟩
  have hlo : ∀ i, i < b → ∀ j, j < gn → M.ubOf t.U i j = false := fun i hi j hj => by
    have h1 := M.rowSt_other (ng := gn) (nb := bn) (s := M.paySt gn bn (s0 G H gn) b) (b := b) (i := i) (by omega) g
    have h2 := (M.paySt_before hI (i := i) b (by omega) hi).2 j hj
    rw [ht]; unfold M.ubOf at *; rw [h1.2]; exact h2
  have hz : ∀ i, i < b → t.N i = 0 := fun i hi => by
    have h1 := M.rowSt_other (ng := gn) (nb := bn) (s := M.paySt gn bn (s0 G H gn) b) (b := b) (i := i) (by omega) g
    rw [ht, h1.1]; exact (M.paySt_before hI (i := i) b (by omega) hi).1
  have hhi : ∀ i, b < i → i < bn → ∀ j, j < gn → M.ubOf t.U i j = M.srv G H j i := fun i hi _ j hj => by
    have h1 := M.rowSt_other (ng := gn) (nb := bn) (s := M.paySt gn bn (s0 G H gn) b) (b := b) (i := i) (by omega) g
    have h2 := M.paySt_later (ng := gn) (nb := bn) (s := s0 G H gn) (i := i) b (by omega)
    rw [ht]; unfold M.ubOf; rw [h1.2, h2.2]; exact ub_srv hj
  have hat : M.bt (t.U b) g = M.srv G H g b := by
    rw [M.bt_nat, ht, M.rowSt_U, (M.paySt_later (ng := gn) (nb := bn) (s := s0 G H gn) (i := b) b (Nat.le_refl _)).2]
    have := ub_srv (G := G) (H := H) (gn := gn) (i := b) hg
    unfold M.ubOf at this
    rw [this]; simp
  have hIt' : M.Inv gn bn t := by rw [ht]; exact hIt
  rw [← ht]
  have hL : ∀ k, k < gn → 0 ≤ t.L k := fun k hk => (hIt'.1 k hk).1
  have hF := hIt'.2.2.2
  unfold M.rmostF M.mostF
  rw [gAm_srv, hat]
  by_cases hs : M.srv G H g b = true
  · rw [if_pos hs, if_pos hs]
    have hsrv : ∀ p : Nat → Bool, p b = false → M.mny gn bn t.L t.N (M.ubOf t.U) p = M.mny gn bn t.L t.N (fun i g => M.srv G H g i) (M.aft b p) := fun p hpb => M.mny_aft hlo hhi hz hpb
    have hgm : ∀ p : Nat → Bool, p b = false → M.Gm bn (M.ubOf t.U) p g = M.Gm bn (fun i g => M.srv G H g i) (M.aft b p) g := fun p hpb => M.Gm_aft hlo hhi hpb hg
    have r1 := rmostTo_le (gn := gn) (bn := bn) (G := gAm G t.L) (H := gAm H t.N) b g (2 ^ bn)
    have m1 := M.mostTo_le (ng := gn) (nb := bn) (L := t.L) (N := t.N) (U := t.U) (b := b) (g := g) (2 ^ bn)
    have eL : gAm G t.L g 2 = t.L g := rfl
    have eN : gAm H t.N b 2 = t.N b := rfl
    rw [eL, eN] at r1
    refine Int.le_antisymm ?_ ?_
    · rcases M.mostTo_at (ng := gn) (nb := bn) (L := t.L) (N := t.N) (U := t.U) (b := b) (g := g) (2 ^ bn) with h | h | ⟨s, hs, hsb, hsg, h⟩
      · omega
      · omega
      · rw [h, M.money_eq, hsrv (fun i => M.bt s i) hsb]
        rw [M.gifts_bit, hgm (fun i => M.bt s i) hsb] at hsg
        have r2 := r1.2.2 (M.setOf bn (M.aft b fun i => M.bt s i)) (M.setOf_lt _ _) (by rw [M.setOf_bit hb]; simp [M.aft]) (by rw [helps_am, M.Gm_congr fun i hi => M.setOf_bit hi]; exact hsg)
        rw [spare_am, M.mny_congr (q := M.aft b fun i => M.bt s i) fun i hi => M.setOf_bit hi] at r2
        exact r2
    · rcases rmostTo_at (gn := gn) (bn := bn) (G := gAm G t.L) (H := gAm H t.N) b g (2 ^ bn) with h | h | ⟨s, hs, hsb, hsg, h⟩
      · rw [h, eL]; omega
      · rw [h, eN]; omega
      · rw [h, spare_am]
        rw [helps_am] at hsg
        have h4 := M.mny_more (L := t.L) (N := t.N) (ub' := fun i g => M.srv G H g i) (nb := bn) hL hz hg (p := fun i => M.bt s i) hsb
        rw [hsg] at h4
        cases hga : M.Gm bn (fun i g => M.srv G H g i) (M.aft b fun i => M.bt s i) g
        · rw [hga] at h4
          have h5 := hF fun i => M.bt s i
          rw [hsrv (fun i => M.bt s i) hsb] at h5
          simp only [M.sel, Bool.not_false, Bool.and_true, if_true] at h4
          omega
        · rw [hga] at h4
          have m2 := m1.2.2 s hs hsb (by rw [M.gifts_bit, hgm (fun i => M.bt s i) hsb]; exact hga)
          rw [M.money_eq, hsrv (fun i => M.bt s i) hsb] at m2
          simp only [M.sel, Bool.not_true, Bool.and_false, Bool.false_eq_true, if_false] at h4
          omega
  · rw [if_neg hs, if_neg hs]
end
end Go.Proofs.YtaljmlkapbojeaaDoor
