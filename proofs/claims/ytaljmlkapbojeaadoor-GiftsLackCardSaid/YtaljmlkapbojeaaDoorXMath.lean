/- Some of the bills by themselves; what Short names. Plain, no program. -/
import Derived.Test.YtaljmlkapbojeaaDoorTMath
namespace Go.Proofs.YtaljmlkapbojeaaDoor
open Go.RowKit

abbrev natsL (l : List Nat) : Nat → Int := fun i => (l.getD i 0 : Nat)
theorem sum_elP (P : Nat → Bool) (r : Nat → Bool) (g : Nat → Int) (n : Nat) : M.sumTo (M.elP n P).length (fun a => M.sel (r a) (g ((M.elP n P).getD a 0))) = M.sumTo n fun i => M.sel (P i && r (M.elP i P).length) (g i) := by
  induction n with
  | zero => rfl
  | succ n ih =>
    have e := M.elP_succ n P
    cases hP : P n
    · rw [hP] at e
      simp only [Bool.false_eq_true, if_false, List.append_nil] at e
      rw [e, ih]
      simp [M.sumTo, hP, M.sel]
    · rw [hP] at e
      simp only [if_true] at e
      rw [e, List.length_append]
      show M.sumTo ((M.elP n P).length + 1) _ = _
      simp only [M.sumTo]
      rw [← ih]
      congr 1
      · refine M.sumTo_congr fun a ha => ?_
        simp [List.getElem?_append_left ha]
      · simp [hP]
theorem any_elP (P : Nat → Bool) (r : Nat → Bool) (g : Nat → Bool) (n : Nat) : M.anyTo (M.elP n P).length (fun a => r a && g ((M.elP n P).getD a 0)) = M.anyTo n fun i => (P i && r (M.elP i P).length) && g i := by
  induction n with
  | zero => rfl
  | succ n ih =>
    have e := M.elP_succ n P
    cases hP : P n
    · rw [hP] at e
      simp only [Bool.false_eq_true, if_false, List.append_nil] at e
      rw [e, ih]
      simp [M.anyTo, hP]
    · rw [hP] at e
      simp only [if_true] at e
      rw [e, List.length_append]
      show M.anyTo ((M.elP n P).length + 1) _ = _
      simp only [M.anyTo]
      rw [← ih]
      congr 1
      · refine M.anyTo_congr fun a ha => ?_
        simp [List.getElem?_append_left ha]
      · simp [hP]
/-- the bills of a list -/
def someH (H : Nat → Nat → Int) (l : List Nat) : Nat → Nat → Int := fun a c => H (l.getD a 0) c
section
variable {gn bn : Nat} {G H : Nat → Nat → Int}
theorem sub_set (P : Nat → Bool) (r : Nat) : ∃ s : Nat, s < 2 ^ bn ∧ (∀ i, i < bn → s.testBit i = true → P i = true) ∧ M.spareF gn (M.elP bn P).length G (someH H (M.elP bn P)) r = M.spareF gn bn G H s := by
  obtain ⟨s, hs, hb⟩ := M.bitsOf (fun i => P i && r.testBit (M.elP i P).length) bn
  refine ⟨s, hs, fun i hi h => by rw [hb i hi] at h; simp only [Bool.and_eq_true] at h; exact h.1, ?_⟩
  have h1 : M.needsF (M.elP bn P).length (someH H (M.elP bn P)) r = M.needsF bn H s := by
    unfold M.needsF someH
    have h2 := sum_elP P (fun a => M.bt (r : Int) a) (fun i => H i 2) bn
    refine h2.trans (M.sumTo_congr fun i hi => ?_)
    rw [M.bt_nat s i, hb i hi, M.bt_nat]
  have h3 : ∀ g, M.helpsF (M.elP bn P).length G (someH H (M.elP bn P)) g r = M.helpsF bn G H g s := fun g => by
    unfold M.helpsF
    have h2 := any_elP P (fun a => M.bt (r : Int) a) (fun i => M.srv G H g i) bn
    refine Eq.trans ?_ (h2.trans (M.anyTo_congr fun i hi => ?_))
    · rfl
    · rw [M.bt_nat s i, hb i hi, M.bt_nat]
  unfold M.spareF M.haveF
  rw [h1, M.sumTo_congr fun g _ => by rw [h3 g]]
theorem sub_paid (hp : lpd gn bn G H = true) (P : Nat → Bool) : lpd gn (M.elP bn P).length G (someH H (M.elP bn P)) = true := by
  rw [lpd_iff] at hp ⊢
  intro r _
  obtain ⟨s, hs, _, e⟩ := sub_set (gn := gn) (bn := bn) (G := G) (H := H) P r
  rw [e]; exact hp s hs
theorem sub_lack {t : Nat} (ht : M.lackTo gn bn G H (2 ^ bn) = some t) (P : Nat → Bool) (h : lpd gn (M.elP bn P).length G (someH H (M.elP bn P)) = false) : M.soonB (M.elP bn P).length (M.elL bn t).length (natsL (M.elP bn P)) (natsL (M.elL bn t)) = false := by
  have h1 : ¬ ∀ r : Nat, r < 2 ^ (M.elP bn P).length → 0 ≤ M.spareF gn (M.elP bn P).length G (someH H (M.elP bn P)) r := fun hh => by rw [lpd_iff.2 hh] at h; cases h
  have h1' : ∃ r : Nat, ¬ (r < 2 ^ (M.elP bn P).length → 0 ≤ M.spareF gn (M.elP bn P).length G (someH H (M.elP bn P)) r) := by
    refine Classical.byContradiction fun hne => h1 fun r hr => ?_
    exact Classical.byContradiction fun h2 => hne ⟨r, fun h3 => h2 (h3 hr)⟩
  obtain ⟨r, hr⟩ := h1'
  have hr2 : M.spareF gn (M.elP bn P).length G (someH H (M.elP bn P)) r < 0 := by
    refine Classical.byContradiction fun h2 => hr fun _ => by omega
  obtain ⟨s, hs, hsub, e⟩ := sub_set (gn := gn) (bn := bn) (G := G) (H := H) P r
  rw [e] at hr2
  have h3 := ((lack_inv (gn := gn) (bn := bn) (G := G) (H := H) (2 ^ bn)).2 t ht).2.2 s hs hr2
  have hsl : (M.elL bn s).Sublist (M.elP bn P) := by
    have : M.elL bn s = (M.elP bn P).filter fun i => s.testBit i := by
      unfold M.elL M.elP
      rw [List.filter_filter]
      refine List.filter_congr fun i hi => ?_
      have hi := List.mem_range.1 hi
      cases hb : s.testBit i
      · simp
      · simp [hsub i hi hb]
    rw [this]
    exact List.filter_sublist
  by_cases hl : (M.elP bn P).length = (M.elL bn s).length
  · have he := hsl.eq_of_length hl.symm
    rw [← he]
    exact h3
  · have hlt : (M.elL bn s).length < (M.elP bn P).length := by have := hsl.length_le; omega
    have h4 : ¬ (M.elL bn s).length < (M.elL bn t).length := fun h5 => by rw [soonS_lt h5] at h3; cases h3
    unfold M.soonB
    rw [if_neg (by omega)]
    exact decide_eq_false (by omega)
theorem sub_ok (ok : Ok gn bn G H) (P : Nat → Bool) : M.okF gn (M.elP bn P).length G (someH H (M.elP bn P)) = true := by
  refine M.okF_iff.2 ⟨ok.1, by have := M.elP_len bn P; have := ok.2.1; omega, ok.2.2.1, fun a ha => ?_⟩
  obtain ⟨s, hs, he⟩ := M.elP_set bn P
  have : (M.elP bn P).getD a 0 < bn := by rw [he] at ha ⊢; exact M.elL_lt ha
  exact ok.2.2.2 _ this
theorem need_list (t : Nat) : M.sumTo (M.elL bn t).length (fun i => H ((M.elL bn t).getD i 0) 2) = M.needsF bn H t := by
  have h := sum_elP (fun i => t.testBit i) (fun _ => true) (fun i => H i 2) bn
  refine Eq.trans (Eq.trans ?_ h) (M.sumTo_congr fun i _ => by rw [M.bt_nat]; simp)
  rfl
theorem help_list (t g : Nat) : (M.anyTo (M.elL bn t).length fun i => M.srv G H g ((M.elL bn t).getD i 0)) = M.helpsF bn G H g t := by
  have h := any_elP (fun i => t.testBit i) (fun _ => true) (fun i => M.srv G H g i) bn
  refine Eq.trans (Eq.trans ?_ h) (M.anyTo_congr fun i _ => by rw [M.bt_nat]; simp)
  exact M.anyTo_congr fun i _ => by simp [M.elL, M.elP]
end
end Go.Proofs.YtaljmlkapbojeaaDoor
