/- The reference: Occupied. -/
import Derived.Test.YtkdpmihdhiokkaaDoorR8
import Derived.Test.YtkdpmihdhiokkaaDoorK24
namespace Go.Proofs.YtkdpmihdhiokkaaDoor
open Go.RowKit

theorem occB_L (l : M.Leg) (lv c t : Int) (hc : 0 ≤ c) : occB lv c t l = (decide (l.lv = lv) && (M.occL l.tail (M.atC l (t - 1)) (M.atC l t)).any fun x => decide (x = c)) := by
  unfold occB M.occL M.occ
  apply M.bool_ext
  by_cases hl : l.lv = lv
  · by_cases hq : M.atC l t < 0
    · have : ¬ 0 ≤ M.atC l t := by omega
      simp [hq, this]
    · have h1 : 0 ≤ M.atC l t := by omega
      by_cases hp : 0 ≤ M.atC l (t - 1) <;> cases l.tail <;> simp [hl, hq, h1, hp] <;> omega
  · simp [hl]
theorem any_eq_none {X : List Int} {c : Int} (h : ∀ i, i < X.length → X.getD i 0 ≠ c) : X.any (fun x => decide (x = c)) = false := by
  rw [List.any_eq_false]
  intro x hx
  obtain ⟨i, hi, rfl⟩ := List.getElem_of_mem hx
  have := h i hi
  rw [List.getD_eq_getElem?_getD, List.getElem?_eq_getElem hi, Option.getD_some] at this
  simpa using this
theorem any_eq_some {X : List Int} {c : Int} {i : Nat} (hi : i < X.length) (h : X.getD i 0 = c) : X.any (fun x => decide (x = c)) = true := by
  rw [List.any_eq_true]
  refine ⟨X.getD i 0, ?_, by simpa using h⟩
  rw [List.getD_eq_getElem?_getD, List.getElem?_eq_getElem hi, Option.getD_some]
  exact List.getElem_mem hi
section
variable (lA : Option Addr) (ln lc B : Nat) (L : Nat → M.Leg) (lv c t : Int) (w : World)
set_option maxRecDepth 100000 in
set_option maxHeartbeats 6400000 in
theorem occupied_any (hb : -50 ≤ t ∧ t ≤ 90) (hat : ∀ i, i < ln → -100 ≤ (L i).at_ ∧ (L i).at_ ≤ 100 ∧ (L i).n ≤ 100) (hc : 0 ≤ c) (hR : RdL w B lA ln L) (hB : B ≤ w.heap.size) (hln : ln ≤ maxLen) :
    Calls Tryd.prog 21 #[.slice lA ln lc, .int .i64 lv, .int .i64 c, .int .i64 t] w fun e w' => e = .returned (.bool (M.anyTo ln fun i => occB lv c t (L i))) ∧ Below w.heap.size w w' := by
  have hml : ln ≤ 9223372036854775807 := by unfold maxLen at hln; omega
  have HL := Lib.hid hR
  have HOC := Lib.hid (fun W i cA cc (hi : i < ln) (h : Rd1 W W.heap.size cA (L i).n (L i).c) => occ_any (L i) cc W.heap.size cA t W (by have := hat i hi; omega) (by have := hat i hi; omega) h (Nat.le_refl _))
  have HBB := Lib.hid hB
  have HE := Lib.hid (fun i => occB_L (L i) lv c t hc)
  clear hR hat hB
  go_enter Tryd.func21, Tryd.ntmps21
  go_wp2_with fail
  go_loopw [9] (fun i wr => ∃ k : Nat, k ≤ ln ∧ i = .int .i64 (k : Int) ∧ Hid (M.anyTo k (fun i => occB lv c t (L i)) = false) ∧ Below w.heap.size w wr) (fun i _ => ln - (intOf i).toNat)
  case atStart => exact ⟨0, Nat.zero_le _, rfl, Lib.hid rfl, Below.refl _ _⟩
  case round =>
    obtain ⟨k, hk, rfl, HF, hbw⟩ := hrel
    have HW := Lib.hid hbw
    have hz := hbw.size
    clear hbw
    obtain ⟨wo, rfl⟩ : ∃ wo, wo = wr := ⟨_, rfl⟩
    by_cases hlt : k < ln
    · obtain ⟨b, off, rfl, hb, c0, c1, c2, c3, cA, cc, c4, hr, hm⟩ := (HL.out.below (HW.out.mono HBB.out)).at_ hlt
      have hbo : b < wo.heap.size := Nat.lt_of_lt_of_le hb (Nat.le_trans HBB.out hz)
      have HO := Lib.hid (HOC.out wo k cA cc hlt (hr.more (Nat.le_trans HBB.out hz)))
      have HEK := Lib.hid (HE.out k)
      have HNX := Lib.hid (show M.anyTo (k + 1) (fun i => occB lv c t (L i)) = (M.anyTo k (fun i => occB lv c t (L i)) || occB lv c t (L k)) from rfl)
      have HYS := Lib.hid (fun h : occB lv c t (L k) = true => (M.anyTo_iff.2 ⟨k, hlt, h⟩ : M.anyTo ln (fun i => occB lv c t (L i)) = true))
      obtain ⟨OL, hOL⟩ : ∃ OL, OL = M.occL (L k).tail (M.atC (L k) (t - 1)) (M.atC (L k) t) := ⟨_, rfl⟩
      have hol : OL.length ≤ 2 := by rw [hOL]; unfold M.occL; split; simp; split <;> simp
      rw [← hOL] at HO HEK
      obtain ⟨ov, hov⟩ : ∃ ov, ov = occB lv c t (L k) := ⟨_, rfl⟩
      rw [← hov] at HEK HNX HYS
      clear hOL hr hm hov
      have kx : decide (ln ≤ k) = false := decide_eq_false (by omega)
      have C1 := Lib.hid c1
      go_upto_region 5 with (go_at_call 43; go_must (refine HO.out.mono ?_); rintro e w1 ⟨⟨v, rfl, ho⟩, hb1⟩; have HOL := Lib.hid ho; have HB1 := Lib.hid hb1; clear ho hb1)
      clear c0 c1 c2 c3 c4
      obtain ⟨l0, hl0⟩ : ∃ l0, l0 = (L k).lv := ⟨_, rfl⟩
      have c1 : w1.cell? ⟨b, off + k * 5 + 1, none⟩ = some (.int .i64 l0) := (HB1.out.cell (p := ⟨b, off + k * 5 + 1, none⟩) hbo).trans (by rw [hl0]; exact C1.out)
      rw [← hl0] at HEK
      clear hl0 C1
      obtain ⟨vA, vc, rfl⟩ := HOL.out.form
      by_cases hlv : l0 = lv
      · have ge : (l0 == lv) = true := by rw [beq_iff_eq]; exact hlv
        have HE2 := Lib.hid (show ov = OL.any (fun x => decide (x = c)) by rw [HEK.out, decide_eq_true hlv, Bool.true_and])
        clear hlv
        go_wp2_with fail
        go_loopw [11] (fun i' wq => ∃ m : Nat, m ≤ OL.length ∧ i' = .int .i64 (m : Int) ∧ Hid (∀ u, u < m → OL.getD u 0 ≠ c) ∧ Below w1.heap.size w1 wq) (fun i' _ => OL.length - (intOf i').toNat)
        case atStart => exact ⟨0, Nat.zero_le _, rfl, Lib.hid fun u hu => absurd hu (by omega), Below.refl _ _⟩
        case round =>
          obtain ⟨m, hm, rfl, HNY, hbq⟩ := hrel
          have HB2 := Lib.hid (HB1.out.trans (hbq.mono HB1.out.size))
          have HQ := Lib.hid hbq
          have hbw1 : b < w1.heap.size := Nat.lt_of_lt_of_le hbo HB1.out.size
          have c1' : wr.cell? ⟨b, off + k * 5 + 1, none⟩ = some (.int .i64 l0) := (hbq.cell (p := ⟨b, off + k * 5 + 1, none⟩) hbw1).trans c1
          clear hbq c1
          by_cases hlm : m < OL.length
          · obtain ⟨gy, cy, ey⟩ := HOL.out.nz (by omega)
            injection ey with ey1 _ ey2
            subst ey1; subst ey2
            have y0 : wr.cell? ⟨gy, m, none⟩ = some (.int .i64 (OL.getD m 0)) := (HOL.out.below HQ.out).cell1 hlm
            have ky : decide (OL.length ≤ m) = false := decide_eq_false (by omega)
            have km : decide (m < OL.length) = true := decide_eq_true hlm
            have ki : decide ((m : Int) < (OL.length : Int)) = true := decide_eq_true (by omega)
            obtain ⟨uu, huu⟩ : ∃ uu, uu = OL.getD m 0 := ⟨_, rfl⟩
            have HUU := Lib.hid huu
            rw [← huu] at y0
            clear huu
            by_cases he : uu = c
            · have g2 : (uu == c) = true := by rw [beq_iff_eq]; exact he
              have HR := Lib.hid (HYS.out (by rw [HE2.out]; exact any_eq_some hlm (HUU.out.symm.trans he)))
              clear he
              go_wp2_with fail
              go_ret
              exact ⟨ret_bool HR.out.symm, HW.out.trans (HB2.out.mono hz)⟩
            · have g2 : (uu == c) = false := by rw [beq_eq_false_iff_ne]; exact he
              have HN := Lib.hid he
              clear he
              go_wp2_with fail
              go_roundw
              case rel => exact ⟨m + 1, by omega, by go_num, Lib.hid fun u hu => by
                rcases Nat.lt_succ_iff_lt_or_eq.1 hu with h | h
                · exact HNY.out u h
                · subst h; rw [← HUU.out]; exact HN.out, HQ.out⟩
              case measure => simp [intOf]; omega
          · obtain rfl : m = OL.length := by omega
            have HV := Lib.hid (show ov = false by rw [HE2.out]; exact any_eq_none HNY.out)
            have ki : decide ((OL.length : Int) < (OL.length : Int)) = false := decide_eq_false (by omega)
            go_wp2_with fail
            go_roundw
            case rel => exact ⟨k + 1, by omega, by go_num, Lib.hid (by rw [HNX.out, HF.out, HV.out]; rfl), HW.out.trans (HB2.out.mono hz)⟩
            case measure => simp [intOf]; omega
      · have ge : (l0 == lv) = false := by rw [beq_eq_false_iff_ne]; exact hlv
        have HV := Lib.hid (show ov = false by rw [HEK.out, decide_eq_false hlv]; rfl)
        clear hlv
        go_wp2_with fail
        go_loopw [11] (fun i' wq => i' = .int .i64 0 ∧ Below w1.heap.size w1 wq) (fun i' _ => 1)
        case atStart => exact ⟨rfl, Below.refl _ _⟩
        case round =>
          obtain ⟨rfl, hbq⟩ := hrel
          have HB2 := Lib.hid (HB1.out.trans (hbq.mono HB1.out.size))
          have hbw1 : b < w1.heap.size := Nat.lt_of_lt_of_le hbo HB1.out.size
          have c1' : wr.cell? ⟨b, off + k * 5 + 1, none⟩ = some (.int .i64 l0) := (hbq.cell (p := ⟨b, off + k * 5 + 1, none⟩) hbw1).trans c1
          clear hbq c1
          by_cases hlm : 0 < OL.length
          · have ky : decide (OL.length ≤ 0) = false := decide_eq_false (by omega)
            have km : decide (0 < OL.length) = true := decide_eq_true hlm
            have ki : decide ((0 : Int) < (OL.length : Int)) = true := decide_eq_true (by omega)
            go_wp2_with fail
            go_roundw
            case rel => exact ⟨k + 1, by omega, by go_num, Lib.hid (by rw [HNX.out, HF.out, HV.out]; rfl), HW.out.trans (HB2.out.mono hz)⟩
            case measure => simp [intOf]; omega
          · have km : decide (0 < OL.length) = false := decide_eq_false hlm
            have ki : decide ((0 : Int) < (OL.length : Int)) = false := decide_eq_false (by omega)
            go_wp2_with fail
            go_roundw
            case rel => exact ⟨k + 1, by omega, by go_num, Lib.hid (by rw [HNX.out, HF.out, HV.out]; rfl), HW.out.trans (HB2.out.mono hz)⟩
            case measure => simp [intOf]; omega
    · obtain rfl : k = ln := by omega
      go_wp2_with fail
      go_ret
      exact ⟨ret_bool HF.out.symm, HW.out⟩
end
end Go.Proofs.YtkdpmihdhiokkaaDoor
