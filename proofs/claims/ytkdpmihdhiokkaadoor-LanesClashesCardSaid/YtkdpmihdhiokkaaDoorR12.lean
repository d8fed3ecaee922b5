/- The reference: Occupied. -/
import Derived.Test.YtkdpmihdhiokkaaDoorR8
import Derived.Test.YtkdpmihdhiokkaaDoorK24
import Derived.Test.YtkdpmihdhiokkaaDoorR11
import Derived.Test.YtkdpmihdhiokkaaDoorK23
import Derived.Test.YtkdpmihdhiokkaaDoorR9
import Derived.Laws.StructEq
import Derived.Test.YtkdpmihdhiokkaaDoorR15
import Derived.Test.YtkdpmihdhiokkaaDoorR10
import Derived.Test.YtkdpmihdhiokkaaDoorW
namespace Go.Proofs.YtkdpmihdhiokkaaDoor
open Go.RowKit

theorem occB_L (l : M.Leg) (lv c t : Int) (hc : 0 ≤ c) : occB lv c t l = (decide (l.lv = lv) && (M.occL l.tail (M.atC l (t - 1)) (M.atC l t)).any fun x => decide (x = c)) := by
  unfold occB M.occL M.occ
  apply M.bool_ext
  by_cases hl : l.lv = lv
  · by_cases hq : M.atC l t < 0
    · have : ¬ 0 ≤ M.atC l t := by omega
      simp [hq, this]
    · have h1 : 0 ≤ M.atC l t := by omega
      by_cases hp : 0 ≤ M.atC l (t - 1) <;> cases l.tail <;> simp [hl, hq, h1, hp] <;> omega
  · simp [hl]
theorem any_eq_none {X : List Int} {c : Int} (h : ∀ i, i < X.length → X.getD i 0 ≠ c) : X.any (fun x => decide (x = c)) = false := by
  rw [List.any_eq_false]
  intro x hx
  obtain ⟨i, hi, rfl⟩ := List.getElem_of_mem hx
  have := h i hi
  rw [List.getD_eq_getElem?_getD, List.getElem?_eq_getElem hi, Option.getD_some] at this
  simpa using this
theorem any_eq_some {X : List Int} {c : Int} {i : Nat} (hi : i < X.length) (h : X.getD i 0 = c) : X.any (fun x => decide (x = c)) = true := by
  rw [List.any_eq_true]
  refine ⟨X.getD i 0, ?_, by simpa using h⟩
  rw [List.getD_eq_getElem?_getD, List.getElem?_eq_getElem hi, Option.getD_some]
  exact List.getElem_mem hi
section
variable (lA : Option Addr) (ln lc B : Nat) (L : Nat → M.Leg) (lv c t : Int) (w : World)
set_option maxRecDepth 100000 in
set_option maxHeartbeats 6400000 in
theorem occupied_any (hb : -50 ≤ t ∧ t ≤ 90) (hat : ∀ i, i < ln → -100 ≤ (L i).at_ ∧ (L i).at_ ≤ 100 ∧ (L i).n ≤ 100) (hc : 0 ≤ c) (hR : RdL w B lA ln L) (hB : B ≤ w.heap.size) (hln : ln ≤ maxLen) :
    Calls Tryd.prog 21 #[.slice lA ln lc, .int .i64 lv, .int .i64 c, .int .i64 t] w fun e w' => e = .returned (.bool (M.anyTo ln fun i => occB lv c t (L i))) ∧ Below w.heap.size w w' := by
  have hml : ln ≤ 9223372036854775807 := by unfold maxLen at hln; omega
  have HL := Lib.hid hR
  have HOC := Lib.hid (fun W i cA cc (hi : i < ln) (h : Rd1 W W.heap.size cA (L i).n (L i).c) => occ_any (L i) cc W.heap.size cA t W (by have := hat i hi; omega) (by have := hat i hi; omega) h (Nat.le_refl _))
  have HBB := Lib.hid hB
  have HE := Lib.hid (fun i => occB_L (L i) lv c t hc)
  clear hR hat hB
  go_enter Tryd.func21, Tryd.ntmps21
  go_wp2_with fail
  go_loopw [9] (fun i wr => ∃ k : Nat, k ≤ ln ∧ i = .int .i64 (k : Int) ∧ Hid (M.anyTo k (fun i => occB lv c t (L i)) = false) ∧ Below w.heap.size w wr) (fun i _ => ln - (intOf i).toNat)
  case atStart => exact ⟨0, Nat.zero_le _, rfl, Lib.hid rfl, Below.refl _ _⟩
  case round =>
    obtain ⟨k, hk, rfl, HF, hbw⟩ := hrel
    have HW := Lib.hid hbw
    have hz := hbw.size
    clear hbw
    obtain ⟨wo, rfl⟩ : ∃ wo, wo = wr := ⟨_, rfl⟩
    by_cases hlt : k < ln
    · obtain ⟨b, off, rfl, hb, c0, c1, c2, c3, cA, cc, c4, hr, hm⟩ := (HL.out.below (HW.out.mono HBB.out)).at_ hlt
      have hbo : b < wo.heap.size := Nat.lt_of_lt_of_le hb (Nat.le_trans HBB.out hz)
      have HO := Lib.hid (HOC.out wo k cA cc hlt (hr.more (Nat.le_trans HBB.out hz)))
      have HEK := Lib.hid (HE.out k)
      have HNX := Lib.hid (show M.anyTo (k + 1) (fun i => occB lv c t (L i)) = (M.anyTo k (fun i => occB lv c t (L i)) || occB lv c t (L k)) from rfl)
      have HYS := Lib.hid (fun h : occB lv c t (L k) = true => (M.anyTo_iff.2 ⟨k, hlt, h⟩ : M.anyTo ln (fun i => occB lv c t (L i)) = true))
      obtain ⟨OL, hOL⟩ : ∃ OL, OL = M.occL (L k).tail (M.atC (L k) (t - 1)) (M.atC (L k) t) := ⟨_, rfl⟩
      have hol : OL.length ≤ 2 := by rw [hOL]; unfold M.occL; split; simp; split <;> simp
      rw [← hOL] at HO HEK
      obtain ⟨ov, hov⟩ : ∃ ov, ov = occB lv c t (L k) := ⟨_, rfl⟩
      rw [← hov] at HEK HNX HYS
      clear hOL hr hm hov
      have kx : decide (ln ≤ k) = false := decide_eq_false (by omega)
      have C1 := Lib.hid c1
      go_upto_region 5 with (go_at_call 43; go_must (refine HO.out.mono ?_); rintro e w1 ⟨⟨v, rfl, ho⟩, hb1⟩; have HOL := Lib.hid ho; have HB1 := Lib.hid hb1; clear ho hb1)
      clear c0 c1 c2 c3 c4
      obtain ⟨l0, hl0⟩ : ∃ l0, l0 = (L k).lv := ⟨_, rfl⟩
      have c1 : w1.cell? ⟨b, off + k * 5 + 1, none⟩ = some (.int .i64 l0) := (HB1.out.cell (p := ⟨b, off + k * 5 + 1, none⟩) hbo).trans (by rw [hl0]; exact C1.out)
      rw [← hl0] at HEK
      clear hl0 C1
      obtain ⟨vA, vc, rfl⟩ := HOL.out.form
      by_cases hlv : l0 = lv
      · have ge : (l0 == lv) = true := by rw [beq_iff_eq]; exact hlv
        have HE2 := Lib.hid (show ov = OL.any (fun x => decide (x = c)) by rw [HEK.out, decide_eq_true hlv, Bool.true_and])
        clear hlv
        go_wp2_with fail
        go_loopw [11] (fun i' wq => ∃ m : Nat, m ≤ OL.length ∧ i' = .int .i64 (m : Int) ∧ Hid (∀ u, u < m → OL.getD u 0 ≠ c) ∧ Below w1.heap.size w1 wq) (fun i' _ => OL.length - (intOf i').toNat)
        case atStart => exact ⟨0, Nat.zero_le _, rfl, Lib.hid fun u hu => absurd hu (by omega), Below.refl _ _⟩
        case round =>
          obtain ⟨m, hm, rfl, HNY, hbq⟩ := hrel
          have HB2 := Lib.hid (HB1.out.trans (hbq.mono HB1.out.size))
          have HQ := Lib.hid hbq
          have hbw1 : b < w1.heap.size := Nat.lt_of_lt_of_le hbo HB1.out.size
          have c1' : wr.cell? ⟨b, off + k * 5 + 1, none⟩ = some (.int .i64 l0) := (hbq.cell (p := ⟨b, off + k * 5 + 1, none⟩) hbw1).trans c1
          clear hbq c1
          by_cases hlm : m < OL.length
          · obtain ⟨gy, cy, ey⟩ := HOL.out.nz (by omega)
            injection ey with ey1 _ ey2
            subst ey1; subst ey2
            have y0 : wr.cell? ⟨gy, m, none⟩ = some (.int .i64 (OL.getD m 0)) := (HOL.out.below HQ.out).cell1 hlm
            have ky : decide (OL.length ≤ m) = false := decide_eq_false (by omega)
            have km : decide (m < OL.length) = true := decide_eq_true hlm
            have ki : decide ((m : Int) < (OL.length : Int)) = true := decide_eq_true (by omega)
            obtain ⟨uu, huu⟩ : ∃ uu, uu = OL.getD m 0 := ⟨_, rfl⟩
            have HUU := Lib.hid huu
            rw [← huu] at y0
            clear huu
            by_cases he : uu = c
            · have g2 : (uu == c) = true := by rw [beq_iff_eq]; exact he
              have HR := Lib.hid (HYS.out (by rw [HE2.out]; exact any_eq_some hlm (HUU.out.symm.trans he)))
              clear he
              go_wp2_with fail
              go_ret
              exact ⟨ret_bool HR.out.symm, HW.out.trans (HB2.out.mono hz)⟩
            · have g2 : (uu == c) = false := by rw [beq_eq_false_iff_ne]; exact he
              have HN := Lib.hid he
              clear he
              go_wp2_with fail
              go_roundw
              case rel => exact ⟨m + 1, by omega, by go_num, Lib.hid fun u hu => by
                rcases Nat.lt_succ_iff_lt_or_eq.1 hu with h | h
                · exact HNY.out u h
                · subst h; rw [← HUU.out]; exact HN.out, HQ.out⟩
              case measure => simp [intOf]; omega
          · obtain rfl : m = OL.length := by omega
            have HV := Lib.hid (show ov = false by rw [HE2.out]; exact any_eq_none HNY.out)
            have ki : decide ((OL.length : Int) < (OL.length : Int)) = false := decide_eq_false (by omega)
            go_wp2_with fail
            go_roundw
            case rel => exact ⟨k + 1, by omega, by go_num, Lib.hid (by rw [HNX.out, HF.out, HV.out]; rfl), HW.out.trans (HB2.out.mono hz)⟩
            case measure => simp [intOf]; omega
      · have ge : (l0 == lv) = false := by rw [beq_eq_false_iff_ne]; exact hlv
        have HV := Lib.hid (show ov = false by rw [HEK.out, decide_eq_false hlv]; rfl)
        clear hlv
        go_wp2_with fail
        go_loopw [11] (fun i' wq => i' = .int .i64 0 ∧ Below w1.heap.size w1 wq) (fun i' _ => 1)
        case atStart => exact ⟨rfl, Below.refl _ _⟩
        case round =>
          obtain ⟨rfl, hbq⟩ := hrel
          have HB2 := Lib.hid (HB1.out.trans (hbq.mono HB1.out.size))
          have hbw1 : b < w1.heap.size := Nat.lt_of_lt_of_le hbo HB1.out.size
          have c1' : wr.cell? ⟨b, off + k * 5 + 1, none⟩ = some (.int .i64 l0) := (hbq.cell (p := ⟨b, off + k * 5 + 1, none⟩) hbw1).trans c1
          clear hbq c1
          by_cases hlm : 0 < OL.length
          · have ky : decide (OL.length ≤ 0) = false := decide_eq_false (by omega)
            have km : decide (0 < OL.length) = true := decide_eq_true hlm
            have ki : decide ((0 : Int) < (OL.length : Int)) = true := decide_eq_true (by omega)
            go_wp2_with fail
            go_roundw
            case rel => exact ⟨k + 1, by omega, by go_num, Lib.hid (by rw [HNX.out, HF.out, HV.out]; rfl), HW.out.trans (HB2.out.mono hz)⟩
            case measure => simp [intOf]; omega
          · have km : decide (0 < OL.length) = false := decide_eq_false hlm
            have ki : decide ((0 : Int) < (OL.length : Int)) = false := decide_eq_false (by omega)
            go_wp2_with fail
            go_roundw
            case rel => exact ⟨k + 1, by omega, by go_num, Lib.hid (by rw [HNX.out, HF.out, HV.out]; rfl), HW.out.trans (HB2.out.mono hz)⟩
            case measure => simp [intOf]; omega
    · obtain rfl : k = ln := by omega
      go_wp2_with fail
      go_ret
      exact ⟨ret_bool HF.out.symm, HW.out⟩
end
end Go.Proofs.YtkdpmihdhiokkaaDoor
/- The reference's Clashes. -/
namespace Go.Proofs.YtkdpmihdhiokkaaDoor
open Go.RowKit

section
variable (W H : Int) (dA tA sA lA : Option Addr) (nd dc nt tc ns sc ln lc : Nat) (E : Int) (w : World)
set_option maxRecDepth 100000 in
set_option maxHeartbeats 1600000 in
theorem rclashes_err (HO : ∀ V, Below w.heap.size w V → Calls Tryd.prog 26 #[.agg #[.int .i64 W, .int .i64 H, .slice dA nd dc, .slice tA nt tc, .slice sA ns sc], .slice lA ln lc] V fun e w' => e = .returned (.int .i64 E) ∧ Below V.heap.size V w') (hE : E ≠ 0) :
    Calls Tryd.prog 27 #[.agg #[.int .i64 W, .int .i64 H, .slice dA nd dc, .slice tA nt tc, .slice sA ns sc], .slice lA ln lc] w fun e w' => e = .returned (.tuple #[.slice none 0 0, .int .i64 E]) ∧ Below w.heap.size w w' := by
  have HB0 := Lib.hid (belowAlloc w (.cells #[.int .i64 W, .int .i64 H, .slice dA nd dc, .slice tA nt tc, .slice sA ns sc] 25))
  have HC := Lib.hid (HO _ HB0.out)
  have e1 : (E != 0) = true := by simpa using hE
  clear HO hE
  go_enter Tryd.func27, Tryd.ntmps27
  go_wp2_with (go_at_call 26; go_must (refine HC.out.mono ?_); rintro e w1 ⟨rfl, hb1⟩; have HB1 := Lib.hid (HB0.out.trans (hb1.mono HB0.out.size)); clear hb1)
  go_ret2
  exact ⟨rfl, HB1.out⟩
end
section
variable (s : M.Sea) (dA tA sA lA : Option Addr) (dc tc sc ln lc B : Nat) (L : Nat → M.Leg) (w : World)
set_option maxRecDepth 100000 in
set_option maxHeartbeats 6400000 in
theorem rclashes_ok (hs : s.Ok) (hR : RdC w B dA tA sA s.nd s.nt s.nt s.dep s.tide s.sw) (hB : B ≤ w.heap.size) (hL : RdL w B lA ln L) (hln : ln ≤ 12) (hlo : M.legsOk s ln L = true) (hat : ∀ i, i < ln → -100 ≤ (L i).at_ ∧ (L i).at_ ≤ 100 ∧ (L i).n ≤ 100) :
    Calls Tryd.prog 27 #[.agg #[.int .i64 (s.W : Int), .int .i64 (s.H : Int), .slice dA s.nd dc, .slice tA s.nt tc, .slice sA s.nt sc], .slice lA ln lc] w fun e w' =>
      (∃ v, e = .returned (.tuple #[v, .int .i64 0]) ∧ Own w' w.heap.size 43 3 v (M.clAll s L ln ln).length (ints2 (triF (M.clAll s L ln ln)))) ∧ Below w.heap.size w w' := by
  have hnt := hs.t2
  have HB0 := Lib.hid (belowAlloc w (.cells #[.int .i64 (s.W : Int), .int .i64 (s.H : Int), .slice dA s.nd dc, .slice tA s.nt tc, .slice sA s.nt sc] 25))
  have C0 := Lib.hid (Blk.new w 25 #[.int .i64 (s.W : Int), .int .i64 (s.H : Int), .slice dA s.nd dc, .slice tA s.nt tc, .slice sA s.nt sc])
  have HCK := Lib.hid (show Calls Tryd.prog 26 #[.agg #[.int .i64 (s.W : Int), .int .i64 (s.H : Int), .slice dA s.nd dc, .slice tA s.nt tc, .slice sA s.nt sc], .slice lA ln lc] (w.alloc (.cells #[.int .i64 (s.W : Int), .int .i64 (s.H : Int), .slice dA s.nd dc, .slice tA s.nt tc, .slice sA s.nt sc] 25)) fun e w' => e = .returned (.int .i64 0) ∧ Below (w.alloc (.cells #[.int .i64 (s.W : Int), .int .i64 (s.H : Int), .slice dA s.nd dc, .slice tA s.nt tc, .slice sA s.nt sc] 25)).heap.size (w.alloc (.cells #[.int .i64 (s.W : Int), .int .i64 (s.H : Int), .slice dA s.nd dc, .slice tA s.nt tc, .slice sA s.nt sc] 25)) w' from by
    have h := rcheck_ok s dA tA sA lA dc tc sc ln lc B L (w.alloc (.cells #[.int .i64 (s.W : Int), .int .i64 (s.H : Int), .slice dA s.nd dc, .slice tA s.nt tc, .slice sA s.nt sc] 25)) hs (hR.below (HB0.out.mono hB)) (Nat.le_trans hB HB0.out.size) (hL.below (HB0.out.mono hB)) (by omega)
    unfold M.legsE at h
    rw [if_pos hlo] at h
    exact h)
  have HL := Lib.hid (fun W (hb : Below w.heap.size w W) => hL.below (hb.mono hB))
  have HAT := Lib.hid hat
  obtain ⟨i0, hi, hz0, hz1, hz2⟩ := info_parts tri_info
  have MI := Lib.hid (And.intro hi (And.intro hz0 (And.intro hz1 hz2)))
  have HLEN := Lib.hid (fun i => clAll_len s L ln i)
  have HLE2 := Lib.hid (fun i m => clIn_len s L i m)
  have HBB := Lib.hid hB
  clear hi hz0 hz1 hz2 hs hR hL hlo hB hat
  go_enter Tryd.func27, Tryd.ntmps27
  go_upto_region 4 with (go_at_call 26; go_must (refine HCK.out.mono ?_); rintro e w1 ⟨rfl, hb1⟩; have HB1 := Lib.hid (HB0.out.trans (hb1.mono HB0.out.size)); have C1 := Lib.hid (C0.out.below' hb1); clear hb1)
  obtain ⟨Y, hY⟩ : ∃ Y, Y = w1 := ⟨_, rfl⟩
  rw [← hY] at HB1 C1
  rw [← hY]
  clear hY C0 HB0
  have hz := HB1.out.size
  go_wp2_with fail
  go_loopw [7, 8] (fun v i wr => ∃ k : Nat, k ≤ ln ∧ i = .int .i64 (k : Int) ∧ Own wr Y.heap.size 43 3 v (M.clAll s L ln k).length (ints2 (triF (M.clAll s L ln k))) ∧ Below Y.heap.size Y wr) (fun _ i _ => ln - (intOf i).toNat)
  case atStart => exact ⟨0, Nat.zero_le _, rfl, Own.nil_, Below.refl _ _⟩
  case round =>
    obtain ⟨k, hk, rfl, ho, hbw⟩ := hrel
    obtain ⟨A8, c8, rfl⟩ := ho.form
    have HO := Lib.hid ho
    have HW := Lib.hid hbw
    have hzr := hbw.size
    clear ho hbw
    obtain ⟨wo, rfl⟩ : ∃ wo, wo = wr := ⟨_, rfl⟩
    by_cases hlt : k < ln
    · have kx : decide (ln ≤ k) = false := decide_eq_false (by omega)
      go_wp2_with fail
      go_loopw [7, 9] (fun v i wr => ∃ m q : Nat, m ≤ ln - (k + 1) ∧ i = .int .i64 (q : Int) ∧ Hid (q = k + 1 + m) ∧ Own wr Y.heap.size 43 3 v (M.clAll s L ln k ++ M.clIn s L k m).length (ints2 (triF (M.clAll s L ln k ++ M.clIn s L k m))) ∧ Below Y.heap.size Y wr) (fun _ i _ => ln - (intOf i).toNat)
      case atStart => exact ⟨0, k + 1, Nat.zero_le _, by go_num, Lib.hid rfl, (by simp only [M.clIn, List.append_nil]; exact HO.out), HW.out⟩
      case round =>
        obtain ⟨m, q, hm, rfl, HQ, ho, hbw⟩ := hrel
        obtain ⟨A8, c8, rfl⟩ := ho.form
        have HOm := Lib.hid ho
        have HWm := Lib.hid hbw
        have hzm := hbw.size
        clear ho hbw
        obtain ⟨wi, rfl⟩ : ∃ wi, wi = wr := ⟨_, rfl⟩
        by_cases hlq : q < ln
        · have HBi := Lib.hid (HB1.out.trans (HWm.out.mono hz))
          go_upto_block 3 with fail
          go_cut [7] (fun v wx => Own wx Y.heap.size 43 3 v (M.clAll s L ln k ++ M.clIn s L k (m + 1)).length (ints2 (triF (M.clAll s L ln k ++ M.clIn s L k (m + 1)))) ∧ Below Y.heap.size Y wx)
          case first =>
            have HCI := Lib.hid (show M.clIn s L k (m + 1) = if M.firstC s L k q < s.nt then M.clIn s L k m ++ [(k, q, M.firstC s L k q)] else M.clIn s L k m by rw [HQ.out]; rfl)
            have HFC := Lib.hid (fun t (ht : t < s.nt) (h1 : ∀ u, u < t → M.legC (L k) (L q) (u : Int) = false) (h2 : M.legC (L k) (L q) (t : Int) = true) => (show M.firstC s L k q = t from M.firstTo_eq ht h2 h1))
            have HFN := Lib.hid (fun (h1 : ∀ u, u < s.nt → M.legC (L k) (L q) (u : Int) = false) => (show ¬ M.firstC s L k q < s.nt from M.firstC_none h1))
            have hlc12 : (M.clAll s L ln k ++ M.clIn s L k m).length ≤ 1048576 := by
              have h1 := HLEN.out k
              have h2 := HLE2.out k m
              have h3 : k * ln ≤ 12 * 12 := Nat.mul_le_mul (by omega) hln
              rw [List.length_append]; omega
            obtain ⟨lst0, hlst⟩ : ∃ l0, l0 = M.clAll s L ln k ++ M.clIn s L k m := ⟨_, rfl⟩
            have HLST := Lib.hid hlst
            rw [← hlst] at HOm hlc12
            rw [← hlst]
            clear hlst
            go_wp2_with fail
            go_loopw [7, 10] (fun v i wt => ∃ t : Nat, v = .slice A8 lst0.length c8 ∧ t ≤ s.nt ∧ i = .int .i64 (t : Int) ∧ Hid (∀ u, u < t → M.legC (L k) (L q) (u : Int) = false) ∧ Below wi.heap.size wi wt) (fun _ i _ => s.nt - (intOf i).toNat)
            case atStart => exact ⟨0, rfl, Nat.zero_le _, rfl, Lib.hid fun u hu => absurd hu (by omega), Below.refl _ _⟩
            case round =>
              obtain ⟨t, rfl, ht, rfl, HNT, hbt⟩ := hrel
              have HT := Lib.hid hbt
              have hzt := hbt.size
              have c3' := (C1.out.below' (HWm.out.trans (hbt.mono hzm))).cell 3
              clear hbt
              by_cases hlt2 : t < s.nt
              · have HBt := Lib.hid (HBi.out.trans (HT.out.mono HBi.out.size))
                have hLW := HL.out wr HBt.out
                obtain ⟨b, off, rfl, hb, l0, l1, l2, l3, cA, cc, l4, hr, hm1⟩ := hLW.at_ hlt
                obtain ⟨b', off', hbb, hb', m0, m1, m2, m3, cA', cc', m4, hr', hm2⟩ := hLW.at_ hlq
                injection hbb with hbb
                injection hbb with hbb1 hbb2 _
                subst hbb1; subst hbb2
                have kq : decide (ln ≤ q) = false := decide_eq_false (by omega)
                have HCC := Lib.hid (fun W (hb2 : Below wr.heap.size wr W) => by
                  have hh := HAT.out k hlt
                  have hh2 := HAT.out q hlq
                  exact rclash_any (L k) (L q) cc cc' B cA cA' (t : Int) W (by omega) (by omega) (by omega) (by omega) (by omega) (hr.below (hb2.mono (Nat.le_trans HBB.out HBt.out.size))) (hr'.below (hb2.mono (Nat.le_trans HBB.out HBt.out.size))) (Nat.le_trans (Nat.le_trans HBB.out HBt.out.size) hb2.size))
                clear hr hr' hm1 hm2 hLW hb'
                obtain ⟨cv, hcv⟩ : ∃ cv, cv = M.legC (L k) (L q) (t : Int) := ⟨_, rfl⟩
                rw [← hcv] at HCC
                have HCV := Lib.hid hcv
                clear hcv
                go_upto_region 14 with fail
                clear c3'
                go_still_tail 9, (by kernel_rfl)
                clear l0 l1 l2 l3 l4 m0 m1 m2 m3 m4
                cases cv
                · go_wp2_with (go_at_call 19; go_must (refine (HCC.out _ (Below.refl _ _).drew).mono ?_); rintro e w9 ⟨rfl, hb9⟩; have HB9 := Lib.hid ((Below.refl _ _).drew.trans (hb9.mono (Nat.le_refl _))); clear hb9)
                  go_roundw
                  case rel => exact ⟨t + 1, rfl, by omega, by go_num, Lib.hid fun u hu => by
                    rcases Nat.lt_succ_iff_lt_or_eq.1 hu with h | h
                    · exact HNT.out u h
                    · subst h; exact HCV.out.symm, HT.out.trans (HB9.out.mono hzt)⟩
                  case measure => simp [intOf]; omega
                · have HFI := Lib.hid (HFC.out t hlt2 HNT.out HCV.out.symm)
                  go_wp2_with (first
                    | (go_at_call 19; go_must (refine (HCC.out _ (Below.refl _ _).drew).mono ?_); rintro e w7 ⟨rfl, hb9⟩; have HB7 := Lib.hid (HT.out.trans (((Below.refl _ _).drew.trans (hb9.mono (Nat.le_refl _))).mono hzt)); have HY7 := Lib.hid (HWm.out.trans (HB7.out.mono hzm)); clear hb9)
                    | (at_builtin; go_must (refine wpList_app rfl (.tmp 48) (.tmp 53) 36 rfl Y.heap.size 43 3 24 Tryd.underlying36 MI.out.1 MI.out.2.1 MI.out.2.2.1 MI.out.2.2.2 rfl (by decide) (by decide) ((HOm.out.below HB7.out).alloc _) rfl hlc12 (by have := HY7.out.size; simp; omega) w7.heap.size 1 (tri3 k q t) rfl (tri_cell w7 k q t) (fun _ _ => rfl) ?_); intro v8 w8 o8 hg8 hat8; have HO8 := Lib.hid o8; have HG8 := Lib.hid hg8; clear o8 hg8 hat8))
                  go_meet
                  case rel =>
                    have HO7 := HOm.out.below HB7.out
                    have hz7 := HY7.out.size
                    have hb8 : Below Y.heap.size Y w8 := (HY7.out.alloc hz7 (.cells #[.int .i64 (k : Int), .int .i64 (q : Int), .int .i64 (t : Int)] 43)).grown HG8.out (by simp; omega) (fun g hg => (HO7.block hg).1)
                    refine ⟨?_, hb8⟩
                    · rw [HCI.out, HFI.out, if_pos hlt2, ← List.append_assoc, ← HLST.out, List.length_append]
                      exact HO8.out.congr fun i j hi hj => tri_app lst0 k q t i j hi hj
              · obtain rfl : t = s.nt := by omega
                have HNF := Lib.hid (HFN.out HNT.out)
                go_wp2_with fail
                go_meet
                case rel =>
                  rw [HCI.out, if_neg HNF.out, ← HLST.out]
                  exact ⟨HOm.out.below HT.out, HWm.out.trans (HT.out.mono hzm)⟩
          case rest =>
            obtain ⟨ho, hbw⟩ := hcut
            obtain ⟨A9, c9, rfl⟩ := ho.form
            have HO9 := Lib.hid ho
            have HW9 := Lib.hid hbw
            clear ho hbw
            go_wp2_with fail
            go_roundw
            case rel => exact ⟨m + 1, q + 1, by have := HQ.out; omega, by go_num, Lib.hid (by have := HQ.out; omega), HO9.out, HW9.out⟩
            case measure => simp [intOf]; omega
        · have HFIN := Lib.hid (show M.clAll s L ln (k + 1) = M.clAll s L ln k ++ M.clIn s L k m by
            have : m = ln - (k + 1) := by have := HQ.out; omega
            rw [this]; rfl)
          go_wp2_with fail
          try simp only [Exit.noGoto_normal]
          try (go_wp2_with fail)
          go_roundw
          case rel => exact ⟨k + 1, by omega, by go_num, by rw [HFIN.out]; exact HOm.out, HWm.out⟩
          case measure => simp [intOf]; omega
    · obtain rfl : k = ln := by omega
      go_wp2_with fail
      go_ret2
      exact ⟨⟨_, rfl, HO.out.less hz⟩, HB1.out.trans (HW.out.mono hz)⟩
end
end Go.Proofs.YtkdpmihdhiokkaaDoor
/- The reference's Free; lanes.Free with an argument that is out of range. -/
namespace Go.Proofs.YtkdpmihdhiokkaaDoor
open Go.RowKit

section
variable (W H : Int) (dA tA sA lA : Option Addr) (nd dc nt tc ns sc ln lc : Nat) (E lv c : Int) (w : World)
set_option maxRecDepth 100000 in
set_option maxHeartbeats 1600000 in
theorem rfree_err (HO : ∀ V, Below w.heap.size w V → Calls Tryd.prog 26 #[.agg #[.int .i64 W, .int .i64 H, .slice dA nd dc, .slice tA nt tc, .slice sA ns sc], .slice lA ln lc] V fun e w' => e = .returned (.int .i64 E) ∧ Below V.heap.size V w') (hE : E ≠ 0) :
    Calls Tryd.prog 28 #[.agg #[.int .i64 W, .int .i64 H, .slice dA nd dc, .slice tA nt tc, .slice sA ns sc], .slice lA ln lc, .int .i64 lv, .int .i64 c] w fun e w' => e = .returned (.tuple #[.slice none 0 0, .int .i64 E]) ∧ Below w.heap.size w w' := by
  have HB0 := Lib.hid (belowAlloc w (.cells #[.int .i64 W, .int .i64 H, .slice dA nd dc, .slice tA nt tc, .slice sA ns sc] 25))
  have HC := Lib.hid (HO _ HB0.out)
  have e1 : (E != 0) = true := by simpa using hE
  clear HO hE
  go_enter Tryd.func28, Tryd.ntmps28
  go_wp2_with (go_at_call 26; go_must (refine HC.out.mono ?_); rintro e w1 ⟨rfl, hb1⟩; have HB1 := Lib.hid (HB0.out.trans (hb1.mono HB0.out.size)); clear hb1)
  go_ret2
  exact ⟨rfl, HB1.out⟩
end
/-- an argument of Free is within its range -/
def M.spotOk (s : M.Sea) (lv c : Int) : Bool := M.inB 0 3 lv && M.inB 0 ((s.nd : Int) - 1) c
theorem M.spotOk_iff {s : M.Sea} {lv c : Int} : M.spotOk s lv c = true ↔ (0 ≤ lv ∧ lv ≤ 3) ∧ 0 ≤ c ∧ c < s.nd := by
  unfold M.spotOk
  rw [Bool.and_eq_true, M.inB_iff, M.inB_iff]
  omega
section
variable (s : M.Sea) (dA tA sA lA : Option Addr) (dc tc sc ln lc B : Nat) (L : Nat → M.Leg) (w : World)
set_option maxRecDepth 100000 in
set_option maxHeartbeats 3200000 in
theorem Free_arg (lv c : Int) (hbad : M.spotOk s lv c = false) (hs : s.Ok) (hw : Ways w) (hR : RdC w B dA tA sA s.nd s.nt s.nt s.dep s.tide s.sw) (hB : B ≤ w.heap.size) (hL : RdL w B lA ln L) (hln : ln ≤ 1048576) (hlo : M.legsOk s ln L = true) :
    Calls Tryd.prog 20 #[.agg #[.int .i64 (s.W : Int), .int .i64 (s.H : Int), .slice dA s.nd dc, .slice tA s.nt tc, .slice sA s.nt sc], .slice lA ln lc, .int .i64 lv, .int .i64 c] w fun e w' => e = .returned (.tuple #[.slice none 0 0, .int .i64 1]) ∧ Below w.heap.size w w' := by
  have hnt := hs.t2
  have hnd := hs.nd1
  have HB0 := Lib.hid (belowAlloc3 w (.cells #[.int .i64 (s.W : Int), .int .i64 (s.H : Int), .slice dA s.nd dc, .slice tA s.nt tc, .slice sA s.nt sc] 25) (.cells #[.int .i64 lv] 3) (.cells #[.int .i64 c] 3))
  have V0 := Lib.hid ((Blk.new1 w (.cells #[.int .i64 (s.W : Int), .int .i64 (s.H : Int), .slice dA s.nd dc, .slice tA s.nt tc, .slice sA s.nt sc] 25) 3 #[.int .i64 lv]).alloc (.cells #[.int .i64 c] 3))
  have E0 := Lib.hid (Blk.new2 w (.cells #[.int .i64 (s.W : Int), .int .i64 (s.H : Int), .slice dA s.nd dc, .slice tA s.nt tc, .slice sA s.nt sc] 25) (.cells #[.int .i64 lv] 3) 3 #[.int .i64 c])
  obtain ⟨X, hX⟩ : ∃ X, X = ((w.alloc (.cells #[.int .i64 (s.W : Int), .int .i64 (s.H : Int), .slice dA s.nd dc, .slice tA s.nt tc, .slice sA s.nt sc] 25)).alloc (.cells #[.int .i64 lv] 3)).alloc (.cells #[.int .i64 c] 3) := ⟨_, rfl⟩
  have HXe := Lib.hid hX
  have C0 := Lib.hid (((Blk.new w 25 #[.int .i64 (s.W : Int), .int .i64 (s.H : Int), .slice dA s.nd dc, .slice tA s.nt tc, .slice sA s.nt sc]).alloc (.cells #[.int .i64 lv] 3)).alloc (.cells #[.int .i64 c] 3))
  rw [← hX] at HB0 C0 V0 E0
  clear hX
  have HOP := Lib.hid (lopen_any s dA tA sA lA dc tc sc ln lc X.heap.size L X hs (hw.below HB0.out) ((hR.below (HB0.out.mono hB)).more (Nat.le_trans hB HB0.out.size)) (Nat.le_refl _) ((hL.below (HB0.out.mono hB)).more (Nat.le_trans hB HB0.out.size)) hln)
  rw [hlo] at HOP
  have HO2 := Lib.hid (by have h := HOP.out; simp only [if_true] at h; exact h)
  have HLW := Lib.hid (fun W => lwithin_any lv 0 3 W)
  have HCE := Lib.hid (fun W x (hx : W.cell? ⟨x, 2, none⟩ = some (.slice dA s.nd dc)) => cell_any x s.nd s.nt dc dA W hx ⟨hnd, hs.t1, hnt⟩ c)
  have HSP := Lib.hid hbad
  clear hs hw hR hL hlo HOP hB hbad
  go_enter Tryd.func20, Tryd.ntmps20
  go_upto_region 1 with fail
  rw [← HXe.out]
  have c0 := C0.out.cell 0
  have c1 := C0.out.cell 1
  have c2 := C0.out.cell 2
  have c3 := C0.out.cell 3
  have c4 := C0.out.cell 4
  go_upto_region 4 with (go_at_call 40; go_must (refine HO2.out.mono ?_); rintro e w1 ⟨⟨x, rfl, hx⟩, hb1⟩; have HBY := Lib.hid hb1; have HX := Lib.hid hx; clear hb1 hx)
  clear c0 c1 c2 c3 c4
  have x2 : w1.cell? ⟨x, 2, none⟩ = some (.slice dA s.nd dc) := by obtain ⟨nA, nc, V, t1, _⟩ := HX.out; exact t1.cell 2
  have HCX := Lib.hid (HCE.out w1 x x2)
  clear x2
  have v0 := (V0.out.below' HBY.out).cell 0
  have e0 := (E0.out.below' HBY.out).cell 0
  have hz := HB0.out.size
  cases h1 : M.inB 0 3 lv
  · rw [h1] at HLW
    clear h1
    go_wp2_with (go_at_call 45; go_must (refine (HLW.out _).mono ?_); rintro e w3 ⟨rfl, h3⟩; rw [h3]; clear h3)
    go_ret2
    exact ⟨rfl, HB0.out.trans (HBY.out.mono hz)⟩
  · cases h2 : M.inB 0 ((s.nd : Int) - 1) c
    · rw [h1] at HLW
      rw [h2] at HCX
      clear h1 h2
      go_wp2_with (first
        | (go_at_call 45; go_must (refine (HLW.out _).mono ?_); rintro e w3 ⟨rfl, h3⟩; rw [h3]; clear h3)
        | (go_at_call 46; go_must (refine HCX.out.mono ?_); rintro e w4 ⟨rfl, h4⟩; rw [h4]; clear h4))
      go_ret2
      exact ⟨rfl, HB0.out.trans (HBY.out.mono hz)⟩
    · exact absurd HSP.out (by unfold M.spotOk; rw [h1, h2]; simp)
set_option maxRecDepth 100000 in
set_option maxHeartbeats 3200000 in
theorem rfree_arg (lv c : Int) (hbad : M.spotOk s lv c = false) (hs : s.Ok) (hR : RdC w B dA tA sA s.nd s.nt s.nt s.dep s.tide s.sw) (hB : B ≤ w.heap.size) (hL : RdL w B lA ln L) (hln : ln ≤ 1048576) (hlo : M.legsOk s ln L = true) :
    Calls Tryd.prog 28 #[.agg #[.int .i64 (s.W : Int), .int .i64 (s.H : Int), .slice dA s.nd dc, .slice tA s.nt tc, .slice sA s.nt sc], .slice lA ln lc, .int .i64 lv, .int .i64 c] w fun e w' => e = .returned (.tuple #[.slice none 0 0, .int .i64 1]) ∧ Below w.heap.size w w' := by
  have HB0 := Lib.hid (belowAlloc w (.cells #[.int .i64 (s.W : Int), .int .i64 (s.H : Int), .slice dA s.nd dc, .slice tA s.nt tc, .slice sA s.nt sc] 25))
  have C0 := Lib.hid (Blk.new w 25 #[.int .i64 (s.W : Int), .int .i64 (s.H : Int), .slice dA s.nd dc, .slice tA s.nt tc, .slice sA s.nt sc])
  have HCK := Lib.hid (show Calls Tryd.prog 26 #[.agg #[.int .i64 (s.W : Int), .int .i64 (s.H : Int), .slice dA s.nd dc, .slice tA s.nt tc, .slice sA s.nt sc], .slice lA ln lc] (w.alloc (.cells #[.int .i64 (s.W : Int), .int .i64 (s.H : Int), .slice dA s.nd dc, .slice tA s.nt tc, .slice sA s.nt sc] 25)) fun e w' => e = .returned (.int .i64 0) ∧ Below (w.alloc (.cells #[.int .i64 (s.W : Int), .int .i64 (s.H : Int), .slice dA s.nd dc, .slice tA s.nt tc, .slice sA s.nt sc] 25)).heap.size (w.alloc (.cells #[.int .i64 (s.W : Int), .int .i64 (s.H : Int), .slice dA s.nd dc, .slice tA s.nt tc, .slice sA s.nt sc] 25)) w' from by
    have h := rcheck_ok s dA tA sA lA dc tc sc ln lc B L (w.alloc (.cells #[.int .i64 (s.W : Int), .int .i64 (s.H : Int), .slice dA s.nd dc, .slice tA s.nt tc, .slice sA s.nt sc] 25)) hs (hR.below (HB0.out.mono hB)) (Nat.le_trans hB HB0.out.size) (hL.below (HB0.out.mono hB)) (by omega)
    unfold M.legsE at h
    rw [if_pos hlo] at h
    exact h)
  have HLW := Lib.hid (fun W => rwithin_any lv 0 3 W)
  have HCE := Lib.hid (fun W => riscell_ok s dA tA sA dc tc sc W c hs)
  have HSP := Lib.hid hbad
  clear hs hR hL hlo hB hbad
  go_enter Tryd.func28, Tryd.ntmps28
  go_upto_region 4 with (go_at_call 26; go_must (refine HCK.out.mono ?_); rintro e w1 ⟨rfl, hb1⟩; have HB1 := Lib.hid (HB0.out.trans (hb1.mono HB0.out.size)); have C1 := Lib.hid (C0.out.below' hb1); clear hb1)
  have c0 := C1.out.cell 0
  have c1 := C1.out.cell 1
  have c2 := C1.out.cell 2
  have c3 := C1.out.cell 3
  have c4 := C1.out.cell 4
  cases h1 : M.inB 0 3 lv
  · rw [h1] at HLW
    clear h1
    go_wp2_with (go_at_call 53; go_must (refine (HLW.out _).mono ?_); rintro e w3 ⟨rfl, h3⟩; rw [h3]; clear h3)
    go_ret2
    exact ⟨rfl, HB1.out⟩
  · cases h2 : M.inB 0 ((s.nd : Int) - 1) c
    · rw [h1] at HLW
      rw [h2] at HCE
      clear h1 h2
      go_wp2_with (first
        | (go_at_call 53; go_must (refine (HLW.out _).mono ?_); rintro e w3 ⟨rfl, h3⟩; rw [h3]; clear h3)
        | (go_at_call 33; go_must (refine (HCE.out _).mono ?_); rintro e w4 ⟨rfl, hb4⟩; have HB4 := Lib.hid (HB1.out.trans (hb4.mono HB1.out.size)); clear hb4))
      go_ret2
      exact ⟨rfl, HB4.out⟩
    · exact absurd HSP.out (by unfold M.spotOk; rw [h1, h2]; simp)
set_option maxRecDepth 100000 in
set_option maxHeartbeats 6400000 in
theorem rfree_ok (lv : Int) (c : Nat) (hlv : 0 ≤ lv ∧ lv ≤ 3) (hc : c < s.nd) (hs : s.Ok) (hR : RdC w B dA tA sA s.nd s.nt s.nt s.dep s.tide s.sw) (hB : B ≤ w.heap.size) (hL : RdL w B lA ln L) (hln : ln ≤ 12) (hlo : M.legsOk s ln L = true) (hat : ∀ i, i < ln → -100 ≤ (L i).at_ ∧ (L i).at_ ≤ 100 ∧ (L i).n ≤ 100) :
    Calls Tryd.prog 28 #[.agg #[.int .i64 (s.W : Int), .int .i64 (s.H : Int), .slice dA s.nd dc, .slice tA s.nt tc, .slice sA s.nt sc], .slice lA ln lc, .int .i64 lv, .int .i64 (c : Int)] w fun e w' =>
      (∃ v, e = .returned (.tuple #[v, .int .i64 0]) ∧ Own w' w.heap.size 52 2 v (M.spN (M.freeT L ln lv c) s.nt).1 (ints2 (M.spN (M.freeT L ln lv c) s.nt).2)) ∧ Below w.heap.size w w' := by
  have hnt := hs.t2
  have hnd := hs.nd1
  have HB0 := Lib.hid (belowAlloc w (.cells #[.int .i64 (s.W : Int), .int .i64 (s.H : Int), .slice dA s.nd dc, .slice tA s.nt tc, .slice sA s.nt sc] 25))
  have C0 := Lib.hid (Blk.new w 25 #[.int .i64 (s.W : Int), .int .i64 (s.H : Int), .slice dA s.nd dc, .slice tA s.nt tc, .slice sA s.nt sc])
  have HCK := Lib.hid (show Calls Tryd.prog 26 #[.agg #[.int .i64 (s.W : Int), .int .i64 (s.H : Int), .slice dA s.nd dc, .slice tA s.nt tc, .slice sA s.nt sc], .slice lA ln lc] (w.alloc (.cells #[.int .i64 (s.W : Int), .int .i64 (s.H : Int), .slice dA s.nd dc, .slice tA s.nt tc, .slice sA s.nt sc] 25)) fun e w' => e = .returned (.int .i64 0) ∧ Below (w.alloc (.cells #[.int .i64 (s.W : Int), .int .i64 (s.H : Int), .slice dA s.nd dc, .slice tA s.nt tc, .slice sA s.nt sc] 25)).heap.size (w.alloc (.cells #[.int .i64 (s.W : Int), .int .i64 (s.H : Int), .slice dA s.nd dc, .slice tA s.nt tc, .slice sA s.nt sc] 25)) w' from by
    have h := rcheck_ok s dA tA sA lA dc tc sc ln lc B L (w.alloc (.cells #[.int .i64 (s.W : Int), .int .i64 (s.H : Int), .slice dA s.nd dc, .slice tA s.nt tc, .slice sA s.nt sc] 25)) hs (hR.below (HB0.out.mono hB)) (Nat.le_trans hB HB0.out.size) (hL.below (HB0.out.mono hB)) (by omega)
    unfold M.legsE at h
    rw [if_pos hlo] at h
    exact h)
  have HLW := Lib.hid (fun W => (show Calls Tryd.prog 53 #[.int .i64 lv, .int .i64 0, .int .i64 3] W fun e w' => e = .returned (.bool true) ∧ w' = W from by
    have h := rwithin_any lv 0 3 W
    rw [M.inB_iff.2 hlv] at h
    exact h))
  have HCE := Lib.hid (fun W => (show Calls Tryd.prog 33 #[.agg #[.int .i64 (s.W : Int), .int .i64 (s.H : Int), .slice dA s.nd dc, .slice tA s.nt tc, .slice sA s.nt sc], .int .i64 (c : Int)] W fun e w' => e = .returned (.bool true) ∧ Below W.heap.size W w' from by
    have h := riscell_ok s dA tA sA dc tc sc W (c : Int) hs
    rw [M.inB_iff.2 ⟨by omega, by omega⟩] at h
    exact h))
  have HOC := Lib.hid (fun V (t : Nat) (hb : Below w.heap.size w V) (ht : t < s.nt) => occupied_any lA ln lc B L lv (c : Int) (t : Int) V (by omega) hat (by omega) (hL.below (hb.mono hB)) (Nat.le_trans hB hb.size) (by unfold maxLen; omega))
  obtain ⟨i0, hi, hz0, hz1, hz2⟩ := info_parts span_info
  have MI := Lib.hid (And.intro hi (And.intro hz0 (And.intro hz1 hz2)))
  have HSL := Lib.hid (fun t => (M.spOk (M.freeT L ln lv c) t).le)
  have HSN := Lib.hid (fun t => (show M.spN (M.freeT L ln lv c) (t + 1) = (if M.freeT L ln lv c t then if 0 < (M.spN (M.freeT L ln lv c) t).1 ∧ (M.spN (M.freeT L ln lv c) t).2 ((M.spN (M.freeT L ln lv c) t).1 - 1) 1 = (t : Int) - 1 then ((M.spN (M.freeT L ln lv c) t).1, fun i j => if i = (M.spN (M.freeT L ln lv c) t).1 - 1 ∧ j = 1 then (t : Int) else (M.spN (M.freeT L ln lv c) t).2 i j) else ((M.spN (M.freeT L ln lv c) t).1 + 1, fun i j => if i = (M.spN (M.freeT L ln lv c) t).1 then (t : Int) else (M.spN (M.freeT L ln lv c) t).2 i j) else M.spN (M.freeT L ln lv c) t) from rfl))
  have HFR := Lib.hid (fun u => (show M.freeT L ln lv c u = !M.anyTo ln (fun i => occB lv c u (L i)) from rfl))
  clear hi hz0 hz1 hz2 hs hR hL hlo hB hlv hc hat
  go_enter Tryd.func28, Tryd.ntmps28
  go_upto_region 4 with (go_at_call 26; go_must (refine HCK.out.mono ?_); rintro e w1 ⟨rfl, hb1⟩; have HB1 := Lib.hid (HB0.out.trans (hb1.mono HB0.out.size)); have C1 := Lib.hid (C0.out.below' hb1); clear hb1)
  have c0 := C1.out.cell 0
  have c1 := C1.out.cell 1
  have c2 := C1.out.cell 2
  have c3 := C1.out.cell 3
  have c4 := C1.out.cell 4
  go_wp2_with (first
    | (go_at_call 53; go_must (refine (HLW.out _).mono ?_); rintro e w3 ⟨rfl, h3⟩; rw [h3]; clear h3)
    | (go_at_call 33; go_must (refine (HCE.out _).mono ?_); rintro e w4 ⟨rfl, hb4⟩; have HB4 := Lib.hid (HB1.out.trans (hb4.mono HB1.out.size)); have C4 := Lib.hid (C1.out.below' hb4); clear hb4))
  clear c0 c1 c2 c3 c4
  have hz4 := HB4.out.size
  go_loopw [11, 12] (fun v i wr => ∃ t : Nat, t ≤ s.nt ∧ i = .int .i64 (t : Int) ∧ Own wr w4.heap.size 52 2 v (M.spN (M.freeT L ln lv c) t).1 (ints2 (M.spN (M.freeT L ln lv c) t).2) ∧ Below w4.heap.size w4 wr) (fun _ i _ => s.nt - (intOf i).toNat)
  case atStart => exact ⟨0, Nat.zero_le _, rfl, Own.nil_, Below.refl _ _⟩
  case round =>
    obtain ⟨t, ht, rfl, ho, hbw⟩ := hrel
    obtain ⟨A, vc, rfl⟩ := ho.form
    have HO := Lib.hid ho
    have HW := Lib.hid hbw
    have HWX := Lib.hid (HB4.out.trans (hbw.mono hz4))
    have hzr := hbw.size
    have c3 := (C4.out.below' hbw).cell 3
    clear ho hbw
    by_cases hlt : t < s.nt
    · have HS1 := Lib.hid (HSN.out t)
      have hn60 := HSL.out t
      have HFT := Lib.hid (HFR.out t)
      obtain ⟨fv, hfv⟩ : ∃ fv, fv = M.freeT L ln lv c t := ⟨_, rfl⟩
      rw [← hfv] at HS1 HFT
      obtain ⟨R, hRR⟩ : ∃ R, R = M.spN (M.freeT L ln lv c) (t + 1) := ⟨_, rfl⟩
      have HRR := Lib.hid hRR
      rw [← hRR] at HS1
      obtain ⟨n, hn⟩ : ∃ n, n = (M.spN (M.freeT L ln lv c) t).1 := ⟨_, rfl⟩
      obtain ⟨F, hF⟩ : ∃ F, F = (M.spN (M.freeT L ln lv c) t).2 := ⟨_, rfl⟩
      have HSE := Lib.hid (show M.spN (M.freeT L ln lv c) t = (n, F) by rw [hn, hF])
      rw [← hn, ← hF] at HS1 HO
      rw [← hn]
      rw [← hn] at hn60
      clear hfv hRR hn hF
      have HC := Lib.hid (HOC.out wr t HWX.out hlt)
      have HTK := Lib.hid (show M.anyTo ln (fun i => occB lv c t (L i)) = !fv by rw [HFT.out, Bool.not_not])
      rw [HTK.out] at HC
      cases fv
      · have HEQ := Lib.hid (show R = (n, F) by rw [HS1.out, HSE.out]; rfl)
        go_wp2_with (go_at_call 21; go_must (refine HC.out.mono ?_); rintro e w5 ⟨rfl, hb5⟩; have O5 := Lib.hid (HO.out.below hb5); have HW5 := Lib.hid (HW.out.trans (hb5.mono hzr)); clear hb5)
        go_roundw
        case rel => exact ⟨t + 1, by omega, by go_num, by rw [← HRR.out, HEQ.out]; exact O5.out, HW5.out⟩
        case measure => simp [intOf]; omega
      · have HS2 := Lib.hid (show R = if 0 < n ∧ F (n - 1) 1 = (t : Int) - 1 then (n, fun i j => if i = n - 1 ∧ j = 1 then (t : Int) else F i j) else (n + 1, fun i j => if i = n then (t : Int) else F i j) from HS1.out)
        have hwt : IntKind.i64.wrap ((t : Int) - 1) = (t : Int) - 1 := by rw [IntKind.wrap_i64]; omega
        go_upto_region 11 with (go_at_call 21; go_must (refine HC.out.mono ?_); rintro e w5 ⟨rfl, hb5⟩; have O5 := Lib.hid (HO.out.below hb5); have HW5 := Lib.hid (HW.out.trans (hb5.mono hzr)); clear hb5)
        clear c3
        have hzQ := HW5.out.size
        by_cases hpos : 0 < n
        · obtain ⟨g, vc', ev⟩ := O5.out.nz hpos
          injection ev with ev1 _ ev2
          subst ev1; subst ev2
          have f1 := O5.out.cell (i := n - 1) (j := 1) (by omega) (by omega)
          have r1 := O5.out.frz ((n - 1) * 2 + 1)
          have hwn : IntKind.i64.wrap ((n : Int) - 1) = ((n - 1 : Nat) : Int) := by rw [IntKind.wrap_i64]; omega
          have hwn2 : wrap64 ((n : Int) - 1) = ((n - 1 : Nat) : Int) := by rw [IntWalk.wrap64_in _ (by omega)]; omega
          have kn : decide (n ≤ n - 1) = false := decide_eq_false (by omega)
          have kn2 : ((n - 1 : Nat) : Int) < (n : Int) := (by omega)
          have gp : decide (0 < n) = true := decide_eq_true hpos
          have gp2 : decide ((0 : Int) < (n : Int)) = true := decide_eq_true (by omega)
          obtain ⟨fl, hfl⟩ : ∃ fl, fl = F (n - 1) 1 := ⟨_, rfl⟩
          unfold ints2 at f1
          rw [← hfl] at f1 HS2
          have HFL := Lib.hid hfl
          clear hfl
          by_cases he : fl = (t : Int) - 1
          · have ge : (fl == (t : Int) - 1) = true := by rw [beq_iff_eq]; exact he
            have HEQ := Lib.hid (show R = (n, fun i j => if i = n - 1 ∧ j = 1 then (t : Int) else F i j) by rw [HS2.out, if_pos ⟨hpos, he⟩])
            clear he
            go_wp2_with fail
            go_roundw
            case rel => exact ⟨t + 1, by omega, by go_num, by rw [← HRR.out, HEQ.out]; exact (O5.out.setm (k := n - 1) (j := 1) (by omega) (.int .i64 (t : Int))).congr fun i j _ _ => (by unfold upd2; show _ = Value.int .i64 (if i = n - 1 ∧ j = 1 then (t : Int) else F i j); split <;> rfl), HW5.out.setCell (p := ⟨g, (n - 1) * 2 + 1, none⟩) (O5.out.block rfl).1 _⟩
            case measure => simp [intOf]; omega
          · have ge : (fl == (t : Int) - 1) = false := by rw [beq_eq_false_iff_ne]; exact he
            have HEQ := Lib.hid (show R = (n + 1, fun i j => if i = n then (t : Int) else F i j) by rw [HS2.out, if_neg fun h => he h.2])
            clear he
            go_wp2_with (at_builtin; go_must (refine wpList_app rfl (.tmp 62) (.tmp 66) 23 rfl w4.heap.size 52 2 16 Tryd.underlying23 MI.out.1 MI.out.2.1 MI.out.2.2.1 MI.out.2.2.2 rfl (by decide) (by decide) (O5.out.alloc _) rfl (by omega) (by simp; omega) w5.heap.size 1 (fun _ => .int .i64 (t : Int)) rfl (two_cell w5 t) (fun _ _ => rfl) ?_); intro v7 w7 o7 hg7 hat7; have HO7 := Lib.hid o7; have HG7 := Lib.hid hg7; clear o7 hg7 hat7)
            go_roundw
            case rel => exact ⟨t + 1, by omega, by go_num, by rw [← HRR.out, HEQ.out]; exact HO7.out.congr fun i j hi hj => sp_app F n t i j hi hj, (HW5.out.alloc hzQ (.cells #[.int .i64 (t : Int), .int .i64 (t : Int)] 52)).grown HG7.out (by simp; omega) (fun g hg => (O5.out.block hg).1)⟩
            case measure => simp [intOf]; omega
        · have gp : decide (0 < n) = false := decide_eq_false hpos
          have gp2 : decide ((0 : Int) < (n : Int)) = false := decide_eq_false (by omega)
          have HEQ := Lib.hid (show R = (n + 1, fun i j => if i = n then (t : Int) else F i j) by rw [HS2.out, if_neg fun h => hpos h.1])
          clear hpos
          go_wp2_with (at_builtin; go_must (refine wpList_app rfl (.tmp 62) (.tmp 66) 23 rfl w4.heap.size 52 2 16 Tryd.underlying23 MI.out.1 MI.out.2.1 MI.out.2.2.1 MI.out.2.2.2 rfl (by decide) (by decide) (O5.out.alloc _) rfl (by omega) (by simp; omega) w5.heap.size 1 (fun _ => .int .i64 (t : Int)) rfl (two_cell w5 t) (fun _ _ => rfl) ?_); intro v7 w7 o7 hg7 hat7; have HO7 := Lib.hid o7; have HG7 := Lib.hid hg7; clear o7 hg7 hat7)
          go_roundw
          case rel => exact ⟨t + 1, by omega, by go_num, by rw [← HRR.out, HEQ.out]; exact HO7.out.congr fun i j hi hj => sp_app F n t i j hi hj, (HW5.out.alloc hzQ (.cells #[.int .i64 (t : Int), .int .i64 (t : Int)] 52)).grown HG7.out (by simp; omega) (fun g hg => (O5.out.block hg).1)⟩
          case measure => simp [intOf]; omega
    · obtain rfl : t = s.nt := by omega
      go_wp2_with fail
      go_ret2
      exact ⟨⟨_, rfl, HO.out.less hz4⟩, HWX.out⟩
end
end Go.Proofs.YtkdpmihdhiokkaaDoor
/- Clashes and Free, of the program and of the reference, for any chart, legs, level and cell. -/
namespace Go.Proofs.YtkdpmihdhiokkaaDoor
open Go.RowKit

/-- the chart's numbers as a sea -/
def M.seaOf (W H : Int) (nd nt : Nat) (dep : Nat → Int) (tide : Nat → Nat → Int) (sw : Nat → Int) : M.Sea := ⟨W.toNat, H.toNat, nd, nt, dep, tide, sw⟩
def M.clL (W H : Int) (nd nt ns : Nat) (dep : Nat → Int) (tide : Nat → Nat → Int) (sw : Nat → Int) (n : Nat) (L : Nat → M.Leg) : List (Nat × Nat × Nat) :=
  if M.chkE W H nd nt ns dep tide sw n L = 0 then M.clAll (M.seaOf W H nd nt dep tide sw) L n n else []
def M.frE (W H : Int) (nd nt ns : Nat) (dep : Nat → Int) (tide : Nat → Nat → Int) (sw : Nat → Int) (n : Nat) (L : Nat → M.Leg) (lv c : Int) : Int :=
  if M.chkE W H nd nt ns dep tide sw n L = 0 then (if M.spotOk (M.seaOf W H nd nt dep tide sw) lv c then 0 else 1) else M.chkE W H nd nt ns dep tide sw n L
def M.frS (W H : Int) (nd nt ns : Nat) (dep : Nat → Int) (tide : Nat → Nat → Int) (sw : Nat → Int) (n : Nat) (L : Nat → M.Leg) (lv c : Int) : Nat × (Nat → Nat → Int) :=
  if M.chkE W H nd nt ns dep tide sw n L = 0 then (if M.spotOk (M.seaOf W H nd nt dep tide sw) lv c then M.spN (M.freeT L n lv c) nt else (0, fun _ _ => 0)) else (0, fun _ _ => 0)
theorem M.chkE_zero {W H : Int} {nd nt ns : Nat} {dep : Nat → Int} {tide : Nat → Nat → Int} {sw : Nat → Int} {n : Nat} {L : Nat → M.Leg} (h : M.chkE W H nd nt ns dep tide sw n L = 0) :
    ∃ W' H' : Nat, W = W' ∧ H = H' ∧ ns = nt ∧ M.Sea.Ok ⟨W', H', nd, nt, dep, tide, sw⟩ ∧ M.legsOk ⟨W', H', nd, nt, dep, tide, sw⟩ n L = true := by
  cases hc : M.chkC W H nd nt ns dep tide sw
  · unfold M.chkE at h
    rw [hc] at h
    exact absurd (show (10 : Int) = 0 from h) (by decide)
  · obtain ⟨W', H', rfl, rfl, rfl, hs⟩ := M.chkC_ok hc
    refine ⟨W', H', rfl, rfl, rfl, hs, ?_⟩
    rw [M.Sea.Ok.chkE hs] at h
    unfold M.legsE at h
    by_cases ho : M.legsOk ⟨W', H', nd, ns, dep, tide, sw⟩ n L = true
    · exact ho
    · rw [if_neg ho] at h
      exact absurd h (by decide)
theorem M.legs_at {s : M.Sea} {n : Nat} {L : Nat → M.Leg} (hs : s.Ok) (ho : M.legsOk s n L = true) : n ≤ 12 ∧ ∀ i, i < n → -100 ≤ (L i).at_ ∧ (L i).at_ ≤ 100 ∧ (L i).n ≤ 100 := by
  have hnt := hs.t2
  unfold M.legsOk at ho
  simp only [Bool.and_eq_true, decide_eq_true_eq] at ho
  refine ⟨ho.1, fun i hi => ?_⟩
  have h := M.legOk_iff.1 (M.allTo_iff.1 ho.2 i hi)
  have h0 := h.at0
  have h1 := h.at1
  have h2 := h.n1
  omega
section
variable (W H : Int) (dA tA sA lA : Option Addr) (nd dc nt tc ns sc ln lc B : Nat) (dep : Nat → Int) (tide : Nat → Nat → Int) (sw : Nat → Int) (L : Nat → M.Leg) (w : World)
theorem lclashes_all (hnd : nd ≤ maxLen) (hnt : nt ≤ maxLen) (hns : ns ≤ maxLen) (hw : Ways w) (hR : RdC w B dA tA sA nd nt ns dep tide sw) (hB : B ≤ w.heap.size) (hL : RdL w B lA ln L) (hln : ln ≤ 1048576) :
    Calls Tryd.prog 16 #[.agg #[.int .i64 W, .int .i64 H, .slice dA nd dc, .slice tA nt tc, .slice sA ns sc], .slice lA ln lc] w fun e w' => (∃ v, e = .returned (.tuple #[v, .int .i64 (M.chkE W H nd nt ns dep tide sw ln L)]) ∧ Own w' w.heap.size 43 3 v (M.clL W H nd nt ns dep tide sw ln L).length (ints2 (triF (M.clL W H nd nt ns dep tide sw ln L)))) ∧ Below w.heap.size w w' := by
  by_cases hE : M.chkE W H nd nt ns dep tide sw ln L = 0
  · unfold M.clL
    rw [if_pos hE, hE]
    obtain ⟨W', H', rfl, rfl, rfl, hs, ho⟩ := M.chkE_zero hE
    exact Clashes_ok ⟨W', H', nd, ns, dep, tide, sw⟩ dA tA sA lA dc tc sc ln lc B L w hs hw hR hB hL hln ho
  · refine (Clashes_err W H dA tA sA lA nd dc nt tc ns sc ln lc (M.chkE W H nd nt ns dep tide sw ln L) w (fun V hb => lopen_err W H dA tA sA lA nd dc nt tc ns sc ln lc B dep tide sw L V hnd hnt hns (hw.below hb) (hR.below (hb.mono hB)) (Nat.le_trans hB hb.size) (hL.below (hb.mono hB)) hln hE) hE).mono fun e w' ⟨h1, h2⟩ => ⟨⟨_, h1, ?_⟩, h2⟩
    unfold M.clL
    rw [if_neg hE]
    exact Own.nil_
theorem rclashes_all (hnd : nd ≤ maxLen) (hnt : nt ≤ maxLen) (hns : ns ≤ maxLen) (hR : RdC w B dA tA sA nd nt ns dep tide sw) (hB : B ≤ w.heap.size) (hL : RdL w B lA ln L) (hln : ln ≤ 1048576) :
    Calls Tryd.prog 27 #[.agg #[.int .i64 W, .int .i64 H, .slice dA nd dc, .slice tA nt tc, .slice sA ns sc], .slice lA ln lc] w fun e w' => (∃ v, e = .returned (.tuple #[v, .int .i64 (M.chkE W H nd nt ns dep tide sw ln L)]) ∧ Own w' w.heap.size 43 3 v (M.clL W H nd nt ns dep tide sw ln L).length (ints2 (triF (M.clL W H nd nt ns dep tide sw ln L)))) ∧ Below w.heap.size w w' := by
  by_cases hE : M.chkE W H nd nt ns dep tide sw ln L = 0
  · unfold M.clL
    rw [if_pos hE, hE]
    obtain ⟨W', H', rfl, rfl, rfl, hs, ho⟩ := M.chkE_zero hE
    obtain ⟨h12, hat⟩ := M.legs_at hs ho
    exact rclashes_ok ⟨W', H', nd, ns, dep, tide, sw⟩ dA tA sA lA dc tc sc ln lc B L w hs hR hB hL h12 ho hat
  · refine (rclashes_err W H dA tA sA lA nd dc nt tc ns sc ln lc (M.chkE W H nd nt ns dep tide sw ln L) w (fun V hb => rcheck_any W H dA tA sA lA nd dc nt tc ns sc ln lc B dep tide sw L V hnd hnt hns (hR.below (hb.mono hB)) (Nat.le_trans hB hb.size) (hL.below (hb.mono hB)) hln) hE).mono fun e w' ⟨h1, h2⟩ => ⟨⟨_, h1, ?_⟩, h2⟩
    unfold M.clL
    rw [if_neg hE]
    exact Own.nil_
theorem lfree_all (lv c : Int) (hnd : nd ≤ maxLen) (hnt : nt ≤ maxLen) (hns : ns ≤ maxLen) (hw : Ways w) (hR : RdC w B dA tA sA nd nt ns dep tide sw) (hB : B ≤ w.heap.size) (hL : RdL w B lA ln L) (hln : ln ≤ 1048576) :
    Calls Tryd.prog 20 #[.agg #[.int .i64 W, .int .i64 H, .slice dA nd dc, .slice tA nt tc, .slice sA ns sc], .slice lA ln lc, .int .i64 lv, .int .i64 c] w fun e w' => (∃ v, e = .returned (.tuple #[v, .int .i64 (M.frE W H nd nt ns dep tide sw ln L lv c)]) ∧ Own w' w.heap.size 52 2 v (M.frS W H nd nt ns dep tide sw ln L lv c).1 (ints2 (M.frS W H nd nt ns dep tide sw ln L lv c).2)) ∧ Below w.heap.size w w' := by
  unfold M.frE M.frS
  by_cases hE : M.chkE W H nd nt ns dep tide sw ln L = 0
  · rw [if_pos hE, if_pos hE]
    obtain ⟨W', H', rfl, rfl, rfl, hs, ho⟩ := M.chkE_zero hE
    by_cases hp : M.spotOk (M.seaOf (W' : Int) (H' : Int) nd ns dep tide sw) lv c = true
    · rw [if_pos hp, if_pos hp]
      obtain ⟨hlv, hc0, hc1⟩ := M.spotOk_iff.1 hp
      obtain ⟨c', rfl⟩ : ∃ c' : Nat, c = (c' : Int) := ⟨c.toNat, by omega⟩
      exact Free_ok ⟨W', H', nd, ns, dep, tide, sw⟩ dA tA sA lA dc tc sc ln lc B L w lv c' hlv (by have h : (c' : Int) < (nd : Int) := hc1; exact_mod_cast h) hs hw hR hB hL hln ho
    · rw [if_neg hp, if_neg hp]
      exact (Free_arg ⟨W', H', nd, ns, dep, tide, sw⟩ dA tA sA lA dc tc sc ln lc B L w lv c (Bool.eq_false_iff.2 hp) hs hw hR hB hL hln ho).mono fun e w' ⟨h1, h2⟩ => ⟨⟨_, h1, Own.nil_⟩, h2⟩
  · rw [if_neg hE, if_neg hE]
    exact (Free_err W H dA tA sA lA nd dc nt tc ns sc ln lc (M.chkE W H nd nt ns dep tide sw ln L) w lv c (fun V hb => lopen_err W H dA tA sA lA nd dc nt tc ns sc ln lc B dep tide sw L V hnd hnt hns (hw.below hb) (hR.below (hb.mono hB)) (Nat.le_trans hB hb.size) (hL.below (hb.mono hB)) hln hE) hE).mono fun e w' ⟨h1, h2⟩ => ⟨⟨_, h1, Own.nil_⟩, h2⟩
theorem rfree_all (lv c : Int) (hnd : nd ≤ maxLen) (hnt : nt ≤ maxLen) (hns : ns ≤ maxLen) (hR : RdC w B dA tA sA nd nt ns dep tide sw) (hB : B ≤ w.heap.size) (hL : RdL w B lA ln L) (hln : ln ≤ 1048576) :
    Calls Tryd.prog 28 #[.agg #[.int .i64 W, .int .i64 H, .slice dA nd dc, .slice tA nt tc, .slice sA ns sc], .slice lA ln lc, .int .i64 lv, .int .i64 c] w fun e w' => (∃ v, e = .returned (.tuple #[v, .int .i64 (M.frE W H nd nt ns dep tide sw ln L lv c)]) ∧ Own w' w.heap.size 52 2 v (M.frS W H nd nt ns dep tide sw ln L lv c).1 (ints2 (M.frS W H nd nt ns dep tide sw ln L lv c).2)) ∧ Below w.heap.size w w' := by
  unfold M.frE M.frS
  by_cases hE : M.chkE W H nd nt ns dep tide sw ln L = 0
  · rw [if_pos hE, if_pos hE]
    obtain ⟨W', H', rfl, rfl, rfl, hs, ho⟩ := M.chkE_zero hE
    obtain ⟨h12, hat⟩ := M.legs_at hs ho
    by_cases hp : M.spotOk (M.seaOf (W' : Int) (H' : Int) nd ns dep tide sw) lv c = true
    · rw [if_pos hp, if_pos hp]
      obtain ⟨hlv, hc0, hc1⟩ := M.spotOk_iff.1 hp
      obtain ⟨c', rfl⟩ : ∃ c' : Nat, c = (c' : Int) := ⟨c.toNat, by omega⟩
      exact rfree_ok ⟨W', H', nd, ns, dep, tide, sw⟩ dA tA sA lA dc tc sc ln lc B L w lv c' hlv (by have h : (c' : Int) < (nd : Int) := hc1; exact_mod_cast h) hs hR hB hL h12 ho hat
    · rw [if_neg hp, if_neg hp]
      exact (rfree_arg ⟨W', H', nd, ns, dep, tide, sw⟩ dA tA sA lA dc tc sc ln lc B L w lv c (Bool.eq_false_iff.2 hp) hs hR hB hL hln ho).mono fun e w' ⟨h1, h2⟩ => ⟨⟨_, h1, Own.nil_⟩, h2⟩
  · rw [if_neg hE, if_neg hE]
    exact (rfree_err W H dA tA sA lA nd dc nt tc ns sc ln lc (M.chkE W H nd nt ns dep tide sw ln L) lv c w (fun V hb => rcheck_any W H dA tA sA lA nd dc nt tc ns sc ln lc B dep tide sw L V hnd hnt hns (hR.below (hb.mono hB)) (Nat.le_trans hB hb.size) (hL.below (hb.mono hB)) hln) hE).mono fun e w' ⟨h1, h2⟩ => ⟨⟨_, h1, Own.nil_⟩, h2⟩
end
end Go.Proofs.YtkdpmihdhiokkaaDoor
/- LanesClashes, walked. -/
namespace Go.Proofs.YtkdpmihdhiokkaaDoor
open Go.RowKit

section
variable (W H : Int) (dA tA sA lA : Option Addr) (nd dc nt tc ns sc ln lc B : Nat) (dep : Nat → Int) (tide : Nat → Nat → Int) (sw : Nat → Int) (L : Nat → M.Leg) (lv c : Int) (w : World)
set_option maxRecDepth 100000 in
set_option maxHeartbeats 3200000 in
theorem lanesClashes_any (hnd : nd ≤ maxLen) (hnt : nt ≤ maxLen) (hns : ns ≤ maxLen) (hln : ln ≤ maxLen) (hw : Ways w) (hR : RdC w B dA tA sA nd nt ns dep tide sw) (hB : B ≤ w.heap.size) (hL : RdL w B lA ln L) :
    Calls Tryd.prog 6 #[.agg #[.int .i64 W, .int .i64 H, .slice dA nd dc, .slice tA nt tc, .slice sA ns sc], .slice lA ln lc, .agg #[.int .i64 lv, .int .i64 c]] w fun e w' => e = .returned (.bool true) ∧ Below w.heap.size w w' := by
  have HR := Lib.hid (belowAlloc2 w (.cells #[.int .i64 W, .int .i64 H, .slice dA nd dc, .slice tA nt tc, .slice sA ns sc] 25) (.cells #[.int .i64 lv, .int .i64 c] 48))
  have CR := Lib.hid ((Blk.new w 25 #[.int .i64 W, .int .i64 H, .slice dA nd dc, .slice tA nt tc, .slice sA ns sc]).alloc (.cells #[.int .i64 lv, .int .i64 c] 48))
  have XR := Lib.hid (Blk.new1 w (.cells #[.int .i64 W, .int .i64 H, .slice dA nd dc, .slice tA nt tc, .slice sA ns sc] 25) 48 #[.int .i64 lv, .int .i64 c])
  obtain ⟨X, hX⟩ : ∃ X, X = (w.alloc (.cells #[.int .i64 W, .int .i64 H, .slice dA nd dc, .slice tA nt tc, .slice sA ns sc] 25)).alloc (.cells #[.int .i64 lv, .int .i64 c] 48) := ⟨_, rfl⟩
  have HXe := Lib.hid hX
  rw [← hX] at HR CR XR
  clear hX
  have HRC := Lib.hid (fun V (hb2 : Below w.heap.size w V) => hR.below (hb2.mono hB))
  have HRL := Lib.hid (fun V (hb2 : Below w.heap.size w V) => hL.below (hb2.mono hB))
  have HWY := Lib.hid (fun V (hb2 : Below w.heap.size w V) => hw.below hb2)
  have HBB := Lib.hid hB
  have HWO := Lib.hid (fun V (hb2 : Below w.heap.size w V) => works_any V (hw.below hb2))
  have HFC := Lib.hid (fun V (hb2 : Below w.heap.size w V) => far_any W H dA tA sA nd dc nt tc ns sc B dep tide sw V hnd hnt hns (HRC.out V hb2) (Nat.le_trans HBB.out hb2.size))
  have HFL := Lib.hid (fun V (hb2 : Below w.heap.size w V) => farlegs_any lA ln lc B L V (HRL.out V hb2) hln)
  have c0 := CR.out.cell 0
  have c1 := CR.out.cell 1
  have c2 := CR.out.cell 2
  have c3 := CR.out.cell 3
  have c4 := CR.out.cell 4
  clear hR hw hB hL
  go_enter Tryd.func6, Tryd.ntmps6
  go_upto_region 1 with fail
  rw [← HXe.out]
  clear HXe
  have x0 := XR.out.cell 0
  have x1 := XR.out.cell 1
  cases hf : M.farC W H nd nt ns dep tide sw
  · rw [hf] at HFC
    cases hl : M.farL ln L
    · rw [hl] at HFL
      have HSZ := Lib.hid (show nd ≤ 200 ∧ nt ≤ 80 ∧ ns ≤ 80 by
        unfold M.farC at hf
        simp only [Bool.or_eq_false_iff, decide_eq_false_iff_not] at hf
        omega)
      have HSL := Lib.hid (show ln ≤ 30 ∧ ∀ i, i < ln → (L i).n ≤ 80 by
        unfold M.farL at hl
        simp only [Bool.or_eq_false_iff, decide_eq_false_iff_not] at hl
        refine ⟨by omega, fun i hi => ?_⟩
        have h2 := hl.1
        refine Nat.le_of_not_lt fun h3 => ?_
        rw [M.anyTo_iff.2 ⟨i, hi, decide_eq_true h3⟩] at h2
        cases h2)
      have HCC := Lib.hid (fun V (hb2 : Below w.heap.size w V) => copied_any dA tA sA nd dc nt tc ns sc B W H dep tide sw V (by have := HSZ.out; omega) (by have := HSZ.out; omega) (by have := HSZ.out; omega) (HRC.out V hb2) (Nat.le_trans HBB.out hb2.size))
      have HCL := Lib.hid (fun V (hb2 : Below w.heap.size w V) => rlcopy_any lA ln lc B L V (HRL.out V hb2) (Nat.le_trans HBB.out hb2.size) (by have := HSL.out; omega) (fun i hi => by have := HSL.out.2 i hi; omega))
      clear hf hl
      go_upto_region 4 with (first
        | (go_at_call 22; go_must (refine (HFC.out _ HR.out).mono ?_); rintro e w1 ⟨rfl, hb1⟩; have HR' := Lib.hid (HR.out.trans (hb1.mono HR.out.size)); have CR' := Lib.hid (CR.out.below' hb1); have XR' := Lib.hid (XR.out.below' hb1); clear hb1 HR CR XR c0 c1 c2 c3 c4 x0 x1; have HR := HR'; have CR := CR'; have XR := XR'; clear HR' CR' XR'; have c0 := CR.out.cell 0; have c1 := CR.out.cell 1; have c2 := CR.out.cell 2; have c3 := CR.out.cell 3; have c4 := CR.out.cell 4; have x0 := XR.out.cell 0; have x1 := XR.out.cell 1)
        | (go_at_call 23; go_must (refine (HFL.out _ HR.out).mono ?_); rintro e w2 ⟨rfl, h2⟩; rw [h2]; clear h2)
        | (go_at_call 24; go_must (refine (HCC.out _ HR.out).mono ?_); rintro e w3 ⟨⟨dA', dc', tA', tc', sA', sc', rfl, ho⟩, hb3⟩; have O3 := Lib.hid (ho.less (show w.heap.size ≤ _ from HR.out.size)); clear ho; have HR' := Lib.hid (HR.out.trans (hb3.mono HR.out.size)); have CR' := Lib.hid (CR.out.below' hb3); have XR' := Lib.hid (XR.out.below' hb3); clear hb3 HR CR XR c0 c1 c2 c3 c4 x0 x1; have HR := HR'; have CR := CR'; have XR := XR'; clear HR' CR' XR'; have c0 := CR.out.cell 0; have c1 := CR.out.cell 1; have c2 := CR.out.cell 2; have c3 := CR.out.cell 3; have c4 := CR.out.cell 4; have x0 := XR.out.cell 0; have x1 := XR.out.cell 1)
        | (go_at_call 17; go_must (refine (HCL.out _ HR.out).mono ?_); rintro e w4 ⟨⟨v4, rfl, ho⟩, hb4⟩; have L4 := Lib.hid (ho.less (show w.heap.size ≤ _ from HR.out.size)); obtain ⟨mA, mc, rfl⟩ := L4.out.form; have O4 := Lib.hid (O3.out.below hb4); clear ho O3; have HR' := Lib.hid (HR.out.trans (hb4.mono HR.out.size)); have CR' := Lib.hid (CR.out.below' hb4); have XR' := Lib.hid (XR.out.below' hb4); clear hb4 HR CR XR c0 c1 c2 c3 c4 x0 x1; have HR := HR'; have CR := CR'; have XR := XR'; clear HR' CR' XR'; have c0 := CR.out.cell 0; have c1 := CR.out.cell 1; have c2 := CR.out.cell 2; have c3 := CR.out.cell 3; have c4 := CR.out.cell 4; have x0 := XR.out.cell 0; have x1 := XR.out.cell 1))
      have hz4 := HR.out.size
      have HZ := Lib.hid (HR.out.alloc hz4 (.cells #[.int .i64 W, .int .i64 H, .slice dA' nd dc', .slice tA' nt tc', .slice sA' ns sc'] 25))
      have PZ := Lib.hid (Blk.new w4 25 #[.int .i64 W, .int .i64 H, .slice dA' nd dc', .slice tA' nt tc', .slice sA' ns sc'])
      have CZ := Lib.hid (CR.out.alloc (.cells #[.int .i64 W, .int .i64 H, .slice dA' nd dc', .slice tA' nt tc', .slice sA' ns sc'] 25))
      have XZ := Lib.hid (XR.out.alloc (.cells #[.int .i64 W, .int .i64 H, .slice dA' nd dc', .slice tA' nt tc', .slice sA' ns sc'] 25))
      have RD := Lib.hid ((O4.out.below (belowAlloc w4 (.cells #[.int .i64 W, .int .i64 H, .slice dA' nd dc', .slice tA' nt tc', .slice sA' ns sc'] 25))).rd)
      have RL := Lib.hid ((L4.out.below (belowAlloc w4 (.cells #[.int .i64 W, .int .i64 H, .slice dA' nd dc', .slice tA' nt tc', .slice sA' ns sc'] 25))).rd (fun i hi => by have := HSL.out.2 i hi; unfold maxLen; omega))
      obtain ⟨P, hP⟩ : ∃ P, P = w4.heap.size := ⟨_, rfl⟩
      rw [← hP] at PZ
      rw [← hP]
      clear hP
      generalize w4.alloc (.cells #[.int .i64 W, .int .i64 H, .slice dA' nd dc', .slice tA' nt tc', .slice sA' ns sc'] 25) = Z at HZ PZ CZ XZ RD RL ⊢
      clear c0 c1 c2 c3 c4 x0 x1 CR XR HR O4 L4 HCC HCL HFC HFL hz4
      have CR := CZ
      have XR := XZ
      have HQ := Lib.hid (Below.refl Z.heap.size Z)
      have hzZ := HZ.out.size
      have HK1 := Lib.hid (fun V (hb : Below Z.heap.size Z V) => lclashes_all W H dA' tA' sA' mA nd dc' nt tc' ns sc' ln mc Z.heap.size dep tide sw L V hnd hnt hns (HWY.out V (HZ.out.trans (hb.mono hzZ))) (RD.out.below hb) hb.size (RL.out.below hb) (by have := HSL.out; omega))
      have HK2 := Lib.hid (fun V (hb : Below Z.heap.size Z V) => rclashes_all W H dA tA sA lA nd dc nt tc ns sc ln lc B dep tide sw L V hnd hnt hns (HRC.out V (HZ.out.trans (hb.mono hzZ))) (Nat.le_trans HBB.out (HZ.out.trans (hb.mono hzZ)).size) (HRL.out V (HZ.out.trans (hb.mono hzZ))) (by have := HSL.out; omega))
      have HC1 := Lib.hid (fun V (hb : Below Z.heap.size Z V) => lcheck_any W H dA' tA' sA' mA nd dc' nt tc' ns sc' ln mc Z.heap.size dep tide sw L V hnd hnt hns (HWY.out V (HZ.out.trans (hb.mono hzZ))) (RD.out.below hb) hb.size (RL.out.below hb) (by have := HSL.out; omega))
      have HC2 := Lib.hid (fun V (hb : Below Z.heap.size Z V) => rcheck_any W H dA tA sA lA nd dc nt tc ns sc ln lc B dep tide sw L V hnd hnt hns (HRC.out V (HZ.out.trans (hb.mono hzZ))) (Nat.le_trans HBB.out (HZ.out.trans (hb.mono hzZ)).size) (HRL.out V (HZ.out.trans (hb.mono hzZ))) (by have := HSL.out; omega))
      have HF1 := Lib.hid (fun V (hb : Below Z.heap.size Z V) => lfree_all W H dA' tA' sA' mA nd dc' nt tc' ns sc' ln mc Z.heap.size dep tide sw L V lv c hnd hnt hns (HWY.out V (HZ.out.trans (hb.mono hzZ))) (RD.out.below hb) hb.size (RL.out.below hb) (by have := HSL.out; omega))
      have HF2 := Lib.hid (fun V (hb : Below Z.heap.size Z V) => rfree_all W H dA tA sA lA nd dc nt tc ns sc ln lc B dep tide sw L V lv c hnd hnt hns (HRC.out V (HZ.out.trans (hb.mono hzZ))) (Nat.le_trans HBB.out (HZ.out.trans (hb.mono hzZ)).size) (HRL.out V (HZ.out.trans (hb.mono hzZ))) (by have := HSL.out; omega))
      have HLN := Lib.hid (show (M.clL W H nd nt ns dep tide sw ln L).length ≤ 1000 by
        unfold M.clL
        split
        · have h1 := clAll_len (M.seaOf W H nd nt dep tide sw) L ln ln
          have h2 : ln * ln ≤ 30 * 30 := Nat.mul_le_mul HSL.out.1 HSL.out.1
          omega
        · simp)
      have HFN := Lib.hid (show (M.frS W H nd nt ns dep tide sw ln L lv c).1 ≤ 1000 by
        have hz := HSZ.out
        unfold M.frS
        split
        · split
          · have h1 := (M.spOk (M.freeT L ln lv c) nt).le
            omega
          · simp
        · simp)
      obtain ⟨E, hE⟩ : ∃ E, E = M.chkE W H nd nt ns dep tide sw ln L := ⟨_, rfl⟩
      obtain ⟨NL, hNL⟩ : ∃ NL, NL = M.clL W H nd nt ns dep tide sw ln L := ⟨_, rfl⟩
      obtain ⟨FE, hFE⟩ : ∃ FE, FE = M.frE W H nd nt ns dep tide sw ln L lv c := ⟨_, rfl⟩
      obtain ⟨FN, hFN⟩ : ∃ FN, FN = (M.frS W H nd nt ns dep tide sw ln L lv c).1 := ⟨_, rfl⟩
      obtain ⟨FF, hFF⟩ : ∃ FF, FF = (M.frS W H nd nt ns dep tide sw ln L lv c).2 := ⟨_, rfl⟩
      rw [← hE, ← hNL] at HK1 HK2
      rw [← hE] at HC1 HC2
      rw [← hFE, ← hFN, ← hFF] at HF1 HF2
      rw [← hNL] at HLN
      rw [← hFN] at HFN
      clear hE hNL hFE hFN hFF
      refine wp_region_T 6 (fun w' => Below Z.heap.size Z w') (by kernel_rfl) (Below.refl _ _).drew ?_
      intro hS
      refine wpAnyT_take (i := 0) (v := ?_) rfl (by kernel_rfl) (by kernel_rfl) (by kernel_rfl) (by kernel_rfl) (by kernel_rfl) (fun _ _ _ h => h) (.inl ⟨by kernel_rfl, ?_⟩) hS ?_
      rotate_left
      · (intro w' hw; have CQ := CZ.out.below' hw; have PQ := PZ.out.below' hw; have c0 := CQ.cell 0; have p0 := PQ.cell 0; have c1 := CQ.cell 1; have p1 := PQ.cell 1; have c2 := CQ.cell 2; have p2 := PQ.cell 2; have c3 := CQ.cell 3; have p3 := PQ.cell 3; have c4 := CQ.cell 4; have p4 := PQ.cell 4; go_simp; try with_reducible rfl)
      try simp only [put_laws]
      refine wpAnyT_take (i := 1) (v := ?_) rfl (by kernel_rfl) (by kernel_rfl) (by kernel_rfl) (by kernel_rfl) (by kernel_rfl) (fun _ _ _ h => h) (.inl ⟨by kernel_rfl, ?_⟩) hS ?_
      rotate_left
      · (intro w' hw; have CQ := CZ.out.below' hw; have PQ := PZ.out.below' hw; have c0 := CQ.cell 0; have p0 := PQ.cell 0; have c1 := CQ.cell 1; have p1 := PQ.cell 1; have c2 := CQ.cell 2; have p2 := PQ.cell 2; have c3 := CQ.cell 3; have p3 := PQ.cell 3; have c4 := CQ.cell 4; have p4 := PQ.cell 4; go_simp; try with_reducible rfl)
      try simp only [put_laws]
      refine wpAnyT_take (i := 3) (v := ?_) rfl (by kernel_rfl) (by kernel_rfl) (by kernel_rfl) (by kernel_rfl) (by kernel_rfl) (fun _ _ _ h => h) (.inl ⟨by kernel_rfl, ?_⟩) hS ?_
      rotate_left
      · (intro w' hw; have CQ := CZ.out.below' hw; have PQ := PZ.out.below' hw; have c0 := CQ.cell 0; have p0 := PQ.cell 0; have c1 := CQ.cell 1; have p1 := PQ.cell 1; have c2 := CQ.cell 2; have p2 := PQ.cell 2; have c3 := CQ.cell 3; have p3 := PQ.cell 3; have c4 := CQ.cell 4; have p4 := PQ.cell 4; go_simp; try with_reducible rfl)
      try simp only [put_laws]
      refine wpAnyT_take (i := 4) (v := ?_) rfl (by kernel_rfl) (by kernel_rfl) (by kernel_rfl) (by kernel_rfl) (by kernel_rfl) (fun _ _ _ h => h) (.inl ⟨by kernel_rfl, ?_⟩) hS ?_
      rotate_left
      · (intro w' hw; have CQ := CZ.out.below' hw; have PQ := PZ.out.below' hw; have c0 := CQ.cell 0; have p0 := PQ.cell 0; have c1 := CQ.cell 1; have p1 := PQ.cell 1; have c2 := CQ.cell 2; have p2 := PQ.cell 2; have c3 := CQ.cell 3; have p3 := PQ.cell 3; have c4 := CQ.cell 4; have p4 := PQ.cell 4; go_simp; try with_reducible rfl)
      try simp only [put_laws]
      refine wpAnyT_one (i := 2) (by kernel_rfl) rfl ?_
      intro K' hK'
      go_simp
      refine (HC1.out _ hS).mono ?_
      rintro e w5 ⟨rfl, hb5⟩
      have hS' := Below.trans hS (Below.mono hb5 (Below.size hS))
      clear hS
      have hS := hS'
      clear hS' hb5
      refine hK'.out _ _ (.inr hS) ?_
      clear hK' K'
      try simp only [put_laws]
      refine wpAnyT_one (i := 5) (by kernel_rfl) rfl ?_
      intro K' hK'
      go_simp
      refine (HC2.out _ hS).mono ?_
      rintro e w6' ⟨rfl, hb6⟩
      have hS' := Below.trans hS (Below.mono hb6 (Below.size hS))
      clear hS
      have hS := hS'
      clear hS' hb6
      refine hK'.out _ _ (.inr hS) ?_
      clear hK' K'
      try simp only [put_laws]
      refine wpAnyT_one (i := 6) (by kernel_rfl) rfl ?_
      intro K' hK'
      go_simp
      refine hK'.out _ _ (.inl rfl) ?_
      clear hK' K'
      try simp only [put_laws]
      refine wpAnyT_done (by kernel_rfl) ?_ _
      have HQ := Lib.hid hS
      have CR := Lib.hid (CZ.out.below' hS)
      have XR := Lib.hid (XZ.out.below' hS)
      have PZ := Lib.hid (PZ.out.below' hS)
      clear hS CZ XZ
      have c0 := CR.out.cell 0
      have c1 := CR.out.cell 1
      have c2 := CR.out.cell 2
      have c3 := CR.out.cell 3
      have c4 := CR.out.cell 4
      have x0 := XR.out.cell 0
      have x1 := XR.out.cell 1
      have p0 := PZ.out.cell 0
      have p1 := PZ.out.cell 1
      have p2 := PZ.out.cell 2
      have p3 := PZ.out.cell 3
      have p4 := PZ.out.cell 4
      go_upto_region 10 with (first
        | (go_at_call 16; go_must (refine (HK1.out _ HQ.out).mono ?_); rintro e w5 ⟨⟨v5, rfl, ho⟩, hb5⟩; have OA := Lib.hid ho; obtain ⟨aA, ac, rfl⟩ := OA.out.form; clear ho; have HQ' := Lib.hid (HQ.out.trans (hb5.mono HQ.out.size)); have CR' := Lib.hid (CR.out.below' hb5); have XR' := Lib.hid (XR.out.below' hb5); have PZ' := Lib.hid (PZ.out.below' hb5); clear hb5 HQ CR XR PZ c0 c1 c2 c3 c4 x0 x1 p0 p1 p2 p3 p4; have HQ := HQ'; have CR := CR'; have XR := XR'; have PZ := PZ'; clear HQ' CR' XR' PZ'; have c0 := CR.out.cell 0; have c1 := CR.out.cell 1; have c2 := CR.out.cell 2; have c3 := CR.out.cell 3; have c4 := CR.out.cell 4; have x0 := XR.out.cell 0; have x1 := XR.out.cell 1; have p0 := PZ.out.cell 0; have p1 := PZ.out.cell 1; have p2 := PZ.out.cell 2; have p3 := PZ.out.cell 3; have p4 := PZ.out.cell 4)
        | (go_at_call 27; go_must (refine (HK2.out _ HQ.out).mono ?_); rintro e w6 ⟨⟨v6, rfl, ho⟩, hb6⟩; have OB := Lib.hid ho; obtain ⟨bA, bc, rfl⟩ := OB.out.form; have OA' := Lib.hid (OA.out.below hb6); clear ho OA; have OA := OA'; clear OA'; have HQ' := Lib.hid (HQ.out.trans (hb6.mono HQ.out.size)); have CR' := Lib.hid (CR.out.below' hb6); have XR' := Lib.hid (XR.out.below' hb6); have PZ' := Lib.hid (PZ.out.below' hb6); clear hb6 HQ CR XR PZ c0 c1 c2 c3 c4 x0 x1 p0 p1 p2 p3 p4; have HQ := HQ'; have CR := CR'; have XR := XR'; have PZ := PZ'; clear HQ' CR' XR' PZ'; have c0 := CR.out.cell 0; have c1 := CR.out.cell 1; have c2 := CR.out.cell 2; have c3 := CR.out.cell 3; have c4 := CR.out.cell 4; have x0 := XR.out.cell 0; have x1 := XR.out.cell 1; have p0 := PZ.out.cell 0; have p1 := PZ.out.cell 1; have p2 := PZ.out.cell 2; have p3 := PZ.out.cell 3; have p4 := PZ.out.cell 4))
      clear c0 c1 c2 c3 c4 x0 x1 p0 p1 p2 p3 p4
      go_wp2_with fail
      have hz6 := HQ.out.size
      go_loopw [13] (fun i wr => ∃ k : Nat, k ≤ NL.length ∧ i = .int .i64 (k : Int) ∧ Below w6.heap.size w6 wr) (fun i _ => NL.length - (intOf i).toNat)
      case atStart => exact ⟨0, Nat.zero_le _, rfl, Below.refl _ _⟩
      case round =>
        obtain ⟨k, hk, rfl, hbw⟩ := hrel
        have hll := HLN.out
        have HW := Lib.hid hbw
        clear hbw
        by_cases hlt : k < NL.length
        · obtain ⟨ga, ca, ea⟩ := OA.out.nz (by omega)
          injection ea with ea1 _ ea2
          subst ea1; subst ea2
          obtain ⟨gb, cb, eb⟩ := OB.out.nz (by omega)
          injection eb with eb1 _ eb2
          subst eb1; subst eb2
          have a0 := (OA.out.below HW.out).cell (i := k) (j := 0) hlt (by omega)
          have a1 := (OA.out.below HW.out).cell (i := k) (j := 1) hlt (by omega)
          have a2 := (OA.out.below HW.out).cell (i := k) (j := 2) hlt (by omega)
          have b0 := (OB.out.below HW.out).cell (i := k) (j := 0) hlt (by omega)
          have b1 := (OB.out.below HW.out).cell (i := k) (j := 1) hlt (by omega)
          have b2 := (OB.out.below HW.out).cell (i := k) (j := 2) hlt (by omega)
          unfold ints2 at a0 a1 a2 b0 b1 b2
          rw [Nat.add_zero] at a0 b0
          have kx : decide (NL.length ≤ k) = false := decide_eq_false (by omega)
          have kx2 : (k : Int) < (NL.length : Int) := (by omega)
          obtain ⟨t0, ht0⟩ : ∃ t0, t0 = triF NL k 0 := ⟨_, rfl⟩
          obtain ⟨t1, ht1⟩ : ∃ t1, t1 = triF NL k 1 := ⟨_, rfl⟩
          obtain ⟨t2, ht2⟩ : ∃ t2, t2 = triF NL k 2 := ⟨_, rfl⟩
          rw [← ht0] at a0 b0
          rw [← ht1] at a1 b1
          rw [← ht2] at a2 b2
          clear ht0 ht1 ht2
          go_upto_region 13 with fail
          go_quiet (fail)
          go_wp2_with fail
          go_roundw
          case rel => exact ⟨k + 1, by omega, by go_num, HW.out.drewN nq⟩
          case measure => simp [intOf]; omega
        · obtain rfl : k = NL.length := by omega
          have HQ1 := Lib.hid (HQ.out.trans (HW.out.mono hz6))
          have CR1 := Lib.hid (CR.out.below' HW.out)
          have XR1 := Lib.hid (XR.out.below' HW.out)
          have PZ1 := Lib.hid (PZ.out.below' HW.out)
          clear HQ CR XR PZ
          have HQ := HQ1
          have CR := CR1
          have XR := XR1
          have PZ := PZ1
          clear HQ1 CR1 XR1 PZ1
          have c0 := CR.out.cell 0
          have c1 := CR.out.cell 1
          have c2 := CR.out.cell 2
          have c3 := CR.out.cell 3
          have c4 := CR.out.cell 4
          have x0 := XR.out.cell 0
          have x1 := XR.out.cell 1
          have p0 := PZ.out.cell 0
          have p1 := PZ.out.cell 1
          have p2 := PZ.out.cell 2
          have p3 := PZ.out.cell 3
          have p4 := PZ.out.cell 4
          go_upto_region 19 with (first
            | (go_at_call 20; go_must (refine (HF1.out _ HQ.out).mono ?_); rintro e w5' ⟨⟨v5, rfl, ho⟩, hb5⟩; have SA := Lib.hid ho; obtain ⟨fA, fc, rfl⟩ := SA.out.form; clear ho; have HQ' := Lib.hid (HQ.out.trans (hb5.mono HQ.out.size)); have CR' := Lib.hid (CR.out.below' hb5); have XR' := Lib.hid (XR.out.below' hb5); have PZ' := Lib.hid (PZ.out.below' hb5); clear hb5 HQ CR XR PZ c0 c1 c2 c3 c4 x0 x1 p0 p1 p2 p3 p4; have HQ := HQ'; have CR := CR'; have XR := XR'; have PZ := PZ'; clear HQ' CR' XR' PZ'; have c0 := CR.out.cell 0; have c1 := CR.out.cell 1; have c2 := CR.out.cell 2; have c3 := CR.out.cell 3; have c4 := CR.out.cell 4; have x0 := XR.out.cell 0; have x1 := XR.out.cell 1; have p0 := PZ.out.cell 0; have p1 := PZ.out.cell 1; have p2 := PZ.out.cell 2; have p3 := PZ.out.cell 3; have p4 := PZ.out.cell 4)
            | (go_at_call 28; go_must (refine (HF2.out _ HQ.out).mono ?_); rintro e w7 ⟨⟨v6, rfl, ho⟩, hb6⟩; have SB := Lib.hid ho; obtain ⟨gA, gc, rfl⟩ := SB.out.form; have SA' := Lib.hid (SA.out.below hb6); clear ho SA; have SA := SA'; clear SA'; have HQ' := Lib.hid (HQ.out.trans (hb6.mono HQ.out.size)); have CR' := Lib.hid (CR.out.below' hb6); have XR' := Lib.hid (XR.out.below' hb6); have PZ' := Lib.hid (PZ.out.below' hb6); clear hb6 HQ CR XR PZ c0 c1 c2 c3 c4 x0 x1 p0 p1 p2 p3 p4; have HQ := HQ'; have CR := CR'; have XR := XR'; have PZ := PZ'; clear HQ' CR' XR' PZ'; have c0 := CR.out.cell 0; have c1 := CR.out.cell 1; have c2 := CR.out.cell 2; have c3 := CR.out.cell 3; have c4 := CR.out.cell 4; have x0 := XR.out.cell 0; have x1 := XR.out.cell 1; have p0 := PZ.out.cell 0; have p1 := PZ.out.cell 1; have p2 := PZ.out.cell 2; have p3 := PZ.out.cell 3; have p4 := PZ.out.cell 4))
          clear c0 c1 c2 c3 c4 x0 x1 p0 p1 p2 p3 p4
          go_wp2_with fail
          have hz7 := HQ.out.size
          go_loopw [18] (fun i wr => ∃ k : Nat, k ≤ FN ∧ i = .int .i64 (k : Int) ∧ Below w7.heap.size w7 wr) (fun i _ => FN - (intOf i).toNat)
          case atStart => exact ⟨0, Nat.zero_le _, rfl, Below.refl _ _⟩
          case round =>
            obtain ⟨k, hk, rfl, hbw⟩ := hrel
            have hll := HFN.out
            have HW := Lib.hid hbw
            have HR := Lib.hid (HZ.out.trans ((HQ.out.trans (hbw.mono hz7)).mono hzZ))
            clear hbw
            by_cases hlt : k < FN
            · obtain ⟨ga, ca, ea⟩ := SA.out.nz (by omega)
              injection ea with ea1 _ ea2
              subst ea1; subst ea2
              obtain ⟨gb, cb, eb⟩ := SB.out.nz (by omega)
              injection eb with eb1 _ eb2
              subst eb1; subst eb2
              have a0 := (SA.out.below HW.out).cell (i := k) (j := 0) hlt (by omega)
              have a1 := (SA.out.below HW.out).cell (i := k) (j := 1) hlt (by omega)
              have b0 := (SB.out.below HW.out).cell (i := k) (j := 0) hlt (by omega)
              have b1 := (SB.out.below HW.out).cell (i := k) (j := 1) hlt (by omega)
              unfold ints2 at a0 a1 b0 b1
              rw [Nat.add_zero] at a0 b0
              have kx : decide (FN ≤ k) = false := decide_eq_false (by omega)
              have kx2 : (k : Int) < (FN : Int) := (by omega)
              obtain ⟨t0, ht0⟩ : ∃ t0, t0 = FF k 0 := ⟨_, rfl⟩
              obtain ⟨t1, ht1⟩ : ∃ t1, t1 = FF k 1 := ⟨_, rfl⟩
              rw [← ht0] at a0 b0
              rw [← ht1] at a1 b1
              clear ht0 ht1
              go_upto_region 22 with fail
              go_quiet (fail)
              go_wp2_with fail
              go_roundw
              case rel => exact ⟨k + 1, by omega, by go_num, HW.out.drewN nq⟩
              case measure => simp [intOf]; omega
            · obtain rfl : k = FN := by omega
              go_wp2_with (go_at_call 13; go_must (refine (HWO.out _ HR.out).mono ?_); rintro e w9 ⟨rfl, hb9⟩; have HB9 := Lib.hid (HR.out.trans (hb9.mono HR.out.size)); clear hb9)
              go_ret
              exact ⟨rfl, HB9.out⟩
    · rw [hl] at HFL
      clear hf hl
      go_upto_region 2 with (first
        | (go_at_call 22; go_must (refine (HFC.out _ HR.out).mono ?_); rintro e w1 ⟨rfl, hb1⟩; have HR' := Lib.hid (HR.out.trans (hb1.mono HR.out.size)); have CR' := Lib.hid (CR.out.below' hb1); have XR' := Lib.hid (XR.out.below' hb1); clear hb1 HR CR XR c0 c1 c2 c3 c4 x0 x1; have HR := HR'; have CR := CR'; have XR := XR'; clear HR' CR' XR'; have c0 := CR.out.cell 0; have c1 := CR.out.cell 1; have c2 := CR.out.cell 2; have c3 := CR.out.cell 3; have c4 := CR.out.cell 4; have x0 := XR.out.cell 0; have x1 := XR.out.cell 1)
        | (go_at_call 23; go_must (refine (HFL.out _ HR.out).mono ?_); rintro e w2 ⟨rfl, h2⟩; rw [h2]; clear h2))
      go_wp2_with (go_at_call 13; go_must (refine (HWO.out _ HR.out).mono ?_); rintro e w9 ⟨rfl, hb9⟩; have HB9 := Lib.hid (HR.out.trans (hb9.mono HR.out.size)); clear hb9)
      go_ret
      exact ⟨rfl, HB9.out⟩
  · rw [hf] at HFC
    clear hf
    go_upto_region 2 with (go_at_call 22; go_must (refine (HFC.out _ HR.out).mono ?_); rintro e w1 ⟨rfl, hb1⟩; have HR' := Lib.hid (HR.out.trans (hb1.mono HR.out.size)); have CR' := Lib.hid (CR.out.below' hb1); have XR' := Lib.hid (XR.out.below' hb1); clear hb1 HR CR XR c0 c1 c2 c3 c4 x0 x1; have HR := HR'; have CR := CR'; have XR := XR'; clear HR' CR' XR'; have c0 := CR.out.cell 0; have c1 := CR.out.cell 1; have c2 := CR.out.cell 2; have c3 := CR.out.cell 3; have c4 := CR.out.cell 4; have x0 := XR.out.cell 0; have x1 := XR.out.cell 1)
    go_wp2_with (go_at_call 13; go_must (refine (HWO.out _ HR.out).mono ?_); rintro e w9 ⟨rfl, hb9⟩; have HB9 := Lib.hid (HR.out.trans (hb9.mono HR.out.size)); clear hb9)
    go_ret
    exact ⟨rfl, HB9.out⟩
end
end Go.Proofs.YtkdpmihdhiokkaaDoor
