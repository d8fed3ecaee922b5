/- lanes.Clashes, where the chart and the legs are valid. -/
import Derived.Test.YtkdpmihdhiokkaaDoorK22
import Derived.Test.YtkdpmihdhiokkaaDoorLaF
import Derived.WalkMore
namespace Go.Proofs.YtkdpmihdhiokkaaDoor
open Go.RowKit

/-- triples of numbers as rows of three -/
def triF (l : List (Nat × Nat × Nat)) : Nat → Nat → Int := fun i j => if j = 0 then ((l.getD i (0, 0, 0)).1 : Nat) else if j = 1 then ((l.getD i (0, 0, 0)).2.1 : Nat) else ((l.getD i (0, 0, 0)).2.2 : Nat)
def tri3 (a b c : Nat) : Nat → Value := fun j => .int .i64 (if j = 0 then (a : Int) else if j = 1 then (b : Int) else (c : Int))
theorem tri_app (l : List (Nat × Nat × Nat)) (a b c : Nat) (i j : Nat) (hi : i < l.length + 1) (_hj : j < 3) : upd (ints2 (triF l)) l.length (tri3 a b c) i j = ints2 (triF (l ++ [(a, b, c)])) i j := by
  unfold upd
  by_cases h : i = l.length
  · subst h
    rw [if_pos rfl]
    unfold ints2 triF tri3
    simp
  · rw [if_neg h]
    unfold ints2 triF
    have : i < l.length := by omega
    simp [List.getElem?_append_left this]
theorem tri_info : (Tryd.prog.info? 43).map (fun i => (i.zero, i.size, i.bytes)) = some (some (.agg #[.int .i64 0, .int .i64 0, .int .i64 0]), 3, 24) := by kernel_rfl
theorem tri_cell (W : World) (k q t : Nat) : ∀ j, j < 3 → (W.alloc (.cells #[.int .i64 (k : Int), .int .i64 (q : Int), .int .i64 (t : Int)] 43)).cell? ⟨W.heap.size, j, none⟩ = some (tri3 k q t j) := by
  intro j hj
  refine ((Blk.new W 43 #[.int .i64 (k : Int), .int .i64 (q : Int), .int .i64 (t : Int)]).cell j).trans ?_
  obtain rfl | rfl | rfl : j = 0 ∨ j = 1 ∨ j = 2 := by omega
  · rfl
  · rfl
  · rfl
theorem clIn_len (s : M.Sea) (L : Nat → M.Leg) (i : Nat) : ∀ m, (M.clIn s L i m).length ≤ m
  | 0 => Nat.le_refl _
  | m + 1 => by
    have := clIn_len s L i m
    simp only [M.clIn]
    split
    · simp; omega
    · omega
theorem clAll_len (s : M.Sea) (L : Nat → M.Leg) (n : Nat) : ∀ i, (M.clAll s L n i).length ≤ i * n
  | 0 => Nat.zero_le _
  | i + 1 => by
    have h1 := clAll_len s L n i
    have h2 := clIn_len s L i (n - (i + 1))
    simp only [M.clAll, List.length_append]
    rw [Nat.add_mul, Nat.one_mul]
    omega
section
variable (s : M.Sea) (dA tA sA lA : Option Addr) (dc tc sc ln lc B : Nat) (L : Nat → M.Leg) (w : World)
set_option maxRecDepth 100000 in
set_option maxHeartbeats 6400000 in
theorem Clashes_ok (hs : s.Ok) (hw : Ways w) (hR : RdC w B dA tA sA s.nd s.nt s.nt s.dep s.tide s.sw) (hB : B ≤ w.heap.size) (hL : RdL w B lA ln L) (hln : ln ≤ 1048576) (hlo : M.legsOk s ln L = true) :
    Calls Tryd.prog 16 #[.agg #[.int .i64 (s.W : Int), .int .i64 (s.H : Int), .slice dA s.nd dc, .slice tA s.nt tc, .slice sA s.nt sc], .slice lA ln lc] w fun e w' =>
      (∃ v, e = .returned (.tuple #[v, .int .i64 0]) ∧ Own w' w.heap.size 43 3 v (M.clAll s L ln ln).length (ints2 (triF (M.clAll s L ln ln)))) ∧ Below w.heap.size w w' := by
  have hnt := hs.t2
  have hl12 : ln ≤ 12 := by
    unfold M.legsOk at hlo
    simp only [Bool.and_eq_true, decide_eq_true_eq] at hlo
    exact hlo.1
  have HOK := Lib.hid (show ∀ i, i < ln → M.LegOk s (L i) from fun i hi => by
    unfold M.legsOk at hlo
    simp only [Bool.and_eq_true] at hlo
    exact M.legOk_iff.1 (M.allTo_iff.1 hlo.2 i hi))
  have HB0 := Lib.hid (belowAlloc w (.cells #[.int .i64 (s.W : Int), .int .i64 (s.H : Int), .slice dA s.nd dc, .slice tA s.nt tc, .slice sA s.nt sc] 25))
  have C0 := Lib.hid (Blk.new w 25 #[.int .i64 (s.W : Int), .int .i64 (s.H : Int), .slice dA s.nd dc, .slice tA s.nt tc, .slice sA s.nt sc])
  have HOP := Lib.hid (lopen_any s dA tA sA lA dc tc sc ln lc w.heap.size L (w.alloc (.cells #[.int .i64 (s.W : Int), .int .i64 (s.H : Int), .slice dA s.nd dc, .slice tA s.nt tc, .slice sA s.nt sc] 25)) hs (hw.below HB0.out) ((hR.below (HB0.out.mono hB)).more hB) HB0.out.size ((hL.below (HB0.out.mono hB)).more hB) hln)
  rw [hlo] at HOP
  have HO2 := Lib.hid (by have h := HOP.out; simp only [if_true] at h; exact h)
  have HL := Lib.hid (fun W (hb : Below w.heap.size w W) => hL.below (hb.mono hB))
  have HA := Lib.hid (fun W (hb : Below w.heap.size w W) i cA cc t (hi : i < ln) (ht : -1 ≤ t ∧ t ≤ 60) (h : Rd1 W W.heap.size cA (L i).n (L i).c) => lat_any s (L i) cc W.heap.size cA t W hs (HOK.out i hi) ht h (Nat.le_refl _))
  obtain ⟨i0, hi, hz0, hz1, hz2⟩ := info_parts tri_info
  have MI := Lib.hid (And.intro hi (And.intro hz0 (And.intro hz1 hz2)))
  have HLEN := Lib.hid (fun i => clAll_len s L ln i)
  have HLE2 := Lib.hid (fun i m => clIn_len s L i m)
  have HBB := Lib.hid hB
  clear hi hz0 hz1 hz2 hs hw hR hL hlo HOP hB
  go_enter Tryd.func16, Tryd.ntmps16
  go_upto_region 4 with (go_at_call 40; go_must (refine HO2.out.mono ?_); rintro e w1 ⟨⟨x, rfl, hx⟩, hb1⟩; have HB1 := Lib.hid (HB0.out.trans (hb1.mono HB0.out.size)); have C1 := Lib.hid (C0.out.below' hb1); clear hb1 hx)
  obtain ⟨Y, hY⟩ : ∃ Y, Y = w1 := ⟨_, rfl⟩
  rw [← hY] at HB1 C1
  rw [← hY]
  clear hY C0 HB0
  have hz := HB1.out.size
  go_wp2_with fail
  go_loopw [8, 28] (fun v i wr => ∃ k : Nat, k ≤ ln ∧ i = .int .i64 (k : Int) ∧ Own wr Y.heap.size 43 3 v (M.clAll s L ln k).length (ints2 (triF (M.clAll s L ln k))) ∧ Below Y.heap.size Y wr) (fun _ i _ => ln - (intOf i).toNat)
  case atStart => exact ⟨0, Nat.zero_le _, rfl, Own.nil_, Below.refl _ _⟩
  case round =>
    obtain ⟨k, hk, rfl, ho, hbw⟩ := hrel
    obtain ⟨A8, c8, rfl⟩ := ho.form
    have HO := Lib.hid ho
    have HW := Lib.hid hbw
    have hzr := hbw.size
    clear ho hbw
    obtain ⟨wo, rfl⟩ : ∃ wo, wo = wr := ⟨_, rfl⟩
    by_cases hlt : k < ln
    · have HBo := Lib.hid (HB1.out.trans (HW.out.mono hz))
      obtain ⟨b, off, rfl, hb, c0, c1, c2, c3, cA, cc, c4, hr, hm⟩ := (HL.out wo HBo.out).at_ hlt
      have hbo : b < wo.heap.size := by have := HBo.out.size; have := HBB.out; omega
      have HRY := Lib.hid (show Rd1 Y B cA (L k).n (L k).c from hr.keep fun p hp => (HW.out.cell (p := p) (Nat.lt_of_lt_of_le hp (Nat.le_trans HBB.out hz))).symm)
      have kx : decide (ln ≤ k) = false := decide_eq_false (by omega)
      clear hr hm
      go_wp2_with fail
      have HB9 := Lib.hid (belowAlloc wo (.cells #[.int .i64 (L k).at_, .int .i64 (L k).lv, .int .i64 (L k).dr, .bool (L k).tail, .slice cA (L k).n cc] 41))
      have D9 := Lib.hid (Blk.new wo 41 #[.int .i64 (L k).at_, .int .i64 (L k).lv, .int .i64 (L k).dr, .bool (L k).tail, .slice cA (L k).n cc])
      have hDl : wo.heap.size < wo.heap.size + 1 := Nat.lt_succ_self _
      obtain ⟨D, hD⟩ : ∃ D, D = wo.heap.size := ⟨_, rfl⟩
      rw [← hD] at D9
      have hDD := Lib.hid hD
      have HO9 := Lib.hid (HO.out.alloc (.cells #[.int .i64 (L k).at_, .int .i64 (L k).lv, .int .i64 (L k).dr, .bool (L k).tail, .slice cA (L k).n cc] 41))
      have HW9 := Lib.hid (HW.out.alloc hzr (.cells #[.int .i64 (L k).at_, .int .i64 (L k).lv, .int .i64 (L k).dr, .bool (L k).tail, .slice cA (L k).n cc] 41))
      generalize hX : wo.alloc (.cells #[.int .i64 (L k).at_, .int .i64 (L k).lv, .int .i64 (L k).dr, .bool (L k).tail, .slice cA (L k).n cc] 41) = X at HB9 D9 HO9 HW9 ⊢
      rw [← hD]
      clear hX hD c0 c1 c2 c3 c4 hDl
      have hzX := HW9.out.size
      go_step3
      go_wp2_with fail
      go_step3
      go_wp2_with fail
      go_loopw [8, 11] (fun v i wr => ∃ m q : Nat, m ≤ ln - (k + 1) ∧ i = .int .i64 (q : Int) ∧ Hid (q = k + 1 + m) ∧ Own wr Y.heap.size 43 3 v (M.clAll s L ln k ++ M.clIn s L k m).length (ints2 (triF (M.clAll s L ln k ++ M.clIn s L k m))) ∧ Blk wr D 41 #[.int .i64 (L k).at_, .int .i64 (L k).lv, .int .i64 (L k).dr, .bool (L k).tail, .slice cA (L k).n cc] ∧ Below Y.heap.size Y wr) (fun _ i _ => ln - (intOf i).toNat)
      case atStart => exact ⟨0, k + 1, Nat.zero_le _, by go_num, Lib.hid rfl, (by simp only [M.clIn, List.append_nil]; exact HO9.out), D9.out, HW9.out⟩
      case round =>
        obtain ⟨m, q, hm, rfl, HQ, ho, hd, hbw⟩ := hrel
        obtain ⟨A8, c8, rfl⟩ := ho.form
        have HOm := Lib.hid ho
        have HDm := Lib.hid hd
        have HWm := Lib.hid hbw
        have hzm := hbw.size
        clear ho hd hbw HO9 D9 HW9
        obtain ⟨wi, rfl⟩ : ∃ wi, wi = wr := ⟨_, rfl⟩
        by_cases hlq : q < ln
        · have HBi := Lib.hid (HB1.out.trans (HWm.out.mono hz))
          have c3' := (C1.out.below' HWm.out).cell 3
          go_upto_block 3 with fail
          go_cut [8] (fun v wx => Own wx Y.heap.size 43 3 v (M.clAll s L ln k ++ M.clIn s L k (m + 1)).length (ints2 (triF (M.clAll s L ln k ++ M.clIn s L k (m + 1)))) ∧ Blk wx D 41 #[.int .i64 (L k).at_, .int .i64 (L k).lv, .int .i64 (L k).dr, .bool (L k).tail, .slice cA (L k).n cc] ∧ Below Y.heap.size Y wx)
          case first =>
            have HLC := Lib.hid (fun (t : Nat) => (show M.legC (L k) (L q) (t : Int) = (decide (0 ≤ M.atC (L k) t) && decide (0 ≤ M.atC (L q) t) && M.clash (L k).lv (L q).lv (L k).tail (L q).tail (M.atC (L k) ((t : Int) - 1)) (M.atC (L k) t) (M.atC (L q) ((t : Int) - 1)) (M.atC (L q) t)) from rfl))
            have HCI := Lib.hid (show M.clIn s L k (m + 1) = if M.firstC s L k q < s.nt then M.clIn s L k m ++ [(k, q, M.firstC s L k q)] else M.clIn s L k m by rw [HQ.out]; rfl)
            have HFC := Lib.hid (fun t (ht : t < s.nt) (h1 : ∀ u, u < t → M.legC (L k) (L q) (u : Int) = false) (h2 : M.legC (L k) (L q) (t : Int) = true) => (show M.firstC s L k q = t from M.firstTo_eq ht h2 h1))
            have HFN := Lib.hid (fun (h1 : ∀ u, u < s.nt → M.legC (L k) (L q) (u : Int) = false) => (show ¬ M.firstC s L k q < s.nt from M.firstC_none h1))
            have hlc12 : (M.clAll s L ln k ++ M.clIn s L k m).length ≤ 1048576 := by
              have h1 := HLEN.out k
              have h2 := HLE2.out k m
              have h3 : k * ln ≤ 12 * 12 := Nat.mul_le_mul (by omega) hl12
              rw [List.length_append]; omega
            obtain ⟨lst0, hlst⟩ : ∃ l0, l0 = M.clAll s L ln k ++ M.clIn s L k m := ⟨_, rfl⟩
            have HLST := Lib.hid hlst
            rw [← hlst] at HOm hlc12
            rw [← hlst]
            clear hlst
            go_wp2_with fail
            go_loopw [8, 44] (fun v i wt => ∃ t : Nat, v = .slice A8 lst0.length c8 ∧ t ≤ s.nt ∧ i = .int .i64 (t : Int) ∧ Hid (∀ u, u < t → M.legC (L k) (L q) (u : Int) = false) ∧ Below wi.heap.size wi wt) (fun _ i _ => s.nt - (intOf i).toNat)
            case atStart => exact ⟨0, rfl, Nat.zero_le _, rfl, Lib.hid fun u hu => absurd hu (by omega), Below.refl _ _⟩
            case round =>
              clear c3'
              obtain ⟨t, rfl, ht, rfl, HNT, hbt⟩ := hrel
              have HT := Lib.hid hbt
              have hzt := hbt.size
              clear hbt
              by_cases hlt2 : t < s.nt
              · have d0 := (HDm.out.below' HT.out).cell 0
                have d1 := (HDm.out.below' HT.out).cell 1
                have d2 := (HDm.out.below' HT.out).cell 2
                have d3 := (HDm.out.below' HT.out).cell 3
                have d4 := (HDm.out.below' HT.out).cell 4
                have HBt := Lib.hid (HBi.out.trans (HT.out.mono HBi.out.size))
                have HA1 := Lib.hid (HA.out wr HBt.out k cA cc (t : Int) hlt (by omega) (((HRY.out.below ((HWm.out.trans (HT.out.mono hzm)).mono (Nat.le_trans HBB.out hz))).more (Nat.le_trans HBB.out HBt.out.size))))
                have HLT := Lib.hid (HLC.out t)
                obtain ⟨isv, his⟩ : ∃ isv, isv = decide (0 ≤ M.atC (L k) (t : Int)) := ⟨_, rfl⟩
                obtain ⟨sov, hso⟩ : ∃ sov, sov = decide (0 ≤ M.atC (L q) (t : Int)) := ⟨_, rfl⟩
                have HIS := Lib.hid his
                have HSO := Lib.hid hso
                rw [← his] at HA1 HLT
                rw [← hso] at HLT
                clear his
                go_upto_region 15 with (go_at_call 41; go_must (refine HA1.out.mono ?_); rintro e w5 ⟨⟨a, b1, c, d, rfl, hv1⟩, hb1⟩; have HV1 := Lib.hid hv1; have HB5w := Lib.hid hb1.size; have HB5 := Lib.hid (hb1.alloc hb1.size (.cells #[.int .i64 a, .int .i64 b1, .int .i64 c, .bool d] 82)); have S5 := Lib.hid (Blk.new w5 82 #[.int .i64 a, .int .i64 b1, .int .i64 c, .bool d]); clear hv1 hb1)
                clear d0 d1 d2 d3 d4
                obtain ⟨S1, hS1⟩ : ∃ S1, S1 = w5.heap.size := ⟨_, rfl⟩
                rw [← hS1] at S5
                rw [← hS1]
                have hS1w : wr.heap.size ≤ S1 := by rw [hS1]; exact HB5w.out
                clear hS1
                generalize w5.alloc (.cells #[.int .i64 a, .int .i64 b1, .int .i64 c, .bool d] 82) = X5 at HB5 S5 ⊢
                have HBx := Lib.hid (HBt.out.trans (HB5.out.mono HBt.out.size))
                obtain ⟨b', off', hbb, hb', e0, e1, e2, e3, cA', cc', e4, hr', hm'⟩ := (HL.out X5 HBx.out).at_ hlq
                injection hbb with hbb
                injection hbb with hbb1 hbb2 _
                subst hbb1; subst hbb2
                have kq : decide (ln ≤ q) = false := decide_eq_false (by omega)
                have HA2 := Lib.hid (HA.out X5 HBx.out q cA' cc' (t : Int) hlq (by omega) (hr'.more (Nat.le_trans HBB.out HBx.out.size)))
                rw [← hso] at HA2
                clear hso hr' hm'
                go_upto_region 16 with (go_at_call 41; go_must (refine HA2.out.mono ?_); rintro e w6 ⟨⟨a', b1', c', d', rfl, hv1⟩, hb1⟩; have HV2 := Lib.hid hv1; have HB6w := Lib.hid hb1.size; have HB6 := Lib.hid (hb1.alloc hb1.size (.cells #[.int .i64 a', .int .i64 b1', .int .i64 c', .bool d'] 82)); have S6 := Lib.hid (Blk.new w6 82 #[.int .i64 a', .int .i64 b1', .int .i64 c', .bool d']); clear hv1 hb1)
                obtain ⟨S2, hS2⟩ : ∃ S2, S2 = w6.heap.size := ⟨_, rfl⟩
                rw [← hS2] at S6
                rw [← hS2]
                clear hS2 e0 e1 e2 e3 e4
                generalize w6.alloc (.cells #[.int .i64 a', .int .i64 b1', .int .i64 c', .bool d'] 82) = X6 at HB6 S6 ⊢
                have HBX := Lib.hid (HT.out.trans ((HB5.out.trans (HB6.out.mono HB5.out.size)).mono hzt))
                have hzX6 := HBX.out.size
                have s0 := (S5.out.below' HB6.out).cell 0
                have s1 := (S5.out.below' HB6.out).cell 1
                have s2 := (S5.out.below' HB6.out).cell 2
                have s3 := (S5.out.below' HB6.out).cell 3
                have o0 := S6.out.cell 0
                have o1 := S6.out.cell 1
                have o2 := S6.out.cell 2
                have o3 := S6.out.cell 3
                cases isv
                · have HF := Lib.hid (show M.legC (L k) (L q) (t : Int) = false by rw [HLT.out]; rfl)
                  go_wp2_with fail
                  go_roundw
                  case rel => exact ⟨t + 1, rfl, by omega, by go_num, Lib.hid fun u hu => by
                    rcases Nat.lt_succ_iff_lt_or_eq.1 hu with h | h
                    · exact HNT.out u h
                    · subst h; exact HF.out, HBX.out⟩
                  case measure => simp [intOf]; omega
                · cases sov
                  · have HF := Lib.hid (show M.legC (L k) (L q) (t : Int) = false by rw [HLT.out]; rfl)
                    go_wp2_with fail
                    go_roundw
                    case rel => exact ⟨t + 1, rfl, by omega, by go_num, Lib.hid fun u hu => by
                      rcases Nat.lt_succ_iff_lt_or_eq.1 hu with h | h
                      · exact HNT.out u h
                      · subst h; exact HF.out, HBX.out⟩
                    case measure => simp [intOf]; omega
                  · obtain ⟨x1, x2, x3, x4⟩ := HV1.out (of_decide_eq_true HIS.out.symm)
                    obtain ⟨y1, y2, y3, y4⟩ := HV2.out (of_decide_eq_true HSO.out.symm)
                    have HCL := Lib.hid (clashes_any a a' d d' b1 c b1' c' X6)
                    have HLT2 := Lib.hid (show M.legC (L k) (L q) (t : Int) = M.clash a a' d d' b1 c b1' c' by rw [HLT.out, x1, x2, x3, x4, y1, y2, y3, y4]; rfl)
                    clear x1 x2 x3 x4 y1 y2 y3 y4
                    cases hcl : M.clash a a' d d' b1 c b1' c'
                    · rw [hcl] at HCL HLT2
                      clear hcl
                      go_wp2_with (go_at_call 42; go_must (refine HCL.out.mono ?_); rintro e w7 ⟨rfl, hb7⟩; have HB7 := Lib.hid (HBX.out.trans (hb7.mono hzX6)); clear hb7)
                      go_roundw
                      case rel => exact ⟨t + 1, rfl, by omega, by go_num, Lib.hid fun u hu => by
                        rcases Nat.lt_succ_iff_lt_or_eq.1 hu with h | h
                        · exact HNT.out u h
                        · subst h; exact HLT2.out, HB7.out⟩
                      case measure => simp [intOf]; omega
                    · rw [hcl] at HCL HLT2
                      clear hcl
                      have HFI := Lib.hid (HFC.out t hlt2 HNT.out HLT2.out)
                      go_wp2_with (first
                        | (go_at_call 42; go_must (refine HCL.out.mono ?_); rintro e w7 ⟨rfl, hb7⟩; have HB7 := Lib.hid (HBX.out.trans (hb7.mono hzX6)); have HY7 := Lib.hid (HWm.out.trans (HB7.out.mono hzm)); clear hb7)
                        | (at_builtin; go_must (refine wpList_app rfl (.tmp 71) (.tmp 76) 36 rfl Y.heap.size 43 3 24 Tryd.underlying36 MI.out.1 MI.out.2.1 MI.out.2.2.1 MI.out.2.2.2 rfl (by decide) (by decide) ((HOm.out.below HB7.out).alloc _) rfl hlc12 (by have := HY7.out.size; simp; omega) w7.heap.size 1 (tri3 k q t) rfl (tri_cell w7 k q t) (fun _ _ => rfl) ?_); intro v8 w8 o8 hg8 hat8; have HO8 := Lib.hid o8; have HG8 := Lib.hid hg8; clear o8 hg8 hat8))
                      go_meet
                      case rel =>
                        have HO7 := HOm.out.below HB7.out
                        have hDk : Blk w7 D 41 #[.int .i64 (L k).at_, .int .i64 (L k).lv, .int .i64 (L k).dr, .bool (L k).tail, .slice cA (L k).n cc] := HDm.out.below' HB7.out
                        have hz7 := HY7.out.size
                        have hb8 : Below Y.heap.size Y w8 := (HY7.out.alloc hz7 (.cells #[.int .i64 (k : Int), .int .i64 (q : Int), .int .i64 (t : Int)] 43)).grown HG8.out (by simp; omega) (fun g hg => (HO7.block hg).1)
                        refine ⟨?_, Blk.grown_own (hDk.alloc _) (HO7.alloc (.cells #[.int .i64 (k : Int), .int .i64 (q : Int), .int .i64 (t : Int)] 43)) (by decide) HG8.out, hb8⟩
                        · rw [HCI.out, HFI.out, if_pos hlt2, ← List.append_assoc, ← HLST.out, List.length_append]
                          exact HO8.out.congr fun i j hi hj => tri_app lst0 k q t i j hi hj
              · obtain rfl : t = s.nt := by omega
                have HNF := Lib.hid (HFN.out HNT.out)
                go_wp2_with fail
                go_meet
                case rel =>
                  rw [HCI.out, if_neg HNF.out, ← HLST.out]
                  exact ⟨HOm.out.below HT.out, HDm.out.below' HT.out, HWm.out.trans (HT.out.mono hzm)⟩
          case rest =>
            obtain ⟨ho, hd, hbw⟩ := hcut
            obtain ⟨A9, c9, rfl⟩ := ho.form
            have HO9 := Lib.hid ho
            have HD9 := Lib.hid hd
            have HW9 := Lib.hid hbw
            clear ho hd hbw c3'
            go_wp2_with fail
            go_roundw
            case rel => exact ⟨m + 1, q + 1, by have := HQ.out; omega, by go_num, Lib.hid (by have := HQ.out; omega), HO9.out, HD9.out, HW9.out⟩
            case measure => simp [intOf]; omega
        · have HFIN := Lib.hid (show M.clAll s L ln (k + 1) = M.clAll s L ln k ++ M.clIn s L k m by
            have : m = ln - (k + 1) := by have := HQ.out; omega
            rw [this]; rfl)
          go_wp2_with fail
          simp only [Exit.noGoto_normal]
          go_wp2_with fail
          go_roundw
          case rel => exact ⟨k + 1, by omega, by go_num, by rw [HFIN.out]; exact HOm.out, HWm.out⟩
          case measure => simp [intOf]; omega
    · obtain rfl : k = ln := by omega
      go_wp2_with fail
      go_ret2
      exact ⟨⟨_, rfl, HO.out.less hz⟩, HB1.out.trans (HW.out.mono hz)⟩
end
end Go.Proofs.YtkdpmihdhiokkaaDoor
