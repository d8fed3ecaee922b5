/- LanesOpen, walked. -/
import Derived.Test.YtkdpmihdhiokkaaDoorR11
import Derived.Test.YtkdpmihdhiokkaaDoorR12
import Derived.Test.YtkdpmihdhiokkaaDoorW
namespace Go.Proofs.YtkdpmihdhiokkaaDoor
open Go.RowKit

section
variable (W H : Int) (dA tA sA lA : Option Addr) (nd dc nt tc ns sc ln lc B : Nat) (dep : Nat → Int) (tide : Nat → Nat → Int) (sw : Nat → Int) (L : Nat → M.Leg) (lv c : Int) (w : World)
set_option maxRecDepth 100000 in
set_option maxHeartbeats 6400000 in
theorem lanesOpen_any (hnd : nd ≤ maxLen) (hnt : nt ≤ maxLen) (hns : ns ≤ maxLen) (hln : ln ≤ maxLen) (hw : Ways w) (hR : RdC w B dA tA sA nd nt ns dep tide sw) (hB : B ≤ w.heap.size) (hL : RdL w B lA ln L) :
    Calls Tryd.prog 5 #[.agg #[.int .i64 W, .int .i64 H, .slice dA nd dc, .slice tA nt tc, .slice sA ns sc], .slice lA ln lc, .agg #[.int .i64 lv, .int .i64 c]] w fun e w' => e = .returned (.bool true) ∧ Below w.heap.size w w' := by
  have HB0 := Lib.hid (belowAlloc2 w (.cells #[.int .i64 W, .int .i64 H, .slice dA nd dc, .slice tA nt tc, .slice sA ns sc] 25) (.cells #[.int .i64 lv, .int .i64 c] 48))
  have C0 := Lib.hid ((Blk.new w 25 #[.int .i64 W, .int .i64 H, .slice dA nd dc, .slice tA nt tc, .slice sA ns sc]).alloc (.cells #[.int .i64 lv, .int .i64 c] 48))
  have X0 := Lib.hid (Blk.new1 w (.cells #[.int .i64 W, .int .i64 H, .slice dA nd dc, .slice tA nt tc, .slice sA ns sc] 25) 48 #[.int .i64 lv, .int .i64 c])
  obtain ⟨X, hX⟩ : ∃ X, X = (w.alloc (.cells #[.int .i64 W, .int .i64 H, .slice dA nd dc, .slice tA nt tc, .slice sA ns sc] 25)).alloc (.cells #[.int .i64 lv, .int .i64 c] 48) := ⟨_, rfl⟩
  have HXe := Lib.hid hX
  rw [← hX] at HB0 C0 X0
  clear hX
  have HRC := Lib.hid (fun V (hb2 : Below w.heap.size w V) => hR.below (hb2.mono hB))
  have HRL := Lib.hid (fun V (hb2 : Below w.heap.size w V) => hL.below (hb2.mono hB))
  have HWY := Lib.hid (fun V (hb2 : Below w.heap.size w V) => hw.below hb2)
  have HBB := Lib.hid hB
  have HWO := Lib.hid (fun V (hb2 : Below w.heap.size w V) => works_any V (hw.below hb2))
  clear hR hw hB hL
  have HVA := Lib.hid (valid_cl W H dA tA sA lA nd dc nt tc ns sc ln lc B dep tide sw L X hnd hnt hns hln (HRC.out _ HB0.out) (Nat.le_trans HBB.out HB0.out.size) (HRL.out _ HB0.out))
  have c0 := C0.out.cell 0
  have c1 := C0.out.cell 1
  have c2 := C0.out.cell 2
  have c3 := C0.out.cell 3
  have c4 := C0.out.cell 4
  go_enter Tryd.func5, Tryd.ntmps5
  go_upto_region 1 with fail
  rw [← HXe.out]
  clear HXe
  rcases (show lv < 0 ∨ (¬ lv < 0 ∧ 3 < lv) ∨ (¬ lv < 0 ∧ ¬ 3 < lv ∧ c < 0) ∨ (¬ lv < 0 ∧ ¬ 3 < lv ∧ ¬ c < 0 ∧ (nd : Int) ≤ c) ∨ (¬ lv < 0 ∧ ¬ 3 < lv ∧ ¬ c < 0 ∧ ¬ (nd : Int) ≤ c) by omega) with h | h | h | h | h
  · have g0 : decide (lv < 0) = true := decide_eq_true (by omega)
    have hh := Lib.hid h
    clear h
    go_wp2_with (first | (go_at_call 11; go_must (refine HVA.out.mono ?_); rintro e w1 ⟨⟨V, rfl, hV⟩, hb1⟩; have HBV := Lib.hid (HB0.out.trans (hb1.mono HB0.out.size)); have x0 := (X0.out.below' hb1).cell 0; have x1 := (X0.out.below' hb1).cell 1; have c2' := (C0.out.below' hb1).cell 2; clear hV hb1; clear c0 c1 c2 c3 c4; cases V) | (go_at_call 13; go_must (refine (HWO.out _ HBV.out).mono ?_); rintro e w9 ⟨rfl, hb9⟩; have HB9 := Lib.hid (HBV.out.trans (hb9.mono HBV.out.size)); clear hb9))
    all_goals
      go_ret
      exact ⟨rfl, HB9.out⟩
  · have g0 : decide (lv < 0) = false := decide_eq_false (by omega)
    have g1 : decide (3 < lv) = true := decide_eq_true (by omega)
    have hh := Lib.hid h
    clear h
    go_wp2_with (first | (go_at_call 11; go_must (refine HVA.out.mono ?_); rintro e w1 ⟨⟨V, rfl, hV⟩, hb1⟩; have HBV := Lib.hid (HB0.out.trans (hb1.mono HB0.out.size)); have x0 := (X0.out.below' hb1).cell 0; have x1 := (X0.out.below' hb1).cell 1; have c2' := (C0.out.below' hb1).cell 2; clear hV hb1; clear c0 c1 c2 c3 c4; cases V) | (go_at_call 13; go_must (refine (HWO.out _ HBV.out).mono ?_); rintro e w9 ⟨rfl, hb9⟩; have HB9 := Lib.hid (HBV.out.trans (hb9.mono HBV.out.size)); clear hb9))
    all_goals
      go_ret
      exact ⟨rfl, HB9.out⟩
  · have g0 : decide (lv < 0) = false := decide_eq_false (by omega)
    have g1 : decide (3 < lv) = false := decide_eq_false (by omega)
    have g2 : decide (c < 0) = true := decide_eq_true (by omega)
    have hh := Lib.hid h
    clear h
    go_wp2_with (first | (go_at_call 11; go_must (refine HVA.out.mono ?_); rintro e w1 ⟨⟨V, rfl, hV⟩, hb1⟩; have HBV := Lib.hid (HB0.out.trans (hb1.mono HB0.out.size)); have x0 := (X0.out.below' hb1).cell 0; have x1 := (X0.out.below' hb1).cell 1; have c2' := (C0.out.below' hb1).cell 2; clear hV hb1; clear c0 c1 c2 c3 c4; cases V) | (go_at_call 13; go_must (refine (HWO.out _ HBV.out).mono ?_); rintro e w9 ⟨rfl, hb9⟩; have HB9 := Lib.hid (HBV.out.trans (hb9.mono HBV.out.size)); clear hb9))
    all_goals
      go_ret
      exact ⟨rfl, HB9.out⟩
  · have g0 : decide (lv < 0) = false := decide_eq_false (by omega)
    have g1 : decide (3 < lv) = false := decide_eq_false (by omega)
    have g2 : decide (c < 0) = false := decide_eq_false (by omega)
    have g3 : decide ((nd : Int) ≤ c) = true := decide_eq_true (by omega)
    have hh := Lib.hid h
    clear h
    go_wp2_with (first | (go_at_call 11; go_must (refine HVA.out.mono ?_); rintro e w1 ⟨⟨V, rfl, hV⟩, hb1⟩; have HBV := Lib.hid (HB0.out.trans (hb1.mono HB0.out.size)); have x0 := (X0.out.below' hb1).cell 0; have x1 := (X0.out.below' hb1).cell 1; have c2' := (C0.out.below' hb1).cell 2; clear hV hb1; clear c0 c1 c2 c3 c4; cases V) | (go_at_call 13; go_must (refine (HWO.out _ HBV.out).mono ?_); rintro e w9 ⟨rfl, hb9⟩; have HB9 := Lib.hid (HBV.out.trans (hb9.mono HBV.out.size)); clear hb9))
    all_goals
      go_ret
      exact ⟨rfl, HB9.out⟩
  · have g0 : decide (lv < 0) = false := decide_eq_false (by omega)
    have g1 : decide (3 < lv) = false := decide_eq_false (by omega)
    have g2 : decide (c < 0) = false := decide_eq_false (by omega)
    have g3 : decide ((nd : Int) ≤ c) = false := decide_eq_false (by omega)
    have hh := Lib.hid h
    clear h
    go_upto_if 39 with (go_at_call 11; go_must (refine HVA.out.mono ?_); rintro e w1 ⟨⟨V, rfl, hV⟩, hb1⟩; have HV := Lib.hid hV; have HBX := Lib.hid hb1; have HBV := Lib.hid (HB0.out.trans (hb1.mono HB0.out.size)); have x0 := (X0.out.below' hb1).cell 0; have x1 := (X0.out.below' hb1).cell 1; have c2' := (C0.out.below' hb1).cell 2; clear hV hb1; clear c0 c1 c2 c3 c4; cases V)
    · go_wp2_with (go_at_call 13; go_must (refine (HWO.out _ HBV.out).mono ?_); rintro e w9 ⟨rfl, hb9⟩; have HB9 := Lib.hid (HBV.out.trans (hb9.mono HBV.out.size)); clear hb9)
      go_ret
      exact ⟨rfl, HB9.out⟩
    · obtain ⟨W', H', rfl, rfl, rfl, hs, hnd20, hnt8, hln5, hlo⟩ := HV.out (by first | rfl | trivial)
      obtain ⟨cn, rfl⟩ := Int.eq_ofNat_of_zero_le (show 0 ≤ c by have := hh.out; omega)
      have hcn : cn < nd := by have := hh.out; omega
      have hlv : 0 ≤ lv ∧ lv ≤ 3 := by have := hh.out; omega
      have HAT := Lib.hid (show ∀ i, i < ln → -100 ≤ (L i).at_ ∧ (L i).at_ ≤ 100 ∧ (L i).n ≤ 100 from fun i hi => by
        unfold M.legsOk at hlo
        simp only [Bool.and_eq_true] at hlo
        have h := M.legOk_iff.1 (M.allTo_iff.1 hlo.2 i hi)
        have h0 := h.at0
        have h1 := h.at1
        have h2 := h.n1
        have h3 : (M.Sea.nt ⟨W', H', nd, ns, dep, tide, sw⟩) = ns := rfl
        rw [h3] at h1 h2
        omega)
      have HOC := Lib.hid (fun V (t : Nat) (ht : t < ns) (hb2 : Below w.heap.size w V) => occupied_any lA ln lc B L lv cn (t : Int) V (by omega) HAT.out (by omega) (HRL.out V hb2) (Nat.le_trans HBB.out hb2.size) hln)
      obtain ⟨fr, hfr⟩ : ∃ fr, fr = M.freeT L ln lv cn := ⟨_, rfl⟩
      have HFT := Lib.hid (fun (u : Nat) => (show M.anyTo ln (fun i => occB lv cn (u : Int) (L i)) = !fr u by rw [hfr]; unfold M.freeT; rw [Bool.not_not]))
      obtain ⟨n, hn⟩ : ∃ n, n = (M.spN fr ns).1 := ⟨_, rfl⟩
      obtain ⟨F, hF⟩ : ∃ F, F = (M.spN fr ns).2 := ⟨_, rfl⟩
      have HSP := Lib.hid (show M.SpOk fr ns n F by rw [hn, hF]; exact M.spOk fr ns)
      have HFR := Lib.hid (show Calls Tryd.prog 20 #[.agg #[.int .i64 (W' : Int), .int .i64 (H' : Int), .slice dA nd dc, .slice tA ns tc, .slice sA ns sc], .slice lA ln lc, .int .i64 lv, .int .i64 (cn : Int)] w1 fun e w' => (∃ v, e = .returned (.tuple #[v, .int .i64 0]) ∧ Own w' w1.heap.size 52 2 v n (ints2 F)) ∧ Below w1.heap.size w1 w' by
        rw [hn, hF, hfr]
        exact Free_ok ⟨W', H', nd, ns, dep, tide, sw⟩ dA tA sA lA dc tc sc ln lc B L w1 lv cn hlv hcn hs (HWY.out _ HBV.out) (HRC.out _ HBV.out) (Nat.le_trans HBB.out HBV.out.size) (HRL.out _ HBV.out) (by omega) hlo)
      clear hfr hn hF hlo hs hlv
      have c0 := (C0.out.below' HBX.out).cell 0
      have c1 := (C0.out.below' HBX.out).cell 1
      have c3 := (C0.out.below' HBX.out).cell 3
      have c4 := (C0.out.below' HBX.out).cell 4
      go_upto_region 4 with (go_at_call 20; go_must (refine HFR.out.mono ?_); rintro e w2 ⟨⟨v, rfl, ho⟩, hb2⟩; have HO := Lib.hid ho; have HB2 := Lib.hid (HBV.out.trans (hb2.mono HBV.out.size)); have HX2 := Lib.hid (HBX.out.trans (hb2.mono HBX.out.size)); clear ho hb2)
      clear c0 c1 c2' c3 c4 x0 x1
      obtain ⟨vA, vc, rfl⟩ := HO.out.form
      obtain ⟨Z, rfl⟩ : ∃ Z, Z = w2 := ⟨_, rfl⟩
      go_wp2_with fail
      go_loopw [9] (fun i wr => ∃ k q : Nat, k ≤ n ∧ i = .int .i64 (k : Int) ∧ wr = Z.drewN q) (fun i _ => n - (intOf i).toNat)
      case atStart => exact ⟨0, 0, Nat.zero_le _, rfl, rfl⟩
      case round =>
        obtain ⟨k, q, hk, rfl, rfl⟩ := hrel
        have hn8 := HSP.out.le
        by_cases hlt : k < n
        · obtain ⟨g, vc', ev⟩ := HO.out.nz (by omega)
          injection ev with ev1 _ ev2
          subst ev1; subst ev2
          have y0 : (Z.drewN q).cell? ⟨g, k * 2, none⟩ = some (.int .i64 (F k 0)) := by have h := HO.out.cell (i := k) (j := 0) hlt (by omega); exact h
          have y1 : (Z.drewN q).cell? ⟨g, k * 2 + 1, none⟩ = some (.int .i64 (F k 1)) := by have h := HO.out.cell (i := k) (j := 1) hlt (by omega); exact h
          have c3 : (Z.drewN q).cell? ⟨w.heap.size, 3, none⟩ = some (.slice tA ns tc) := (C0.out.below' HX2.out).cell 3
          have HDR := Lib.hid (show ∀ m, ∃ n'', (Z.drewN q).drewN m = Z.drewN n'' from fun m => ⟨q + m, by rw [World.drewN_drewN]⟩)
          have HOR := Lib.hid (HSP.out.ord k hlt)
          have kx : decide (n ≤ k) = false := decide_eq_false (by omega)
          by_cases hk0 : 0 < k
          · have z1 : (Z.drewN q).cell? ⟨g, (k - 1) * 2 + 1, none⟩ = some (.int .i64 (F (k - 1) 1)) := by have h := HO.out.cell (i := k - 1) (j := 1) (by omega) (by omega); exact h
            have HGP := Lib.hid (show F (k - 1) 1 + 1 < F k 0 by have h := HSP.out.gap (k - 1) (by omega); rw [show k - 1 + 1 = k by omega] at h; exact h)
            have HOQ := Lib.hid (HSP.out.ord (k - 1) (by omega))
            have hwk : IntKind.i64.wrap ((k : Int) - 1) = ((k - 1 : Nat) : Int) := by rw [IntKind.wrap_i64]; omega
            have hwk2 : wrap64 ((k : Int) - 1) = ((k - 1 : Nat) : Int) := by rw [IntWalk.wrap64_in _ (by omega)]; omega
            have kn : decide (n ≤ k - 1) = false := decide_eq_false (by omega)
            have gp : decide ((0 : Int) < (k : Int)) = true := decide_eq_true (by omega)
            have gp2 : decide (0 < k) = true := decide_eq_true hk0
            obtain ⟨f0, hf0⟩ : ∃ f0, f0 = F k 0 := ⟨_, rfl⟩
            obtain ⟨f1, hf1⟩ : ∃ f1, f1 = F k 1 := ⟨_, rfl⟩
            obtain ⟨fp, hfp⟩ : ∃ fp, fp = F (k - 1) 1 := ⟨_, rfl⟩
            rw [← hf0] at y0 HOR HGP
            rw [← hf1] at y1 HOR
            rw [← hfp] at z1 HGP HOQ
            clear hf0 hf1 hfp
            have hwp : IntKind.i64.wrap (fp + 1) = fp + 1 := by have := HOQ.out; rw [IntKind.wrap_i64]; omega
            have hwp2 : wrap64 (fp + 1) = fp + 1 := by have := HOQ.out; rw [IntWalk.wrap64_in _ (by omega)]
            have d0 : decide (f0 < 0) = false := decide_eq_false (by have := HOR.out; omega)
            have d1 : decide (f1 < f0) = false := decide_eq_false (by have := HOR.out; omega)
            have d2 : decide ((ns : Int) ≤ f1) = false := decide_eq_false (by have := HOR.out; omega)
            have d3 : decide (f0 ≤ fp + 1) = false := decide_eq_false (by have := HGP.out; omega)
            generalize Z.drewN q = Y at y0 y1 z1 c3 HDR ⊢
            go_upto_region 9 with fail
            go_quiet (fail)
            go_wp2_with fail
            go_roundw
            case rel =>
              obtain ⟨n'', hn''⟩ := HDR.out nq
              exact ⟨k + 1, n'', by omega, by go_num, hn''⟩
            case measure => simp [intOf]; omega
          · have gp : decide ((0 : Int) < (k : Int)) = false := decide_eq_false (by omega)
            have gp2 : decide (0 < k) = false := decide_eq_false hk0
            obtain ⟨f0, hf0⟩ : ∃ f0, f0 = F k 0 := ⟨_, rfl⟩
            obtain ⟨f1, hf1⟩ : ∃ f1, f1 = F k 1 := ⟨_, rfl⟩
            rw [← hf0] at y0 HOR
            rw [← hf1] at y1 HOR
            clear hf0 hf1
            have d0 : decide (f0 < 0) = false := decide_eq_false (by have := HOR.out; omega)
            have d1 : decide (f1 < f0) = false := decide_eq_false (by have := HOR.out; omega)
            have d2 : decide ((ns : Int) ≤ f1) = false := decide_eq_false (by have := HOR.out; omega)
            generalize Z.drewN q = Y at y0 y1 c3 HDR ⊢
            go_upto_region 9 with fail
            go_quiet (fail)
            go_wp2_with fail
            go_roundw
            case rel =>
              obtain ⟨n'', hn''⟩ := HDR.out nq
              exact ⟨k + 1, n'', by omega, by go_num, hn''⟩
            case measure => simp [intOf]; omega
        · obtain rfl : k = n := by omega
          have HZ := Lib.hid (show Below w.heap.size w (Z.drewN q) from HB2.out.drewN q)
          have HZX := Lib.hid (show Below X.heap.size X (Z.drewN q) from HX2.out.drewN q)
          have OZ := Lib.hid (show Own (Z.drewN q) w1.heap.size 52 2 (.slice vA k vc) k (ints2 F) from HO.out)
          generalize Z.drewN q = Y at HZ HZX OZ ⊢
          go_wp2_with fail
          go_loopw [10] (fun i wr => ∃ t : Nat, t ≤ ns ∧ i = .int .i64 (t : Int) ∧ Below Y.heap.size Y wr) (fun i _ => ns - (intOf i).toNat)
          case atStart => exact ⟨0, Nat.zero_le _, rfl, Below.refl _ _⟩
          case round =>
            obtain ⟨t, ht, rfl, hbt⟩ := hrel
            have HT := Lib.hid hbt
            have HBt := Lib.hid (HZ.out.trans (hbt.mono HZ.out.size))
            have hzt := hbt.size
            have c3 := (C0.out.below' (HZX.out.trans (hbt.mono HZX.out.size))).cell 3
            have O1 := Lib.hid (OZ.out.below hbt)
            have x0 := (X0.out.below' (HZX.out.trans (hbt.mono HZX.out.size))).cell 0
            have x1 := (X0.out.below' (HZX.out.trans (hbt.mono HZX.out.size))).cell 1
            clear hbt
            obtain ⟨wt, rfl⟩ : ∃ wt, wt = wr := ⟨_, rfl⟩
            by_cases hlt2 : t < ns
            · have HOT := Lib.hid (HOC.out wt t hlt2 HBt.out)
              rw [HFT.out t] at HOT
              have HIN := Lib.hid (show M.anyTo k (fun i => decide (F i 0 ≤ (t : Int)) && decide ((t : Int) ≤ F i 1)) = fr t from M.bool_ext (by
                rw [M.anyTo_iff, HSP.out.mem t hlt2]
                simp only [Bool.and_eq_true, decide_eq_true_eq]))
              obtain ⟨ft, hft⟩ : ∃ ft, ft = fr t := ⟨_, rfl⟩
              rw [← hft] at HOT HIN
              clear hft
              have X0t := Lib.hid x0
              have X1t := Lib.hid x1
              clear x0 x1
              go_wp2_with fail
              clear c3
              go_loopw [11, 12] (fun b i wq => ∃ m : Nat, m ≤ k ∧ i = .int .i64 (m : Int) ∧ b = .bool (M.anyTo m fun i => decide (F i 0 ≤ (t : Int)) && decide ((t : Int) ≤ F i 1)) ∧ wq = wt.drewN 0) (fun _ i _ => k - (intOf i).toNat)
              case atStart => exact ⟨0, Nat.zero_le _, rfl, rfl, rfl⟩
              case round =>
                obtain ⟨m, hm, rfl, rfl, rfl⟩ := hrel
                by_cases hlm : m < k
                · obtain ⟨g, vc', ev⟩ := O1.out.nz (by omega)
                  injection ev with ev1 _ ev2
                  subst ev1; subst ev2
                  have y0 : wt.cell? ⟨g, m * 2, none⟩ = some (.int .i64 (F m 0)) := by have h := O1.out.cell (i := m) (j := 0) hlm (by omega); exact h
                  have y1 : wt.cell? ⟨g, m * 2 + 1, none⟩ = some (.int .i64 (F m 1)) := by have h := O1.out.cell (i := m) (j := 1) hlm (by omega); exact h
                  have kx : decide (k ≤ m) = false := decide_eq_false (by omega)
                  have HNX := Lib.hid (show M.anyTo (m + 1) (fun i => decide (F i 0 ≤ (t : Int)) && decide ((t : Int) ≤ F i 1)) = (M.anyTo m (fun i => decide (F i 0 ≤ (t : Int)) && decide ((t : Int) ≤ F i 1)) || (decide (F m 0 ≤ (t : Int)) && decide ((t : Int) ≤ F m 1))) from rfl)
                  obtain ⟨nv, hnv⟩ : ∃ nv, nv = M.anyTo (m + 1) (fun i => decide (F i 0 ≤ (t : Int)) && decide ((t : Int) ≤ F i 1)) := ⟨_, rfl⟩
                  obtain ⟨bv, hbv⟩ : ∃ bv, bv = M.anyTo m (fun i => decide (F i 0 ≤ (t : Int)) && decide ((t : Int) ≤ F i 1)) := ⟨_, rfl⟩
                  have HNV := Lib.hid hnv
                  rw [← hbv] at HNX
                  rw [← hnv] at HNX
                  rw [← hbv]
                  obtain ⟨f0, hf0⟩ : ∃ f0, f0 = F m 0 := ⟨_, rfl⟩
                  obtain ⟨f1, hf1⟩ : ∃ f1, f1 = F m 1 := ⟨_, rfl⟩
                  rw [← hf0] at y0 HNX
                  rw [← hf1] at y1 HNX
                  obtain ⟨d0, hd0⟩ : ∃ d0, decide (f0 ≤ (t : Int)) = d0 := ⟨_, rfl⟩
                  obtain ⟨d1, hd1⟩ : ∃ d1, decide ((t : Int) ≤ f1) = d1 := ⟨_, rfl⟩
                  rw [hd0, hd1] at HNX
                  have HWD : wt.drewN 0 = wt := rfl
                  rw [HWD]
                  clear hnv hbv hf0 hf1 HWD
                  cases bv <;> cases d0 <;> cases d1
                  all_goals
                    go_wp2_with fail
                    go_roundw
                    case rel => exact ⟨m + 1, by omega, by go_num, by rw [← HNV.out, HNX.out]; rfl, by first | rfl | trivial⟩
                    case measure => simp [intOf]; omega
                · obtain rfl : m = k := by omega
                  rw [HIN.out]
                  have HWD : wt.drewN 0 = wt := rfl
                  rw [HWD]
                  have x0 := X0t.out
                  have x1 := X1t.out
                  clear HWD
                  cases ft
                  all_goals
                    go_wp2_with (go_at_call 21; go_must (refine HOT.out.mono ?_); rintro e w5 ⟨rfl, hb5⟩; have HB5 := Lib.hid hb5; clear hb5)
                    go_roundw
                    case rel => exact ⟨t + 1, by omega, by go_num, HT.out.trans (HB5.out.mono hzt)⟩
                    case measure => simp [intOf]; omega
            · obtain rfl : t = ns := by omega
              clear x0 x1
              go_wp2_with (go_at_call 13; go_must (refine (HWO.out _ HBt.out).mono ?_); rintro e w9 ⟨rfl, hb9⟩; have HB9 := Lib.hid (HBt.out.trans (hb9.mono HBt.out.size)); clear hb9)
              go_ret
              exact ⟨rfl, HB9.out⟩
end
end Go.Proofs.YtkdpmihdhiokkaaDoor
