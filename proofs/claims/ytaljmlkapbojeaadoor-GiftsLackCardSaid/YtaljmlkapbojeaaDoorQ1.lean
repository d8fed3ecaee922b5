/- The reference's most. -/
import Derived.Test.YtaljmlkapbojeaaDoorS1
import Derived.Test.YtaljmlkapbojeaaDoorQMath
import Derived.Deep.DeepCutAuto
namespace Go.Proofs.YtaljmlkapbojeaaDoor
open Go.RowKit

theorem bt_zero {s : Int} {b : Nat} (h : M.bt s b = false) : (s / 2 ^ b % 2 == 0) = true := by
  unfold M.bt at h
  have := beq_eq_false_iff_ne.1 h
  exact beq_iff_eq.2 (by omega)
theorem bt_one {s : Int} {b : Nat} (h : M.bt s b = true) : (s / 2 ^ b % 2 == 0) = false := by
  unfold M.bt at h
  have := beq_iff_eq.1 h
  exact beq_eq_false_iff_ne.2 (by omega)
set_option maxRecDepth 100000 in
set_option maxHeartbeats 4000000 in
theorem rmost_any (gA bA : Option Addr) (gn gc bn bc B : Nat) (G H : Nat → Nat → Int) (b g : Nat) (w : World) (ok : Ok gn bn G H) (hR : BookRd w B gA gn G bA bn H) (hB : B ≤ w.heap.size) (hb : b < bn) (hg : g < gn) :
    Calls Tryd.prog 29 #[.agg #[.slice gA gn gc, .slice bA bn bc], .int .i64 (b : Int), .int .i64 (g : Int)] w fun e w' => e = .returned (.int .i64 (M.rmostF gn bn G H b g)) ∧ Below w.heap.size w w' := by
  have hgn := ok.1
  have hbn := ok.2.1
  have hp8 : 2 ^ bn ≤ 2 ^ 8 := Nat.pow_le_pow_right (by omega) hbn
  have u1 : IntKind.u64.wrap (bn : Int) = bn := by rw [IntKind.wrap_u64]; omega
  have u2 : min bn 64 = bn := by omega
  have u3 := (pow_wrap (g := bn) (by omega)).1
  have u4 := (pow_wrap (g := bn) (by omega)).2
  have u5 : IntKind.u64.wrap (b : Int) = b := by rw [IntKind.wrap_u64]; omega
  have u6 : min b 64 = b := by omega
  have hbt := toNat_i64_and_one
  obtain ⟨q, hq⟩ : ∃ q, q = 2 ^ bn := ⟨_, rfl⟩
  rw [← hq] at hp8 u3 u4
  have HU := Lib.hid (And.intro u3 u4)
  clear u3 u4
  have HQ := Lib.hid hq
  clear hq
  have okg := ok.2.2.1 g hg
  have okb := ok.2.2.2 b hb
  have OK := Lib.hid ok
  have BD := Lib.hid (fun s => rmost_bd (gn := gn) (bn := bn) (b := b) (g := g) (G := G) (H := H) ⟨okg.2.2.2.2.1, okg.2.2.2.2.2⟩ ⟨okb.2.2.2.2.1, okb.2.2.2.2.2⟩ (spare_bd ok) s)
  have SB := Lib.hid (spare_bd ok)
  obtain ⟨gb, go, rfl, hgb, c0w, c1w, c2w⟩ := hR.1.at3 hg
  obtain ⟨bb, bo, rfl, hbb, k0w, k1w, k2w⟩ := hR.2.at3 hb
  have HR := Lib.hid hR
  have H0 := okb.1
  have H7 := okb.2.1
  have n1 : decide (gn ≤ g) = false := decide_eq_false (by omega)
  have n2 : decide (bn ≤ b) = false := decide_eq_false (by omega)
  have hgs0 : gb < w.heap.size := by omega
  have hbs0 : bb < w.heap.size := by omega
  clear ok hR
  have hsv' : (M.bt (G g 0) (H b 0).toNat && decide (G g 1 ≤ H b 1)) = M.srv G H g b := rfl
  go_enter Tryd.func29, Tryd.ntmps29
  obtain ⟨W, hW⟩ : ∃ W, W = w.alloc (.cells #[.slice (some ⟨gb, go, none⟩) gn gc, .slice (some ⟨bb, bo, none⟩) bn bc] 25) := ⟨_, rfl⟩
  have hk := Blk.new w 25 #[.slice (some ⟨gb, go, none⟩) gn gc, .slice (some ⟨bb, bo, none⟩) bn bc]
  have hwb := belowAlloc w (.cells #[.slice (some ⟨gb, go, none⟩) gn gc, .slice (some ⟨bb, bo, none⟩) bn bc] 25)
  have hsz := size_alloc w (.cells #[.slice (some ⟨gb, go, none⟩) gn gc, .slice (some ⟨bb, bo, none⟩) bn bc] 25)
  rw [← hW] at hk hwb hsz
  go_wp2_with fail
  rw [← hW]
  clear hW
  have q0 := hk.cell 0
  have q1 := hk.cell 1
  have c0 := (hwb.cell (p := ⟨gb, go + g * 3, none⟩) hgs0).trans c0w
  have c1 := (hwb.cell (p := ⟨gb, go + g * 3 + 1, none⟩) hgs0).trans c1w
  have c2 := (hwb.cell (p := ⟨gb, go + g * 3 + 2, none⟩) hgs0).trans c2w
  have k0 := (hwb.cell (p := ⟨bb, bo + b * 3, none⟩) hbs0).trans k0w
  have k1 := (hwb.cell (p := ⟨bb, bo + b * 3 + 1, none⟩) hbs0).trans k1w
  have k2 := (hwb.cell (p := ⟨bb, bo + b * 3 + 2, none⟩) hbs0).trans k2w
  have hgs : gb < W.heap.size := by omega
  have hbs : bb < W.heap.size := by omega
  have hws : w.heap.size < W.heap.size := by omega
  have HK := Lib.hid hk
  have HW := Lib.hid hwb
  clear hk hwb c0w c1w c2w k0w k1w k2w
  cases hsv : M.srv G H g b
  · have HS := Lib.hid hsv
    rw [hsv] at hsv'
    have HS' := Lib.hid hsv'
    clear hsv hsv'
    go_still_tail 10, (by kernel_rfl)
    change wpList _ _ _ _ _ W.drew
    go_wp2_with (go_at_call 19; refine (serves_any _ _ _ _ _ _ _ H0 H7).mono ?_; rw [HS'.out]; rintro e w3 ⟨rfl, hb3⟩; have HB3 := Lib.hid hb3; clear hb3)
    go_ret
    exact ⟨ret_int (by unfold M.rmostF; rw [HS.out]; rfl), HW.out.drew.trans (HB3.out.mono (by show w.heap.size ≤ W.heap.size; omega))⟩
  · have HS := Lib.hid hsv
    rw [hsv] at hsv'
    have HS' := Lib.hid hsv'
    clear hsv hsv'
    go_still_tail 10, (by kernel_rfl)
    change wpList _ _ _ _ _ W.drew
    clear k0 k1 c0 c1
    go_wp2_with (go_at_call 19; refine (serves_any _ _ _ _ _ _ _ H0 H7).mono ?_; rw [HS'.out]; rintro e w3 ⟨rfl, hb3⟩; have d0 := (hb3.cell (p := ⟨w.heap.size, 0, none⟩) (by exact hws)).trans q0; have d1 := (hb3.cell (p := ⟨w.heap.size, 1, none⟩) (by exact hws)).trans q1; have d2 := (hb3.cell (p := ⟨gb, go + g * 3 + 2, none⟩) (by exact hgs)).trans c2; have d3 := (hb3.cell (p := ⟨bb, bo + b * 3 + 2, none⟩) (by exact hbs)).trans k2; have hz3 : W.heap.size ≤ w3.heap.size := hb3.size; have HB3 := Lib.hid hb3; clear hb3)
    have hgs3 : gb < w3.heap.size := by omega
    have hbs3 : bb < w3.heap.size := by omega
    go_quiet (fail)
    go_wp2_with fail
    have K3 := Lib.hid (HK.out.drew.below HB3.out HK.out.lt)
    have W3 := Lib.hid (HW.out.drew.trans (HB3.out.mono (by show w.heap.size ≤ W.heap.size; omega)))
    clear d0 d1 d2 d3 q0 q1 c2 k2 HK HW HB3 okg okb H0 H7 hsz hgs hbs hws hz3 hgs3 hbs3 hgs0 hbs0 n1 n2 hgb hbb hgn hbn
    have HG := Lib.hid hg
    clear hg hb
    go_loopw [7, 8] (fun n i wr => ∃ s : Nat, s ≤ q ∧ i = .int .i64 s ∧ n = .int .i64 (M.rmostTo gn bn G H b g s) ∧ Below w3.heap.size w3 wr) (fun _ i _ => q - (intOf i).toNat)
    case atStart => exact ⟨0, Nat.zero_le _, rfl, rfl, (Below.refl _ _).drewN _⟩
    case round =>
      obtain ⟨s, hs, rfl, rfl, hbw⟩ := hrel
      have hk := K3.out.below hbw K3.out.lt
      have b0 := hk.cell 0
      have b1 := hk.cell 1
      have hz := hbw.size
      have hks := hk.lt
      have HWr := Lib.hid (W3.out.trans (hbw.mono (by have := W3.out.size; omega)))
      have HB := Lib.hid hbw
      clear hbw hk
      by_cases hlts : s < q
      · have hbd := BD.out s
        have hsb := SB.out s
        have hx : M.rmostTo gn bn G H b g (s + 1) = if M.bt s b then M.rmostTo gn bn G H b g s else if M.helpsF bn G H g s then min (M.rmostTo gn bn G H b g s) (M.spareF gn bn G H s) else M.rmostTo gn bn G H b g s := rfl
        obtain ⟨x, hxx⟩ : ∃ x, x = M.rmostTo gn bn G H b g s := ⟨_, rfl⟩
        obtain ⟨y, hy⟩ : ∃ y, y = M.spareF gn bn G H s := ⟨_, rfl⟩
        rw [← hxx, ← hy] at hx
        rw [← hxx] at hbd ⊢
        rw [← hy] at hsb
        have HY := Lib.hid hy
        clear hxx hy
        cases hbs : M.bt (s : Int) b
        · cases hh : M.helpsF bn G H g s
          · rw [hbs, hh, if_neg (by decide), if_neg (by decide)] at hx
            have HX := Lib.hid hx
            have HH := Lib.hid hh
            have hbz : ((s : Int) / 2 ^ b % 2 == 0) = true := bt_zero hbs
            clear hbs
            clear hx hh
            obtain ⟨u3, u4⟩ := HU.out
            go_wp2_with (go_at_call 46; refine (helps_any _ _ _ _ _ _ B G H g s _ OK.out (HR.out.below (HWr.out.mono hB)) (by omega) HG.out).mono ?_; rw [HH.out]; rintro e w4 ⟨rfl, hb4⟩; have HB4 := Lib.hid hb4; clear hb4 u3 u4)
            go_roundw
            case rel => exact ⟨s + 1, by omega, by go_num, by rw [HX.out], HB.out.trans (HB4.out.mono hz)⟩
            case measure => simp [intOf]; omega
          · rw [hbs, hh, if_neg (by decide), if_pos rfl] at hx
            have HX := Lib.hid hx
            have HH := Lib.hid hh
            have hbz : ((s : Int) / 2 ^ b % 2 == 0) = true := bt_zero hbs
            clear hbs
            clear hx hh
            obtain ⟨u3, u4⟩ := HU.out
            go_wp2_with (first | (go_at_call 46; refine (helps_any _ _ _ _ _ _ B G H g s _ OK.out (HR.out.below (HWr.out.mono hB)) (by omega) HG.out).mono ?_; rw [HH.out]; rintro e w4 ⟨rfl, hb4⟩; have d0 := (hb4.cell (p := ⟨w.heap.size, 0, none⟩) (by exact hks)).trans b0; have d1 := (hb4.cell (p := ⟨w.heap.size, 1, none⟩) (by exact hks)).trans b1; have hz4 := hb4.size; have HB4 := Lib.hid (HB.out.trans (hb4.mono hz)); have HW4 := Lib.hid (HWr.out.trans (hb4.mono (by omega))); clear hb4 b0 b1 u3 u4) | (go_at_call 35; refine (spare_any _ _ _ _ _ _ B G H s _ OK.out (HR.out.below (HW4.out.mono hB)) (by omega)).mono ?_; rw [← HY.out]; rintro e w5 ⟨rfl, hb5⟩; have HB5 := Lib.hid (HB4.out.trans (hb5.mono (by omega))); clear hb5))
            go_roundw
            case rel => exact ⟨s + 1, by omega, by go_num, by rw [HX.out], HB5.out⟩
            case measure => simp [intOf]; omega
        · rw [hbs, if_pos rfl] at hx
          have HX := Lib.hid hx
          have hbz : ((s : Int) / 2 ^ b % 2 == 0) = false := bt_one hbs
          clear hx hbs
          obtain ⟨u3, u4⟩ := HU.out
          go_upto_region 7 with fail
          clear u3 u4
          go_wp2_with fail
          go_roundw
          case rel => exact ⟨s + 1, by omega, by go_num, by rw [HX.out], HB.out⟩
          case measure => simp [intOf]; omega
      · obtain rfl : s = q := by omega
        obtain ⟨u3, u4⟩ := HU.out
        go_wp2_with fail
        go_ret
        clear u3 u4
        exact ⟨ret_int (by unfold M.rmostF; rw [HS.out, if_pos rfl, ← HQ.out]), HWr.out⟩
end Go.Proofs.YtaljmlkapbojeaaDoor
