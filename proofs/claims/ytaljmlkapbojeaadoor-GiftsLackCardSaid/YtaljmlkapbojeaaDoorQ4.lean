/- The reference's Short. -/
import Derived.Test.YtaljmlkapbojeaaDoorQ3
import Derived.Test.YtaljmlkapbojeaaDoorR1
namespace Go.Proofs.YtaljmlkapbojeaaDoor
open Go.RowKit

def boolOf : Option Nat → Bool
  | none => false
  | some _ => true
set_option maxRecDepth 100000 in
set_option maxHeartbeats 2000000 in
theorem rshort_bad (gA bA : Option Addr) (gn gc bn bc B : Nat) (G H : Nat → Nat → Int) (w : World) (hg : gn ≤ maxLen) (hb : bn ≤ maxLen) (hR : BookRd w B gA gn G bA bn H) (hB : B ≤ w.heap.size) (hok : M.okF gn bn G H = false) :
    Calls Tryd.prog 13 #[.agg #[.slice gA gn gc, .slice bA bn bc]] w fun e w' => ShortV w gn bn G H e w' ∧ Below w.heap.size w w' := by
  have hk : M.chkN gn bn G H = 110 := by simp [M.chkN, hok]
  go_enter Tryd.func13, Tryd.ntmps13
  go_wp2_with (go_at_call 15; refine (rcheck_any _ _ _ _ _ _ B _ _ _ hg hb (by exact hR.below ((belowAlloc _ _).mono hB)) (by simp; omega)).mono ?_; rw [hk]; rintro e w1 ⟨rfl, hb1⟩; have HB1 := Lib.hid hb1; clear hb1)
  go_ret2
  exact ⟨⟨.slice none 0 0, by simp [shortE, hok], by rw [show shortS gn bn G H = none by simp [shortS, hok]]; exact Own.nil_⟩, (belowAlloc _ _).trans (HB1.out.mono (by simp))⟩

set_option maxRecDepth 100000 in
set_option maxHeartbeats 4000000 in
theorem rshort_ok (gA bA : Option Addr) (gn gc bn bc B : Nat) (G H : Nat → Nat → Int) (w : World) (hR : BookRd w B gA gn G bA bn H) (hB : B ≤ w.heap.size) (hok : M.okF gn bn G H = true) :
    Calls Tryd.prog 13 #[.agg #[.slice gA gn gc, .slice bA bn bc]] w fun e w' => ShortV w gn bn G H e w' ∧ Below w.heap.size w w' := by
  have hk : M.chkN gn bn G H = 0 := by simp [M.chkN, hok]
  have ok : Ok gn bn G H := M.okF_iff.1 hok
  have hbn := ok.2.1
  have hgn := ok.1
  have hp8 : 2 ^ bn ≤ 2 ^ 8 := Nat.pow_le_pow_right (by omega) hbn
  have u1 : IntKind.u64.wrap (bn : Int) = bn := by rw [IntKind.wrap_u64]; omega
  have u2 : min bn 64 = bn := by omega
  have u3 := (pow_wrap (g := bn) (by omega)).1
  have u4 := (pow_wrap (g := bn) (by omega)).2
  have SB := Lib.hid (spare_bd ok)
  have OK := Lib.hid ok
  have HSE := Lib.hid (show shortE gn bn G H = if M.lackTo gn bn G H (2 ^ bn) = none then 3 else 0 by simp [shortE, hok])
  have HSS := Lib.hid (show shortS gn bn G H = M.lackTo gn bn G H (2 ^ bn) by simp [shortS, hok])
  obtain ⟨q, hq⟩ : ∃ q, q = 2 ^ bn := ⟨_, rfl⟩
  rw [← hq] at hp8 HSE HSS u3 u4
  have HQ := Lib.hid hq
  have HU := Lib.hid (And.intro u3 u4)
  clear hq ok u3 u4
  go_enter Tryd.func13, Tryd.ntmps13
  go_wp2_with fail
  refine (rcheck_any gA bA gn gc bn bc B G H _ (by unfold maxLen; omega) (by unfold maxLen; omega) (by exact hR.below ((belowAlloc _ _).mono hB)) (by simp; omega)).mono ?_
  rw [hk]
  rintro e w1 ⟨rfl, hb1⟩
  have K1 := Lib.hid ((Blk.new w 25 #[.slice gA gn gc, .slice bA bn bc]).below hb1 (by simp))
  have W1 := Lib.hid ((belowAlloc w (.cells #[.slice gA gn gc, .slice bA bn bc] 25)).trans (hb1.mono (by simp)))
  have hz1 : w.heap.size + 1 ≤ w1.heap.size := by have := hb1.size; simpa using this
  have HR := Lib.hid hR
  clear hb1 hR
  go_wp2_with fail
  go_loopw [4, 5, 6] (fun v f i wr => ∃ s : Nat, s ≤ q ∧ i = .int .i64 s ∧ f = .bool (boolOf (M.lackTo gn bn G H s)) ∧ BestV wr w.heap.size bn (M.lackTo gn bn G H s) v ∧ Below w1.heap.size w1 wr) (fun _ _ i _ => q - (intOf i).toNat)
  case atStart => exact ⟨0, Nat.zero_le _, rfl, rfl, rfl, Below.refl _ _⟩
  case round =>
    obtain ⟨s, hs, rfl, rfl, hv, hbw⟩ := hrel
    have HV := Lib.hid hv
    have HB := Lib.hid hbw
    have hz := hbw.size
    have k2 := K1.out.below hbw K1.out.lt
    have b0 := k2.cell 0
    have b1 := k2.cell 1
    have hks := k2.lt
    have HWR := Lib.hid (W1.out.trans (hbw.mono (by omega)))
    clear k2 hbw hv
    by_cases hlt : s < q
    · have hsq : s < 2 ^ bn := by rw [← HQ.out]; exact hlt
      have hyb := SB.out s
      obtain ⟨y, hy⟩ : ∃ y, y = M.spareF gn bn G H s := ⟨_, rfl⟩
      rw [← hy] at hyb
      have HY := Lib.hid hy
      clear hy
      have hlen := M.elL_len bn s
      by_cases hy0 : 0 ≤ y
      · have HK := Lib.hid (lack_keep (gn := gn) (bn := bn) (G := G) (H := H) (s := s) (by rw [← HY.out]; exact hy0))
        have ey : decide (y < 0) = false := decide_eq_false (by omega)
        obtain ⟨u3, u4⟩ := HU.out
        go_wp2_with (first | (go_at_call 34; refine (members_any bn s hsq (by omega) _).mono ?_; rintro e w3 ⟨⟨v3, rfl, ho3⟩, hb3⟩; have d0 := (hb3.cell (p := ⟨w.heap.size, 0, none⟩) (by exact hks)).trans b0; have d1 := (hb3.cell (p := ⟨w.heap.size, 1, none⟩) (by exact hks)).trans b1; have HB3 := Lib.hid (HB.out.trans (hb3.mono hz)); have HV3 := Lib.hid (HV.out.below hb3); have HW3 := Lib.hid (HWR.out.trans (hb3.mono (by omega))); clear ho3 hb3 b0 b1 u3 u4) | (go_at_call 35; refine (spare_any _ _ _ _ _ _ B G H s _ OK.out (HR.out.below (HW3.out.mono hB)) (by have := HW3.out.size; omega)).mono ?_; rw [← HY.out]; rintro e w4 ⟨rfl, hb4⟩; have HB4 := Lib.hid (HB3.out.trans (hb4.mono HB3.out.size)); have HV4 := Lib.hid (HV3.out.below hb4); clear hb4))
        go_roundw
        case rel => exact ⟨s + 1, by omega, by go_num, by rw [HK.out], by rw [HK.out]; exact HV4.out, HB4.out⟩
        case measure => simp [intOf]; omega
      · have hs0 : s ≠ 0 := fun e => by subst e; rw [HY.out, show ((0 : Nat) : Int) = 0 from rfl, spare_zero] at hy0; omega
        have HP := Lib.hid (elL_pos hsq hs0 (by omega))
        have hneg : M.spareF gn bn G H s < 0 := by rw [← HY.out]; omega
        have ey : decide (y < 0) = true := decide_eq_true (by omega)
        clear hy0
        cases h0 : M.lackTo gn bn G H s with
        | none =>
          have hv := HV.out
          rw [h0] at hv
          obtain rfl := (show _ = _ from hv)
          have HK := Lib.hid (lack_first hneg h0)
          clear hneg hv HV
          obtain ⟨u3, u4⟩ := HU.out
          simp only [boolOf]
          go_wp2_with (first | (go_at_call 34; refine (members_any bn s hsq (by omega) _).mono ?_; rintro e w3 ⟨⟨v3, rfl, ho3⟩, hb3⟩; obtain ⟨g3, c3, rfl⟩ := ho3.nz HP.out; have d0 := (hb3.cell (p := ⟨w.heap.size, 0, none⟩) (by exact hks)).trans b0; have d1 := (hb3.cell (p := ⟨w.heap.size, 1, none⟩) (by exact hks)).trans b1; have HB3 := Lib.hid (HB.out.trans (hb3.mono hz)); have HW3 := Lib.hid (HWR.out.trans (hb3.mono (by omega))); have HO3 := Lib.hid ho3;  clear ho3 hb3 b0 b1 u3 u4) | (go_at_call 35; refine (spare_any _ _ _ _ _ _ B G H s _ OK.out (HR.out.below (HW3.out.mono hB)) (by have := HW3.out.size; omega)).mono ?_; rw [← HY.out]; rintro e w4 ⟨rfl, hb4⟩; have HB4 := Lib.hid (HB3.out.trans (hb4.mono HB3.out.size)); have HB34 := Lib.hid hb4;  clear hb4))
          go_roundw
          case rel => exact ⟨s + 1, by omega, by go_num, by rw [HK.out], by rw [HK.out]; exact ⟨g3, c3, rfl, (HO3.out.below HB34.out).less (by omega)⟩, HB4.out⟩
          case measure => simp [intOf]; omega
        | some t =>
          have hv := HV.out
          rw [h0] at hv
          obtain ⟨g5, c5, rfl, ho5⟩ := hv
          have H5 := Lib.hid ho5
          have H0 := Lib.hid h0
          have HNG := Lib.hid hneg
          have hlt5 := M.elL_len bn t
          clear h0 hneg ho5 HV
          simp only [boolOf]
          cases hso : M.soonS bn s t
          · have HK := Lib.hid (lack_later H0.out hso)
            have HSO := Lib.hid hso
            clear hso
            obtain ⟨u3, u4⟩ := HU.out
            go_wp2_with (first | (go_at_call 34; refine (members_any bn s hsq (by omega) _).mono ?_; rintro e w3 ⟨⟨v3, rfl, ho3⟩, hb3⟩; obtain ⟨g3, c3, rfl⟩ := ho3.nz HP.out; have d0 := (hb3.cell (p := ⟨w.heap.size, 0, none⟩) (by exact hks)).trans b0; have d1 := (hb3.cell (p := ⟨w.heap.size, 1, none⟩) (by exact hks)).trans b1; have HB3 := Lib.hid (HB.out.trans (hb3.mono hz)); have HW3 := Lib.hid (HWR.out.trans (hb3.mono (by omega))); have HO3 := Lib.hid ho3; have H53 := Lib.hid (H5.out.below hb3); clear ho3 hb3 b0 b1 u3 u4) | (go_at_call 35; refine (spare_any _ _ _ _ _ _ B G H s _ OK.out (HR.out.below (HW3.out.mono hB)) (by have := HW3.out.size; omega)).mono ?_; rw [← HY.out]; rintro e w4 ⟨rfl, hb4⟩; have HB4 := Lib.hid (HB3.out.trans (hb4.mono HB3.out.size)); have HB34 := Lib.hid hb4; have H54 := Lib.hid (H53.out.below hb4); obtain ⟨B4, d4, be4, hm4⟩ := (HO3.out.below hb4).rd1; injection be4 with be4 _ be4c; subst be4 be4c; have R4 := Lib.hid hm4; obtain ⟨B5, d5, be5, hm5⟩ := H54.out.rd1; injection be5 with be5 _ be5c; subst be5 be5c; have R5 := Lib.hid hm5; clear hm4 hm5; clear hb4) | (go_at_call 18; go_must (refine (sooner_any (some ⟨g3, 0, none⟩) (some ⟨g5, 0, none⟩) (M.elL bn s).length (M.elL bn t).length _ _ w4.heap.size (nats (M.elL bn s)) (nats (M.elL bn t)) _ (by omega) (by omega) R4.out R5.out (Nat.le_refl _)).mono ?_); rw [show M.soonB (M.elL bn s).length (M.elL bn t).length (nats (M.elL bn s)) (nats (M.elL bn t)) = _ from HSO.out]; rintro e w6 ⟨rfl, hb6⟩; have HB6 := Lib.hid (HB4.out.trans (hb6.mono HB4.out.size)); have HB46 := Lib.hid hb6; clear hb6))
            go_roundw
            case rel => exact ⟨s + 1, by omega, by go_num, by rw [HK.out], by rw [HK.out]; exact ⟨g5, c5, rfl, (H54.out.below HB46.out)⟩, HB6.out⟩
            case measure => simp [intOf]; omega
          · have HK := Lib.hid (lack_sooner HNG.out H0.out hso)
            have HSO := Lib.hid hso
            clear hso
            obtain ⟨u3, u4⟩ := HU.out
            go_wp2_with (first | (go_at_call 34; refine (members_any bn s hsq (by omega) _).mono ?_; rintro e w3 ⟨⟨v3, rfl, ho3⟩, hb3⟩; obtain ⟨g3, c3, rfl⟩ := ho3.nz HP.out; have d0 := (hb3.cell (p := ⟨w.heap.size, 0, none⟩) (by exact hks)).trans b0; have d1 := (hb3.cell (p := ⟨w.heap.size, 1, none⟩) (by exact hks)).trans b1; have HB3 := Lib.hid (HB.out.trans (hb3.mono hz)); have HW3 := Lib.hid (HWR.out.trans (hb3.mono (by omega))); have HO3 := Lib.hid ho3; have H53 := Lib.hid (H5.out.below hb3); clear ho3 hb3 b0 b1 u3 u4) | (go_at_call 35; refine (spare_any _ _ _ _ _ _ B G H s _ OK.out (HR.out.below (HW3.out.mono hB)) (by have := HW3.out.size; omega)).mono ?_; rw [← HY.out]; rintro e w4 ⟨rfl, hb4⟩; have HB4 := Lib.hid (HB3.out.trans (hb4.mono HB3.out.size)); have HB34 := Lib.hid hb4; have H54 := Lib.hid (H53.out.below hb4); obtain ⟨B4, d4, be4, hm4⟩ := (HO3.out.below hb4).rd1; injection be4 with be4 _ be4c; subst be4 be4c; have R4 := Lib.hid hm4; obtain ⟨B5, d5, be5, hm5⟩ := H54.out.rd1; injection be5 with be5 _ be5c; subst be5 be5c; have R5 := Lib.hid hm5; clear hm4 hm5; clear hb4) | (go_at_call 18; go_must (refine (sooner_any (some ⟨g3, 0, none⟩) (some ⟨g5, 0, none⟩) (M.elL bn s).length (M.elL bn t).length _ _ w4.heap.size (nats (M.elL bn s)) (nats (M.elL bn t)) _ (by omega) (by omega) R4.out R5.out (Nat.le_refl _)).mono ?_); rw [show M.soonB (M.elL bn s).length (M.elL bn t).length (nats (M.elL bn s)) (nats (M.elL bn t)) = _ from HSO.out]; rintro e w6 ⟨rfl, hb6⟩; have HB6 := Lib.hid (HB4.out.trans (hb6.mono HB4.out.size)); have HB46 := Lib.hid hb6; clear hb6))
            go_roundw
            case rel => exact ⟨s + 1, by omega, by go_num, by rw [HK.out], by rw [HK.out]; exact ⟨g3, c3, rfl, ((HO3.out.below HB34.out).below HB46.out).less (by omega)⟩, HB6.out⟩
            case measure => simp [intOf]; omega
    · obtain rfl : s = q := by omega
      cases h0 : M.lackTo gn bn G H s with
      | none =>
        have hv := HV.out
        rw [h0] at hv
        obtain rfl := (show _ = _ from hv)
        have H0 := Lib.hid h0
        clear h0 hv HV
        simp only [boolOf]
        obtain ⟨u3, u4⟩ := HU.out
        go_wp2_with fail
        go_ret2
        exact ⟨⟨.slice none 0 0, by rw [HSE.out, H0.out]; rfl, by rw [HSS.out, H0.out]; exact Own.nil_⟩, HWR.out⟩
      | some t =>
        have hv := HV.out
        rw [h0] at hv
        obtain ⟨g5, c5, rfl, ho5⟩ := hv
        have H5 := Lib.hid ho5
        have H0 := Lib.hid h0
        clear h0 ho5 HV
        simp only [boolOf]
        obtain ⟨u3, u4⟩ := HU.out
        go_wp2_with fail
        go_ret2
        exact ⟨⟨_, by rw [HSE.out, H0.out]; rfl, by rw [HSS.out, H0.out]; exact H5.out⟩, HWR.out⟩
end Go.Proofs.YtaljmlkapbojeaaDoor
