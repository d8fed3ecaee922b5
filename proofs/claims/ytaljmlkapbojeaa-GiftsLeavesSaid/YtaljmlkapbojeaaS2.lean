/- The reference's Left. -/
import Derived.Test.YtaljmlkapbojeaaS1
import Derived.Test.YtaljmlkapbojeaaLMath
import Derived.Test.YtaljmlkapbojeaaV1
import Derived.Test.YtaljmlkapbojeaaR1
namespace Go.Proofs.Ytaljmlkapbojeaa
open Go.RowKit

set_option maxRecDepth 100000 in
set_option maxHeartbeats 2000000 in
theorem rleft_bad (gA bA : Option Addr) (gn gc bn bc B : Nat) (G H : Nat → Nat → Int) (w : World) (hg : gn ≤ maxLen) (hb : bn ≤ maxLen) (hR : BookRd w B gA gn G bA bn H) (hB : B ≤ w.heap.size) (hok : M.okF gn bn G H = false) :
    Calls Try.prog 23 #[.agg #[.slice gA gn gc, .slice bA bn bc]] w fun e w' => e = .returned (.tuple #[.slice none 0 0, .int .i64 110]) ∧ Below w.heap.size w w' := by
  have hk : M.chkN gn bn G H = 110 := by simp [M.chkN, hok]
  go_enter Try.func23, Try.ntmps23
  go_wp2_with (go_at_call 11; refine (rcheck_any _ _ _ _ _ _ B _ _ _ hg hb (by exact hR.below ((belowAlloc _ _).mono hB)) (by simp; omega)).mono ?_; rw [hk]; rintro e w1 ⟨rfl, hb1⟩; have HB1 := Lib.hid hb1; clear hb1)
  go_ret2
  exact ⟨rfl, (belowAlloc _ _).trans (HB1.out.mono (by simp))⟩

set_option maxRecDepth 100000 in
set_option maxHeartbeats 2000000 in
theorem rleft_none (gA bA : Option Addr) (gn gc bn bc B : Nat) (G H : Nat → Nat → Int) (w : World) (hR : BookRd w B gA gn G bA bn H) (hB : B ≤ w.heap.size) (hok : M.okF gn bn G H = true) (hp : lpd gn bn G H = false) :
    Calls Try.prog 23 #[.agg #[.slice gA gn gc, .slice bA bn bc]] w fun e w' => e = .returned (.tuple #[.slice none 0 0, .int .i64 3]) ∧ Below w.heap.size w w' := by
  have hk : M.chkN gn bn G H = 0 := by simp [M.chkN, hok]
  have ok : Ok gn bn G H := M.okF_iff.1 hok
  have hg := ok.1
  have hb := ok.2.1
  rw [lpd_paid] at hp
  go_enter Try.func23, Try.ntmps23
  go_wp2_with fail
  refine (rcheck_any gA bA gn gc bn bc B G H _ (by unfold maxLen; omega) (by unfold maxLen; omega) (by exact hR.below ((belowAlloc _ _).mono hB)) (by simp; omega)).mono ?_
  rw [hk]
  rintro e w1 ⟨rfl, hb1⟩
  have HB1 := Lib.hid hb1
  clear hb1
  have K1 := (Blk.new w 25 #[.slice gA gn gc, .slice bA bn bc]).below HB1.out (by simp)
  have W1 := (belowAlloc _ _).trans (HB1.out.mono (by simp))
  have q0 := K1.cell 0
  have q1 := K1.cell 1
  clear HB1 K1
  have HW1 := Lib.hid W1
  clear W1
  go_wp2_with fail
  refine (paid_any gA bA gn gc bn bc B G H _ ok (by exact hR.below (HW1.out.mono hB)) (by have := HW1.out.size; omega)).mono ?_
  rw [hp]
  rintro e w2 ⟨rfl, hb2⟩
  have HB2 := Lib.hid hb2
  clear hb2
  go_wp2_with fail
  go_ret2
  exact ⟨rfl, HW1.out.trans (HB2.out.mono HW1.out.size)⟩

set_option maxRecDepth 100000 in
set_option maxHeartbeats 8000000 in
theorem rleft_ok (gA bA : Option Addr) (gn gc bn bc B : Nat) (G H : Nat → Nat → Int) (w : World) (hR : BookRd w B gA gn G bA bn H) (hB : B ≤ w.heap.size) (hok : M.okF gn bn G H = true) (hp : lpd gn bn G H = true) :
    Calls Try.prog 23 #[.agg #[.slice gA gn gc, .slice bA bn bc]] w fun e w' => (∃ A' c', e = .returned (.tuple #[.slice A' gn c', .int .i64 0]) ∧ Rd w' w'.heap.size A' 2 gn (leftSp gn bn G H)) ∧ Below w.heap.size w w' := by
  have hk : M.chkN gn bn G H = 0 := by simp [M.chkN, hok]
  have ok : Ok gn bn G H := M.okF_iff.1 hok
  have hgn := ok.1
  have hbn := ok.2.1
  rw [lpd_paid] at hp
  have hp8 : 2 ^ bn ≤ 2 ^ 8 := Nat.pow_le_pow_right (by omega) hbn
  have u1 : IntKind.u64.wrap (bn : Int) = bn := by rw [IntKind.wrap_u64]; omega
  have u2 : min bn 64 = bn := by omega
  have u3 := (pow_wrap (g := bn) (by omega)).1
  have u4 := (pow_wrap (g := bn) (by omega)).2
  obtain ⟨q, hq⟩ : ∃ q, q = 2 ^ bn := ⟨_, rfl⟩
  rw [← hq] at hp8 u3 u4
  have HQ := Lib.hid hq
  clear hq
  obtain ⟨gi, hi, hz0, hz1, hz2⟩ := info_parts span_info
  have MI := Lib.hid (And.intro hi (And.intro hz0 (And.intro hz1 hz2)))
  clear hi hz0 hz1 hz2
  go_enter Try.func23, Try.ntmps23
  go_wp2_with fail
  refine (rcheck_any gA bA gn gc bn bc B G H _ (by unfold maxLen; omega) (by unfold maxLen; omega) (by exact hR.below ((belowAlloc _ _).mono hB)) (by simp; omega)).mono ?_
  rw [hk]
  rintro e w1 ⟨rfl, hb1⟩
  have HB1 := Lib.hid hb1
  clear hb1
  have K1 := (Blk.new w 25 #[.slice gA gn gc, .slice bA bn bc]).below HB1.out (by simp)
  have W1 := (belowAlloc _ _).trans (HB1.out.mono (by simp))
  have q0 := K1.cell 0
  have q1 := K1.cell 1
  have HK1 := Lib.hid K1
  have HW1 := Lib.hid W1
  clear HB1 K1 W1
  go_wp2_with fail
  refine (paid_any gA bA gn gc bn bc B G H _ ok (by exact hR.below (HW1.out.mono hB)) (by have := HW1.out.size; omega)).mono ?_
  rw [hp]
  rintro e w2 ⟨rfl, hb2⟩
  have K2 := Lib.hid (HK1.out.below hb2 HK1.out.lt)
  have W2 := Lib.hid (HW1.out.trans (hb2.mono HW1.out.size))
  clear hb2 q0 q1 HK1 HW1
  go_wp2_with fail
  go_loopw [4, 5] (fun v i wr => ∃ g : Nat, g ≤ gn ∧ i = .int .i64 g ∧ Blk wr w.heap.size 25 #[.slice gA gn gc, .slice bA bn bc] ∧ Own wr (w.heap.size + 1) 56 2 v g (ints2 (leftSp gn bn G H)) ∧ Below w.heap.size w wr) (fun _ i _ => gn - (intOf i).toNat)
  case atStart => exact ⟨0, Nat.zero_le _, rfl, K2.out, Own.nil_, W2.out⟩
  case round =>
    clear K2 W2
    obtain ⟨g, hg, rfl, k1, ho, hW⟩ := hrel
    obtain ⟨vA, vc, rfl⟩ := ho.form
    have q0 := k1.cell 0
    have q1 := k1.cell 1
    have hks := k1.lt
    have hsz := hW.size
    have K1 := Lib.hid k1
    have HW := Lib.hid hW
    have HO := Lib.hid ho
    by_cases hlt : g < gn
    · have hR1 := hR.below (hW.mono hB)
      obtain ⟨gb, go, rfl, hgb, c0, c1, c2⟩ := hR1.1.at3 hlt
      have hgs : gb < wr.heap.size := by omega
      have HR1 := Lib.hid hR1
      have hgk := ok.2.2.1 g hlt
      have OK := Lib.hid ok
      have SB := Lib.hid (spare_bd ok)
      clear k1 hW ho hR1 hR ok
      obtain ⟨wo, hwo⟩ : ∃ wo, wo = wr := ⟨_, rfl⟩
      rw [← hwo] at q0 q1 hks hsz K1 HW HO c0 c1 c2 hgs HR1 ⊢
      clear hwo
      go_wp2_with fail
      go_loopw [7, 8] (fun h i wr => ∃ s : Nat, s ≤ q ∧ i = .int .i64 s ∧ h = .int .i64 (M.highTo gn bn G H g s) ∧ Below wo.heap.size wo wr) (fun _ i _ => q - (intOf i).toNat)
      case atStart => exact ⟨0, Nat.zero_le _, rfl, rfl, Below.refl _ _⟩
      case round =>
        obtain ⟨s, hs, rfl, rfl, hbw⟩ := hrel
        have b0 := (hbw.cell (p := ⟨w.heap.size, 0, none⟩) hks).trans q0
        have b1 := (hbw.cell (p := ⟨w.heap.size, 1, none⟩) hks).trans q1
        have hz := hbw.size
        have HB := Lib.hid hbw
        clear hbw
        by_cases hlts : s < q
        · have hbd := highTo_bd (gn := gn) (bn := bn) (g := g) (G := G) (H := H) ⟨hgk.2.2.2.2.1, hgk.2.2.2.2.2⟩ SB.out s
          have hsb := SB.out s
          have hx : M.highTo gn bn G H g (s + 1) = if M.helpsF bn G H g s then min (M.highTo gn bn G H g s) (M.spareF gn bn G H s) else M.highTo gn bn G H g s := rfl
          obtain ⟨x, hxx⟩ : ∃ x, x = M.highTo gn bn G H g s := ⟨_, rfl⟩
          obtain ⟨y, hy⟩ : ∃ y, y = M.spareF gn bn G H s := ⟨_, rfl⟩
          rw [← hxx, ← hy] at hx
          rw [← hxx] at hbd ⊢
          rw [← hy] at hsb
          have HY := Lib.hid hy
          clear hxx hy
          cases hh : M.helpsF bn G H g s
          · rw [hh, if_neg (by decide)] at hx
            have HX := Lib.hid hx
            have HH := Lib.hid hh
            clear hx hh
            go_wp2_with (go_at_call 44; refine (helps_any _ _ _ _ _ _ B G H g s _ OK.out (HR1.out.below (HB.out.mono (by omega))) (by omega) hlt).mono ?_; rw [HH.out]; rintro e w3 ⟨rfl, hb3⟩; have HB3 := Lib.hid hb3; clear hb3)
            go_roundw
            case rel => exact ⟨s + 1, by omega, by go_num, by rw [HX.out], HB.out.trans (HB3.out.mono hz)⟩
            case measure => simp [intOf]; omega
          · rw [hh, if_pos rfl] at hx
            have HX := Lib.hid hx
            have HH := Lib.hid hh
            clear hx hh
            go_wp2_with (first | (go_at_call 44; refine (helps_any _ _ _ _ _ _ B G H g s _ OK.out (HR1.out.below (HB.out.mono (by omega))) (by omega) hlt).mono ?_; rw [HH.out]; rintro e w3 ⟨rfl, hb3⟩; have d0 := (hb3.cell (p := ⟨w.heap.size, 0, none⟩) (by show w.heap.size < _; omega)).trans b0; have d1 := (hb3.cell (p := ⟨w.heap.size, 1, none⟩) (by show w.heap.size < _; omega)).trans b1; have hz3 := hb3.size; have HB3 := Lib.hid (HB.out.trans (hb3.mono hz)); clear hb3) | (go_at_call 45; refine (spare_any _ _ _ _ _ _ B G H _ _ OK.out (HR1.out.below (HB3.out.mono (by omega))) (by omega)).mono ?_; rw [← HY.out]; rintro e w4 ⟨rfl, hb4⟩; have HB4 := Lib.hid hb4; clear hb4))
            go_roundw
            case rel => exact ⟨s + 1, by omega, by go_num, by rw [HX.out], HB3.out.trans (HB4.out.mono (by omega))⟩
            case measure => simp [intOf]; omega
        · obtain rfl : s = q := by omega
          go_wp2_with fail
          go_loopw [9, 10] (fun h i wr => ∃ k : Nat, k ≤ bn ∧ i = .int .i64 k ∧ h = .int .i64 (M.usedTo k G H g) ∧ Below wo.heap.size wo wr) (fun _ i _ => bn - (intOf i).toNat)
          case atStart => exact ⟨0, Nat.zero_le _, rfl, rfl, HB.out⟩
          case round =>
            clear b0 b1 hz HB
            obtain ⟨k, hk, rfl, rfl, hbw⟩ := hrel
            have b0 := (hbw.cell (p := ⟨w.heap.size, 0, none⟩) hks).trans q0
            have b1 := (hbw.cell (p := ⟨w.heap.size, 1, none⟩) hks).trans q1
            have e0 := (hbw.cell (p := ⟨gb, go + g * 3, none⟩) hgs).trans c0
            have e1 := (hbw.cell (p := ⟨gb, go + g * 3 + 1, none⟩) hgs).trans c1
            have e2 := (hbw.cell (p := ⟨gb, go + g * 3 + 2, none⟩) hgs).trans c2
            have hz := hbw.size
            have HB := Lib.hid hbw
            clear hbw
            have hub := usedTo_bd (G := G) (H := H) hbn (fun i hi => ⟨(OK.out.2.2.2 i hi).2.2.2.2.1, (OK.out.2.2.2 i hi).2.2.2.2.2⟩) g hk
            by_cases hltk : k < bn
            · obtain ⟨bb, bo, rfl, hbb, k0, k1, k2⟩ := (HR1.out.below (HB.out.mono (by omega))).2.at3 hltk
              have hbs : bb < wr.heap.size := by omega
              have hh := OK.out.2.2.2 k hltk
              have hx : M.usedTo (k + 1) G H g = M.usedTo k G H g + M.sel (M.srv G H g k) (H k 2) := rfl
              have hs' : (M.bt (G g 0) (H k 0).toNat && decide (G g 1 ≤ H k 1)) = M.srv G H g k := rfl
              obtain ⟨x, hxx⟩ : ∃ x, x = M.usedTo k G H g := ⟨_, rfl⟩
              rw [← hxx] at hx hub ⊢
              clear hxx
              have H0 := hh.1
              have H7 := hh.2.1
              cases hsv : M.srv G H g k
              all_goals
                rw [hsv] at hx hs'
                have HX := Lib.hid hx
                have HS' := Lib.hid hs'
                clear hx hs' hsv
                go_wp2_with fail
                go_still_tail 10, (by kernel_rfl)
                change wpList _ _ _ _ _ wr.drew
                go_wp2_with (go_at_call 25; refine (serves_any _ _ _ _ _ _ _ H0 H7).mono ?_; rw [HS'.out]; rintro e w3 ⟨rfl, hb3⟩; have d1 := (hb3.cell (p := ⟨w.heap.size, 1, none⟩) (by show w.heap.size < wr.heap.size; omega)).trans b1; have d2 := (hb3.cell (p := ⟨bb, bo + k * 3 + 2, none⟩) (by show bb < wr.heap.size; omega)).trans k2; have HB3 := Lib.hid hb3; clear hb3)
                go_roundw
                case rel => exact ⟨k + 1, by omega, by go_num, by rw [HX.out] <;> simp only [M.sel] <;> first | (simp; done) | go_num, HB.out.drew.trans (HB3.out.mono hz)⟩
                case measure => simp [intOf]; omega
            · obtain rfl : k = bn := by omega
              have hhb := highTo_bd (gn := gn) (bn := k) (g := g) (G := G) (H := H) ⟨hgk.2.2.2.2.1, hgk.2.2.2.2.2⟩ SB.out s
              have HO3 := Lib.hid (HO.out.below HB.out)
              go_wp2_with (at_builtin; refine wpList_app rfl (.tmp 75) (.tmp 82) 47 rfl (w.heap.size + 1) 56 2 16 Try.underlying47 MI.out.1 MI.out.2.1 MI.out.2.2.1 MI.out.2.2.2 rfl (by decide) (by decide) (HO3.out.alloc _) rfl (by omega) (by simp; omega) wr.heap.size 1 (fun j => ints2 (leftSp gn k G H) g j) rfl (span_cells _ _ rfl _ _ _ _ rfl (by show M.highTo gn k G H g (2 ^ k) = _; rw [← HQ.out])) (fun _ _ => rfl) ?_; intro v2 w2 o2 hg2 _; obtain ⟨A2, z2, rfl⟩ := o2.form; have HO2 := Lib.hid o2; have HG2 := Lib.hid hg2; clear o2 hg2)
              go_roundw
              case rel =>
                refine ⟨g + 1, by omega, by go_num, ((K1.out.below HB.out K1.out.lt).alloc _).grown HG2.out (HO3.out.ne_ (by omega)), ?_, ?_⟩
                · have o2 := HO2.out
                  rw [show (upd (ints2 (leftSp gn k G H)) g fun j => ints2 (leftSp gn k G H) g j) = ints2 (leftSp gn k G H) from upd_self _ g] at o2
                  exact o2
                · exact (((HW.out.trans (HB.out.mono hsz)).alloc (by omega) _).grown HG2.out (by simp; omega) (fun g hg => by have := (HO3.out.block hg).1; omega))
              case measure => simp [intOf]; omega
    · obtain rfl : g = gn := by omega
      clear k1 hW ho hR
      go_wp2_with fail
      go_ret2
      exact ⟨⟨_, _, rfl, by obtain ⟨A', c', e, h⟩ := HO.out.rd; injection e with e _ _; subst e; exact h⟩, HW.out⟩
end Go.Proofs.Ytaljmlkapbojeaa
