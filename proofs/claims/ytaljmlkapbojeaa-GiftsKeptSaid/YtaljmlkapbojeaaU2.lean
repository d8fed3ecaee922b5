/- GiftsUsed, walked. -/
import Derived.Test.YtaljmlkapbojeaaA3
import Derived.Test.YtaljmlkapbojeaaU1
import Derived.Test.YtaljmlkapbojeaaBMath
import Derived.Test.YtaljmlkapbojeaaSeq
namespace Go.Proofs.Ytaljmlkapbojeaa
open Go.RowKit

theorem BookRd.more {w : World} {B B' gn bn : Nat} {gA bA : Option Addr} {G H : Nat → Nat → Int} (h : BookRd w B gA gn G bA bn H) (hB : B ≤ B') : BookRd w B' gA gn G bA bn H := ⟨h.1.more hB, h.2.more hB⟩

section
variable (gA bA oA : Option Addr) (gn gc bn bc on oc B : Nat) (om : Nat → Nat) (G H O : Nat → Nat → Int) (w : World) (hg : gn ≤ maxLen) (hb : bn ≤ maxLen) (hR : BookRd w B gA gn G bA bn H) (hS : RR w B oA on om O) (hB : B ≤ w.heap.size) (hon : on ≤ maxLen) (hom : ∀ i, i < on → om i ≤ maxLen)
include hg hb hR hB

set_option maxRecDepth 100000 in
set_option maxHeartbeats 3200000 in
theorem used_thick (ht : thickF gn bn (M.okF gn bn G H) = true) :
    Calls Try.prog 9 #[.agg #[.slice gA gn gc, .slice bA bn bc], .slice oA on oc] w fun e w' => e = .returned (.bool true) ∧ Below w.heap.size w w' := by
  go_enter Try.func9, Try.ntmps9
  go_wp2_with fail
  refine (thick_any gA bA gn gc bn bc B G H _ hg hb (by exact hR.below ((belowAlloc _ _).mono hB)) (by simp; omega)).mono ?_
  rw [ht]
  rintro e w1 ⟨rfl, hb1⟩
  have HB1 := Lib.hid hb1
  clear hb1
  go_wp2_with (go_at_call 12; refine (works_any _).mono ?_; rintro e w9 ⟨rfl, hb9⟩; have HB9 := Lib.hid hb9; clear hb9)
  go_ret
  exact ⟨rfl, (belowAlloc _ _).trans ((HB1.out.mono (by simp)).trans (HB9.out.mono (by have := HB1.out.size; simp at this; omega)))⟩
set_option maxRecDepth 100000 in
set_option maxHeartbeats 3200000 in
theorem used_bad (ht : thickF gn bn (M.okF gn bn G H) = false) (hok : M.okF gn bn G H = false) :
    Calls Try.prog 9 #[.agg #[.slice gA gn gc, .slice bA bn bc], .slice oA on oc] w fun e w' => e = .returned (.bool true) ∧ Below w.heap.size w w' := by
  have hk : M.chkN gn bn G H = 110 := by simp [M.chkN, hok]
  go_enter Try.func9, Try.ntmps9
  go_wp2_with fail
  refine (thick_any gA bA gn gc bn bc B G H _ hg hb (by exact hR.below ((belowAlloc _ _).mono hB)) (by simp; omega)).mono ?_
  rw [ht]
  rintro e w1 ⟨rfl, hb1⟩
  have K1 := (Blk.new w 25 #[.slice gA gn gc, .slice bA bn bc]).below hb1 (by simp)
  have W1 := (belowAlloc w (.cells #[.slice gA gn gc, .slice bA bn bc] 25)).trans (hb1.mono (by simp))
  have q0 := K1.cell 0
  have q1 := K1.cell 1
  have HW1 := Lib.hid W1
  clear hb1 K1 W1
  go_wp2_with fail
  refine (rcheck_any gA bA gn gc bn bc B G H _ hg hb (by exact hR.below (HW1.out.mono hB)) (by have := HW1.out.size; omega)).mono ?_
  rw [hk]
  rintro e w2 ⟨rfl, hb2⟩
  have HW2 := Lib.hid (HW1.out.trans (hb2.mono HW1.out.size))
  clear hb2
  go_wp2_with (go_at_call 12; refine (works_any _).mono ?_; rintro e w9 ⟨rfl, hb9⟩; have HB9 := Lib.hid hb9; clear hb9)
  go_ret
  exact ⟨rfl, HW2.out.trans (HB9.out.mono HW2.out.size)⟩
include hS hon hom
set_option maxRecDepth 100000 in
set_option maxHeartbeats 6400000 in
theorem used_none (ht : thickF gn bn (M.okF gn bn G H) = false) (hok : M.okF gn bn G H = true) (hp : lpd gn bn G H = false) :
    Calls Try.prog 9 #[.agg #[.slice gA gn gc, .slice bA bn bc], .slice oA on oc] w fun e w' => e = .returned (.bool true) ∧ Below w.heap.size w w' := by
  have hk : M.chkN gn bn G H = 0 := by simp [M.chkN, hok]
  have ok : Ok gn bn G H := M.okF_iff.1 hok
  have hno : M.payB on om gn bn G H O = false := by
    cases h : M.payB on om gn bn G H O
    · rfl
    · rw [payB_lpd h] at hp; cases hp
  have HNO := Lib.hid hno
  have HOM := Lib.hid hom
  have OK := Lib.hid ok
  clear hno hom ok
  go_enter Try.func9, Try.ntmps9
  go_wp2_with fail
  refine (thick_any gA bA gn gc bn bc B G H _ hg hb (by exact hR.below ((belowAlloc _ _).mono hB)) (by simp; omega)).mono ?_
  rw [ht]
  rintro e w1 ⟨rfl, hb1⟩
  have K1 := (Blk.new w 25 #[.slice gA gn gc, .slice bA bn bc]).below hb1 (by simp)
  have W1 := (belowAlloc w (.cells #[.slice gA gn gc, .slice bA bn bc] 25)).trans (hb1.mono (by simp))
  have q0 := K1.cell 0
  have q1 := K1.cell 1
  have HK1 := Lib.hid K1
  have HW1 := Lib.hid W1
  clear hb1 K1 W1
  go_wp2_with fail
  clear q0 q1
  refine (rcheck_any gA bA gn gc bn bc B G H _ hg hb (by exact hR.below (HW1.out.mono hB)) (by have := HW1.out.size; omega)).mono ?_
  rw [hk]
  rintro e w2 ⟨rfl, hb2⟩
  have HK2 := Lib.hid (HK1.out.below hb2 HK1.out.lt)
  have HW2 := Lib.hid (HW1.out.trans (hb2.mono HW1.out.size))
  have q0 := HK2.out.cell 0
  have q1 := HK2.out.cell 1
  clear hb2 HK1 HW1
  go_wp2_with fail
  clear q0 q1
  refine (pay_none gA bA gn gc bn bc B G H _ (by exact hR.below (HW2.out.mono hB)) (by have := HW2.out.size; omega) hok hp).mono ?_
  rintro e w3 ⟨rfl, hb3⟩
  have HK3 := Lib.hid (HK2.out.below hb3 HK2.out.lt)
  have HW3 := Lib.hid (HW2.out.trans (hb3.mono HW2.out.size))
  have q0 := HK3.out.cell 0
  have q1 := HK3.out.cell 1
  clear hb3 HK2 HW2
  go_wp2_with fail
  clear q0 q1
  refine (payments_any gA bA oA gn gc bn bc on oc B om G H O _ OK.out (by exact hR.below (HW3.out.mono hB)) (by exact hS.below (HW3.out.mono hB)) (by have := HW3.out.size; omega) hon HOM.out).mono ?_
  rw [HNO.out]
  rintro e w4 ⟨rfl, hb4⟩
  have HW4 := Lib.hid (HW3.out.trans (hb4.mono HW3.out.size))
  clear hb4
  go_wp2_with (go_at_call 12; refine (works_any _).mono ?_; rintro e w9 ⟨rfl, hb9⟩; have HB9 := Lib.hid hb9; clear hb9)
  go_ret
  exact ⟨rfl, HW4.out.trans (HB9.out.mono HW4.out.size)⟩
set_option maxRecDepth 100000 in
set_option maxHeartbeats 12800000 in
theorem used_ok (ht : thickF gn bn (M.okF gn bn G H) = false) (hok : M.okF gn bn G H = true) (hp : lpd gn bn G H = true) :
    Calls Try.prog 9 #[.agg #[.slice gA gn gc, .slice bA bn bc], .slice oA on oc] w fun e w' => e = .returned (.bool true) ∧ Below w.heap.size w w' := by
  have hk : M.chkN gn bn G H = 0 := by simp [M.chkN, hok]
  have ok : Ok gn bn G H := M.okF_iff.1 hok
  have hgn := ok.1
  have hbn := ok.2.1
  have po := payOk_pay ok hp
  have PB := Lib.hid po.payB
  have A3 := Lib.hid (po.aud3 hok).1
  have AE := Lib.hid (po.aud3 hok).2
  have FPX := Lib.hid (fun h => payB_FP (rn := on) (rm := om) (gn := gn) (bn := bn) (G := G) (H := H) (R := O) h)
  have LEX := Lib.hid (fun (h : M.payB on om gn bn G H O = true) (b g : Nat) hb hg h1 h2 => payB_lex (b := b) (g := g) h hb hg h1 h2)
  obtain ⟨P, hP⟩ : ∃ P, P = M.payAt gn bn (s0 G H gn) := ⟨_, rfl⟩
  rw [← hP] at PB A3 AE
  simp only [← hP] at LEX
  have HP := Lib.hid hP
  have HOM := Lib.hid hom
  have OK := Lib.hid ok
  clear hP hom ok po
  go_enter Try.func9, Try.ntmps9
  go_wp2_with fail
  refine (thick_any gA bA gn gc bn bc B G H _ hg hb (by exact hR.below ((belowAlloc _ _).mono hB)) (by simp; omega)).mono ?_
  rw [ht]
  rintro e w1 ⟨rfl, hb1⟩
  have K1 := (Blk.new w 25 #[.slice gA gn gc, .slice bA bn bc]).below hb1 (by simp)
  have W1 := (belowAlloc w (.cells #[.slice gA gn gc, .slice bA bn bc] 25)).trans (hb1.mono (by simp))
  have q0 := K1.cell 0
  have q1 := K1.cell 1
  have HK1 := Lib.hid K1
  have HW1 := Lib.hid W1
  clear hb1 K1 W1
  go_wp2_with fail
  clear q0 q1
  refine (rcheck_any gA bA gn gc bn bc B G H _ hg hb (by exact hR.below (HW1.out.mono hB)) (by have := HW1.out.size; omega)).mono ?_
  rw [hk]
  rintro e w2 ⟨rfl, hb2⟩
  have HK2 := Lib.hid (HK1.out.below hb2 HK1.out.lt)
  have HW2 := Lib.hid (HW1.out.trans (hb2.mono HW1.out.size))
  have q0 := HK2.out.cell 0
  have q1 := HK2.out.cell 1
  clear hb2 HK1 HW1
  go_wp2_with fail
  clear q0 q1
  refine (pay_ok gA bA gn gc bn bc B G H _ (by exact hR.below (HW2.out.mono hB)) (by have := HW2.out.size; omega) hok hp).mono ?_
  rintro e w3 ⟨v, F, rfl, hrows, hb3⟩
  obtain ⟨pA, pc, rfl, hrr⟩ := hrows.rr
  rw [← HP.out] at hrr
  have HRR := Lib.hid hrr
  have HK3 := Lib.hid (HK2.out.below hb3 HK2.out.lt)
  have HW3 := Lib.hid (HW2.out.trans (hb3.mono HW2.out.size))
  have q0 := HK3.out.cell 0
  have q1 := HK3.out.cell 1
  clear hb3 HK2 HW2 hrows hrr
  go_wp2_with fail
  clear q0 q1
  refine (gaudit_any gA bA pA gn gc bn bc bn pc w3.heap.size (fun _ => gn) G H P _ hg hb ((hR.below (HW3.out.mono hB)).more (by have := HW3.out.size; omega)) HRR.out (Nat.le_refl _) hb (fun _ _ => hg)).mono ?_
  rw [A3.out, AE.out]
  rintro e w4 ⟨rfl, hb4⟩
  unfold audV
  dsimp only
  have HR4 := Lib.hid ((HRR.out.below hb4).more hb4.size)
  have HK4 := Lib.hid (HK3.out.below hb4 HK3.out.lt)
  have HW4 := Lib.hid (HW3.out.trans (hb4.mono HW3.out.size))
  have q0 := HK4.out.cell 0
  have q1 := HK4.out.cell 1
  clear hb4 HK3 HW3 HRR
  go_wp2_with fail
  clear q0 q1
  refine (payments_any gA bA pA gn gc bn bc bn pc w4.heap.size (fun _ => gn) G H P _ OK.out ((hR.below (HW4.out.mono hB)).more (by have := HW4.out.size; omega)) HR4.out (Nat.le_refl _) hb (fun _ _ => hg)).mono ?_
  rw [PB.out]
  rintro e w5 ⟨rfl, hb5⟩
  have HR5 := Lib.hid ((HR4.out.below hb5).more hb5.size)
  have HK5 := Lib.hid (HK4.out.below hb5 HK4.out.lt)
  have HW5 := Lib.hid (HW4.out.trans (hb5.mono HW4.out.size))
  have q0 := HK5.out.cell 0
  have q1 := HK5.out.cell 1
  clear hb5 HK4 HW4 HR4
  go_wp2_with fail
  clear q0 q1
  cases hq : M.payB on om gn bn G H O
  · refine (payments_any gA bA oA gn gc bn bc on oc B om G H O _ OK.out (by exact hR.below (HW5.out.mono hB)) (by exact hS.below (HW5.out.mono hB)) (by have := HW5.out.size; omega) hon HOM.out).mono ?_
    rw [hq]
    rintro e w6 ⟨rfl, hb6⟩
    have HW6 := Lib.hid (HW5.out.trans (hb6.mono HW5.out.size))
    clear hb6
    go_wp2_with (go_at_call 12; refine (works_any _).mono ?_; rintro e w9 ⟨rfl, hb9⟩; have HB9 := Lib.hid hb9; clear hb9)
    go_ret
    exact ⟨rfl, HW6.out.trans (HB9.out.mono HW6.out.size)⟩
  refine (payments_any gA bA oA gn gc bn bc on oc B om G H O _ OK.out (by exact hR.below (HW5.out.mono hB)) (by exact hS.below (HW5.out.mono hB)) (by have := HW5.out.size; omega) hon HOM.out).mono ?_
  rw [hq]
  rintro e w6 ⟨rfl, hb6⟩
  have fpx := FPX.out hq
  obtain rfl : bn = on := fpx.1.symm
  have HOG := Lib.hid fpx.2.1
  have HLEX := Lib.hid (LEX.out hq)
  have HR6 := Lib.hid ((HR5.out.below hb6).more hb6.size)
  have HW6 := Lib.hid (HW5.out.trans (hb6.mono HW5.out.size))
  clear hb6 HK5 HW5 HR5 hq fpx LEX FPX
  go_wp2_with fail
  go_loopw [11] (fun i wr => ∃ k : Nat, k ≤ bn ∧ i = .int .i64 k ∧ (∀ i, i < k → ∀ j, j < gn → O i j = P i j) ∧ Below w6.heap.size w6 wr) (fun i _ => bn - (intOf i).toNat)
  case atStart => exact ⟨0, Nat.zero_le _, rfl, fun i hi => absurd hi (by omega), Below.refl _ _⟩
  case round =>
    obtain ⟨k, hk', rfl, hag, hbw⟩ := hrel
    have HAG := Lib.hid hag
    have HB := Lib.hid hbw
    clear hag hbw
    by_cases hlt : k < bn
    · obtain ⟨rb, ro, rfl, hrb, eA, ec, x0w, hE⟩ := (HR6.out).at_ hlt
      obtain ⟨ob, oo, rfl, hob, fA, fc, y0w, hF⟩ := (hS.below (HW6.out.mono hB)).at_ hlt
      rw [HOG.out k hlt] at y0w hF
      have hrs : rb < w6.heap.size := hrb
      have hos : ob < w6.heap.size := by have := HW6.out.size; omega
      have HE := Lib.hid hE
      have HF := Lib.hid hF
      clear hE hF hS hR
      go_wp2_with fail
      go_loopw [12] (fun i wr2 => ∃ g : Nat, g ≤ gn ∧ i = .int .i64 g ∧ (∀ j, j < g → O k j = P k j) ∧ Below w6.heap.size w6 wr2) (fun i _ => gn - (intOf i).toNat)
      case atStart => exact ⟨0, Nat.zero_le _, rfl, fun i hi => absurd hi (by omega), HB.out⟩
      case round =>
        clear HB
        obtain ⟨g, hg', rfl, hag2, hbw⟩ := hrel
        have HAG2 := Lib.hid hag2
        have hz := hbw.size
        have x0 := (hbw.cell (p := ⟨rb, ro + k, none⟩) hrs).trans x0w
        have y0 := (hbw.cell (p := ⟨ob, oo + k, none⟩) hos).trans y0w
        have hrs' : rb < wr.heap.size := by omega
        have hos' : ob < wr.heap.size := by omega
        by_cases hltg : g < gn
        · obtain ⟨eb, eo, rfl, heb, e0w⟩ := HE.out.at_ hltg
          obtain ⟨fb, fo, rfl, hfb, f0w⟩ := HF.out.at_ hltg
          have hfb' : fb < w6.heap.size := by have := HW6.out.size; omega
          have e0 := (hbw.cell (p := ⟨eb, eo + g, none⟩) heb).trans e0w
          have f0 := (hbw.cell (p := ⟨fb, fo + g, none⟩) hfb').trans f0w
          have hes : eb < wr.heap.size := by omega
          have hfs : fb < wr.heap.size := by omega
          have hlex := HLEX.out k g hlt hltg HAG.out HAG2.out
          have HB := Lib.hid hbw
          clear hag2 hbw e0w f0w
          obtain ⟨x, hx⟩ : ∃ x, x = P k g := ⟨_, rfl⟩
          obtain ⟨y, hy⟩ : ∃ y, y = O k g := ⟨_, rfl⟩
          rw [← hx] at e0 hlex
          rw [← hy] at f0 hlex
          have HX := Lib.hid hx
          have HY := Lib.hid hy
          clear hx hy
          by_cases hxy : x = y
          · have HXY := Lib.hid hxy
            subst hxy
            clear hlex
            go_wp2_with fail
            go_quiet (fail)
            go_wp2_with fail
            go_roundw
            case rel =>
              refine ⟨g + 1, by omega, by go_num, fun j hj => ?_, HB.out.drewN _⟩
              rcases Nat.lt_succ_iff_lt_or_eq.1 hj with h1 | h1
              · exact HAG2.out j h1
              · subst h1; rw [← HX.out, ← HY.out]
            case measure => simp [intOf]; omega
          · have hne : (x == y) = false := by simpa using hxy
            have hgt : decide (y < x) = true := by simp; omega
            clear hlex hxy
            go_wp2_with fail
            go_quiet (fail)
            go_wp2_with fail
            refine wp_region_seq 0 16 (by kernel_rfl) (by kernel_rfl) fun R hRR => ?_
            simp only [List.take_succ_cons, List.take_zero, List.drop_succ_cons, List.drop_zero] at hRR ⊢
            refine hRR _ _ ?_
            clear hRR
            repeat (go_big_quiet_step (fail))
            refine wpQuiet_nil ?_
            go_wp2_with (go_at_call 12; refine (works_any _).mono ?_; rintro e w9 ⟨rfl, hb9⟩; have HB9 := Lib.hid hb9; clear hb9)
            go_ret
            exact ⟨rfl, HW6.out.trans (((HB.out.drewN _).drew.trans (HB9.out.mono hz)).mono HW6.out.size)⟩
        · obtain rfl : g = gn := by omega
          have HB := Lib.hid hbw
          clear hag2 hbw
          go_wp2_with fail
          go_roundw
          case rel =>
            refine ⟨k + 1, by omega, by go_num, fun i hi => ?_, HB.out⟩
            rcases Nat.lt_succ_iff_lt_or_eq.1 hi with h1 | h1
            · exact HAG.out i h1
            · subst h1; exact HAG2.out
          case measure => simp [intOf]; omega
    · obtain rfl : k = bn := by omega
      go_wp2_with (go_at_call 12; refine (works_any _).mono ?_; rintro e w9 ⟨rfl, hb9⟩; have HB9 := Lib.hid hb9; clear hb9)
      go_ret
      exact ⟨rfl, HW6.out.trans ((HB.out.trans (HB9.out.mono HB.out.size)).mono HW6.out.size)⟩
theorem giftsUsed_any :
    Calls Try.prog 9 #[.agg #[.slice gA gn gc, .slice bA bn bc], .slice oA on oc] w fun e w' => e = .returned (.bool true) ∧ Below w.heap.size w w' := by
  cases ht : thickF gn bn (M.okF gn bn G H)
  · cases hok : M.okF gn bn G H
    · exact used_bad gA bA oA gn gc bn bc on oc B G H w hg hb hR hB ht hok
    · cases hp : lpd gn bn G H
      · exact used_none gA bA oA gn gc bn bc on oc B om G H O w hg hb hR hS hB hon hom ht hok hp
      · exact used_ok gA bA oA gn gc bn bc on oc B om G H O w hg hb hR hS hB hon hom ht hok hp
  · exact used_thick gA bA oA gn gc bn bc on oc B G H w hg hb hR hB ht
end
end Go.Proofs.Ytaljmlkapbojeaa
