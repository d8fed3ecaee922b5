/- GiftsKept, walked: where there are payments. -/
import Derived.Test.YtaljmlkapbojeaaK0
import Derived.Test.YtaljmlkapbojeaaK1
import Derived.Test.YtaljmlkapbojeaaK7
import Derived.Test.YtaljmlkapbojeaaK8
import Derived.Test.YtaljmlkapbojeaaDMath
import Derived.Test.YtaljmlkapbojeaaM6
import Derived.Test.YtaljmlkapbojeaaU2
import Derived.Test.YtaljmlkapbojeaaSeq
import Derived.Deep.DeepCutAuto
import Derived.Deep.DrawnRows
namespace Go.Proofs.Ytaljmlkapbojeaa
open Go.RowKit

section
variable (gA bA oA : Option Addr) (gn gc bn bc on oc B : Nat) (om : Nat → Nat) (G H O : Nat → Nat → Int) (x : Int) (w : World) (hg : gn ≤ maxLen) (hb : bn ≤ maxLen) (hR : BookRd w B gA gn G bA bn H) (hS : RR w B oA on om O) (hB : B ≤ w.heap.size) (hon : on ≤ maxLen) (hom : ∀ i, i < on → om i ≤ maxLen)
include hg hb hR hB hS hon hom
set_option maxRecDepth 100000 in
set_option maxHeartbeats 51200000 in
theorem kept_ok (ht : thickF gn bn (M.okF gn bn G H) = false) (hok : M.okF gn bn G H = true) (hp : lpd gn bn G H = true) :
    Calls Try.prog 7 #[.agg #[.slice gA gn gc, .slice bA bn bc], .slice oA on oc, .int .i64 x] w fun e w' => e = .returned (.bool true) ∧ Below w.heap.size w w' := by
  have hk : M.chkN gn bn G H = 0 := by simp [M.chkN, hok]
  have ok : Ok gn bn G H := M.okF_iff.1 hok
  have h6 : gn ≤ 6 ∧ bn ≤ 6 := by unfold thickF at ht; rw [hok] at ht; simp at ht; omega
  have LB := Lib.hid (fun g (hg : g < gn) => left_bounds (bn := bn) ok hp hg)
  have LA := Lib.hid (fun (h : M.payB on om gn bn G H O = true) g (hg : g < gn) => left_any h hg)
  have FPX := Lib.hid (fun h => payB_FP (rn := on) (rm := om) (gn := gn) (bn := bn) (G := G) (H := H) (R := O) h)
  have CB := Lib.hid (fun (h : M.payB on om gn bn G H O = true) i (hi : i < bn) j (hj : j < gn) => payB_cell h hi hj)
  have LO := Lib.hid (fun g (hg : g < gn) => less_ok (bn := bn) (H := H) hp hg)
  have LN := Lib.hid (fun g (hg : g < gn) h => less_not (gn := gn) (bn := bn) (G := G) (H := H) (g := g) hg h)
  have FO := Lib.hid (fun g (hg : g < gn) => first_ok ok hg h6.1)
  have FL := Lib.hid (fun g (hg : g < gn) => first_lpd ok hp hg)
  have FU := Lib.hid (fun g (hg : g < gn) => first_used ok hp hg h6.1)
  obtain ⟨SP, hSP⟩ : ∃ SP, SP = leftSp gn bn G H := ⟨_, rfl⟩
  simp only [← hSP] at LB LA LO LN FU
  have HSP := Lib.hid hSP
  have HOM := Lib.hid hom
  have OK := Lib.hid ok
  clear hSP hom ok
  go_enter Try.func7, Try.ntmps7
  go_wp2_with fail
  refine (thick_any gA bA gn gc bn bc B G H _ hg hb (by exact hR.below ((belowAlloc _ _).mono hB)) (by simp; omega)).mono ?_
  rw [ht]
  rintro e w1 ⟨rfl, hb1⟩
  have K1 := (Blk.new w 25 #[.slice gA gn gc, .slice bA bn bc]).below hb1 (by simp)
  have W1 := (belowAlloc w (.cells #[.slice gA gn gc, .slice bA bn bc] 25)).trans (hb1.mono (by simp))
  have q0 := K1.cell 0
  have q1 := K1.cell 1
  have HK1 := Lib.hid K1
  have HW1 := Lib.hid W1
  clear hb1 K1 W1
  go_wp2_with fail
  clear q0 q1
  refine (rcheck_any gA bA gn gc bn bc B G H _ hg hb (by exact hR.below (HW1.out.mono hB)) (by have := HW1.out.size; omega)).mono ?_
  rw [hk]
  rintro e w2 ⟨rfl, hb2⟩
  have HK2 := Lib.hid (HK1.out.below hb2 HK1.out.lt)
  have HW2 := Lib.hid (HW1.out.trans (hb2.mono HW1.out.size))
  have q0 := HK2.out.cell 0
  have q1 := HK2.out.cell 1
  clear hb2 HK1 HW1
  go_wp2_with fail
  clear q0 q1
  refine (gleft_ok gA bA gn gc bn bc B G H _ (by exact hR.below (HW2.out.mono hB)) (by have := HW2.out.size; omega) hok hp).mono ?_
  rw [← HSP.out]
  rintro e w3 ⟨⟨lA, lc, rfl, hl⟩, hb3⟩
  have HL3 := Lib.hid hl
  have HK3 := Lib.hid (HK2.out.below hb3 HK2.out.lt)
  have HW3 := Lib.hid (HW2.out.trans (hb3.mono HW2.out.size))
  have q0 := HK3.out.cell 0
  have q1 := HK3.out.cell 1
  clear hb3 HK2 HW2 hl
  go_wp2_with fail
  clear q0 q1
  refine (pay_ok gA bA gn gc bn bc B G H _ (by exact hR.below (HW3.out.mono hB)) (by have := HW3.out.size; omega) hok hp).mono ?_
  rintro e X ⟨v, F, rfl, hrows, hb3⟩
  obtain ⟨pA, pc, rfl⟩ := hrows.1.form
  have HL := Lib.hid ((HL3.out.below hb3).more hb3.size)
  have HK := Lib.hid (HK3.out.below hb3 HK3.out.lt)
  have HWX := Lib.hid (HW3.out.trans (hb3.mono HW3.out.size))
  have q0 := HK.out.cell 0
  have q1 := HK.out.cell 1
  have hXs := HK.out.lt
  clear hb3 HK3 HW3 HL3 hrows
  have HRX := Lib.hid ((hR.below (HWX.out.mono hB)).more (by omega : B ≤ X.heap.size))
  have HSX := Lib.hid ((hS.below (HWX.out.mono hB)).more (by omega : B ≤ X.heap.size))
  clear hR hS
  go_wp2_with fail
  go_loopw [11] (fun i wr => ∃ g : Nat, g ≤ gn ∧ i = .int .i64 g ∧ Below X.heap.size X wr) (fun i _ => gn - (intOf i).toNat)
  case atStart => exact ⟨0, Nat.zero_le _, rfl, Below.refl _ _⟩
  case round =>
    clear q0 q1
    obtain ⟨g, hg', rfl, hbw⟩ := hrel
    have HB := Lib.hid hbw
    have hz := hbw.size
    have q0 := (hbw.cell (p := ⟨w.heap.size, 0, none⟩) hXs).trans (HK.out.cell 0)
    have q1 := (hbw.cell (p := ⟨w.heap.size, 1, none⟩) hXs).trans (HK.out.cell 1)
    by_cases hlt : g < gn
    · obtain ⟨gb, go, rfl, hgb, c0w, c1w, c2w⟩ := HRX.out.1.at3 hlt
      obtain ⟨lb, lo, rfl, hlb, l0w, l1w⟩ := HL.out.at2 hlt
      have c2 := (hbw.cell (p := ⟨gb, go + g * 3 + 2, none⟩) hgb).trans c2w
      have l0 := (hbw.cell (p := ⟨lb, lo + g * 2, none⟩) hlb).trans l0w
      have l1 := (hbw.cell (p := ⟨lb, lo + g * 2 + 1, none⟩) hlb).trans l1w
      have hgs : gb < wr.heap.size := by omega
      have hls : lb < wr.heap.size := by omega
      have lbd := LB.out g hlt
      have okg := OK.out.2.2.1 g hlt
      have L0W := Lib.hid l0w
      have L1W := Lib.hid l1w
      clear hbw c0w c1w c2w l0w l1w
      cases hq : M.payB on om gn bn G H O
      · have HQ := Lib.hid hq
        clear hq
        obtain ⟨a0, h0⟩ : ∃ a0, a0 = SP g 0 := ⟨_, rfl⟩
        obtain ⟨a1, h1⟩ : ∃ a1, a1 = SP g 1 := ⟨_, rfl⟩
        rw [← h0] at l0 lbd
        rw [← h1] at l1 lbd
        clear h0 h1
        have e0 : decide (a0 < 0) = false := decide_eq_false (by omega)
        have e1 : decide (a1 < a0) = false := decide_eq_false (by omega)
        have e2 : decide (G g 2 < a1) = false := decide_eq_false (by omega)
        go_wp2_with fail
        go_quiet (fail)
        go_wp2_with fail
        go_loopw [12, 13] (fun l i wr2 => l = .int .i64 (G g 2) ∧ i = .int .i64 0 ∧ Below X.heap.size X wr2) (fun _ _ _ => 0)
        case atStart => exact ⟨rfl, rfl, HB.out.drewN _⟩
        case round =>
          clear HB q0 q1 c2 l0 l1 hz hgs hls
          obtain ⟨rfl, rfl, hbw⟩ := hrel
          have HB := Lib.hid hbw
          have q0 := (hbw.cell (p := ⟨w.heap.size, 0, none⟩) hXs).trans (HK.out.cell 0)
          have q1 := (hbw.cell (p := ⟨w.heap.size, 1, none⟩) hXs).trans (HK.out.cell 1)
          clear hbw
          by_cases hb0 : 0 < bn
          · go_wp2_with fail
            clear q0 q1
            refine (payments_any (some ⟨gb, go, none⟩) bA oA gn gc bn bc on oc X.heap.size om G H O _ OK.out (HRX.out.below HB.out) (HSX.out.below HB.out) (by have := (HB.out).size; omega) hon HOM.out).mono ?_
            rw [HQ.out]
            rintro e w4 ⟨rfl, hbp⟩
            have HBP := Lib.hid ((HB.out).trans (hbp.mono (by have := (HB.out).size; omega)))
            clear hbp
            have q0 := (HBP.out.cell (p := ⟨w.heap.size, 0, none⟩) hXs).trans (HK.out.cell 0)
            have q1 := (HBP.out.cell (p := ⟨w.heap.size, 1, none⟩) hXs).trans (HK.out.cell 1)
            go_wp2_with fail
            clear q0 q1
            refine (payments_any (some ⟨gb, go, none⟩) bA oA gn gc bn bc on oc X.heap.size om G H O _ OK.out (HRX.out.below HBP.out) (HSX.out.below HBP.out) (by have := (HBP.out).size; omega) hon HOM.out).mono ?_
            rw [HQ.out]
            rintro e w5 ⟨rfl, hbp⟩
            have HBP := Lib.hid ((HBP.out).trans (hbp.mono (by have := (HBP.out).size; omega)))
            clear hbp
            go_wp2_with fail
            go_roundw
            case rel => exact ⟨g + 1, by omega, by go_num, HBP.out⟩
            case measure => simp [intOf]; omega
          · obtain rfl : bn = 0 := by omega
            go_wp2_with fail
            clear q0 q1
            refine (payments_any (some ⟨gb, go, none⟩) bA oA gn gc _ bc on oc X.heap.size om G H O _ OK.out (HRX.out.below HB.out) (HSX.out.below HB.out) (by have := (HB.out).size; omega) hon HOM.out).mono ?_
            rw [HQ.out]
            rintro e w4 ⟨rfl, hbp⟩
            have HBP := Lib.hid ((HB.out).trans (hbp.mono (by have := (HB.out).size; omega)))
            clear hbp
            go_wp2_with fail
            go_roundw
            case rel => exact ⟨g + 1, by omega, by go_num, HBP.out⟩
            case measure => simp [intOf]; omega
      · have fpx := FPX.out hq
        have hla := LA.out hq g hlt
        have HCB := Lib.hid (CB.out hq)
        have HQ := Lib.hid hq
        obtain rfl : bn = on := fpx.1.symm
        have HOG := Lib.hid fpx.2.1
        clear hq fpx
        obtain ⟨a0, h0⟩ : ∃ a0, a0 = SP g 0 := ⟨_, rfl⟩
        obtain ⟨a1, h1⟩ : ∃ a1, a1 = SP g 1 := ⟨_, rfl⟩
        have L0W' : X.cell? ⟨lb, lo + g * 2, none⟩ = some (.int .i64 a0) := by rw [h0]; exact L0W.out
        have L1W' : X.cell? ⟨lb, lo + g * 2 + 1, none⟩ = some (.int .i64 a1) := by rw [h1]; exact L1W.out
        rw [← h0] at l0 lbd hla
        rw [← h1] at l1 lbd hla
        clear h0 h1
        have e0 : decide (a0 < 0) = false := decide_eq_false (by omega)
        have e1 : decide (a1 < a0) = false := decide_eq_false (by omega)
        have e2 : decide (G g 2 < a1) = false := decide_eq_false (by omega)
        have HL1 := Lib.hid hla
        clear hla
        go_wp2_with fail
        go_quiet (fail)
        go_wp2_with fail
        clear e0 e1 e2
        go_loopw [12, 13] (fun l i wr2 => ∃ k : Nat, k ≤ bn ∧ i = .int .i64 k ∧ l = .int .i64 (G g 2 - M.sumTo k (fun i => O i g)) ∧ Below X.heap.size X wr2) (fun _ i _ => bn - (intOf i).toNat)
        case atStart => exact ⟨0, Nat.zero_le _, rfl, by simp [M.sumTo], HB.out.drewN _⟩
        case round =>
          clear HB q0 q1 c2 l0 l1 hz hgs hls
          obtain ⟨k, hk', rfl, rfl, hbw⟩ := hrel
          have HB := Lib.hid hbw
          have hz := hbw.size
          have q0 := (hbw.cell (p := ⟨w.heap.size, 0, none⟩) hXs).trans (HK.out.cell 0)
          have q1 := (hbw.cell (p := ⟨w.heap.size, 1, none⟩) hXs).trans (HK.out.cell 1)
          have sb := M.sumTo_bd (n := k) (f := fun i => O i g) (c := 1000000) fun i hi => HCB.out i (by omega) g hlt
          clear hbw
          by_cases hltk : k < bn
          · obtain ⟨rb, ro, rfl, hrb, eA, ec, x0w, hE⟩ := HSX.out.at_ hltk
            rw [HOG.out k hltk] at x0w hE
            obtain ⟨eb, eo, rfl, heb, y0w⟩ := hE.at_ hlt
            have hsum : M.sumTo (k + 1) (fun i => O i g) = M.sumTo k (fun i => O i g) + O k g := rfl
            have hob := HCB.out k hltk g hlt
            obtain ⟨s, hs⟩ : ∃ s, s = M.sumTo k (fun i => O i g) := ⟨_, rfl⟩
            rw [← hs] at hsum sb ⊢
            have HSUM := Lib.hid hsum
            have hsb : 0 ≤ s ∧ s ≤ 6000000 := by omega
            clear hs hsum hE sb
            go_wp2_with fail
            clear q0 q1
            refine (payments_any (some ⟨gb, go, none⟩) bA (some ⟨rb, ro, none⟩) gn gc bn bc bn oc X.heap.size om G H O _ OK.out (HRX.out.below HB.out) (HSX.out.below HB.out) (by have := (HB.out).size; omega) hon HOM.out).mono ?_
            rw [HQ.out]
            rintro e w4 ⟨rfl, hbp⟩
            have HBP := Lib.hid ((HB.out).trans (hbp.mono (by have := (HB.out).size; omega)))
            clear hbp
            have x0 := (HBP.out.cell (p := ⟨rb, ro + k, none⟩) hrb).trans x0w
            have y0 := (HBP.out.cell (p := ⟨eb, eo + g, none⟩) heb).trans y0w
            have hrs : rb < w4.heap.size := by have := HBP.out.size; omega
            have hes : eb < w4.heap.size := by have := HBP.out.size; omega
            go_wp2_with fail
            go_roundw
            case rel => exact ⟨k + 1, by omega, by go_num, by rw [HSUM.out]; congr 1; omega, HBP.out⟩
            case measure => simp [intOf]; omega
          · obtain rfl : k = bn := by omega
            have hl2 := HL1.out
            obtain ⟨s, hs⟩ : ∃ s, s = M.sumTo k (fun i => O i g) := ⟨_, rfl⟩
            rw [← hs] at hl2 sb ⊢
            have f0 : decide (G g 2 - s < a0) = false := decide_eq_false (by omega)
            have f1 : decide (a1 < G g 2 - s) = false := decide_eq_false (by omega)
            clear hs hl2 sb
            go_wp2_with fail
            clear q0 q1
            refine (payments_any (some ⟨gb, go, none⟩) bA oA gn gc k bc k oc X.heap.size om G H O _ OK.out (HRX.out.below HB.out) (HSX.out.below HB.out) (by have := (HB.out).size; omega) hon HOM.out).mono ?_
            rw [HQ.out]
            rintro e w4 ⟨rfl, hbp⟩
            have HBP := Lib.hid ((HB.out).trans (hbp.mono (by have := (HB.out).size; omega)))
            clear hbp
            have l0 := (HBP.out.cell (p := ⟨lb, lo + g * 2, none⟩) hlb).trans L0W'
            have l1 := (HBP.out.cell (p := ⟨lb, lo + g * 2 + 1, none⟩) hlb).trans L1W'
            have hls : lb < w4.heap.size := by have := HBP.out.size; omega
            go_wp2_with fail
            go_roundw
            case rel => exact ⟨g + 1, by omega, by go_num, HBP.out⟩
            case measure => simp [intOf]; omega
    · obtain rfl : g = gn := by omega
      clear hbw
      by_cases hx0 : x < 0
      · have e0 := decide_eq_true hx0
        clear hx0
        go_wp2_with (go_at_call 12; refine (works_any _).mono ?_; rintro e w9 ⟨rfl, hb9⟩; have HB9 := Lib.hid hb9; clear hb9)
        go_ret
        exact ⟨rfl, HWX.out.trans ((HB.out.trans (HB9.out.mono hz)).mono (by omega))⟩
      by_cases hx1 : (g : Int) ≤ x
      · have e0 := decide_eq_false hx0
        have e1 := decide_eq_true hx1
        clear hx0 hx1
        go_wp2_with (go_at_call 12; refine (works_any _).mono ?_; rintro e w9 ⟨rfl, hb9⟩; have HB9 := Lib.hid hb9; clear hb9)
        go_ret
        exact ⟨rfl, HWX.out.trans ((HB.out.trans (HB9.out.mono hz)).mono (by omega))⟩
      obtain ⟨k, rfl⟩ := Int.eq_ofNat_of_zero_le (Int.not_lt.1 hx0)
      have hkg : k < g := by omega
      have e0 : decide ((k : Int) < 0) = false := decide_eq_false (by omega)
      have e1 : decide ((g : Int) ≤ (k : Int)) = false := decide_eq_false (by omega)
      have e1' : decide (g ≤ k) = false := decide_eq_false (by omega)
      clear hx0 hx1
      have lbd := LB.out k hkg
      have okg := OK.out.2.2.1 k hkg
      obtain ⟨gb, go, rfl, hgb, c0w, c1w, c2w⟩ := HRX.out.1.at3 hkg
      obtain ⟨lb, lo, rfl, hlb, l0w, l1w⟩ := HL.out.at2 hkg
      obtain ⟨Y, hY⟩ : ∃ Y, Y = wr := ⟨_, rfl⟩
      rw [← hY] at HB hz q0 q1 ⊢
      clear hY
      have hYs : w.heap.size < Y.heap.size := by omega
      go_wp2_with fail
      clear q0 q1 e0 e1 e1'
      refine (copy_any _ bA g gc bn bc X.heap.size G H _ (by omega) (by omega) (HRX.out.below HB.out) hz).mono ?_
      rintro e w5 ⟨v1, v2, rfl, ho1, ho2, hb5⟩
      obtain ⟨g1, c1, rfl⟩ := ho1.nz (by omega)
      obtain ⟨A2, c2', rfl⟩ := ho2.form
      have hg1 : Y.heap.size ≤ g1 ∧ g1 < w5.heap.size := ho1.block rfl
      have hz5 := hb5.size
      obtain ⟨D, hD⟩ : ∃ D, D = w5.heap.size := ⟨_, rfl⟩
      have M6 := Lib.hid (blk_at w5 (t := 25) (cs := #[.slice (some ⟨g1, 0, none⟩) g c1, .slice A2 bn c2']) hD)
      have O1 := Lib.hid (ho1.alloc (.cells #[.slice (some ⟨g1, 0, none⟩) g c1, .slice A2 bn c2'] 25))
      have O2 := Lib.hid (ho2.alloc (.cells #[.slice (some ⟨g1, 0, none⟩) g c1, .slice A2 bn c2'] 25))
      have HB6 := Lib.hid (hb5.alloc hz5 (.cells #[.slice (some ⟨g1, 0, none⟩) g c1, .slice A2 bn c2'] 25))
      have hne12 : ∀ q, Value.ownBlock (.slice A2 bn c2') = some q → q ≠ g1 := fun q hq e => Own.apart_type ho2 ho1 (by decide) q hq (by rw [e]; rfl)
      have HNE := Lib.hid hne12
      have hD1 : g1 < D := by omega
      have hDY : Y.heap.size ≤ D := by omega
      clear ho1 ho2 hb5 hne12
      go_upto_region 24 with fail
      rw [← hD]
      clear hD
      have lbd1 := lbd
      have okg1 : 0 ≤ G k 2 ∧ G k 2 ≤ 1000000 := by omega
      refine seg24 w X Y _ g k bn g1 c1 c2' D lb lo lc A2 G H (SP k 1) _ _ hkg okg1 (by omega) HB.out hz l1w hlb M6.out O1.out O2.out HB6.out HNE.out hD1 ?_
      intro x173 x174 x175 x176 x177 x178 x179 x180 x181 x182 x183 x184 x185 x186 wx m6 o1 o2 hb6
      apply_assumption
      exact seg25 w X Y _ gb go g gc k bn bc g1 c1 c2' D lb lo lc bA A2 G H SP (SP k 1) hkg h6 OK.out HSP.out hp rfl HWX.out hXs HK.out HRX.out HB.out hz l0w hlb m6 o1 o2 hb6 HNE.out
end
end Go.Proofs.Ytaljmlkapbojeaa
