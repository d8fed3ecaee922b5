/- GiftsKept, walked: where there is nothing to keep. -/
import Derived.Test.YtaljmlkapbojeaaU1
import Derived.Test.YtaljmlkapbojeaaS3
import Derived.Test.YtaljmlkapbojeaaBMath
import Derived.Test.YtaljmlkapbojeaaR2
namespace Go.Proofs.Ytaljmlkapbojeaa
open Go.RowKit

section
variable (gA bA oA : Option Addr) (gn gc bn bc on oc B : Nat) (om : Nat → Nat) (G H O : Nat → Nat → Int) (x : Int) (w : World) (hg : gn ≤ maxLen) (hb : bn ≤ maxLen) (hR : BookRd w B gA gn G bA bn H) (hS : RR w B oA on om O) (hB : B ≤ w.heap.size) (hon : on ≤ maxLen) (hom : ∀ i, i < on → om i ≤ maxLen)
include hg hb hR hB

set_option maxRecDepth 100000 in
set_option maxHeartbeats 3200000 in
theorem kept_thick (ht : thickF gn bn (M.okF gn bn G H) = true) :
    Calls Try.prog 7 #[.agg #[.slice gA gn gc, .slice bA bn bc], .slice oA on oc, .int .i64 x] w fun e w' => e = .returned (.bool true) ∧ Below w.heap.size w w' := by
  go_enter Try.func7, Try.ntmps7
  go_wp2_with fail
  refine (thick_any gA bA gn gc bn bc B G H _ hg hb (by exact hR.below ((belowAlloc _ _).mono hB)) (by simp; omega)).mono ?_
  rw [ht]
  rintro e w1 ⟨rfl, hb1⟩
  have HB1 := Lib.hid hb1
  clear hb1
  go_wp2_with (go_at_call 12; refine (works_any _).mono ?_; rintro e w9 ⟨rfl, hb9⟩; have HB9 := Lib.hid hb9; clear hb9)
  go_ret
  exact ⟨rfl, (belowAlloc _ _).trans ((HB1.out.mono (by simp)).trans (HB9.out.mono (by have := HB1.out.size; simp at this; omega)))⟩
set_option maxRecDepth 100000 in
set_option maxHeartbeats 3200000 in
theorem kept_bad (ht : thickF gn bn (M.okF gn bn G H) = false) (hok : M.okF gn bn G H = false) :
    Calls Try.prog 7 #[.agg #[.slice gA gn gc, .slice bA bn bc], .slice oA on oc, .int .i64 x] w fun e w' => e = .returned (.bool true) ∧ Below w.heap.size w w' := by
  have hk : M.chkN gn bn G H = 110 := by simp [M.chkN, hok]
  go_enter Try.func7, Try.ntmps7
  go_wp2_with fail
  refine (thick_any gA bA gn gc bn bc B G H _ hg hb (by exact hR.below ((belowAlloc _ _).mono hB)) (by simp; omega)).mono ?_
  rw [ht]
  rintro e w1 ⟨rfl, hb1⟩
  have K1 := (Blk.new w 25 #[.slice gA gn gc, .slice bA bn bc]).below hb1 (by simp)
  have W1 := (belowAlloc w (.cells #[.slice gA gn gc, .slice bA bn bc] 25)).trans (hb1.mono (by simp))
  have q0 := K1.cell 0
  have q1 := K1.cell 1
  have HW1 := Lib.hid W1
  clear hb1 K1 W1
  go_wp2_with fail
  refine (rcheck_any gA bA gn gc bn bc B G H _ hg hb (by exact hR.below (HW1.out.mono hB)) (by have := HW1.out.size; omega)).mono ?_
  rw [hk]
  rintro e w2 ⟨rfl, hb2⟩
  have HW2 := Lib.hid (HW1.out.trans (hb2.mono HW1.out.size))
  clear hb2
  go_wp2_with (go_at_call 12; refine (works_any _).mono ?_; rintro e w9 ⟨rfl, hb9⟩; have HB9 := Lib.hid hb9; clear hb9)
  go_ret
  exact ⟨rfl, HW2.out.trans (HB9.out.mono HW2.out.size)⟩
include hS hon hom
set_option maxRecDepth 100000 in
set_option maxHeartbeats 6400000 in
theorem kept_none (ht : thickF gn bn (M.okF gn bn G H) = false) (hok : M.okF gn bn G H = true) (hp : lpd gn bn G H = false) :
    Calls Try.prog 7 #[.agg #[.slice gA gn gc, .slice bA bn bc], .slice oA on oc, .int .i64 x] w fun e w' => e = .returned (.bool true) ∧ Below w.heap.size w w' := by
  have hk : M.chkN gn bn G H = 0 := by simp [M.chkN, hok]
  have ok : Ok gn bn G H := M.okF_iff.1 hok
  have hno : M.payB on om gn bn G H O = false := by
    cases h : M.payB on om gn bn G H O
    · rfl
    · rw [payB_lpd h] at hp; cases hp
  have HNO := Lib.hid hno
  have HOM := Lib.hid hom
  have OK := Lib.hid ok
  clear hno hom ok
  go_enter Try.func7, Try.ntmps7
  go_wp2_with fail
  refine (thick_any gA bA gn gc bn bc B G H _ hg hb (by exact hR.below ((belowAlloc _ _).mono hB)) (by simp; omega)).mono ?_
  rw [ht]
  rintro e w1 ⟨rfl, hb1⟩
  have K1 := (Blk.new w 25 #[.slice gA gn gc, .slice bA bn bc]).below hb1 (by simp)
  have W1 := (belowAlloc w (.cells #[.slice gA gn gc, .slice bA bn bc] 25)).trans (hb1.mono (by simp))
  have q0 := K1.cell 0
  have q1 := K1.cell 1
  have HK1 := Lib.hid K1
  have HW1 := Lib.hid W1
  clear hb1 K1 W1
  go_wp2_with fail
  clear q0 q1
  refine (rcheck_any gA bA gn gc bn bc B G H _ hg hb (by exact hR.below (HW1.out.mono hB)) (by have := HW1.out.size; omega)).mono ?_
  rw [hk]
  rintro e w2 ⟨rfl, hb2⟩
  have HK2 := Lib.hid (HK1.out.below hb2 HK1.out.lt)
  have HW2 := Lib.hid (HW1.out.trans (hb2.mono HW1.out.size))
  have q0 := HK2.out.cell 0
  have q1 := HK2.out.cell 1
  clear hb2 HK1 HW1
  go_wp2_with fail
  clear q0 q1
  refine (gleft_none gA bA gn gc bn bc B G H _ (by exact hR.below (HW2.out.mono hB)) (by have := HW2.out.size; omega) hok hp).mono ?_
  rintro e w2' ⟨rfl, hb2⟩
  have HK2' := Lib.hid (HK2.out.below hb2 HK2.out.lt)
  have HW2' := Lib.hid (HW2.out.trans (hb2.mono HW2.out.size))
  have q0 := HK2'.out.cell 0
  have q1 := HK2'.out.cell 1
  clear hb2 HK2 HW2
  go_wp2_with fail
  clear q0 q1
  refine (pay_none gA bA gn gc bn bc B G H _ (by exact hR.below (HW2'.out.mono hB)) (by have := HW2'.out.size; omega) hok hp).mono ?_
  rintro e w3 ⟨rfl, hb3⟩
  have HK3 := Lib.hid (HK2'.out.below hb3 HK2'.out.lt)
  have HW3 := Lib.hid (HW2'.out.trans (hb3.mono HW2'.out.size))
  have q0 := HK3.out.cell 0
  have q1 := HK3.out.cell 1
  clear hb3 HK2' HW2'
  go_wp2_with fail
  clear q0 q1
  refine (payments_any gA bA oA gn gc bn bc on oc B om G H O _ OK.out (by exact hR.below (HW3.out.mono hB)) (by exact hS.below (HW3.out.mono hB)) (by have := HW3.out.size; omega) hon HOM.out).mono ?_
  rw [HNO.out]
  rintro e w4 ⟨rfl, hb4⟩
  have HW4 := Lib.hid (HW3.out.trans (hb4.mono HW3.out.size))
  clear hb4
  go_wp2_with (go_at_call 12; refine (works_any _).mono ?_; rintro e w9 ⟨rfl, hb9⟩; have HB9 := Lib.hid hb9; clear hb9)
  go_ret
  exact ⟨rfl, HW4.out.trans (HB9.out.mono HW4.out.size)⟩
end
end Go.Proofs.Ytaljmlkapbojeaa
