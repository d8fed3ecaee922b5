/- GiftsLeaves, walked. -/
import Derived.Test.YtaljmlkapbojeaaS2
import Derived.Test.YtaljmlkapbojeaaS3
import Derived.Test.YtaljmlkapbojeaaW2
import Derived.Test.YtaljmlkapbojeaaR2
namespace Go.Proofs.Ytaljmlkapbojeaa
open Go.RowKit

section
variable (gA bA : Option Addr) (gn gc bn bc B : Nat) (G H : Nat → Nat → Int) (w : World) (hg : gn ≤ maxLen) (hb : bn ≤ maxLen) (hR : BookRd w B gA gn G bA bn H) (hB : B ≤ w.heap.size)
include hg hb hR hB
theorem gleft_any : Calls Try.prog 22 #[.agg #[.slice gA gn gc, .slice bA bn bc]] w fun e w' => (∃ A' c', e = .returned (.tuple #[.slice A' (leftN gn bn G H) c', .int .i64 (leftE gn bn G H)]) ∧ Rd w' w'.heap.size A' 2 (leftN gn bn G H) (leftSp gn bn G H)) ∧ Below w.heap.size w w' := by
  cases h : M.okF gn bn G H
  · exact (gleft_bad gA bA gn gc bn bc B G H w hg hb hR hB h).mono fun e w' ⟨h1, h2⟩ => ⟨⟨none, 0, by rw [h1]; simp [leftN, leftE, h], .inl (by simp [leftN, h])⟩, h2⟩
  · cases h' : lpd gn bn G H
    · exact (gleft_none gA bA gn gc bn bc B G H w hR hB h h').mono fun e w' ⟨h1, h2⟩ => ⟨⟨none, 0, by rw [h1]; simp [leftN, leftE, h, h'], .inl (by simp [leftN, h'])⟩, h2⟩
    · refine (gleft_ok gA bA gn gc bn bc B G H w hR hB h h').mono fun e w' ⟨⟨A', c', h1, h3⟩, h2⟩ => ⟨⟨A', c', ?_, ?_⟩, h2⟩
      · rw [h1]; simp [leftN, leftE, h, h']
      · simpa [leftN, h, h'] using h3
theorem rleft_any : Calls Try.prog 23 #[.agg #[.slice gA gn gc, .slice bA bn bc]] w fun e w' => (∃ A' c', e = .returned (.tuple #[.slice A' (leftN gn bn G H) c', .int .i64 (leftE gn bn G H)]) ∧ Rd w' w'.heap.size A' 2 (leftN gn bn G H) (leftSp gn bn G H)) ∧ Below w.heap.size w w' := by
  cases h : M.okF gn bn G H
  · exact (rleft_bad gA bA gn gc bn bc B G H w hg hb hR hB h).mono fun e w' ⟨h1, h2⟩ => ⟨⟨none, 0, by rw [h1]; simp [leftN, leftE, h], .inl (by simp [leftN, h])⟩, h2⟩
  · cases h' : lpd gn bn G H
    · exact (rleft_none gA bA gn gc bn bc B G H w hR hB h h').mono fun e w' ⟨h1, h2⟩ => ⟨⟨none, 0, by rw [h1]; simp [leftN, leftE, h, h'], .inl (by simp [leftN, h'])⟩, h2⟩
    · refine (rleft_ok gA bA gn gc bn bc B G H w hR hB h h').mono fun e w' ⟨⟨A', c', h1, h3⟩, h2⟩ => ⟨⟨A', c', ?_, ?_⟩, h2⟩
      · rw [h1]; simp [leftN, leftE, h, h']
      · simpa [leftN, h, h'] using h3
end
theorem leftN_le {gn bn : Nat} {G H : Nat → Nat → Int} : leftN gn bn G H ≤ 10 := by
  unfold leftN
  split
  · rename_i h
    simp only [Bool.and_eq_true] at h
    exact (M.okF_iff.1 h.1).1
  · omega

set_option maxRecDepth 100000 in
set_option maxHeartbeats 6400000 in
theorem giftsLeaves_any (gA bA : Option Addr) (gn gc bn bc B : Nat) (G H : Nat → Nat → Int) (w : World) (hg : gn ≤ maxLen) (hb : bn ≤ maxLen) (hR : BookRd w B gA gn G bA bn H) (hB : B ≤ w.heap.size) :
    Calls Try.prog 6 #[.agg #[.slice gA gn gc, .slice bA bn bc]] w fun e w' => e = .returned (.bool true) ∧ Below w.heap.size w w' := by
  cases ht : thickF gn bn (M.okF gn bn G H)
  · go_enter Try.func6, Try.ntmps6
    go_wp2_with fail
    refine (thick_any gA bA gn gc bn bc B G H _ hg hb (by exact hR.below ((belowAlloc _ _).mono hB)) (by simp; omega)).mono ?_
    rw [ht]
    rintro e w1 ⟨rfl, hb1⟩
    have K1 := (Blk.new w 25 #[.slice gA gn gc, .slice bA bn bc]).below hb1 (by simp)
    have W1 := (belowAlloc _ _).trans (hb1.mono (by simp))
    have q0 := K1.cell 0
    have q1 := K1.cell 1
    have HK1 := Lib.hid K1
    have HW1 := Lib.hid W1
    clear hb1 K1 W1
    go_wp2_with fail
    clear q0 q1
    have hsmall : gn ≤ 12 ∧ bn ≤ 10 := by unfold thickF at ht; simp at ht; omega
    refine (copy_any gA bA gn gc bn bc B G H _ (by omega) (by omega) (by exact hR.below (HW1.out.mono hB)) (by have := HW1.out.size; omega)).mono ?_
    rintro e w2 ⟨v1, v2, rfl, ho1, ho2, hb2⟩
    obtain ⟨A1, c1, rfl, hr1⟩ := ho1.rd
    obtain ⟨A2, c2, rfl, hr2⟩ := ho2.rd
    have K2 := HK1.out.below hb2 HK1.out.lt
    have W2 := HW1.out.trans (hb2.mono HW1.out.size)
    have HBK := Lib.hid (show BookRd w2 w2.heap.size A1 gn G A2 bn H from ⟨hr1, hr2⟩)
    have HK2 := Lib.hid K2
    have HW2 := Lib.hid W2
    clear ho1 ho2 hb2 hr1 hr2 HK1 HW1 K2 W2
    go_wp2_with fail
    refine (gleft_any A1 A2 gn _ bn _ w2.heap.size G H _ hg hb HBK.out (Nat.le_refl _)).mono ?_
    rintro e w3 ⟨⟨A3, c3, rfl, hr3⟩, hb3⟩
    have K3 := HK2.out.below hb3 HK2.out.lt
    have W3 := HW2.out.trans (hb3.mono HW2.out.size)
    have q0 := K3.cell 0
    have q1 := K3.cell 1
    have HK3 := Lib.hid K3
    have HW3 := Lib.hid W3
    have HR3 := Lib.hid hr3
    clear HBK hb3 K3 W3 HK2 HW2 hr3
    have hl := leftN_le (gn := gn) (bn := bn) (G := G) (H := H)
    obtain ⟨n, hn⟩ : ∃ n, n = leftN gn bn G H := ⟨_, rfl⟩
    obtain ⟨er, her⟩ : ∃ er, er = leftE gn bn G H := ⟨_, rfl⟩
    obtain ⟨F, hF⟩ : ∃ F, F = leftSp gn bn G H := ⟨_, rfl⟩
    rw [← hn] at hl
    have HR3' : Hid (Rd w3 w3.heap.size A3 2 n F) := Lib.hid (by rw [hn, hF]; exact HR3.out)
    rw [← hn, ← her]
    have HN := Lib.hid hn
    have HE := Lib.hid her
    have HF := Lib.hid hF
    clear hn her hF HR3
    go_wp2_with fail
    clear q0 q1
    refine (rleft_any gA bA gn gc bn bc B G H _ hg hb (by exact hR.below (HW3.out.mono hB)) (by have := HW3.out.size; omega)).mono ?_
    rw [← HN.out, ← HE.out, ← HF.out]
    rintro e w4 ⟨⟨A4, c4, rfl, hr4⟩, hb4⟩
    have HR4 := Lib.hid hr4
    have HR5 := Lib.hid ((HR3'.out.below hb4).more hb4.size)
    have HW4 := Lib.hid (HW3.out.trans (hb4.mono HW3.out.size))
    clear HR3' hb4 HK3 HW3 hr4
    go_wp2_with fail
    go_loopw [7] (fun i wr => ∃ k : Nat, k ≤ n ∧ i = .int .i64 k ∧ Below w4.heap.size w4 wr) (fun i _ => n - (intOf i).toNat)
    case atStart => exact ⟨0, Nat.zero_le _, rfl, Below.refl _ _⟩
    case round =>
      obtain ⟨k, hk, rfl, hbw⟩ := hrel
      have HB := Lib.hid hbw
      clear hbw
      by_cases hlt : k < n
      · obtain ⟨b3, o3, rfl, hs3, x0, x1⟩ := (HR5.out.below HB.out).at2 hlt
        obtain ⟨b4, o4, rfl, hs4, y0, y1⟩ := (HR4.out.below HB.out).at2 hlt
        have hz := HB.out.size
        have hs5 : b3 < wr.heap.size := by omega
        have hs6 : b4 < wr.heap.size := by omega
        go_wp2_with fail
        go_quiet (fail)
        go_wp2_with fail
        go_roundw
        case rel => exact ⟨k + 1, by omega, by go_num, HB.out.drewN _⟩
        case measure => simp [intOf]; omega
      · obtain rfl : k = n := by omega
        go_wp2_with (go_at_call 12; refine (works_any _).mono ?_; rintro e w9 ⟨rfl, hb9⟩; have HB9 := Lib.hid hb9; clear hb9)
        go_ret
        exact ⟨rfl, HW4.out.trans ((HB.out.trans (HB9.out.mono HB.out.size)).mono HW4.out.size)⟩
  · go_enter Try.func6, Try.ntmps6
    go_wp2_with fail
    refine (thick_any gA bA gn gc bn bc B G H _ hg hb (by exact hR.below ((belowAlloc _ _).mono hB)) (by simp; omega)).mono ?_
    rw [ht]
    rintro e w1 ⟨rfl, hb1⟩
    have HB1 := Lib.hid hb1
    clear hb1
    go_wp2_with (go_at_call 12; refine (works_any _).mono ?_; rintro e w9 ⟨rfl, hb9⟩; have HB9 := Lib.hid hb9; clear hb9)
    go_ret
    exact ⟨rfl, (belowAlloc _ _).trans ((HB1.out.mono (by simp)).trans (HB9.out.mono (by have := HB1.out.size; simp at this; omega)))⟩
end Go.Proofs.Ytaljmlkapbojeaa
