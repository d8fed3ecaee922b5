/- GiftsAudits, walked. -/
import Derived.Test.YtaljmlkapbojeaaA3
import Derived.Test.YtaljmlkapbojeaaR2
namespace Go.Proofs.Ytaljmlkapbojeaa
open Go.RowKit

def wideB (rn : Nat) (rm : Nat → Nat) : Bool := (M.anyTo rn fun i => decide (20 < rm i)) || decide (20 < rn)
set_option maxRecDepth 100000 in
set_option maxHeartbeats 800000 in
theorem wide_any (rA : Option Addr) (rn rc B : Nat) (rm : Nat → Nat) (R : Nat → Nat → Int) (w : World) (hS : RR w B rA rn rm R) (hB : B ≤ w.heap.size) (hrn : rn ≤ maxLen) (hrm : ∀ i, i < rn → rm i ≤ maxLen) :
    Calls Try.prog 26 #[.slice rA rn rc] w fun e w' => e = .returned (.bool (wideB rn rm)) ∧ w = w' := by
  unfold maxLen at hrn
  go_enter Try.func26, Try.ntmps26
  go_wp2_with fail
  go_loop [3] (fun i => ∃ k : Nat, k ≤ rn ∧ i = .int .i64 k ∧ (M.anyTo k fun i => decide (20 < rm i)) = false) (fun i => rn - (intOf i).toNat)
  case atStart => exact ⟨0, Nat.zero_le _, rfl, rfl⟩
  case round =>
    obtain ⟨k, hk, rfl, hf⟩ := hrel
    have HF := Lib.hid hf
    clear hf
    by_cases hlt : k < rn
    · obtain ⟨b, off, rfl, hb, eA, ec, c0, _⟩ := hS.at_ hlt
      have hbs : b < w.heap.size := by omega
      have hmk := hrm k hlt
      unfold maxLen at hmk
      have hx : (M.anyTo (k + 1) fun i => decide (20 < rm i)) = ((M.anyTo k fun i => decide (20 < rm i)) || decide (20 < rm k)) := rfl
      rw [HF.out] at hx
      have HX := Lib.hid hx
      clear hS hx
      obtain ⟨m, hm⟩ : ∃ m, m = rm k := ⟨_, rfl⟩
      rw [← hm] at c0 hmk
      have HM := Lib.hid hm
      clear hm
      by_cases h20 : 20 < m
      · go_wp2_with fail
        go_ret
        refine ⟨ret_bool ?_, rfl⟩
        unfold wideB
        rw [show (M.anyTo rn fun i => decide (20 < rm i)) = true from M.anyTo_iff.2 ⟨k, hlt, by rw [← HM.out]; simpa using h20⟩]
        simp
      · go_wp2_with fail
        go_round
        case rel => exact ⟨k + 1, by omega, by go_num, by rw [HX.out, ← HM.out]; simpa using h20⟩
        case measure => simp [intOf]; omega
    · obtain rfl : k = rn := by omega
      by_cases h20 : 20 < k
      all_goals
        go_wp2_with fail
        go_ret
        exact ⟨ret_bool (by unfold wideB; rw [HF.out]; simp [h20]; omega), rfl⟩

set_option maxRecDepth 100000 in
set_option maxHeartbeats 3200000 in
theorem giftsAudits_far (gA bA rA : Option Addr) (gn gc bn bc rn rc B : Nat) (rm : Nat → Nat) (R : Nat → Nat → Int) (w : World) (hg : gn ≤ maxLen) (hb : bn ≤ maxLen) (hS : RR w B rA rn rm R) (hB : B ≤ w.heap.size) (hrn : rn ≤ maxLen) (hrm : ∀ i, i < rn → rm i ≤ maxLen)
    (h : 12 < gn ∨ 10 < bn ∨ wideB rn rm = true) :
    Calls Try.prog 8 #[.agg #[.slice gA gn gc, .slice bA bn bc], .slice rA rn rc] w fun e w' => e = .returned (.bool true) ∧ Below w.heap.size w w' := by
  unfold maxLen at hg hb
  by_cases h1 : 12 < gn
  · go_enter Try.func8, Try.ntmps8
    go_wp2_with (go_at_call 12; refine (works_any _).mono ?_; rintro e w9 ⟨rfl, hb9⟩; have HB9 := Lib.hid hb9; clear hb9)
    go_ret
    exact ⟨rfl, (belowAlloc _ _).trans (HB9.out.mono (by simp))⟩
  by_cases h2 : 10 < bn
  · go_enter Try.func8, Try.ntmps8
    go_wp2_with (go_at_call 12; refine (works_any _).mono ?_; rintro e w9 ⟨rfl, hb9⟩; have HB9 := Lib.hid hb9; clear hb9)
    go_ret
    exact ⟨rfl, (belowAlloc _ _).trans (HB9.out.mono (by simp))⟩
  have h3 : wideB rn rm = true := by
    rcases h with h | h | h
    · omega
    · omega
    · exact h
  have H3 := Lib.hid h3
  clear h3 h
  go_enter Try.func8, Try.ntmps8
  go_wp2_with fail
  refine (wide_any rA rn rc B rm R _ (by exact hS.below ((belowAlloc _ _).mono hB)) (by simp; omega) hrn hrm).mono ?_
  rw [H3.out]
  rintro e w1 ⟨rfl, rfl⟩
  go_wp2_with (go_at_call 12; refine (works_any _).mono ?_; rintro e w9 ⟨rfl, hb9⟩; have HB9 := Lib.hid hb9; clear hb9)
  go_ret
  exact ⟨rfl, (belowAlloc _ _).trans (HB9.out.mono (by simp))⟩

set_option maxRecDepth 100000 in
set_option maxHeartbeats 6400000 in
theorem giftsAudits_any (gA bA rA : Option Addr) (gn gc bn bc rn rc B : Nat) (rm : Nat → Nat) (G H R : Nat → Nat → Int) (w : World) (hg : gn ≤ maxLen) (hb : bn ≤ maxLen) (hR : BookRd w B gA gn G bA bn H) (hS : RR w B rA rn rm R) (hB : B ≤ w.heap.size) (hrn : rn ≤ maxLen) (hrm : ∀ i, i < rn → rm i ≤ maxLen) :
    Calls Try.prog 8 #[.agg #[.slice gA gn gc, .slice bA bn bc], .slice rA rn rc] w fun e w' => e = .returned (.bool true) ∧ Below w.heap.size w w' := by
  by_cases hfar : 12 < gn ∨ 10 < bn ∨ wideB rn rm = true
  · exact giftsAudits_far gA bA rA gn gc bn bc rn rc B rm R w hg hb hS hB hrn hrm hfar
  have h1 : gn ≤ 12 := by omega
  have h2 : bn ≤ 10 := by omega
  have h3 : wideB rn rm = false := by
    cases h : wideB rn rm
    · rfl
    · exact absurd (.inr (.inr h)) hfar
  have H3 := Lib.hid h3
  have HRM := Lib.hid hrm
  clear h3 hfar hrm
  go_enter Try.func8, Try.ntmps8
  go_wp2_with fail
  refine (wide_any rA rn rc B rm R _ (by exact hS.below ((belowAlloc _ _).mono hB)) (by simp; omega) hrn HRM.out).mono ?_
  rw [H3.out]
  rintro e w1 ⟨rfl, rfl⟩
  go_wp2_with fail
  refine (copy_any gA bA gn gc bn bc B G H _ (by omega) (by omega) (by exact hR.below ((belowAlloc _ _).mono hB)) (by simp; omega)).mono ?_
  rintro e w2 ⟨v1, v2, rfl, ho1, ho2, hb2⟩
  obtain ⟨A1, c1, rfl, hr1⟩ := ho1.rd
  obtain ⟨A2, c2, rfl, hr2⟩ := ho2.rd
  have K2 := (Blk.new w 25 #[.slice gA gn gc, .slice bA bn bc]).below hb2 (by simp)
  have W2 := (belowAlloc w (.cells #[.slice gA gn gc, .slice bA bn bc] 25)).trans (hb2.mono (by simp))
  have HBK := Lib.hid (show BookRd w2 w2.heap.size A1 gn G A2 bn H from ⟨hr1, hr2⟩)
  have HK2 := Lib.hid K2
  have HW2 := Lib.hid W2
  clear ho1 ho2 hb2 hr1 hr2 K2 W2
  go_wp2_with fail
  refine (gaudit_any A1 A2 rA gn _ bn _ rn rc w2.heap.size rm G H R _ hg hb HBK.out ((hS.below (HW2.out.mono hB)).more (by have := HW2.out.size; omega)) (Nat.le_refl _) hrn HRM.out).mono ?_
  rintro e w3 ⟨rfl, hb3⟩
  have K3 := HK2.out.below hb3 HK2.out.lt
  have W3 := HW2.out.trans (hb3.mono HW2.out.size)
  have q0 := K3.cell 0
  have q1 := K3.cell 1
  have HW3 := Lib.hid W3
  clear HBK hb3 K3 W3 HK2 HW2
  have hca := raudit_any gA bA rA gn gc bn bc rn rc B rm G H R
  obtain ⟨a, ha⟩ : ∃ a, a = M.aud3 rn rm gn bn G H R := ⟨_, rfl⟩
  obtain ⟨er, her⟩ : ∃ er, er = M.audE rn rm gn bn G H R := ⟨_, rfl⟩
  rw [← ha, ← her] at hca ⊢
  obtain ⟨a1, a2, a3⟩ := a
  have HCA := Lib.hid hca
  clear ha her hca
  unfold audV
  dsimp only
  go_wp2_with fail
  clear q0 q1
  refine (HCA.out _ hg hb (by exact hR.below (HW3.out.mono hB)) (by exact hS.below (HW3.out.mono hB)) (by have := HW3.out.size; omega) hrn HRM.out).mono ?_
  unfold audV
  rintro e w4 ⟨rfl, hb4⟩
  have HW4 := Lib.hid (HW3.out.trans (hb4.mono HW3.out.size))
  clear hb4
  go_wp2_with (go_at_call 12; refine (works_any _).mono ?_; rintro e w9 ⟨rfl, hb9⟩; have HB9 := Lib.hid hb9; clear hb9)
  go_ret
  exact ⟨rfl, HW4.out.trans (HB9.out.mono HW4.out.size)⟩
end Go.Proofs.Ytaljmlkapbojeaa
