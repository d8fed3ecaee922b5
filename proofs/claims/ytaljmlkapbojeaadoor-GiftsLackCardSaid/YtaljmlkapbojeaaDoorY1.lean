/- Contracts: checkYear and what it calls, worst, best, Change. -/
import Derived.Test.YtaljmlkapbojeaaDoorG4
import Derived.Test.YtaljmlkapbojeaaDoorYMath
namespace Go.Proofs.YtaljmlkapbojeaaDoor
open Go.RowKit

abbrev monthV (a b c d : Int) : Value := .agg #[.int .i64 a, .int .i64 b, .int .i64 c, .int .i64 d]

set_option maxHeartbeats 400000 in
theorem amount_any (a b : Int) (w : World) :
    Calls Tryd.prog 53 #[.agg #[.int .i64 a, .int .i64 b]] w fun e w' => e = .returned (.bool (M.okS a b)) ∧ Below w.heap.size w w' := by
  by_cases h1 : 0 ≤ a <;> by_cases h2 : a ≤ b <;> by_cases h3 : b ≤ 1000000
  all_goals try (exfalso; omega; done)
  all_goals
    go_enter Tryd.func53, Tryd.ntmps53
    go_wp2_with fail
    go_ret
    exact ⟨ret_bool (by simp [M.okS, h1, h2, h3]), belowAlloc _ _⟩

set_option maxHeartbeats 400000 in
theorem chk3_any (a b c d : Int) (w : World) :
    Calls Tryd.prog 52 #[monthV a b c d] w fun e w' => e = .returned (.bool (!(M.okS a b && M.okS c d))) ∧ Below w.heap.size w w' := by
  cases h1 : M.okS a b
  · go_enter Tryd.func52, Tryd.ntmps52
    go_wp2_with (go_at_call 53; refine (amount_any _ _ _).mono ?_; rw [h1]; rintro e w1 ⟨rfl, hb⟩; have HB := Lib.hid hb; clear hb)
    go_ret
    exact ⟨rfl, (belowAlloc _ _).trans (HB.out.mono (by simp))⟩
  · cases h2 : M.okS c d
    all_goals
      have H1 := Lib.hid h1
      have H2 := Lib.hid h2
      clear h1 h2
      go_enter Tryd.func52, Tryd.ntmps52
      go_wp2_with fail
      refine (amount_any _ _ _).mono ?_
      rw [H1.out]
      rintro e w1 ⟨rfl, hb⟩
      obtain ⟨hc, _⟩ := bcell hb
      have HB := Lib.hid hb
      clear hb
      go_wp2_with fail
      refine (amount_any _ _ _).mono ?_
      rw [H2.out]
      rintro e w2 ⟨rfl, hb2⟩
      have HB2 := Lib.hid hb2
      clear hb2
      go_wp2_with fail
      go_ret
      exact ⟨rfl, (belowAlloc _ _).trans ((HB.out.mono (by simp)).trans (HB2.out.mono (by have := HB.out.size; simp at this; omega)))⟩

set_option maxHeartbeats 400000 in
theorem idx3_any (A : Option Addr) (n c B : Nat) (G : Nat → Nat → Int) (w : World) (hn : n ≤ maxLen) (hR : Rd w B A 4 n G) (hB : B ≤ w.heap.size) :
    Calls Tryd.prog 59 #[.slice A n c, .func (.func 52) #[] #[]] w (Idx n (fun i => !M.okM G i) w) := by
  unfold maxLen at hn
  go_enter Tryd.func59, Tryd.ntmps59
  go_wp2_with fail
  go_loopw [5, 8] (fun _ i wr => ∃ k : Nat, k ≤ n ∧ i = .int .i64 k ∧ M.anyTo k (fun i => !M.okM G i) = false ∧ Below w.heap.size w wr) (fun _ i _ => n - (intOf i).toNat)
  case atStart => exact ⟨0, Nat.zero_le _, rfl, rfl, Below.refl _ _⟩
  case round =>
    obtain ⟨k, hk, rfl, hf, hbw⟩ := hrel
    have HF := Lib.hid hf
    clear hf
    have HW := Lib.hid hbw
    by_cases hlt : k < n
    · obtain ⟨b, off, rfl, hb, c0, c1, c2, c3⟩ := (hR.below (hbw.mono hB)).at4 hlt
      have hsz := hbw.size
      clear hbw hR
      cases hok : (M.okS (G k 0) (G k 1) && M.okS (G k 2) (G k 3))
      all_goals
        have HO := Lib.hid hok
        clear hok
        go_wp2_with (go_at_call 52; refine (chk3_any _ _ _ _ _).mono ?_; rw [HO.out]; rintro e w1 ⟨rfl, hb1⟩; have HB1 := Lib.hid hb1; clear hb1)
      · go_ret
        refine ⟨_, rfl, ?_, HW.out.trans (HB1.out.mono hsz)⟩
        rw [show M.anyTo n (fun i => !M.okM G i) = true from M.anyTo_iff.2 ⟨k, hlt, by unfold M.okM; rw [HO.out]; rfl⟩]
        simp
      · go_roundw
        case rel => exact ⟨k + 1, by omega, by go_num, by simp only [M.anyTo, HF.out]; unfold M.okM; rw [HO.out]; rfl, HW.out.trans (HB1.out.mono hsz)⟩
        case measure => simp [intOf]; omega
    · obtain rfl : k = n := by omega
      clear hbw
      go_wp2_with fail
      go_ret
      exact ⟨_, rfl, by rw [HF.out]; rfl, HW.out⟩

set_option maxHeartbeats 400000 in
theorem con3_any (A : Option Addr) (n c B : Nat) (G : Nat → Nat → Int) (w : World) (hn : n ≤ maxLen) (hR : Rd w B A 4 n G) (hB : B ≤ w.heap.size) :
    Calls Tryd.prog 54 #[.slice A n c, .func (.func 52) #[] #[]] w fun e w' => e = .returned (.bool (M.anyTo n fun i => !M.okM G i)) ∧ Below w.heap.size w w' := by
  go_enter Tryd.func54, Tryd.ntmps54
  go_wp2_with (go_at_call 59; refine (idx3_any _ _ _ _ _ _ hn hR hB).mono ?_; rintro e w1 ⟨r, rfl, hr, hb⟩; have HR := Lib.hid hr; clear hr)
  go_ret
  exact ⟨ret_bool HR.out, hb⟩


set_option maxHeartbeats 400000 in
theorem checkYear_any (r l : Int) (A : Option Addr) (n c B : Nat) (m : Nat → Nat → Int) (w : World) (hn : n ≤ maxLen) (hR : Rd w B A 4 n m) (hB : B ≤ w.heap.size) :
    Calls Tryd.prog 43 #[.agg #[.int .i64 r, .int .i64 l, .slice A n c]] w fun e w' => e = .returned (.int .i64 (M.chkY r l n m)) ∧ Below w.heap.size w w' := by
  cases h1 : M.within r 0 1000000
  · go_enter Tryd.func43, Tryd.ntmps43
    go_wp2_with (go_at_call 37; refine (within_any _ _ _ _).mono ?_; rintro e w1 ⟨rfl, rfl⟩)
    go_ret
    exact ⟨ret_int (by simp [M.chkY, M.okY, h1]), belowAlloc _ _⟩
  · cases h2 : M.within l 0 r
    · go_enter Tryd.func43, Tryd.ntmps43
      go_wp2_with (go_at_call 37; refine (within_any _ _ _ _).mono ?_; rintro e w1 ⟨rfl, rfl⟩)
      go_ret
      exact ⟨ret_int (by simp [M.chkY, M.okY, h2]), belowAlloc _ _⟩
    · by_cases h3 : n ≤ 60
      · cases h4 : M.allTo n (M.okM m)
        all_goals
          have H4 := Lib.hid h4
          clear h4
          go_enter Tryd.func43, Tryd.ntmps43
          go_wp2_with (first | (go_at_call 37; refine (within_any _ _ _ _).mono ?_; rintro e w1 ⟨rfl, rfl⟩) | (go_at_call 54; refine (con3_any _ _ _ _ _ _ hn (hR.below (belowAlloc _ _ |>.mono hB)) (by simp; omega)).mono ?_; rw [M.allTo_not, H4.out]; rintro e w1 ⟨rfl, hb1⟩; have HB1 := Lib.hid hb1; clear hb1))
          go_ret
          exact ⟨ret_int (by simp [M.chkY, M.okY, h1, h2, h3, H4.out]), (belowAlloc _ _).trans (HB1.out.mono (by simp))⟩
      · go_enter Tryd.func43, Tryd.ntmps43
        go_wp2_with (go_at_call 37; refine (within_any _ _ _ _).mono ?_; rintro e w1 ⟨rfl, rfl⟩)
        go_ret
        exact ⟨ret_int (by simp [M.chkY, M.okY, h3]), belowAlloc _ _⟩

set_option maxHeartbeats 400000 in
theorem worst_any (a b c d : Int) (w : World) (h : 0 ≤ a ∧ a ≤ 1000000 ∧ 0 ≤ d ∧ d ≤ 1000000) :
    Calls Tryd.prog 45 #[monthV a b c d] w fun e w' => e = .returned (.int .i64 (a - d)) ∧ Below w.heap.size w w' := by
  go_enter Tryd.func45, Tryd.ntmps45
  go_wp2_with fail
  go_ret
  exact ⟨rfl, belowAlloc _ _⟩
end Go.Proofs.YtaljmlkapbojeaaDoor
