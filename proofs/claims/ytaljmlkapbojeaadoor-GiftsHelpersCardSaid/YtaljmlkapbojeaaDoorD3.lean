/- CheckShops, the reference's Shops. -/
import Derived.Test.YtaljmlkapbojeaaDoorSHMath
import Derived.Test.YtaljmlkapbojeaaDoorD2
import Derived.Test.YtaljmlkapbojeaaDoorG1
import Derived.Test.YtaljmlkapbojeaaDoorG4
namespace Go.Proofs.YtaljmlkapbojeaaDoor
open Go.RowKit

theorem chkS_bad {n k : Nat} {st : Int} {S : Nat → Nat → Int} (h12 : n ≤ 12) (hk : k < n) (h : M.okShop S k = false) : M.chkS n st S = 112 := by
  have : M.allTo n (M.okShop S) = false := Bool.eq_false_iff.2 fun h2 => by rw [M.allTo_iff.1 h2 k hk] at h; cases h
  unfold M.chkS
  rw [if_neg (by omega), if_pos this]
theorem from_v {n a b : Int} {v : Bool} (w : World) (h : M.within n a b = v) : Calls Tryd.prog 41 #[.int .i64 n, .int .i64 a, .int .i64 b] w fun e w' => e = .returned (.bool v) ∧ w' = w :=
  (from_any n a b w).mono fun _ _ h2 => ⟨by rw [h2.1, h], h2.2.symm⟩
section
variable (A : Option Addr) (n c B : Nat) (st : Int) (S : Nat → Nat → Int) (w : World) (hn : n ≤ maxLen) (hR : Rd w B A 3 n S) (hB : B ≤ w.heap.size)
include hn hR hB
set_option maxRecDepth 100000 in
set_option maxHeartbeats 4000000 in
theorem checkShops_any : Calls Tryd.prog 22 #[.slice A n c, .int .i64 st] w fun e w' => e = .returned (.int .i64 (M.chkS n st S)) ∧ Below w.heap.size w w' := by
  unfold maxLen at hn
  by_cases h12 : 12 < n
  · go_enter Tryd.func22, Tryd.ntmps22
    go_wp2_with fail
    go_ret
    exact ⟨ret_int (by simp [M.chkS, h12]), Below.refl _ _⟩
  go_enter Tryd.func22, Tryd.ntmps22
  go_wp2_with fail
  go_loopw [5] (fun i wr => ∃ k : Nat, k ≤ n ∧ i = .int .i64 k ∧ M.allTo k (M.okShop S) = true ∧ Below w.heap.size w wr) (fun i _ => n - (intOf i).toNat)
  case atStart => exact ⟨0, Nat.zero_le _, rfl, rfl, Below.refl _ _⟩
  case round =>
    obtain ⟨k, hk, rfl, hf, hbw⟩ := hrel
    have HF := Lib.hid hf
    have HB := Lib.hid hbw
    clear hf
    by_cases hlt : k < n
    · obtain ⟨b, off, rfl, hb, c0, c1, c2⟩ := (hR.below (hbw.mono hB)).at3 hlt
      have hz := hbw.size
      have hbs : b < wr.heap.size := by omega
      have hx : M.allTo (k + 1) (M.okShop S) = (M.allTo k (M.okShop S) && M.okShop S k) := rfl
      rw [HF.out] at hx
      have HX := Lib.hid hx
      clear hx hbw hR
      have hbad : M.okShop S k = false → M.chkS n st S = 112 := chkS_bad (by omega) hlt
      have HBAD := Lib.hid hbad
      clear hbad
      cases g0 : M.within (S k 0) (-1000000) (S k 1)
      · have HB0 := Lib.hid (HBAD.out (by simp [M.okShop, g0]))
        have G0 := Lib.hid g0
        have G2 := Lib.hid g0
        clear g0
        go_wp2_with fail
        go_quiet ((go_at_call 41; first | exact Calls.quiet_of_same (from_v _ G0.out) | exact Calls.quiet_of_same (from_v _ G2.out) | fail))
        go_wp2_with fail
        go_ret
        exact ⟨ret_int HB0.out.symm, HB.out.drewN _⟩
      by_cases g1 : 1000000 < S k 1
      · have HB0 := Lib.hid (HBAD.out (by simp [M.okShop, g1]))
        have G0 := Lib.hid g0
        have G2 := Lib.hid g0
        have e1 := decide_eq_true g1
        clear g0 g1
        go_wp2_with fail
        go_quiet ((go_at_call 41; first | exact Calls.quiet_of_same (from_v _ G0.out) | exact Calls.quiet_of_same (from_v _ G2.out) | fail))
        go_wp2_with fail
        go_ret
        exact ⟨ret_int HB0.out.symm, HB.out.drewN _⟩
      cases g2 : M.within (S k 2) 0 100
      · have HB0 := Lib.hid (HBAD.out (by simp [M.okShop, g2]))
        have G0 := Lib.hid g0
        have G2 := Lib.hid g2
        have e1 := decide_eq_false g1
        clear g0 g1 g2
        go_wp2_with fail
        go_quiet ((go_at_call 41; first | exact Calls.quiet_of_same (from_v _ G0.out) | exact Calls.quiet_of_same (from_v _ G2.out) | fail))
        go_wp2_with fail
        go_ret
        exact ⟨ret_int HB0.out.symm, HB.out.drewN _⟩
      · have hok : M.okShop S k = true := by simp [M.okShop, g0, g1, g2]
        have HOK := Lib.hid hok
        have G0 := Lib.hid g0
        have G2 := Lib.hid g2
        have e1 := decide_eq_false g1
        clear g0 g1 g2 hok
        go_wp2_with fail
        go_quiet ((go_at_call 41; first | exact Calls.quiet_of_same (from_v _ G0.out) | exact Calls.quiet_of_same (from_v _ G2.out) | fail))
        go_wp2_with fail
        go_roundw
        case rel => exact ⟨k + 1, by omega, by go_num, by rw [HX.out, HOK.out]; rfl, HB.out.drewN _⟩
        case measure => simp [intOf]; omega
    · obtain rfl : k = n := by omega
      clear hbw
      cases g3 : M.within st 0 1200
      all_goals
        have HE := Lib.hid (show M.chkS k st S = _ from by unfold M.chkS; rw [if_neg h12, if_neg (by rw [HF.out]; decide), g3])
        have G3 := Lib.hid g3
        clear g3
        go_wp2_with (go_at_call 41; refine (from_v _ G3.out).mono ?_; rintro e w1 ⟨rfl, rfl⟩)
        go_ret
        exact ⟨ret_int (by rw [HE.out]; rfl), HB.out⟩
end
end Go.Proofs.YtaljmlkapbojeaaDoor
