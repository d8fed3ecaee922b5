/- Which of two lists of the same length comes sooner: slices.Compare, Sooner. -/
import Derived.Test.YtaljmlkapbojeaaDoorD1
namespace Go.Proofs.YtaljmlkapbojeaaDoor
open Go.RowKit

set_option maxHeartbeats 400000 in
theorem nan_any (x : Int) (w : World) : Calls Tryd.prog 58 #[.int .i64 x] w fun e w' => e = .returned (.bool false) ∧ w = w' := by
  go_enter Tryd.func58, Tryd.ntmps58
  go_wp2_with fail
  go_ret
  exact ⟨by simp, rfl⟩
def cmpV (x y : Int) : Int := if x < y then -1 else if y < x then 1 else 0
set_option maxHeartbeats 800000 in
theorem cmp_any (x y : Int) (w : World) : Calls Tryd.prog 48 #[.int .i64 x, .int .i64 y] w fun e w' => e = .returned (.int .i64 (cmpV x y)) ∧ w = w' := by
  by_cases h1 : x < y
  · go_enter Tryd.func48, Tryd.ntmps48
    go_wp2_with (go_at_call 58; refine (nan_any _ _).mono ?_; rintro e w1 ⟨rfl, rfl⟩)
    go_ret
    exact ⟨ret_int (by unfold cmpV; split <;> (try split) <;> omega), rfl⟩
  · by_cases h2 : y < x
    all_goals
      go_enter Tryd.func48, Tryd.ntmps48
      go_wp2_with (go_at_call 58; refine (nan_any _ _).mono ?_; rintro e w1 ⟨rfl, rfl⟩)
      go_ret
      exact ⟨ret_int (by unfold cmpV; split <;> (try split) <;> omega), rfl⟩

set_option maxRecDepth 100000 in
set_option maxHeartbeats 2000000 in
theorem compare_any (A A' : Option Addr) (n c c' B : Nat) (f f' : Nat → Int) (w : World) (hn : n ≤ 1048576) (hR : Rd1 w B A n f) (hR' : Rd1 w B A' n f') (hB : B ≤ w.heap.size) :
    Calls Tryd.prog 33 #[.slice A n c, .slice A' n c'] w fun e w' => e = .returned (.int .i64 (M.cmpI (M.cmpTo f f' n))) ∧ w = w' := by
  go_enter Tryd.func33, Tryd.ntmps33
  go_wp2_with fail
  go_loop [11] (fun i => ∃ k : Nat, k ≤ n ∧ i = .int .i64 k ∧ M.cmpTo f f' k = none) (fun i => n - (intOf i).toNat)
  case atStart => exact ⟨0, Nat.zero_le _, rfl, rfl⟩
  case round =>
    obtain ⟨k, hk, rfl, hf⟩ := hrel
    have HF := Lib.hid hf
    clear hf
    by_cases hlt : k < n
    · obtain ⟨b, off, rfl, hb, c0⟩ := hR.at_ hlt
      obtain ⟨b', off', rfl, hb', c0'⟩ := hR'.at_ hlt
      have hbs : b < w.heap.size := by omega
      have hbs' : b' < w.heap.size := by omega
      have nk : decide (n ≤ k) = false := decide_eq_false (by omega)
      obtain ⟨x, hx⟩ : ∃ x, x = f k := ⟨_, rfl⟩
      obtain ⟨y, hy⟩ : ∃ y, y = f' k := ⟨_, rfl⟩
      rw [← hx] at c0
      rw [← hy] at c0'
      have HX := Lib.hid hx
      have HY := Lib.hid hy
      clear hR hR' hx hy
      by_cases h1 : x < y
      · have hv : cmpV x y = -1 := by simp [cmpV, h1]
        have HA := Lib.hid (show M.cmpI (M.cmpTo f f' n) = -1 from by rw [M.cmpTo_at hlt HF.out (by rw [← HX.out, ← HY.out]; omega), ← HX.out, ← HY.out]; simp [h1, M.cmpI])
        have HV := Lib.hid hv
        clear hv
        go_wp2_with (go_at_call 48; refine (cmp_any _ _ _).mono ?_; rw [HV.out]; rintro e w1 ⟨rfl, rfl⟩)
        go_ret
        exact ⟨ret_int HA.out.symm, rfl⟩
      by_cases h2 : y < x
      · have hv : cmpV x y = 1 := by simp [cmpV, h1, h2]
        have HA := Lib.hid (show M.cmpI (M.cmpTo f f' n) = 1 from by rw [M.cmpTo_at hlt HF.out (by rw [← HX.out, ← HY.out]; omega), ← HX.out, ← HY.out]; simp [h1, M.cmpI])
        have HV := Lib.hid hv
        clear hv
        go_wp2_with (go_at_call 48; refine (cmp_any _ _ _).mono ?_; rw [HV.out]; rintro e w1 ⟨rfl, rfl⟩)
        go_ret
        exact ⟨ret_int HA.out.symm, rfl⟩
      · have hv : cmpV x y = 0 := by simp [cmpV, h1, h2]
        have HA := Lib.hid (M.cmpTo_succ HF.out (by rw [← HX.out, ← HY.out]; omega))
        have HV := Lib.hid hv
        clear hv
        go_wp2_with (go_at_call 48; refine (cmp_any _ _ _).mono ?_; rw [HV.out]; rintro e w1 ⟨rfl, rfl⟩)
        go_round
        case rel => exact ⟨k + 1, by omega, by go_num, HA.out⟩
        case measure => simp [intOf]; omega
    · obtain rfl : k = n := by omega
      go_wp2_with fail
      go_ret
      exact ⟨ret_int (by rw [HF.out]; rfl), rfl⟩

set_option maxRecDepth 100000 in
set_option maxHeartbeats 2000000 in
theorem sooner_any (A A' : Option Addr) (n n' c c' B : Nat) (f f' : Nat → Int) (w : World) (hn : n ≤ 1048576) (hn' : n' ≤ 1048576) (hR : Rd1 w B A n f) (hR' : Rd1 w B A' n' f') (hB : B ≤ w.heap.size) :
    Calls Tryd.prog 18 #[.slice A n c, .slice A' n' c'] w fun e w' => e = .returned (.bool (M.soonB n n' f f')) ∧ Below w.heap.size w w' := by
  by_cases hne : ¬ n = n'
  · by_cases hl : n < n'
    all_goals
      have hnn : ((n : Int) == (n' : Int)) = false := by simp; omega
      go_enter Tryd.func18, Tryd.ntmps18
      go_wp2_with fail
      go_ret
      exact ⟨ret_bool (by simp [M.soonB, hne, hl]), Below.refl _ _⟩
  obtain rfl : n = n' := by omega
  clear hne
  go_enter Tryd.func18, Tryd.ntmps18
  go_wp2_with fail
  go_loopw [5] (fun i wr => ∃ k : Nat, k ≤ n ∧ i = .int .i64 k ∧ M.cmpTo f f' k = none ∧ Below w.heap.size w wr) (fun i _ => n - (intOf i).toNat)
  case atStart => exact ⟨0, Nat.zero_le _, rfl, rfl, Below.refl _ _⟩
  case round =>
    obtain ⟨k, hk, rfl, hf, hbw⟩ := hrel
    have HF := Lib.hid hf
    have HB := Lib.hid hbw
    clear hf
    by_cases hlt : k < n
    · obtain ⟨b, off, rfl, hb, c0⟩ := (hR.below (hbw.mono hB)).at_ hlt
      obtain ⟨b', off', rfl, hb', c0'⟩ := (hR'.below (hbw.mono hB)).at_ hlt
      have hz := hbw.size
      have hbs : b < wr.heap.size := by omega
      have hbs' : b' < wr.heap.size := by omega
      obtain ⟨x, hx⟩ : ∃ x, x = f k := ⟨_, rfl⟩
      obtain ⟨y, hy⟩ : ∃ y, y = f' k := ⟨_, rfl⟩
      rw [← hx] at c0
      rw [← hy] at c0'
      have HX := Lib.hid hx
      have HY := Lib.hid hy
      clear hR hR' hx hy hbw
      by_cases h1 : x = y
      · have HA := Lib.hid (M.cmpTo_succ HF.out (by rw [← HX.out, ← HY.out]; exact h1))
        subst h1
        go_wp2_with fail
        go_quiet (fail)
        go_wp2_with fail
        go_roundw
        case rel => exact ⟨k + 1, by omega, by go_num, HA.out, HB.out.drewN _⟩
        case measure => simp [intOf]; omega
      · have HA := Lib.hid (M.cmpTo_at hlt HF.out (by rw [← HX.out, ← HY.out]; exact h1))
        have hxy : (x == y) = false := by simpa using h1
        by_cases h2 : x < y
        · have HS := Lib.hid (show M.soonB n n f f' = true from by unfold M.soonB; rw [if_pos rfl, HA.out, ← HX.out, ← HY.out]; simp [h2])
          have hd := decide_eq_true h2
          clear h2
          go_wp2_with fail
          go_quiet (fail)
          go_wp2_with fail
          go_quiet (fail)
          go_wp2_with fail
          go_ret
          exact ⟨ret_bool HS.out.symm, by repeat (first | exact HB.out | refine Below.drewN ?_ _)⟩
        · have HS := Lib.hid (show M.soonB n n f f' = false from by unfold M.soonB; rw [if_pos rfl, HA.out, ← HX.out, ← HY.out]; simp [h2])
          have hd := decide_eq_false h2
          clear h2
          go_wp2_with fail
          go_quiet (fail)
          go_wp2_with fail
          go_quiet (fail)
          go_wp2_with fail
          go_ret
          exact ⟨ret_bool HS.out.symm, by repeat (first | exact HB.out | refine Below.drewN ?_ _)⟩
    · obtain rfl : k = n := by omega
      clear hbw
      go_wp2_with fail
      go_ret
      exact ⟨ret_bool (by unfold M.soonB; rw [if_pos rfl, HF.out]; rfl), HB.out⟩
end Go.Proofs.YtaljmlkapbojeaaDoor
