/- Contracts of the reference's small functions: from, For, Serves, needs, helps, spare, Paid. -/
import Derived.Test.YtaljmlkapbojeaaDoorBase
import Derived.Test.YtaljmlkapbojeaaDoorGMath
namespace Go.Proofs.YtaljmlkapbojeaaDoor
open Go.RowKit

set_option maxHeartbeats 400000 in
theorem from_any (n a b : Int) (w : World) :
    Calls Tryd.prog 41 #[.int .i64 n, .int .i64 a, .int .i64 b] w fun e w' => e = .returned (.bool (M.within n a b)) ∧ w = w' := by
  by_cases h1 : a ≤ n <;> by_cases h2 : n ≤ b
  all_goals
    go_enter Tryd.func41, Tryd.ntmps41
    go_wp2_with fail
    go_ret
    exact ⟨ret_bool (by simp [M.within, h1, h2]), rfl⟩

set_option maxHeartbeats 400000 in
theorem for_any (g0 g1 g2 x0 x1 x2 : Int) (w : World) (h0 : 0 ≤ x0) (h7 : x0 ≤ 7) :
    Calls Tryd.prog 42 #[.agg #[.int .i64 g0, .int .i64 g1, .int .i64 g2], .agg #[.int .i64 x0, .int .i64 x1, .int .i64 x2]] w fun e w' =>
      e = .returned (.bool (M.bt g0 x0.toNat)) ∧ Below w.heap.size w w' := by
  obtain ⟨k, rfl⟩ := Int.eq_ofNat_of_zero_le h0
  have hb := toNat_i64_and_one
  go_enter Tryd.func42, Tryd.ntmps42
  go_wp2_with fail
  go_ret
  exact ⟨ret_bool (by simp [M.bt]), ((Below.refl _ _).alloc (Nat.le_refl _) _).alloc (by simp) _⟩

set_option maxHeartbeats 400000 in
theorem serves_any (g0 g1 g2 x0 x1 x2 : Int) (w : World) (h0 : 0 ≤ x0) (h7 : x0 ≤ 7) :
    Calls Tryd.prog 19 #[.agg #[.int .i64 g0, .int .i64 g1, .int .i64 g2], .agg #[.int .i64 x0, .int .i64 x1, .int .i64 x2]] w fun e w' =>
      e = .returned (.bool (M.bt g0 x0.toNat && decide (g1 ≤ x1))) ∧ Below w.heap.size w w' := by
  cases hbt : M.bt g0 x0.toNat
  all_goals
    have HB := Lib.hid hbt
    clear hbt
    go_enter Tryd.func19, Tryd.ntmps19
    go_wp2_with (go_at_call 42; refine (for_any _ _ _ _ _ _ _ h0 h7).mono ?_; rw [HB.out]; rintro e w1 ⟨rfl, hb⟩; obtain ⟨hc, hf⟩ := bcell hb)
    go_ret
    refine ⟨by simp, ?_⟩
    exact (((Below.refl _ _).alloc (Nat.le_refl _) _).alloc (by simp) _).trans (hb.mono (by simp; omega))
end Go.Proofs.YtaljmlkapbojeaaDoor
