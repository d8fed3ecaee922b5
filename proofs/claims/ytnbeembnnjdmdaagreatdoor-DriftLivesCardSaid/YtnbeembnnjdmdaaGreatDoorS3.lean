/- The reference: the wider of two spans. -/
import Derived.Test.YtnbeembnnjdmdaaGreatDoorS1
import Derived.Test.YtnbeembnnjdmdaaGreatDoorLaL
namespace Go.Proofs.YtnbeembnnjdmdaaGreatDoor
open Go.RowKit

set_option maxRecDepth 100000 in
set_option maxHeartbeats 3200000 in
theorem rwider_any (a0 a1 b0 b1 : Int) (w : World) :
  Calls Tryz.prog 109 #[.agg #[.int .i64 a0, .int .i64 a1], .agg #[.int .i64 b0, .int .i64 b1]] w fun e w' => e = .returned (.agg #[.int .i64 (M.wid (a0, a1) (b0, b1)).1, .int .i64 (M.wid (a0, a1) (b0, b1)).2]) ∧ Below w.heap.size w w' := by
 have HB0 := Lib.hid (belowAlloc3 w (.cells #[.int .i64 a0, .int .i64 a1] 42) (.cells #[.int .i64 b0, .int .i64 b1] 42) (.cells #[.int .i64 0, .int .i64 0] 42))
 have K0 := Lib.hid (((Blk.new w 42 #[.int .i64 a0, .int .i64 a1]).alloc (.cells #[.int .i64 b0, .int .i64 b1] 42)).alloc (.cells #[.int .i64 0, .int .i64 0] 42))
 have Y0 := Lib.hid ((Blk.new1 w (.cells #[.int .i64 a0, .int .i64 a1] 42) 42 #[.int .i64 b0, .int .i64 b1]).alloc (.cells #[.int .i64 0, .int .i64 0] 42))
 have Z0 := Lib.hid (Blk.new2 w (.cells #[.int .i64 a0, .int .i64 a1] 42) (.cells #[.int .i64 b0, .int .i64 b1] 42) 42 #[.int .i64 0, .int .i64 0])
 have HW1 := Lib.hid (show a0 < 0 → M.wid (a0, a1) (b0, b1) = (b0, b1) from fun h => by unfold M.wid; rw [if_pos h])
 have HW2 := Lib.hid (show ¬ a0 < 0 → M.wid (a0, a1) (b0, b1) = (min a0 b0, max a1 b1) from fun h => by unfold M.wid; rw [if_neg h])
 obtain ⟨r0, r1, hr⟩ : ∃ r0 r1, M.wid (a0, a1) (b0, b1) = (r0, r1) := ⟨_, _, rfl⟩
 rw [hr] at HW1 HW2 ⊢
 dsimp only
 clear hr
 go_enter Tryz.func109, Tryz.ntmps109
 go_upto_region 1 with fail
 generalize ((w.alloc (.cells #[.int .i64 a0, .int .i64 a1] 42)).alloc (.cells #[.int .i64 b0, .int .i64 b1] 42)).alloc (.cells #[.int .i64 0, .int .i64 0] 42) = X at HB0 K0 Z0 Y0 ⊢
 simp only [Nat.add_assoc, Nat.reduceAdd] at Z0 ⊢
 obtain ⟨k0, k1⟩ := K0.out.c2
 obtain ⟨y0, y1⟩ := Y0.out.c2
 obtain ⟨z0, z1⟩ := Z0.out.c2
 have f0 := Z0.out.frz 0
 have f1 := Z0.out.frz 1
 have hl := Z0.out.lt
 by_cases h : a0 < 0
 ·
  have g1 : decide (a0 < 0) = true := decide_eq_true h
  obtain ⟨rfl, rfl⟩ := Prod.mk.inj (HW1.out h)
  clear h HW1 HW2
  go_wp2_with fail
  have Z1 := (Z0.out.set_ 0 (.int .i64 r0)).set_ 1 (.int .i64 r1)
  have hb1 := (HB0.out.setCell (p := ⟨w.heap.size + 2, 0, none⟩) (by show w.heap.size ≤ w.heap.size + 2; omega) (.int .i64 r0)).setCell (p := ⟨w.heap.size + 2, 1, none⟩) (by show w.heap.size ≤ w.heap.size + 2; omega) (.int .i64 r1)
  refine bodyPost_ret (results_cell_row rfl _ _ (w.heap.size + 2) 42 #[.int .i64 r0, .int .i64 r1] (0, 0) _ rfl Z1 Tryz.underlying42 rfl span_size) rfl ⟨rfl, hb1⟩
 ·
  have g1 : decide (a0 < 0) = false := decide_eq_false h
  obtain ⟨h0, h1⟩ := Prod.mk.inj (HW2.out h)
  have H0 := Lib.hid h0
  have H1 := Lib.hid h1
  clear h HW1 HW2 h0 h1
  go_wp2_with fail
  rw [← H0.out, ← H1.out]
  have Z1 := (Z0.out.set_ 0 (.int .i64 r0)).set_ 1 (.int .i64 r1)
  have hb1 := (HB0.out.setCell (p := ⟨w.heap.size + 2, 0, none⟩) (by show w.heap.size ≤ w.heap.size + 2; omega) (.int .i64 r0)).setCell (p := ⟨w.heap.size + 2, 1, none⟩) (by show w.heap.size ≤ w.heap.size + 2; omega) (.int .i64 r1)
  refine bodyPost_ret (results_cell_row rfl _ _ (w.heap.size + 2) 42 #[.int .i64 r0, .int .i64 r1] (0, 0) _ rfl Z1 Tryz.underlying42 rfl span_size) rfl ⟨rfl, hb1⟩
end Go.Proofs.YtnbeembnnjdmdaaGreatDoor
