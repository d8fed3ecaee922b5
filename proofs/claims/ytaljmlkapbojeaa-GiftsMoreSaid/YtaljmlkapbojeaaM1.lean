/- GiftsMore: where it looks at nothing. Written by gen_more.py. -/
import Derived.Test.YtaljmlkapbojeaaW2
import Derived.Test.YtaljmlkapbojeaaSeq
namespace Go.Proofs.Ytaljmlkapbojeaa
open Go.RowKit

set_option maxRecDepth 100000 in
set_option maxHeartbeats 6400000 in
theorem more_thick (gA bA : Option Addr) (gn gc bn bc B : Nat) (G H : Nat → Nat → Int) (a b c d : Int) (w : World) (hg : gn ≤ maxLen) (hb : bn ≤ maxLen) (hR : BookRd w B gA gn G bA bn H) (hB : B ≤ w.heap.size) (ht : thickF gn bn (M.okF gn bn G H) = true) :
    Calls Try.prog 3 #[.agg #[.slice gA gn gc, .slice bA bn bc], .agg #[.int .i64 a, .int .i64 b, .int .i64 c, .int .i64 d]] w fun e w' => e = .returned (.bool true) ∧ Below w.heap.size w w' := by
  go_enter Try.func3, Try.ntmps3
  go_wp2_with fail
  refine wp_region_seq 5 59 (by kernel_rfl) (by kernel_rfl) fun R hRR => ?_
  simp only [List.take_succ_cons, List.take_zero, List.drop_succ_cons, List.drop_zero] at hRR ⊢
  have HRR := Lib.hid hRR
  clear hRR
  go_wp2_with (go_at_call 10; refine (thick_any _ _ _ _ _ _ B _ _ _ hg hb (by exact (hR.below ((belowAlloc2 _ _ _).drew.mono hB))) (by simp; omega)).mono ?_; rw [ht]; rintro e w1 ⟨rfl, hb1⟩; obtain ⟨hc1, hf1⟩ := bcell hb1; have HB1 := Lib.hid hb1; clear hb1)
  refine HRR.out _ _ ?_
  clear HRR
  repeat (go_big_quiet_step (fail))
  refine wpQuiet_nil ?_
  go_wp2_with (go_at_call 12; refine (works_any _).mono ?_; rintro e w9 ⟨rfl, hb9⟩; have HB9 := Lib.hid hb9; clear hb9)
  go_ret
  exact ⟨rfl, ((belowAlloc2 _ _ _).drew.trans (HB1.out.mono (by simp; omega))).trans (HB9.out.mono (by have := HB1.out.size; simp at this; omega))⟩

set_option maxRecDepth 100000 in
set_option maxHeartbeats 6400000 in
theorem more_chk (gA bA : Option Addr) (gn gc bn bc B : Nat) (G H : Nat → Nat → Int) (a b c d : Int) (w : World) (hg : gn ≤ maxLen) (hb : bn ≤ maxLen) (hR : BookRd w B gA gn G bA bn H) (hB : B ≤ w.heap.size) (ht : thickF gn bn (M.okF gn bn G H) = false) (hk : M.okF gn bn G H = false) :
    Calls Try.prog 3 #[.agg #[.slice gA gn gc, .slice bA bn bc], .agg #[.int .i64 a, .int .i64 b, .int .i64 c, .int .i64 d]] w fun e w' => e = .returned (.bool true) ∧ Below w.heap.size w w' := by
  have hkk : M.chkN gn bn G H = 110 := by simp [M.chkN, hk]
  go_enter Try.func3, Try.ntmps3
  go_wp2_with fail
  refine wp_region_seq 5 59 (by kernel_rfl) (by kernel_rfl) fun R hRR => ?_
  simp only [List.take_succ_cons, List.take_zero, List.drop_succ_cons, List.drop_zero] at hRR ⊢
  have HRR := Lib.hid hRR
  clear hRR
  go_wp2_with (go_at_call 10; refine (thick_any _ _ _ _ _ _ B _ _ _ hg hb (by exact (hR.below ((belowAlloc2 _ _ _).drew.mono hB))) (by simp; omega)).mono ?_; rw [ht]; rintro e w1 ⟨rfl, hb1⟩; obtain ⟨hc1, hf1⟩ := bcell hb1; have HB1 := Lib.hid hb1; clear hb1)
  have W1 : Below w.heap.size w w1 := (belowAlloc2 _ _ _).drew.trans (HB1.out.mono (by simp; omega))
  have z1 : w.heap.size + 2 ≤ w1.heap.size := by have := HB1.out.size; simpa using this
  have q0 : w1.cell? ⟨w.heap.size, 0, none⟩ = some (.slice gA gn gc) := by rw [hc1 _ _ (by simp; omega)]; simp
  have q1 : w1.cell? ⟨w.heap.size, 1, none⟩ = some (.slice bA bn bc) := by rw [hc1 _ _ (by simp; omega)]; simp
  have x0 : w1.cell? ⟨w.heap.size + 1, 0, none⟩ = some (.int .i64 a) := by rw [hc1 _ _ (by simp)]; simp
  have x1 : w1.cell? ⟨w.heap.size + 1, 1, none⟩ = some (.int .i64 b) := by rw [hc1 _ _ (by simp)]; simp
  have x2 : w1.cell? ⟨w.heap.size + 1, 2, none⟩ = some (.int .i64 c) := by rw [hc1 _ _ (by simp)]; simp
  have x3 : w1.cell? ⟨w.heap.size + 1, 3, none⟩ = some (.int .i64 d) := by rw [hc1 _ _ (by simp)]; simp
  clear hc1 hf1 HB1
  have HW1 := Lib.hid W1
  clear W1
  go_wp2_with (go_at_call 11; refine (rcheck_any _ _ _ _ _ _ B _ _ _ hg hb (by exact hR.below (HW1.out.mono hB)) (by omega)).mono ?_; rw [hkk]; rintro e w2 ⟨rfl, hb2⟩; have W2 := HW1.out.trans (hb2.mono (by omega)); obtain ⟨hc2, hf2⟩ := bcell hb2; have hz2 := hb2.size; clear hb2)
  have q0 : w2.cell? ⟨w.heap.size, 0, none⟩ = some (.slice gA gn gc) := by rw [hc2 _ _ (by omega)]; exact q0
  have q1 : w2.cell? ⟨w.heap.size, 1, none⟩ = some (.slice bA bn bc) := by rw [hc2 _ _ (by omega)]; exact q1
  have x0 : w2.cell? ⟨w.heap.size + 1, 0, none⟩ = some (.int .i64 a) := by rw [hc2 _ _ (by omega)]; exact x0
  have x1 : w2.cell? ⟨w.heap.size + 1, 1, none⟩ = some (.int .i64 b) := by rw [hc2 _ _ (by omega)]; exact x1
  have x2 : w2.cell? ⟨w.heap.size + 1, 2, none⟩ = some (.int .i64 c) := by rw [hc2 _ _ (by omega)]; exact x2
  have x3 : w2.cell? ⟨w.heap.size + 1, 3, none⟩ = some (.int .i64 d) := by rw [hc2 _ _ (by omega)]; exact x3
  have HR2 := Lib.hid (hR.below (W2.mono hB))
  have HW2 := Lib.hid W2
  have z2 : w.heap.size + 2 ≤ w2.heap.size := by omega
  clear hc2 hf2 W2 hR hz2
  refine HRR.out _ _ ?_
  clear HRR
  repeat (go_big_quiet_step (fail))
  refine wpQuiet_nil ?_
  go_wp2_with (go_at_call 12; refine (works_any _).mono ?_; rintro e w9 ⟨rfl, hb9⟩; have HB9 := Lib.hid hb9; clear hb9)
  go_ret
  exact ⟨rfl, HW2.out.trans (HB9.out.mono (by omega))⟩
end Go.Proofs.Ytaljmlkapbojeaa
