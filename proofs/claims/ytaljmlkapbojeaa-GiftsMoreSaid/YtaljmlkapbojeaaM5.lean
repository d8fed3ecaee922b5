/- GiftsMore: where it looks at nothing. Written by gen_more.py. -/
import Derived.Test.YtaljmlkapbojeaaW2
import Derived.Test.YtaljmlkapbojeaaSeq
namespace Go.Proofs.Ytaljmlkapbojeaa
open Go.RowKit

set_option maxRecDepth 100000 in
set_option maxHeartbeats 6400000 in
theorem more_less (gA bA : Option Addr) (gn gc bn bc B : Nat) (G H : Nat → Nat → Int) (a b d : Int) (j : Nat) (w : World) (hg : gn ≤ maxLen) (hb : bn ≤ maxLen) (hR : BookRd w B gA gn G bA bn H) (hB : B ≤ w.heap.size) (ht : thickF gn bn (M.okF gn bn G H) = false) (hk : M.okF gn bn G H = true)
    (p0 : ¬ a < 0) (p1 : ¬ (gn : Int) ≤ a) (p2 : ¬ (j : Int) < 0) (p3 : ¬ (bn : Int) ≤ (j : Int)) (p4 : ¬ b < 0) (p5 : ¬ 1000000 < b) (pj : j < bn) (h : (d < 0 ∧ True) ∨ (¬ d < 0 ∧ H j 2 < d)) :
    Calls Try.prog 3 #[.agg #[.slice gA gn gc, .slice bA bn bc], .agg #[.int .i64 a, .int .i64 b, .int .i64 (j : Int), .int .i64 d]] w fun e w' => e = .returned (.bool true) ∧ Below w.heap.size w w' := by
  unfold maxLen at hg hb
  have hkk : M.chkN gn bn G H = 0 := by simp [M.chkN, hk]
  rcases h with h | h
  · have h0 := h.1
    have h1 := h.2
    clear h
    have e0 := decide_eq_false p0
    have e1 := decide_eq_false p1
    have e2 := decide_eq_false p2
    have e3 := decide_eq_false p3
    have e4 := decide_eq_false p4
    have e5 := decide_eq_false p5
    have f0 := decide_eq_true h0
    go_enter Try.func3, Try.ntmps3
    go_wp2_with fail
    refine wp_region_seq 5 59 (by kernel_rfl) (by kernel_rfl) fun R hRR => ?_
    simp only [List.take_succ_cons, List.take_zero, List.drop_succ_cons, List.drop_zero] at hRR ⊢
    have HRR := Lib.hid hRR
    clear hRR
    go_wp2_with (go_at_call 10; refine (thick_any _ _ _ _ _ _ B _ _ _ (by unfold maxLen; omega) (by unfold maxLen; omega) (by exact (hR.below ((belowAlloc2 _ _ _).drew.mono hB))) (by simp; omega)).mono ?_; rw [ht]; rintro e w1 ⟨rfl, hb1⟩; obtain ⟨hc1, hf1⟩ := bcell hb1; have HB1 := Lib.hid hb1; clear hb1)
    have W1 : Below w.heap.size w w1 := (belowAlloc2 _ _ _).drew.trans (HB1.out.mono (by simp; omega))
    have z1 : w.heap.size + 2 ≤ w1.heap.size := by have := HB1.out.size; simpa using this
    have q0 : w1.cell? ⟨w.heap.size, 0, none⟩ = some (.slice gA gn gc) := by rw [hc1 _ _ (by simp; omega)]; simp
    have q1 : w1.cell? ⟨w.heap.size, 1, none⟩ = some (.slice bA bn bc) := by rw [hc1 _ _ (by simp; omega)]; simp
    have x0 : w1.cell? ⟨w.heap.size + 1, 0, none⟩ = some (.int .i64 a) := by rw [hc1 _ _ (by simp)]; simp
    have x1 : w1.cell? ⟨w.heap.size + 1, 1, none⟩ = some (.int .i64 b) := by rw [hc1 _ _ (by simp)]; simp
    have x2 : w1.cell? ⟨w.heap.size + 1, 2, none⟩ = some (.int .i64 (j : Int)) := by rw [hc1 _ _ (by simp)]; simp
    have x3 : w1.cell? ⟨w.heap.size + 1, 3, none⟩ = some (.int .i64 d) := by rw [hc1 _ _ (by simp)]; simp
    clear hc1 hf1 HB1
    have HW1 := Lib.hid W1
    clear W1
    go_wp2_with (go_at_call 11; refine (rcheck_any _ _ _ _ _ _ B _ _ _ (by unfold maxLen; omega) (by unfold maxLen; omega) (by exact hR.below (HW1.out.mono hB)) (by omega)).mono ?_; rw [hkk]; rintro e w2 ⟨rfl, hb2⟩; have W2 := HW1.out.trans (hb2.mono (by omega)); obtain ⟨hc2, hf2⟩ := bcell hb2; have hz2 := hb2.size; clear hb2)
    have q0 : w2.cell? ⟨w.heap.size, 0, none⟩ = some (.slice gA gn gc) := by rw [hc2 _ _ (by omega)]; exact q0
    have q1 : w2.cell? ⟨w.heap.size, 1, none⟩ = some (.slice bA bn bc) := by rw [hc2 _ _ (by omega)]; exact q1
    have x0 : w2.cell? ⟨w.heap.size + 1, 0, none⟩ = some (.int .i64 a) := by rw [hc2 _ _ (by omega)]; exact x0
    have x1 : w2.cell? ⟨w.heap.size + 1, 1, none⟩ = some (.int .i64 b) := by rw [hc2 _ _ (by omega)]; exact x1
    have x2 : w2.cell? ⟨w.heap.size + 1, 2, none⟩ = some (.int .i64 (j : Int)) := by rw [hc2 _ _ (by omega)]; exact x2
    have x3 : w2.cell? ⟨w.heap.size + 1, 3, none⟩ = some (.int .i64 d) := by rw [hc2 _ _ (by omega)]; exact x3
    have HR2 := Lib.hid (hR.below (W2.mono hB))
    have HW2 := Lib.hid W2
    have z2 : w.heap.size + 2 ≤ w2.heap.size := by omega
    clear hc2 hf2 W2 hR hz2
    have n2 : decide (bn ≤ j) = false := decide_eq_false (by omega)
    obtain ⟨bb, bo, rfl, hbb, k0, k1, k2⟩ := HR2.out.2.at3 pj
    clear k0 k1
    refine HRR.out _ _ ?_
    clear HRR
    repeat (go_big_quiet_step (fail))
    refine wpQuiet_nil ?_
    go_wp2_with (go_at_call 12; refine (works_any _).mono ?_; rintro e w9 ⟨rfl, hb9⟩; have HB9 := Lib.hid hb9; clear hb9)
    go_ret
    exact ⟨rfl, HW2.out.trans (HB9.out.mono (by omega))⟩
  · have h0 := h.1
    have h1 := h.2
    clear h
    have e0 := decide_eq_false p0
    have e1 := decide_eq_false p1
    have e2 := decide_eq_false p2
    have e3 := decide_eq_false p3
    have e4 := decide_eq_false p4
    have e5 := decide_eq_false p5
    have f0 := decide_eq_false h0
    have f1 := decide_eq_true h1
    go_enter Try.func3, Try.ntmps3
    go_wp2_with fail
    refine wp_region_seq 5 59 (by kernel_rfl) (by kernel_rfl) fun R hRR => ?_
    simp only [List.take_succ_cons, List.take_zero, List.drop_succ_cons, List.drop_zero] at hRR ⊢
    have HRR := Lib.hid hRR
    clear hRR
    go_wp2_with (go_at_call 10; refine (thick_any _ _ _ _ _ _ B _ _ _ (by unfold maxLen; omega) (by unfold maxLen; omega) (by exact (hR.below ((belowAlloc2 _ _ _).drew.mono hB))) (by simp; omega)).mono ?_; rw [ht]; rintro e w1 ⟨rfl, hb1⟩; obtain ⟨hc1, hf1⟩ := bcell hb1; have HB1 := Lib.hid hb1; clear hb1)
    have W1 : Below w.heap.size w w1 := (belowAlloc2 _ _ _).drew.trans (HB1.out.mono (by simp; omega))
    have z1 : w.heap.size + 2 ≤ w1.heap.size := by have := HB1.out.size; simpa using this
    have q0 : w1.cell? ⟨w.heap.size, 0, none⟩ = some (.slice gA gn gc) := by rw [hc1 _ _ (by simp; omega)]; simp
    have q1 : w1.cell? ⟨w.heap.size, 1, none⟩ = some (.slice bA bn bc) := by rw [hc1 _ _ (by simp; omega)]; simp
    have x0 : w1.cell? ⟨w.heap.size + 1, 0, none⟩ = some (.int .i64 a) := by rw [hc1 _ _ (by simp)]; simp
    have x1 : w1.cell? ⟨w.heap.size + 1, 1, none⟩ = some (.int .i64 b) := by rw [hc1 _ _ (by simp)]; simp
    have x2 : w1.cell? ⟨w.heap.size + 1, 2, none⟩ = some (.int .i64 (j : Int)) := by rw [hc1 _ _ (by simp)]; simp
    have x3 : w1.cell? ⟨w.heap.size + 1, 3, none⟩ = some (.int .i64 d) := by rw [hc1 _ _ (by simp)]; simp
    clear hc1 hf1 HB1
    have HW1 := Lib.hid W1
    clear W1
    go_wp2_with (go_at_call 11; refine (rcheck_any _ _ _ _ _ _ B _ _ _ (by unfold maxLen; omega) (by unfold maxLen; omega) (by exact hR.below (HW1.out.mono hB)) (by omega)).mono ?_; rw [hkk]; rintro e w2 ⟨rfl, hb2⟩; have W2 := HW1.out.trans (hb2.mono (by omega)); obtain ⟨hc2, hf2⟩ := bcell hb2; have hz2 := hb2.size; clear hb2)
    have q0 : w2.cell? ⟨w.heap.size, 0, none⟩ = some (.slice gA gn gc) := by rw [hc2 _ _ (by omega)]; exact q0
    have q1 : w2.cell? ⟨w.heap.size, 1, none⟩ = some (.slice bA bn bc) := by rw [hc2 _ _ (by omega)]; exact q1
    have x0 : w2.cell? ⟨w.heap.size + 1, 0, none⟩ = some (.int .i64 a) := by rw [hc2 _ _ (by omega)]; exact x0
    have x1 : w2.cell? ⟨w.heap.size + 1, 1, none⟩ = some (.int .i64 b) := by rw [hc2 _ _ (by omega)]; exact x1
    have x2 : w2.cell? ⟨w.heap.size + 1, 2, none⟩ = some (.int .i64 (j : Int)) := by rw [hc2 _ _ (by omega)]; exact x2
    have x3 : w2.cell? ⟨w.heap.size + 1, 3, none⟩ = some (.int .i64 d) := by rw [hc2 _ _ (by omega)]; exact x3
    have HR2 := Lib.hid (hR.below (W2.mono hB))
    have HW2 := Lib.hid W2
    have z2 : w.heap.size + 2 ≤ w2.heap.size := by omega
    clear hc2 hf2 W2 hR hz2
    have n2 : decide (bn ≤ j) = false := decide_eq_false (by omega)
    obtain ⟨bb, bo, rfl, hbb, k0, k1, k2⟩ := HR2.out.2.at3 pj
    clear k0 k1
    refine HRR.out _ _ ?_
    clear HRR
    repeat (go_big_quiet_step (fail))
    refine wpQuiet_nil ?_
    go_wp2_with (go_at_call 12; refine (works_any _).mono ?_; rintro e w9 ⟨rfl, hb9⟩; have HB9 := Lib.hid hb9; clear hb9)
    go_ret
    exact ⟨rfl, HW2.out.trans (HB9.out.mono (by omega))⟩
end Go.Proofs.Ytaljmlkapbojeaa
