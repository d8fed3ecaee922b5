/- flows: the worst, or the best, incomes and costs. -/
import Derived.Test.YtaljmlkapbojeaaVMath
import Derived.Test.YtaljmlkapbojeaaOwn
import Derived.Test.YtaljmlkapbojeaaE1
namespace Go.Proofs.Ytaljmlkapbojeaa
open Go.RowKit

theorem span_info : (Try.prog.info? 56).map (fun i => (i.zero, i.size, i.bytes)) = some (some (.agg #[.int .i64 0, .int .i64 0]), 2, 16) := by kernel_rfl
theorem span_cells (W : World) (g : Nat) (hg : g = W.heap.size) (F : Nat → Nat → Int) (k : Nat) (x y : Int) (h0 : F k 0 = x) (h1 : F k 1 = y) : ∀ j, j < 2 → (W.alloc (.cells #[.int .i64 x, .int .i64 y] 56)).cell? ⟨g, j, none⟩ = some (ints2 F k j) := by
  subst hg
  intro j hj
  have h := (Blk.new W 56 #[.int .i64 x, .int .i64 y]).cell j
  rw [h]
  obtain rfl | rfl : j = 0 ∨ j = 1 := by omega
  · show some (Value.int .i64 x) = some (.int .i64 (F k 0)); rw [h0]
  · show some (Value.int .i64 y) = some (.int .i64 (F k 1)); rw [h1]

set_option maxRecDepth 100000 in
set_option maxHeartbeats 3200000 in
theorem flows_false (r le : Int) (A : Option Addr) (n c B : Nat) (m : Nat → Nat → Int) (w : World) (hn : n ≤ 60) (hR : Rd w B A 4 n m) (hB : B ≤ w.heap.size) :
    Calls Try.prog 21 #[.agg #[.int .i64 r, .int .i64 le, .slice A n c], .bool false] w fun e w' =>
      (∃ A' c', e = .returned (.slice A' n c') ∧ Rd w' w'.heap.size A' 2 n (M.flF false m)) ∧ Below w.heap.size w w' := by
  obtain ⟨gi, hi, hz0, hz1, hz2⟩ := info_parts span_info
  have MI := Lib.hid (And.intro hi (And.intro hz0 (And.intro hz1 hz2)))
  clear hi hz0 hz1 hz2
  go_enter Try.func21, Try.ntmps21
  go_wp2_with fail
  go_loopw [5, 6, 7] (fun v i _ wr => ∃ k : Nat, k ≤ n ∧ i = .int .i64 k ∧ Blk wr w.heap.size 43 #[.int .i64 r, .int .i64 le, .slice A n c] ∧ Own wr (w.heap.size + 1) 56 2 v k (ints2 (M.flF false m)) ∧ Below w.heap.size w wr) (fun _ i _ _ => n - (intOf i).toNat)
  case atStart => exact ⟨0, Nat.zero_le _, rfl, Blk.new _ _ _, Own.nil_, belowAlloc _ _⟩
  case round =>
    obtain ⟨k, hk, rfl, k1, ho, hW⟩ := hrel
    obtain ⟨vA, vc, rfl⟩ := ho.form
    have q2 := k1.cell 2
    have hs := k1.lt
    have K1 := Lib.hid k1
    have HW := Lib.hid hW
    have HO := Lib.hid ho
    by_cases hlt : k < n
    · obtain ⟨b, off, rfl, hb', c0, c1, c2, c3⟩ := (hR.below (hW.mono hB)).at4 hlt
      have hbs : b < wr.heap.size := by omega
      clear k1 hW ho hR
      go_wp2_with (at_builtin; refine wpList_app rfl (.tmp 31) (.tmp 39) 47 rfl (w.heap.size + 1) 56 2 16 Try.underlying47 MI.out.1 MI.out.2.1 MI.out.2.2.1 MI.out.2.2.2 rfl (by decide) (by decide) ((HO.out.alloc _).alloc _) rfl (by omega) (by simp; omega) (wr.heap.size + 1) 1 (fun j => ints2 (M.flF false m) k j) rfl (span_cells _ _ (by simp) _ _ _ _ rfl rfl) (fun _ _ => rfl) ?_; intro v2 w2 o2 hg2 _; obtain ⟨A2, z2, rfl⟩ := o2.form; have HO2 := Lib.hid o2; have HG2 := Lib.hid hg2; clear o2 hg2)
      go_roundw
      case rel =>
        refine ⟨k + 1, by omega, by go_num, ((K1.out.alloc _).alloc _).grown HG2.out (HO.out.ne_ (by omega)), ?_, ?_⟩
        · have o2 := HO2.out
          rw [show (upd (ints2 (M.flF false m)) k fun j => ints2 (M.flF false m) k j) = ints2 (M.flF false m) from upd_self _ k] at o2
          exact o2
        · exact (((HW.out.alloc (by omega) _).alloc (by simp; omega) _).grown HG2.out (by simp; omega) (fun g hg => by have := (HO.out.block hg).1; omega))
      case measure => simp [intOf]; omega
    · obtain rfl : k = n := by omega
      clear k1 hW ho hR
      go_wp2_with fail
      go_ret
      exact ⟨⟨_, _, rfl, by obtain ⟨A', c', e, h⟩ := HO.out.rd; injection e with e _ _; subst e; exact h⟩, HW.out⟩
set_option maxRecDepth 100000 in
set_option maxHeartbeats 3200000 in
theorem flows_true (r le : Int) (A : Option Addr) (n c B : Nat) (m : Nat → Nat → Int) (w : World) (hn : n ≤ 60) (hR : Rd w B A 4 n m) (hB : B ≤ w.heap.size) :
    Calls Try.prog 21 #[.agg #[.int .i64 r, .int .i64 le, .slice A n c], .bool true] w fun e w' =>
      (∃ A' c', e = .returned (.slice A' n c') ∧ Rd w' w'.heap.size A' 2 n (M.flF true m)) ∧ Below w.heap.size w w' := by
  obtain ⟨gi, hi, hz0, hz1, hz2⟩ := info_parts span_info
  have MI := Lib.hid (And.intro hi (And.intro hz0 (And.intro hz1 hz2)))
  clear hi hz0 hz1 hz2
  go_enter Try.func21, Try.ntmps21
  go_wp2_with fail
  go_loopw [5, 6, 7] (fun v i _ wr => ∃ k : Nat, k ≤ n ∧ i = .int .i64 k ∧ Blk wr w.heap.size 43 #[.int .i64 r, .int .i64 le, .slice A n c] ∧ Own wr (w.heap.size + 1) 56 2 v k (ints2 (M.flF true m)) ∧ Below w.heap.size w wr) (fun _ i _ _ => n - (intOf i).toNat)
  case atStart => exact ⟨0, Nat.zero_le _, rfl, Blk.new _ _ _, Own.nil_, belowAlloc _ _⟩
  case round =>
    obtain ⟨k, hk, rfl, k1, ho, hW⟩ := hrel
    obtain ⟨vA, vc, rfl⟩ := ho.form
    have q2 := k1.cell 2
    have hs := k1.lt
    have K1 := Lib.hid k1
    have HW := Lib.hid hW
    have HO := Lib.hid ho
    by_cases hlt : k < n
    · obtain ⟨b, off, rfl, hb', c0, c1, c2, c3⟩ := (hR.below (hW.mono hB)).at4 hlt
      have hbs : b < wr.heap.size := by omega
      clear k1 hW ho hR
      go_wp2_with (at_builtin; refine wpList_app rfl (.tmp 21) (.tmp 29) 47 rfl (w.heap.size + 1) 56 2 16 Try.underlying47 MI.out.1 MI.out.2.1 MI.out.2.2.1 MI.out.2.2.2 rfl (by decide) (by decide) ((HO.out.alloc _).alloc _) rfl (by omega) (by simp; omega) (wr.heap.size + 1) 1 (fun j => ints2 (M.flF true m) k j) rfl (span_cells _ _ (by simp) _ _ _ _ rfl rfl) (fun _ _ => rfl) ?_; intro v2 w2 o2 hg2 _; obtain ⟨A2, z2, rfl⟩ := o2.form; have HO2 := Lib.hid o2; have HG2 := Lib.hid hg2; clear o2 hg2)
      go_roundw
      case rel =>
        refine ⟨k + 1, by omega, by go_num, ((K1.out.alloc _).alloc _).grown HG2.out (HO.out.ne_ (by omega)), ?_, ?_⟩
        · have o2 := HO2.out
          rw [show (upd (ints2 (M.flF true m)) k fun j => ints2 (M.flF true m) k j) = ints2 (M.flF true m) from upd_self _ k] at o2
          exact o2
        · exact (((HW.out.alloc (by omega) _).alloc (by simp; omega) _).grown HG2.out (by simp; omega) (fun g hg => by have := (HO.out.block hg).1; omega))
      case measure => simp [intOf]; omega
    · obtain rfl : k = n := by omega
      clear k1 hW ho hR
      go_wp2_with fail
      go_ret
      exact ⟨⟨_, _, rfl, by obtain ⟨A', c', e, h⟩ := HO.out.rd; injection e with e _ _; subst e; exact h⟩, HW.out⟩
end Go.Proofs.Ytaljmlkapbojeaa
