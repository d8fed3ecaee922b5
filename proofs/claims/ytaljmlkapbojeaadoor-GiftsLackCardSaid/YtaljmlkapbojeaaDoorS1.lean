/- The reference's spare and Paid. -/
import Derived.Test.YtaljmlkapbojeaaDoorG3
namespace Go.Proofs.YtaljmlkapbojeaaDoor
open Go.RowKit

theorem spare_bd {gn bn : Nat} {G H : Nat → Nat → Int} (ok : Ok gn bn G H) (s : Int) : -8000000 ≤ M.spareF gn bn G H s ∧ M.spareF gn bn G H s ≤ 10000000 := by
  have h1 := needs_bd ok s (Nat.le_refl _)
  have h2 := have_bd ok s (Nat.le_refl _)
  unfold M.spareF
  omega

set_option maxRecDepth 100000 in
set_option maxHeartbeats 2000000 in
theorem spare_any (gA bA : Option Addr) (gn gc bn bc B : Nat) (G H : Nat → Nat → Int) (s : Int) (w : World) (ok : Ok gn bn G H) (hR : BookRd w B gA gn G bA bn H) (hB : B ≤ w.heap.size) :
    Calls Tryd.prog 35 #[.agg #[.slice gA gn gc, .slice bA bn bc], .int .i64 s] w fun e w' => e = .returned (.int .i64 (M.spareF gn bn G H s)) ∧ Below w.heap.size w w' := by
  have hn := ok.1
  have nb := needs_bd ok s (Nat.le_refl _)
  obtain ⟨nd, hnd⟩ : ∃ nd, nd = M.needsF bn H s := ⟨_, rfl⟩
  rw [← hnd] at nb
  have HND := Lib.hid hnd
  clear hnd
  go_enter Tryd.func35, Tryd.ntmps35
  go_wp2_with (go_at_call 49; refine (needs_any _ _ _ _ _ _ B G H s _ ok (by exact hR.below ((belowAlloc _ _).mono hB)) (by simp; omega)).mono ?_; rw [← HND.out]; rintro e w1 ⟨rfl, hb1⟩; have HB1 := Lib.hid hb1; clear hb1)
  have hw1 := HB1.out
  simp only [size_alloc] at hw1
  clear HB1
  go_loopw [5, 6] (fun n i wr => ∃ k : Nat, k ≤ gn ∧ i = .int .i64 k ∧ n = .int .i64 (M.haveF k bn G H s - nd) ∧ Below (w.heap.size + 1) (w.alloc (.cells #[.slice gA gn gc, .slice bA bn bc] 25)) wr) (fun _ i _ => gn - (intOf i).toNat)
  case atStart => exact ⟨0, Nat.zero_le _, rfl, by simp [M.haveF, M.sumTo], hw1⟩
  case round =>
    clear hw1
    obtain ⟨k, hk, rfl, rfl, hbw⟩ := hrel
    have q0 := box_cell hbw 0
    have q1 := box_cell hbw 1
    have qs := box_size hbw
    have HW := Lib.hid hbw
    by_cases hlt : k < gn
    · have hR' := hR.below ((box_below hbw).mono hB)
      obtain ⟨b, off, rfl, hb, c0, c1, c2⟩ := hR'.1.at3 hlt
      have hbs : b < wr.heap.size := by omega
      have hv := have_bd ok s hk
      have hgk := ok.2.2.1 k hlt
      have e1 : M.haveF (k + 1) bn G H s = M.haveF k bn G H s + M.sel (M.helpsF bn G H k s) (G k 2) := rfl
      have E1 := Lib.hid e1
      have HR' := Lib.hid hR'
      have OK := Lib.hid ok
      clear hbw hR e1 hR' ok
      cases hh : M.helpsF bn G H k s
      all_goals
        have HH := Lib.hid hh
        clear hh
        go_wp2_with (go_at_call 46; refine (helps_any _ _ _ _ _ _ B G H k s _ OK.out HR'.out (by omega) hlt).mono ?_; rw [HH.out]; rintro e w2 ⟨rfl, hb2⟩; obtain ⟨hc2, hf2⟩ := bcell hb2; have p0 := (hc2 w.heap.size 0 (by omega)).trans q0; have p2 := (hc2 b (off + k * 3 + 2) (by omega)).trans c2; clear hc2 hf2; have HB2 := Lib.hid hb2; clear hb2)
        go_roundw
        case rel => exact ⟨k + 1, by omega, by go_num, by (rw [E1.out, HH.out]) <;> simp only [M.sel] <;> first | (simp; done) | go_num, HW.out.trans (HB2.out.mono (by omega))⟩
        case measure => simp [intOf]; omega
    · obtain rfl : k = gn := by omega
      clear hbw
      go_wp2_with fail
      go_ret
      exact ⟨ret_int (by unfold M.spareF; rw [HND.out]), box_below HW.out⟩

set_option maxRecDepth 100000 in
set_option maxHeartbeats 2000000 in
theorem paid_any (gA bA : Option Addr) (gn gc bn bc B : Nat) (G H : Nat → Nat → Int) (w : World) (ok : Ok gn bn G H) (hR : BookRd w B gA gn G bA bn H) (hB : B ≤ w.heap.size) :
    Calls Tryd.prog 28 #[.agg #[.slice gA gn gc, .slice bA bn bc]] w fun e w' => e = .returned (.bool (M.paidF gn bn G H)) ∧ Below w.heap.size w w' := by
  have hn := ok.2.1
  have hp : 2 ^ bn ≤ 2 ^ 8 := Nat.pow_le_pow_right (by omega) hn
  have u1 : IntKind.u64.wrap (bn : Int) = bn := by rw [IntKind.wrap_u64]; omega
  have u2 : min bn 64 = bn := by omega
  have u3 := (pow_wrap (g := bn) (by omega)).1
  have u4 := (pow_wrap (g := bn) (by omega)).2
  obtain ⟨q, hq⟩ : ∃ q, q = 2 ^ bn := ⟨_, rfl⟩
  rw [← hq] at hp u3 u4
  have HQ := Lib.hid hq
  clear hq
  go_enter Tryd.func28, Tryd.ntmps28
  go_wp2_with fail
  go_loopw [3] (fun i wr => ∃ k : Nat, k ≤ q ∧ i = .int .i64 k ∧ (M.allTo k fun s => decide (0 ≤ M.spareF gn bn G H s)) = true ∧ Below (w.heap.size + 1) (w.alloc (.cells #[.slice gA gn gc, .slice bA bn bc] 25)) wr) (fun i _ => q - (intOf i).toNat)
  case atStart => exact ⟨0, Nat.zero_le _, rfl, rfl, Below.refl _ _⟩
  case round =>
    obtain ⟨k, hk, rfl, hf, hbw⟩ := hrel
    have HF := Lib.hid hf
    clear hf
    have b0 := box_cell hbw 0
    have b1 := box_cell hbw 1
    have hsz := box_size hbw
    have HW := Lib.hid hbw
    have HR' := Lib.hid (hR.below ((box_below hbw).mono hB))
    have OK := Lib.hid ok
    clear hbw hR ok
    by_cases hlt : k < q
    · cases hc : decide (0 ≤ M.spareF gn bn G H k)
      all_goals
        have HC := Lib.hid hc
        have hc' := hc
        simp only [decide_eq_true_eq, decide_eq_false_iff_not, Int.not_le] at hc'
        clear hc
        obtain ⟨mv, hmv⟩ : ∃ mv, mv = M.spareF gn bn G H k := ⟨_, rfl⟩
        rw [← hmv] at hc'
        have HM := Lib.hid hmv
        clear hmv
        go_wp2_with (go_at_call 35; refine (spare_any _ _ _ _ _ _ B G H _ _ OK.out HR'.out (by omega)).mono ?_; rw [← HM.out]; rintro e w2 ⟨rfl, hb2⟩; have HB2 := Lib.hid hb2; clear hb2)
      · go_ret
        refine ⟨ret_bool (Eq.symm ?_), (box_below HW.out).trans (HB2.out.mono (by omega))⟩
        rw [← Bool.not_eq_true, M.paidF, ← HQ.out, M.allTo_iff]
        intro h
        have := h k hlt
        rw [HC.out] at this
        cases this
      · go_roundw
        case rel => exact ⟨k + 1, by omega, by go_num, by simp [M.allTo, HF.out, HC.out], HW.out.trans (HB2.out.mono (by omega))⟩
        case measure => simp [intOf]; omega
    · obtain rfl : k = q := by omega
      go_wp2_with fail
      go_ret
      exact ⟨ret_bool (by unfold M.paidF; rw [← HQ.out, HF.out]), box_below HW.out⟩
end Go.Proofs.YtaljmlkapbojeaaDoor
