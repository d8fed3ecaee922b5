/- Contracts of the reference's Check and of Thick. -/
import Derived.Test.YtaljmlkapbojeaaDoorG3
import Derived.Test.YtaljmlkapbojeaaDoorG5
namespace Go.Proofs.YtaljmlkapbojeaaDoor
open Go.RowKit

set_option maxHeartbeats 2000000 in
theorem rcheck_any (gA bA : Option Addr) (gn gc bn bc B : Nat) (G H : Nat → Nat → Int) (w : World) (hg : gn ≤ maxLen) (hb : bn ≤ maxLen) (hR : BookRd w B gA gn G bA bn H) (hB : B ≤ w.heap.size) :
    Calls Tryd.prog 15 #[.agg #[.slice gA gn gc, .slice bA bn bc]] w fun e w' => e = .returned (.int .i64 (M.chkN gn bn G H)) ∧ Below w.heap.size w w' := by
  unfold maxLen at hg hb
  by_cases h1 : gn ≤ 10
  · by_cases h2 : bn ≤ 8
    · go_enter Tryd.func15, Tryd.ntmps15
      go_wp2_with fail
      go_loopw [3, 4] (fun i _ wr => ∃ k : Nat, k ≤ gn ∧ i = .int .i64 k ∧ M.allTo k (M.okG G) = true ∧ Below (w.heap.size + 1) (w.alloc (.cells #[.slice gA gn gc, .slice bA bn bc] 25)) wr) (fun i _ _ => gn - (intOf i).toNat)
      case atStart => exact ⟨0, Nat.zero_le _, rfl, rfl, Below.refl _ _⟩
      case round =>
        obtain ⟨k, hk, rfl, hf, hbw⟩ := hrel
        have HF := Lib.hid hf
        clear hf
        have HW := Lib.hid hbw
        have q0 := box_cell hbw 0
        have q1 := box_cell hbw 1
        have qs := box_size hbw
        by_cases hlt : k < gn
        · obtain ⟨b, off, rfl, hb', c0, c1, c2⟩ := (hR.1.below ((box_below hbw).mono hB)).at3 hlt
          have hbs : b < wr.heap.size := by omega
          clear hbw hR
          cases h0 : M.within (G k 0) 0 255 <;> cases h1' : M.within (G k 1) 0 99999 <;> cases h2' : M.within (G k 2) 0 1000000
          all_goals
            go_wp2_with (go_at_call 41; refine (from_any _ _ _ _).mono ?_; rintro e w1 ⟨rfl, rfl⟩)
            first
            | go_ret
              refine ⟨ret_int ?_, (box_below HW.out).alloc (by omega) _⟩
              have : M.okF gn bn G H = false := by
                refine Bool.eq_false_iff.2 fun h => ?_
                unfold M.okF at h
                simp only [Bool.and_eq_true, decide_eq_true_eq] at h
                have h3 := M.allTo_iff.1 h.1.2 k hlt
                simp [M.okG, h0, h1', h2'] at h3
              simp [M.chkN, this]
            | go_roundw
              case rel => exact ⟨k + 1, by omega, by go_num, by simp [M.allTo, HF.out, M.okG, h0, h1', h2'], HW.out.alloc (by omega) _⟩
              case measure => simp [intOf]; omega
        · obtain rfl : k = gn := by omega
          clear hbw
          go_wp2_with fail
          go_loopw [5, 6] (fun i _ wr => ∃ k' : Nat, k' ≤ bn ∧ i = .int .i64 k' ∧ M.allTo k' (M.okB H) = true ∧ Below (w.heap.size + 1) (w.alloc (.cells #[.slice gA k gc, .slice bA bn bc] 25)) wr) (fun i _ _ => bn - (intOf i).toNat)
          case atStart => exact ⟨0, Nat.zero_le _, rfl, rfl, HW.out⟩
          case round =>
            clear q0 q1 qs HW
            obtain ⟨k', hk', rfl, hf', hbw⟩ := hrel
            have HF' := Lib.hid hf'
            clear hf'
            have HW := Lib.hid hbw
            have q0 := box_cell hbw 0
            have q1 := box_cell hbw 1
            have qs := box_size hbw
            by_cases hlt' : k' < bn
            · obtain ⟨b, off, rfl, hb', c0, c1, c2⟩ := (hR.2.below ((box_below hbw).mono hB)).at3 hlt'
              have hbs : b < wr.heap.size := by omega
              clear hbw hR
              cases h0 : M.within (H k' 0) 0 7 <;> cases h1' : M.within (H k' 1) 0 99999 <;> cases h2' : M.within (H k' 2) 0 1000000
              all_goals
                go_wp2_with (go_at_call 41; refine (from_any _ _ _ _).mono ?_; rintro e w1 ⟨rfl, rfl⟩)
                first
                | go_ret
                  refine ⟨ret_int ?_, (box_below HW.out).alloc (by omega) _⟩
                  have : M.okF k bn G H = false := by
                    refine Bool.eq_false_iff.2 fun h => ?_
                    unfold M.okF at h
                    simp only [Bool.and_eq_true, decide_eq_true_eq] at h
                    have h3 := M.allTo_iff.1 h.2 k' hlt'
                    simp [M.okB, h0, h1', h2'] at h3
                  simp [M.chkN, this]
                | go_roundw
                  case rel => exact ⟨k' + 1, by omega, by go_num, by simp [M.allTo, HF'.out, M.okB, h0, h1', h2'], HW.out.alloc (by omega) _⟩
                  case measure => simp [intOf]; omega
            · obtain rfl : k' = bn := by omega
              clear hbw
              go_wp2_with fail
              go_ret
              exact ⟨ret_int (by simp [M.chkN, M.okF, HF.out, HF'.out, h1, h2]), box_below HW.out⟩
    · go_enter Tryd.func15, Tryd.ntmps15
      go_wp2_with fail
      go_ret
      exact ⟨ret_int (by simp [M.chkN, M.okF, h2]), belowAlloc _ _⟩
  · go_enter Tryd.func15, Tryd.ntmps15
    go_wp2_with fail
    go_ret
    exact ⟨ret_int (by simp [M.chkN, M.okF, h1]), belowAlloc _ _⟩

def thickF (gn bn : Nat) (ok : Bool) : Bool := decide (12 < gn) || decide (10 < bn) || (ok && (decide (6 < gn) || decide (6 < bn)))

set_option maxHeartbeats 1000000 in
theorem thick_any (gA bA : Option Addr) (gn gc bn bc B : Nat) (G H : Nat → Nat → Int) (w : World) (hg : gn ≤ maxLen) (hb : bn ≤ maxLen) (hR : BookRd w B gA gn G bA bn H) (hB : B ≤ w.heap.size) :
    Calls Tryd.prog 7 #[.agg #[.slice gA gn gc, .slice bA bn bc]] w fun e w' => e = .returned (.bool (thickF gn bn (M.okF gn bn G H))) ∧ Below w.heap.size w w' := by
  by_cases h1 : 12 < gn
  · go_enter Tryd.func7, Tryd.ntmps7
    go_wp2_with fail
    go_ret
    exact ⟨ret_bool (by simp [thickF, h1]), belowAlloc _ _⟩
  · by_cases h2 : 10 < bn
    · go_enter Tryd.func7, Tryd.ntmps7
      go_wp2_with fail
      go_ret
      exact ⟨ret_bool (by simp [thickF, h1, h2]), belowAlloc _ _⟩
    · cases hk : M.okF gn bn G H
      · have hc : M.chkN gn bn G H = 110 := by simp [M.chkN, hk]
        go_enter Tryd.func7, Tryd.ntmps7
        go_wp2_with (go_at_call 15; refine (rcheck_any _ _ _ _ _ _ B _ _ _ hg hb (hR.below (belowAlloc _ _ |>.mono hB)) (by simp; omega)).mono ?_; rw [hc]; rintro e w1 ⟨rfl, hb1⟩; have HB1 := Lib.hid hb1; clear hb1)
        go_ret
        exact ⟨ret_bool (by simp [thickF, h1, h2]), (belowAlloc _ _).trans (HB1.out.mono (by simp))⟩
      · have hc : M.chkN gn bn G H = 0 := by simp [M.chkN, hk]
        by_cases h3 : 6 < gn <;> by_cases h4 : 6 < bn
        all_goals
          go_enter Tryd.func7, Tryd.ntmps7
          go_wp2_with (go_at_call 15; refine (rcheck_any _ _ _ _ _ _ B _ _ _ hg hb (hR.below (belowAlloc _ _ |>.mono hB)) (by simp; omega)).mono ?_; rw [hc]; rintro e w1 ⟨rfl, hb1⟩; obtain ⟨hcc, hff⟩ := bcell hb1; have HB1 := Lib.hid hb1; clear hb1)
          go_ret
          exact ⟨ret_bool (by simp [thickF, h1, h2, h3, h4] <;> omega), (belowAlloc _ _).trans (HB1.out.mono (by simp))⟩
end Go.Proofs.YtaljmlkapbojeaaDoor
