/- Contracts of the program's Check. -/
import Derived.Test.YtaljmlkapbojeaaDoorG4
namespace Go.Proofs.YtaljmlkapbojeaaDoor
open Go.RowKit

set_option maxHeartbeats 400000 in
theorem check_any (gA bA : Option Addr) (gn gc bn bc B : Nat) (G H : Nat → Nat → Int) (w : World) (hg : gn ≤ maxLen) (hb : bn ≤ maxLen) (hR : BookRd w B gA gn G bA bn H) (hB : B ≤ w.heap.size) :
    Calls Tryd.prog 14 #[.agg #[.slice gA gn gc, .slice bA bn bc]] w fun e w' => e = .returned (.int .i64 (M.chkN gn bn G H)) ∧ Below w.heap.size w w' := by
  by_cases h1 : gn ≤ 10
  · by_cases h2 : bn ≤ 8
    · cases h3 : M.allTo gn (M.okG G)
      · go_enter Tryd.func14, Tryd.ntmps14
        have H3 := Lib.hid h3
        clear h3
        go_wp2_with (go_at_call 39; refine (con1_any _ _ _ _ _ _ hg (hR.1.below (belowAlloc _ _ |>.mono hB)) (by simp; omega)).mono ?_; rw [M.allTo_not, H3.out]; rintro e w1 ⟨rfl, hb1⟩; have HB1 := Lib.hid hb1; clear hb1)
        go_ret
        exact ⟨ret_int (by simp [M.chkN, M.okF, H3.out]), (belowAlloc _ _).trans (HB1.out.mono (by simp))⟩
      · cases h4 : M.allTo bn (M.okB H)
        all_goals
          go_enter Tryd.func14, Tryd.ntmps14
          have H3 := Lib.hid h3
          clear h3
          have H4 := Lib.hid h4
          clear h4
          go_wp2_with (go_at_call 39; refine (con1_any _ _ _ _ _ _ hg (hR.1.below (belowAlloc _ _ |>.mono hB)) (by simp; omega)).mono ?_; rw [M.allTo_not, H3.out]; rintro e w1 ⟨rfl, hb1⟩; have HB1 := Lib.hid hb1; obtain ⟨hc, hf⟩ := bcell hb1; clear hb1)
          go_wp2_with (go_at_call 40; refine (con2_any _ _ _ _ _ _ hb (hR.2.below ((belowAlloc _ _ |>.mono hB).trans (HB1.out.mono (by simp; omega)))) (by have := HB1.out.size; simp at this; omega)).mono ?_; rw [M.allTo_not, H4.out]; rintro e w2 ⟨rfl, hb2⟩; have HB2 := Lib.hid hb2; clear hb2)
          go_ret
          exact ⟨ret_int (by simp [M.chkN, M.okF, H3.out, H4.out, h1, h2]), (belowAlloc _ _).trans ((HB1.out.mono (by simp)).trans (HB2.out.mono (by have := HB1.out.size; simp at this; omega)))⟩
    · go_enter Tryd.func14, Tryd.ntmps14
      go_wp2_with fail
      go_ret
      exact ⟨ret_int (by simp [M.chkN, M.okF, h2]), belowAlloc _ _⟩
  · go_enter Tryd.func14, Tryd.ntmps14
    go_wp2_with fail
    go_ret
    exact ⟨ret_int (by simp [M.chkN, M.okF, h1]), belowAlloc _ _⟩
end Go.Proofs.YtaljmlkapbojeaaDoor
