/- heard, IsRadio. -/
import Derived.Test.YtbjggnecfppjgaaDoorS3
namespace Go.Proofs.YtbjggnecfppjgaaDoor
open Go.RowKit

theorem radF {wn n k : Nat} {f g : Nat → ByteArray} {e : Int} (hk : k < n) (h : M.radAt wn f g k = false) : M.isR wn f n g e = false := by
  refine Bool.eq_false_iff.2 fun h1 => ?_
  unfold M.isR at h1
  simp only [Bool.and_eq_true] at h1
  have := M.allTo_iff.1 h1.2 k hk
  rw [h] at this; cases this
theorem radBad {wn n : Nat} {f g : Nat → ByteArray} {e : Int} (h : ¬ (1 ≤ n ∧ n ≤ 8 ∧ 0 ≤ e ∧ e ≤ 12)) : M.isR wn f n g e = false := by
  refine Bool.eq_false_iff.2 fun h1 => h ?_
  unfold M.isR at h1
  simp only [Bool.and_eq_true, decide_eq_true_eq] at h1
  exact ⟨h1.1.1.1.1, h1.1.1.1.2, h1.1.1.2, h1.1.2⟩
theorem radGood {wn n : Nat} {f g : Nat → ByteArray} {e : Int} (h : 1 ≤ n ∧ n ≤ 8 ∧ 0 ≤ e ∧ e ≤ 12) : M.isR wn f n g e = M.allTo n (M.radAt wn f g) := by
  unfold M.isR
  rw [decide_eq_true h.1, decide_eq_true h.2.1, decide_eq_true h.2.2.1, decide_eq_true h.2.2.2]; rfl
/-- the bounds of a radio, decided -/
theorem rad_dec (n : Nat) (e : Int) : (1 ≤ n ∧ n ≤ 8 ∧ 0 ≤ e ∧ e ≤ 12) ∨ (¬ (1 ≤ n ∧ n ≤ 8 ∧ 0 ≤ e ∧ e ≤ 12) ∧ ((n < 1) ∨ (1 ≤ n ∧ 8 < n) ∨ (1 ≤ n ∧ n ≤ 8 ∧ e < 0) ∨ (1 ≤ n ∧ n ≤ 8 ∧ 0 ≤ e ∧ 12 < e))) := by omega
section
variable (wA gA : Option Addr) (wn wc gn gc B : Nat) (f g : Nat → ByteArray) (e : Int) (w : World) (hwn : wn ≤ 1048576) (hgn : gn ≤ 1048576) (hW : RdS w B wA wn f) (hG : RdS w B gA gn g) (hB : B ≤ w.heap.size) (hSf : ∀ i, i < wn → (f i).size ≤ 1048576) (hSg : ∀ i, i < gn → (g i).size ≤ 1048576)
include hwn hgn hW hG hB hSf hSg
set_option maxRecDepth 100000 in
set_option maxHeartbeats 3200000 in
theorem isradio_any :
    Calls Tryd.prog 10 #[.slice wA wn wc, .agg #[.slice gA gn gc, .int .i64 e]] w fun en w' => en = .returned (.bool (M.isR wn f gn g e)) ∧ Below w.heap.size w w' := by
  rcases rad_dec gn e with hgood | ⟨hbad, hcs⟩
  · have HI := Lib.hid (radGood (wn := wn) (f := f) (g := g) hgood)
    obtain ⟨h1, h2, h3, h4⟩ := hgood
    have g1 : decide ((gn : Int) < 1) = false := decide_eq_false (by omega)
    have g2 : decide ((8 : Int) < (gn : Int)) = false := decide_eq_false (by omega)
    have g3 : decide (e < 0) = false := decide_eq_false (by omega)
    have g4 : decide (12 < e) = false := decide_eq_false (by omega)
    have HSf := Lib.hid hSf
    have HSg := Lib.hid hSg
    have HW := Lib.hid hW
    have HG := Lib.hid hG
    clear hSf hSg hW hG
    go_enter Tryd.func10, Tryd.ntmps10
    go_wp2_with fail
    go_loopw [5, 6] (fun i _ wr => ∃ k : Nat, k ≤ gn ∧ i = .int .i64 k ∧ M.allTo k (M.radAt wn f g) = true ∧ wr = w.alloc (.cells #[.slice gA gn gc, .int .i64 e] 24)) (fun i _ _ => gn - (intOf i).toNat)
    case atStart => exact ⟨0, Nat.zero_le _, rfl, rfl, rfl⟩
    case round =>
      obtain ⟨k, hk, rfl, hf, rfl⟩ := hrel
      have HF := Lib.hid hf
      clear hf
      have hbl := belowAlloc w (.cells #[.slice gA gn gc, .int .i64 e] 24)
      have HBL := Lib.hid hbl
      by_cases hlt : k < gn
      · have hs0 := HSg.out k hlt
        have hs1 := HSg.out 0 (by omega)
        obtain ⟨b, off, rfl, hb, c0, c1⟩ := HG.out.at0 hlt
        have hbs : b < w.heap.size := by omega
        clear hbl
        cases hw : M.isW (g k)
        · have HX := Lib.hid (radF (e := e) hlt (show M.radAt wn f g k = false by unfold M.radAt; rw [hw]; rfl))
          have HWw := Lib.hid hw
          clear hw
          go_wp2_with (go_at_call 28; refine (isword_any _ _ (by omega)).mono ?_; rw [HWw.out]; rintro en w1 ⟨rfl, rfl⟩)
          go_ret
          exact ⟨ret_bool HX.out.symm, HBL.out⟩
        · have HWw := Lib.hid hw
          by_cases hsz : (g k).size = (g 0).size
          · have g5 : (((g k).size : Int) != ((g 0).size : Int)) = false := by rw [hsz]; simp
            by_cases hwz : wn = 0
            · have g6 : decide ((0 : Int) < (wn : Int)) = false := decide_eq_false (by omega)
              have g6n : decide (0 < wn) = false := decide_eq_false (by omega)
              have HX := Lib.hid (show M.allTo (k + 1) (M.radAt wn f g) = true by simp only [M.allTo, HF.out, Bool.true_and]; unfold M.radAt; rw [hw, decide_eq_true hsz, decide_eq_true hwz]; rfl)
              clear hw hsz hwz
              go_wp2_with (go_at_call 28; refine (isword_any _ _ (by omega)).mono ?_; rw [HWw.out]; rintro en w1 ⟨rfl, rfl⟩)
              go_roundw
              case rel => exact ⟨k + 1, by omega, by go_num, HX.out, by trivial⟩
              case measure => simp [intOf]; omega
            · have g6 : decide ((0 : Int) < (wn : Int)) = true := decide_eq_true (by omega)
              have g6n : decide (0 < wn) = true := decide_eq_true (by omega)
              have hs2 := HSf.out 0 (by omega)
              obtain ⟨wb, wo, rfl, hwb, _, d0⟩ := HW.out.at0 (show 0 < wn by omega)
              have hwbs : wb < w.heap.size := by omega
              have hwp : 0 < wn := by omega
              have g8 : decide (wn ≤ 0) = false := decide_eq_false (by omega)
              by_cases hsf : (g k).size = (f 0).size
              · have g7 : (((g k).size : Int) != ((f 0).size : Int)) = false := by rw [hsf]; simp
                have HX := Lib.hid (show M.allTo (k + 1) (M.radAt wn f g) = true by simp only [M.allTo, HF.out, Bool.true_and]; unfold M.radAt; rw [hw, decide_eq_true hsz, decide_eq_true hsf]; simp)
                clear hw hsz hwz hsf
                go_wp2_with (go_at_call 28; refine (isword_any _ _ (by omega)).mono ?_; rw [HWw.out]; rintro en w1 ⟨rfl, rfl⟩)
                go_roundw
                case rel => exact ⟨k + 1, by omega, by go_num, HX.out, by trivial⟩
                case measure => simp [intOf]; omega
              · have g7 : (((g k).size : Int) != ((f 0).size : Int)) = true := by rw [bne_iff_ne]; omega
                have HX := Lib.hid (radF (e := e) hlt (show M.radAt wn f g k = false by unfold M.radAt; rw [decide_eq_false hwz, decide_eq_false hsf]; simp))
                clear hw hsz hwz hsf
                go_wp2_with (go_at_call 28; refine (isword_any _ _ (by omega)).mono ?_; rw [HWw.out]; rintro en w1 ⟨rfl, rfl⟩)
                go_ret
                exact ⟨ret_bool HX.out.symm, HBL.out⟩
          · have g5 : (((g k).size : Int) != ((g 0).size : Int)) = true := by rw [bne_iff_ne]; omega
            have HX := Lib.hid (radF (e := e) hlt (show M.radAt wn f g k = false by unfold M.radAt; rw [decide_eq_false hsz]; simp))
            clear hw hsz
            go_wp2_with (go_at_call 28; refine (isword_any _ _ (by omega)).mono ?_; rw [HWw.out]; rintro en w1 ⟨rfl, rfl⟩)
            go_ret
            exact ⟨ret_bool HX.out.symm, HBL.out⟩
      · obtain rfl : k = gn := by omega
        clear hbl
        go_wp2_with fail
        go_ret
        exact ⟨ret_bool (by rw [HI.out, HF.out]), HBL.out⟩
  · have hx := radBad (wn := wn) (f := f) (g := g) hbad
    have HX := Lib.hid hx
    clear hx hbad hW hG hSf hSg
    rcases hcs with h | ⟨h, h2⟩ | ⟨h, h2, h3⟩ | ⟨h, h2, h3, h4⟩
    · have g1 : decide ((gn : Int) < 1) = true := decide_eq_true (by omega)
      go_enter Tryd.func10, Tryd.ntmps10
      go_wp2_with fail
      go_ret
      exact ⟨ret_bool HX.out.symm, belowAlloc _ _⟩
    · have g1 : decide ((gn : Int) < 1) = false := decide_eq_false (by omega)
      have g2 : decide ((8 : Int) < (gn : Int)) = true := decide_eq_true (by omega)
      go_enter Tryd.func10, Tryd.ntmps10
      go_wp2_with fail
      go_ret
      exact ⟨ret_bool HX.out.symm, belowAlloc _ _⟩
    · have g1 : decide ((gn : Int) < 1) = false := decide_eq_false (by omega)
      have g2 : decide ((8 : Int) < (gn : Int)) = false := decide_eq_false (by omega)
      have g3 : decide (e < 0) = true := decide_eq_true (by omega)
      go_enter Tryd.func10, Tryd.ntmps10
      go_wp2_with fail
      go_ret
      exact ⟨ret_bool HX.out.symm, belowAlloc _ _⟩
    · have g1 : decide ((gn : Int) < 1) = false := decide_eq_false (by omega)
      have g2 : decide ((8 : Int) < (gn : Int)) = false := decide_eq_false (by omega)
      have g3 : decide (e < 0) = false := decide_eq_false (by omega)
      have g4 : decide (12 < e) = true := decide_eq_true (by omega)
      go_enter Tryd.func10, Tryd.ntmps10
      go_wp2_with fail
      go_ret
      exact ⟨ret_bool HX.out.symm, belowAlloc _ _⟩
end
end Go.Proofs.YtbjggnecfppjgaaDoor
