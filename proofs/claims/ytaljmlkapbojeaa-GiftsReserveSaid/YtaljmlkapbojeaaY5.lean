/- The reference's CheckYear. -/
import Derived.Test.YtaljmlkapbojeaaY1
import Derived.Test.YtaljmlkapbojeaaG1
import Derived.Test.YtaljmlkapbojeaaOwn
import Derived.Deep.RegionHeld3
import Derived.Deep.DrawnRows
namespace Go.Proofs.Ytaljmlkapbojeaa
open Go.RowKit

/-- what each world of the region keeps -/
def KeptC (s b o : Nat) (v x0 x1 x2 x3 : Value) (w' : World) : Prop :=
  w'.cell? ⟨s, 2, none⟩ = some v ∧ w'.cell? ⟨b, o, none⟩ = some x0 ∧ w'.cell? ⟨b, o + 1, none⟩ = some x1 ∧ w'.cell? ⟨b, o + 2, none⟩ = some x2 ∧ w'.cell? ⟨b, o + 3, none⟩ = some x3
section
variable {W : World} {s b o : Nat} {v x0 x1 x2 x3 : Value}
theorem KeptC.alloc (h : KeptC s b o v x0 x1 x2 x3 W) (ob : Obj) : KeptC s b o v x0 x1 x2 x3 (W.alloc ob) := ⟨al_cell h.1, al_cell h.2.1, al_cell h.2.2.1, al_cell h.2.2.2.1, al_cell h.2.2.2.2⟩
theorem KeptC.start (h : KeptC s b o v x0 x1 x2 x3 W) : KeptC s b o v x0 x1 x2 x3 W.drew := h
end
theorem okM_eq {m : Nat → Nat → Int} {k : Nat} : M.okM m k = (M.within (m k 0) 0 (m k 1) && !decide (1000000 < m k 1) && M.within (m k 2) 0 (m k 3) && !decide (1000000 < m k 3)) := by
  refine Bool.eq_iff_iff.2 ?_
  simp only [M.okM, M.okS, M.within, Bool.and_eq_true, Bool.not_eq_true', decide_eq_true_eq, decide_eq_false_iff_not]
  omega
theorem chkY_bad {r le : Int} {n k : Nat} {m : Nat → Nat → Int} (hk : k < n) (h : M.okM m k = false) : M.chkY r le n m = 111 := by
  have : M.okY r le n m = false := by
    refine Bool.eq_false_iff.2 fun h2 => ?_
    unfold M.okY at h2
    simp only [Bool.and_eq_true] at h2
    have h3 := M.allTo_iff.1 h2.2 k hk
    rw [h] at h3
    cases h3
  simp [M.chkY, this]

set_option maxRecDepth 100000 in
set_option maxHeartbeats 6400000 in
theorem rcheckYear_any (r le : Int) (A : Option Addr) (n c B : Nat) (m : Nat → Nat → Int) (w : World) (hn : n ≤ maxLen) (hR : Rd w B A 4 n m) (hB : B ≤ w.heap.size) :
    Calls Try.prog 19 #[.agg #[.int .i64 r, .int .i64 le, .slice A n c]] w fun e w' => e = .returned (.int .i64 (M.chkY r le n m)) ∧ Below w.heap.size w w' := by
  unfold maxLen at hn
  cases h0 : M.within r 0 1000000
  · go_enter Try.func19, Try.ntmps19
    go_wp2_with (go_at_call 29; refine (from_any _ _ _ _).mono ?_; rintro e w1 ⟨rfl, rfl⟩)
    go_ret
    exact ⟨ret_int (by simp [M.chkY, M.okY, h0]), belowAlloc _ _⟩
  cases h1 : M.within le 0 r
  · go_enter Try.func19, Try.ntmps19
    go_wp2_with (go_at_call 29; refine (from_any _ _ _ _).mono ?_; rintro e w1 ⟨rfl, rfl⟩)
    go_ret
    exact ⟨ret_int (by simp [M.chkY, M.okY, h0, h1]), belowAlloc _ _⟩
  by_cases h2 : n ≤ 60
  · go_enter Try.func19, Try.ntmps19
    go_wp2_with (go_at_call 29; refine (from_any _ _ _ _).mono ?_; rintro e w1 ⟨rfl, rfl⟩)
    go_loopw [3, 4, 5] (fun i _ _ wr => ∃ k : Nat, k ≤ n ∧ i = .int .i64 k ∧ M.allTo k (M.okM m) = true ∧ Below (w.heap.size + 1) (w.alloc (.cells #[.int .i64 r, .int .i64 le, .slice A n c] 43)) wr) (fun i _ _ _ => n - (intOf i).toNat)
    case atStart => exact ⟨0, Nat.zero_le _, rfl, rfl, Below.refl _ _⟩
    case round =>
      obtain ⟨k, hk, rfl, hf, hbw⟩ := hrel
      have HF := Lib.hid hf
      clear hf
      have HW := Lib.hid hbw
      have q0 := box_cell hbw 0
      have q1 := box_cell hbw 1
      have q2 := box_cell hbw 2
      have qs := box_size hbw
      by_cases hlt : k < n
      · obtain ⟨b, off, rfl, hb', c0, c1, c2, c3⟩ := (hR.below ((box_below hbw).mono hB)).at4 hlt
        have hbs : b < wr.heap.size := by omega
        clear hbw hR
        go_wp2_with fail
        obtain ⟨W, hW⟩ : ∃ W, W = wr := ⟨_, rfl⟩
        rw [← hW] at HW q0 q1 q2 qs c0 c1 c2 c3 hbs ⊢
        clear hW
        go_region_held3 (fun w' => w'.cell? ⟨w.heap.size, 2, none⟩ = some (.slice (some ⟨b, off, none⟩) n c) ∧ w'.cell? ⟨b, off + k * 4, none⟩ = some (.int .i64 (m k 0)) ∧ w'.cell? ⟨b, off + k * 4 + 1, none⟩ = some (.int .i64 (m k 1)) ∧
            w'.cell? ⟨b, off + k * 4 + 2, none⟩ = some (.int .i64 (m k 2)) ∧ w'.cell? ⟨b, off + k * 4 + 3, none⟩ = some (.int .i64 (m k 3)))
          (first
            | assumption
            | exact KeptC.start ⟨q2, c0, c1, c2, c3⟩
            | exact KeptC.start (KeptC.alloc ⟨q2, c0, c1, c2, c3⟩ _)
            | exact KeptC.start (KeptC.alloc (KeptC.alloc ⟨q2, c0, c1, c2, c3⟩ _) _)
            | fail)
          (fail)
        all_goals
          go_split_ands
          cases g0 : M.within (m k 0) 0 (m k 1)
          · go_wp2_with (go_at_call 29; refine (from_any _ _ _ _).mono ?_; rintro e w1 ⟨rfl, rfl⟩)
            go_ret
            exact ⟨ret_int (chkY_bad hlt (by rw [okM_eq]; simp [g0])).symm, box_below (((HW.out.alloc (by omega) _).alloc (by simp; omega) _).drew)⟩
          · by_cases g1 : 1000000 < m k 1
            · go_wp2_with (go_at_call 29; refine (from_any _ _ _ _).mono ?_; rintro e w1 ⟨rfl, rfl⟩)
              go_ret
              exact ⟨ret_int (chkY_bad hlt (by rw [okM_eq]; simp [g0, g1])).symm, box_below (((HW.out.alloc (by omega) _).alloc (by simp; omega) _).drew)⟩
            · cases g2 : M.within (m k 2) 0 (m k 3)
              · go_wp2_with (go_at_call 29; refine (from_any _ _ _ _).mono ?_; rintro e w1 ⟨rfl, rfl⟩)
                go_ret
                exact ⟨ret_int (chkY_bad hlt (by rw [okM_eq]; simp [g0, g2])).symm, box_below (((HW.out.alloc (by omega) _).alloc (by simp; omega) _).drew)⟩
              · by_cases g3 : 1000000 < m k 3
                · go_wp2_with (go_at_call 29; refine (from_any _ _ _ _).mono ?_; rintro e w1 ⟨rfl, rfl⟩)
                  go_ret
                  exact ⟨ret_int (chkY_bad hlt (by rw [okM_eq]; simp [g0, g2, g3])).symm, box_below (((HW.out.alloc (by omega) _).alloc (by simp; omega) _).drew)⟩
                · go_wp2_with (go_at_call 29; refine (from_any _ _ _ _).mono ?_; rintro e w1 ⟨rfl, rfl⟩)
                  go_roundw
                  case rel => exact ⟨k + 1, by omega, by go_num, by simp only [M.allTo, HF.out, Bool.true_and]; rw [okM_eq]; simp [g0, g1, g2, g3], ((HW.out.alloc (by omega) _).alloc (by simp; omega) _).drew⟩
                  case measure => simp [intOf]; omega
      · obtain rfl : k = n := by omega
        clear hbw
        go_wp2_with fail
        go_ret
        exact ⟨ret_int (by simp [M.chkY, M.okY, h0, h1, h2, HF.out]), box_below HW.out⟩
  · go_enter Try.func19, Try.ntmps19
    go_wp2_with (go_at_call 29; refine (from_any _ _ _ _).mono ?_; rintro e w1 ⟨rfl, rfl⟩)
    go_ret
    exact ⟨ret_int (by simp [M.chkY, M.okY, h2]), belowAlloc _ _⟩
end Go.Proofs.Ytaljmlkapbojeaa
