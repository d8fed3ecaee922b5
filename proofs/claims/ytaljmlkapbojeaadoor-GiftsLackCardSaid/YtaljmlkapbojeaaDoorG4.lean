/- Contracts of the program's Check and of what it calls. -/
import Derived.Test.YtaljmlkapbojeaaDoorG2
namespace Go.Proofs.YtaljmlkapbojeaaDoor
open Go.RowKit

set_option maxHeartbeats 400000 in
theorem within_any (n a b : Int) (w : World) :
    Calls Tryd.prog 37 #[.int .i64 n, .int .i64 a, .int .i64 b] w fun e w' => e = .returned (.bool (M.within n a b)) ∧ w = w' := by
  by_cases h1 : a ≤ n <;> by_cases h2 : n ≤ b
  all_goals
    go_enter Tryd.func37, Tryd.ntmps37
    go_wp2_with fail
    go_ret
    exact ⟨ret_bool (by simp [M.within, h1, h2]), rfl⟩

/-- What IndexFunc says of a test: a place from 0 on, if some element meets it. -/
def Idx (n : Nat) (p : Nat → Bool) (w : World) (e : Ending) (w' : World) : Prop := ∃ r : Int, e = .returned (.int .i64 r) ∧ decide (0 ≤ r) = M.anyTo n p ∧ Below w.heap.size w w'

set_option maxHeartbeats 400000 in
theorem chk1_any (x0 x1 x2 : Int) (w : World) :
    Calls Tryd.prog 36 #[.agg #[.int .i64 x0, .int .i64 x1, .int .i64 x2]] w fun e w' => e = .returned (.bool (!(M.within x0 0 255 && M.within x1 0 99999 && M.within x2 0 1000000))) ∧ Below w.heap.size w w' := by
  cases h0 : M.within x0 0 255 <;> cases h1 : M.within x1 0 99999 <;> cases h2 : M.within x2 0 1000000
  all_goals
    go_enter Tryd.func36, Tryd.ntmps36
    go_wp2_with (go_at_call 37; refine (within_any _ _ _ _).mono ?_; rintro e w1 ⟨rfl, rfl⟩)
    go_ret
    exact ⟨rfl, belowAlloc _ _⟩

set_option maxHeartbeats 400000 in
theorem idx1_any (A : Option Addr) (n c B : Nat) (G : Nat → Nat → Int) (w : World) (hn : n ≤ maxLen) (hR : Rd w B A 3 n G) (hB : B ≤ w.heap.size) :
    Calls Tryd.prog 50 #[.slice A n c, .func (.func 36) #[] #[]] w (Idx n (fun i => !M.okG G i) w) := by
  unfold maxLen at hn
  go_enter Tryd.func50, Tryd.ntmps50
  go_wp2_with fail
  go_loopw [5, 8] (fun _ i wr => ∃ k : Nat, k ≤ n ∧ i = .int .i64 k ∧ M.anyTo k (fun i => !M.okG G i) = false ∧ Below w.heap.size w wr) (fun _ i _ => n - (intOf i).toNat)
  case atStart => exact ⟨0, Nat.zero_le _, rfl, rfl, Below.refl _ _⟩
  case round =>
    obtain ⟨k, hk, rfl, hf, hbw⟩ := hrel
    have HF := Lib.hid hf
    clear hf
    have HW := Lib.hid hbw
    by_cases hlt : k < n
    · obtain ⟨b, off, rfl, hb, c0, c1, c2⟩ := (hR.below (hbw.mono hB)).at3 hlt
      have hsz := hbw.size
      clear hbw hR
      cases hok : (M.within (G k 0) 0 255 && M.within (G k 1) 0 99999 && M.within (G k 2) 0 1000000)
      all_goals
        have HO := Lib.hid hok
        clear hok
        go_wp2_with (go_at_call 36; refine (chk1_any _ _ _ _).mono ?_; rw [HO.out]; rintro e w1 ⟨rfl, hb1⟩; have HB1 := Lib.hid hb1; clear hb1)
      · go_ret
        refine ⟨_, rfl, ?_, HW.out.trans (HB1.out.mono hsz)⟩
        rw [show M.anyTo n (fun i => !M.okG G i) = true from M.anyTo_iff.2 ⟨k, hlt, by unfold M.okG; rw [HO.out]; rfl⟩]
        simp
      · go_roundw
        case rel => exact ⟨k + 1, by omega, by go_num, by simp only [M.anyTo, HF.out]; unfold M.okG; rw [HO.out]; rfl, HW.out.trans (HB1.out.mono hsz)⟩
        case measure => simp [intOf]; omega
    · obtain rfl : k = n := by omega
      clear hbw
      go_wp2_with fail
      go_ret
      exact ⟨_, rfl, by rw [HF.out]; rfl, HW.out⟩

set_option maxHeartbeats 400000 in
theorem con1_any (A : Option Addr) (n c B : Nat) (G : Nat → Nat → Int) (w : World) (hn : n ≤ maxLen) (hR : Rd w B A 3 n G) (hB : B ≤ w.heap.size) :
    Calls Tryd.prog 39 #[.slice A n c, .func (.func 36) #[] #[]] w fun e w' => e = .returned (.bool (M.anyTo n fun i => !M.okG G i)) ∧ Below w.heap.size w w' := by
  go_enter Tryd.func39, Tryd.ntmps39
  go_wp2_with (go_at_call 50; refine (idx1_any _ _ _ _ _ _ hn hR hB).mono ?_; rintro e w1 ⟨r, rfl, hr, hb⟩; have HR := Lib.hid hr; clear hr)
  go_ret
  exact ⟨ret_bool HR.out, hb⟩

set_option maxHeartbeats 400000 in
theorem chk2_any (x0 x1 x2 : Int) (w : World) :
    Calls Tryd.prog 38 #[.agg #[.int .i64 x0, .int .i64 x1, .int .i64 x2]] w fun e w' => e = .returned (.bool (!(M.within x0 0 7 && M.within x1 0 99999 && M.within x2 0 1000000))) ∧ Below w.heap.size w w' := by
  cases h0 : M.within x0 0 7 <;> cases h1 : M.within x1 0 99999 <;> cases h2 : M.within x2 0 1000000
  all_goals
    go_enter Tryd.func38, Tryd.ntmps38
    go_wp2_with (go_at_call 37; refine (within_any _ _ _ _).mono ?_; rintro e w1 ⟨rfl, rfl⟩)
    go_ret
    exact ⟨rfl, belowAlloc _ _⟩

set_option maxHeartbeats 400000 in
theorem idx2_any (A : Option Addr) (n c B : Nat) (G : Nat → Nat → Int) (w : World) (hn : n ≤ maxLen) (hR : Rd w B A 3 n G) (hB : B ≤ w.heap.size) :
    Calls Tryd.prog 51 #[.slice A n c, .func (.func 38) #[] #[]] w (Idx n (fun i => !M.okB G i) w) := by
  unfold maxLen at hn
  go_enter Tryd.func51, Tryd.ntmps51
  go_wp2_with fail
  go_loopw [5, 8] (fun _ i wr => ∃ k : Nat, k ≤ n ∧ i = .int .i64 k ∧ M.anyTo k (fun i => !M.okB G i) = false ∧ Below w.heap.size w wr) (fun _ i _ => n - (intOf i).toNat)
  case atStart => exact ⟨0, Nat.zero_le _, rfl, rfl, Below.refl _ _⟩
  case round =>
    obtain ⟨k, hk, rfl, hf, hbw⟩ := hrel
    have HF := Lib.hid hf
    clear hf
    have HW := Lib.hid hbw
    by_cases hlt : k < n
    · obtain ⟨b, off, rfl, hb, c0, c1, c2⟩ := (hR.below (hbw.mono hB)).at3 hlt
      have hsz := hbw.size
      clear hbw hR
      cases hok : (M.within (G k 0) 0 7 && M.within (G k 1) 0 99999 && M.within (G k 2) 0 1000000)
      all_goals
        have HO := Lib.hid hok
        clear hok
        go_wp2_with (go_at_call 38; refine (chk2_any _ _ _ _).mono ?_; rw [HO.out]; rintro e w1 ⟨rfl, hb1⟩; have HB1 := Lib.hid hb1; clear hb1)
      · go_ret
        refine ⟨_, rfl, ?_, HW.out.trans (HB1.out.mono hsz)⟩
        rw [show M.anyTo n (fun i => !M.okB G i) = true from M.anyTo_iff.2 ⟨k, hlt, by unfold M.okB; rw [HO.out]; rfl⟩]
        simp
      · go_roundw
        case rel => exact ⟨k + 1, by omega, by go_num, by simp only [M.anyTo, HF.out]; unfold M.okB; rw [HO.out]; rfl, HW.out.trans (HB1.out.mono hsz)⟩
        case measure => simp [intOf]; omega
    · obtain rfl : k = n := by omega
      clear hbw
      go_wp2_with fail
      go_ret
      exact ⟨_, rfl, by rw [HF.out]; rfl, HW.out⟩

set_option maxHeartbeats 400000 in
theorem con2_any (A : Option Addr) (n c B : Nat) (G : Nat → Nat → Int) (w : World) (hn : n ≤ maxLen) (hR : Rd w B A 3 n G) (hB : B ≤ w.heap.size) :
    Calls Tryd.prog 40 #[.slice A n c, .func (.func 38) #[] #[]] w fun e w' => e = .returned (.bool (M.anyTo n fun i => !M.okB G i)) ∧ Below w.heap.size w w' := by
  go_enter Tryd.func40, Tryd.ntmps40
  go_wp2_with (go_at_call 51; refine (idx2_any _ _ _ _ _ _ hn hR hB).mono ?_; rintro e w1 ⟨r, rfl, hr, hb⟩; have HR := Lib.hid hr; clear hr)
  go_ret
  exact ⟨ret_bool HR.out, hb⟩
end Go.Proofs.YtaljmlkapbojeaaDoor
