/- Legs: what is tested of one. -/
import Derived.Test.YtkdpmihdhiokkaaDoorK7
import Derived.Test.YtkdpmihdhiokkaaDoorLaC
import Derived.Test.YtkdpmihdhiokkaaDoorSeq
namespace Go.Proofs.YtkdpmihdhiokkaaDoor
open Go.RowKit

theorem lwithin_any (n lo hi : Int) (w : World) :
    Calls Tryd.prog 45 #[.int .i64 n, .int .i64 lo, .int .i64 hi] w fun e w' => e = .returned (.bool (M.inB lo hi n)) ∧ w' = w := by
  unfold M.inB
  by_cases h1 : lo ≤ n
  · have g1 : decide (n < lo) = false := decide_eq_false (by omega)
    go_enter Tryd.func45, Tryd.ntmps45
    go_wp2_with fail
    go_ret
    exact ⟨ret_bool (by simp [h1]), rfl⟩
  · have g1 : decide (n < lo) = true := decide_eq_true (by omega)
    go_enter Tryd.func45, Tryd.ntmps45
    go_wp2_with fail
    go_ret
    exact ⟨ret_bool (by simp; omega), rfl⟩
theorem kind_any (lv dr : Int) (w : World) :
    Calls Tryd.prog 84 #[.int .i64 lv, .int .i64 dr] w fun e w' => e = .returned (.bool (M.unit lv dr)) ∧ w' = w := by
  rw [M.unit_if]
  by_cases h : lv = 0
  · rw [if_pos h]
    have g1 : (lv == 0) = true := by rw [beq_iff_eq]; exact h
    clear h
    go_enter Tryd.func84, Tryd.ntmps84
    go_wp2_with (go_at_call 45; refine (lwithin_any _ _ _ _).mono ?_; rintro e w1 ⟨rfl, rfl⟩)
    go_ret
    exact ⟨rfl, rfl⟩
  · rw [if_neg h]
    have g1 : (lv == 0) = false := by rw [beq_eq_false_iff_ne]; exact h
    clear h
    cases hi : M.inB 1 3 lv
    all_goals
      go_enter Tryd.func84, Tryd.ntmps84
      go_wp2_with (go_at_call 45; refine (lwithin_any _ _ _ _).mono ?_; rintro e w1 ⟨rfl, rfl⟩)
      go_ret
      exact ⟨ret_bool (by simp [hi]; try rfl), rfl⟩
section
variable (x nd nt dc tc : Nat) (dA tA : Option Addr) (w : World) (h2 : w.cell? ⟨x, 2, none⟩ = some (.slice dA nd dc)) (h3 : w.cell? ⟨x, 3, none⟩ = some (.slice tA nt tc)) (hn : (1 ≤ nd ∧ nd ≤ 144) ∧ 1 ≤ nt ∧ nt ≤ 60)
include h3 hn in
theorem tick_any (n : Int) :
    Calls Tryd.prog 83 #[.pointer (some ⟨x, 0, none⟩), .int .i64 n] w fun e w' => e = .returned (.bool (M.inB 0 ((nt : Int) - 1) n)) ∧ w' = w := by
  obtain ⟨_, k1, k2⟩ := hn
  go_enter Tryd.func83, Tryd.ntmps83
  go_wp2_with (go_at_call 45; refine (lwithin_any _ _ _ _).mono ?_; rintro e w1 ⟨rfl, rfl⟩)
  go_ret
  exact ⟨rfl, rfl⟩
include h2 hn in
theorem cell_any (n : Int) :
    Calls Tryd.prog 46 #[.pointer (some ⟨x, 0, none⟩), .int .i64 n] w fun e w' => e = .returned (.bool (M.inB 0 ((nd : Int) - 1) n)) ∧ w' = w := by
  obtain ⟨⟨k1, k2⟩, _⟩ := hn
  go_enter Tryd.func46, Tryd.ntmps46
  go_wp2_with (go_at_call 45; refine (lwithin_any _ _ _ _).mono ?_; rintro e w1 ⟨rfl, rfl⟩)
  go_ret
  exact ⟨rfl, rfl⟩
include h2 hn in
theorem allcells_any (A : Option Addr) (n c B : Nat) (f : Nat → Int) (hm : n ≤ maxLen) (hR : Rd1 w B A n f) :
    Calls Tryd.prog 97 #[.slice A n c, .func (.func 46) #[.pointer (some ⟨x, 0, none⟩)] #[]] w fun e w' => e = .returned (.bool (M.allTo n fun i => M.inB 0 ((nd : Int) - 1) (f i))) ∧ w' = w := by
  unfold maxLen at hm
  have HC := Lib.hid (fun n => cell_any x nd nt dc dA w h2 hn n)
  have HR := Lib.hid hR
  clear h2 hR
  go_enter Tryd.func97, Tryd.ntmps97
  go_wp2_with fail
  go_loopw [9] (fun i wr => ∃ k : Nat, k ≤ n ∧ i = .int .i64 k ∧ M.allTo k (fun i => M.inB 0 ((nd : Int) - 1) (f i)) = true ∧ wr = w) (fun i _ => n - (intOf i).toNat)
  case atStart => exact ⟨0, Nat.zero_le _, rfl, rfl, rfl⟩
  case round =>
    obtain ⟨k, hk, rfl, hf, rfl⟩ := hrel
    have HF := Lib.hid hf
    clear hf
    by_cases hlt : k < n
    · obtain ⟨b, off, rfl, hb, c0⟩ := HR.out.at_ hlt
      cases hp : M.inB 0 ((nd : Int) - 1) (f k)
      · have HP := Lib.hid hp
        clear hp
        go_wp2_with (go_at_call 46; refine (HC.out _).mono ?_; rw [HP.out]; rintro e w1 ⟨rfl, rfl⟩)
        go_ret
        refine ⟨ret_bool ?_, rfl⟩
        cases ha : M.allTo n (fun i => M.inB 0 ((nd : Int) - 1) (f i))
        · rfl
        · have := M.allTo_iff.1 ha k hlt
          rw [HP.out] at this; cases this
      · have HP := Lib.hid hp
        clear hp
        go_wp2_with (go_at_call 46; refine (HC.out _).mono ?_; rw [HP.out]; rintro e w1 ⟨rfl, rfl⟩)
        go_roundw
        case rel => exact ⟨k + 1, by omega, by go_num, by simp [M.allTo, HF.out, HP.out], by first | rfl | trivial⟩
        case measure => simp [intOf]; omega
    · obtain rfl : k = n := by omega
      go_wp2_with fail
      go_ret
      exact ⟨ret_bool HF.out.symm, rfl⟩
end
end Go.Proofs.YtkdpmihdhiokkaaDoor
