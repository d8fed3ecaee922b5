/- The reference's IsWord and Distance; FarWords. -/
import Derived.Test.YtbjggnecfppjgaaDoorStr
namespace Go.Proofs.YtbjggnecfppjgaaDoor
open Go.RowKit

set_option maxHeartbeats 1600000 in
theorem isword_any (s : ByteArray) (w : World) (hs : s.size ≤ 9223372036854775807) :
    Calls Tryd.prog 28 #[.string s] w fun e w' => e = .returned (.bool (M.isW s)) ∧ w = w' := by
  go_enter Tryd.func28, Tryd.ntmps28
  go_wp2_with fail
  go_loop [3] (fun i => ∃ k : Nat, k ≤ s.size ∧ i = .int .i64 k ∧ M.allTo k (fun i => decide (97 ≤ M.chr s i) && decide (M.chr s i ≤ 122)) = true) (fun i => s.size - (intOf i).toNat)
  case atStart => exact ⟨0, Nat.zero_le _, rfl, rfl⟩
  case round =>
    obtain ⟨k, hk, rfl, hf⟩ := hrel
    have HF := Lib.hid hf
    clear hf
    by_cases hlt : k < s.size
    · have hc := M.chr_at s k hlt
      by_cases h1 : 97 ≤ M.chr s k
      · by_cases h2 : M.chr s k ≤ 122
        · have HX := Lib.hid (show M.allTo (k + 1) (fun i => decide (97 ≤ M.chr s i) && decide (M.chr s i ≤ 122)) = true by simp only [M.allTo, HF.out, Bool.true_and]; simp [h1, h2])
          have g1 : decide ((M.chr s k : Int) < 97) = false := decide_eq_false (by omega)
          have g2 : decide ((122 : Int) < (M.chr s k : Int)) = false := decide_eq_false (by omega)
          go_wp2_with fail
          go_round
          case rel => exact ⟨k + 1, by omega, by go_num, HX.out⟩
          case measure => simp [intOf]; omega
        · have g1 : decide ((M.chr s k : Int) < 97) = false := decide_eq_false (by omega)
          have g2 : decide ((122 : Int) < (M.chr s k : Int)) = true := decide_eq_true (by omega)
          have HX := Lib.hid (show M.isW s = false by
            refine Bool.eq_false_iff.2 fun h => ?_
            unfold M.isW M.low at h
            simp only [Bool.and_eq_true] at h
            have := M.allTo_iff.1 h.2 k hlt
            simp [h2] at this)
          go_wp2_with fail
          go_ret
          exact ⟨ret_bool HX.out.symm, rfl⟩
      · have g1 : decide ((M.chr s k : Int) < 97) = true := decide_eq_true (by omega)
        have HX := Lib.hid (show M.isW s = false by
          refine Bool.eq_false_iff.2 fun h => ?_
          unfold M.isW M.low at h
          simp only [Bool.and_eq_true] at h
          have := M.allTo_iff.1 h.2 k hlt
          simp [h1] at this)
        go_wp2_with fail
        go_ret
        exact ⟨ret_bool HX.out.symm, rfl⟩
    · obtain rfl : k = s.size := by omega
      have HX : Hid (M.isW s = (decide (1 ≤ s.size) && decide (s.size ≤ 12))) := Lib.hid (by unfold M.isW M.low; rw [HF.out, Bool.and_true])
      by_cases h1 : 1 ≤ s.size
      · have g1 : decide ((1 : Int) ≤ (s.size : Int)) = true := decide_eq_true (by omega)
        go_wp2_with fail
        go_ret
        exact ⟨ret_bool (by rw [HX.out, decide_eq_true h1, Bool.true_and, decide_eq_decide]; omega), rfl⟩
      · have g1 : decide ((1 : Int) ≤ (s.size : Int)) = false := decide_eq_false (by omega)
        go_wp2_with fail
        go_ret
        exact ⟨ret_bool (by rw [HX.out, decide_eq_false h1, Bool.false_and]), rfl⟩
set_option maxHeartbeats 1600000 in
theorem distance_any (a b : ByteArray) (w : World) (hs : a.size ≤ 1048576) (hb : a.size ≤ b.size) :
    Calls Tryd.prog 13 #[.string a, .string b] w fun e w' => e = .returned (.int .i64 (M.dst a b)) ∧ ∃ m, w' = w.drewN m := by
  go_enter Tryd.func13, Tryd.ntmps13
  go_wp2_with fail
  go_loopw [5, 6] (fun n i wr => ∃ k : Nat, k ≤ a.size ∧ i = .int .i64 k ∧ n = .int .i64 (M.dstTo k a b) ∧ ∃ m, wr = w.drewN m) (fun _ i _ => a.size - (intOf i).toNat)
  case atStart => exact ⟨0, Nat.zero_le _, rfl, rfl, 0, rfl⟩
  case round =>
    obtain ⟨k, hk, rfl, rfl, hm⟩ := hrel
    have HM := Lib.hid hm
    have hbd := M.dstTo_bd k a b
    clear hm
    by_cases hlt : k < a.size
    · have hc := M.chr_at a k hlt
      have hd := M.chr_at b k (by omega)
      have hlt2 : k < b.size := by omega
      have hx : M.dstTo (k + 1) a b = M.dstTo k a b + (if M.chr a k = M.chr b k then 0 else 1) := rfl
      by_cases h1 : M.chr a k = M.chr b k
      · rw [if_pos h1] at hx
        have HX := Lib.hid hx
        have g1 : ((M.chr a k : Int) == (M.chr b k : Int)) = true := by rw [h1]; simp
        clear hx
        go_wp2_with fail
        go_quiet (fail)
        go_wp2_with fail
        go_roundw
        case rel => exact ⟨k + 1, by omega, by go_num, by rw [HX.out, Int.add_zero], by obtain ⟨m, e⟩ := HM.out; exact ⟨m + nq, by rw [e, World.drewN_drewN]⟩⟩
        case measure => simp [intOf]; omega
      · rw [if_neg h1] at hx
        have HX := Lib.hid hx
        have g1 : ((M.chr a k : Int) == (M.chr b k : Int)) = false := by rw [beq_eq_false_iff_ne]; omega
        clear hx
        go_wp2_with fail
        go_quiet (fail)
        go_wp2_with fail
        go_roundw
        case rel => exact ⟨k + 1, by omega, by go_num, by rw [HX.out], by obtain ⟨m, e⟩ := HM.out; exact ⟨m + nq, by rw [e, World.drewN_drewN]⟩⟩
        case measure => simp [intOf]; omega
    · obtain rfl : k = a.size := by omega
      go_wp2_with fail
      go_ret
      exact ⟨rfl, HM.out⟩
def farF (n : Nat) (f : Nat → ByteArray) : Bool := M.anyTo n (fun i => decide (60 < (f i).size)) || decide (60 < n)
set_option maxHeartbeats 1600000 in
theorem farwords_any (A : Option Addr) (n c B : Nat) (f : Nat → ByteArray) (w : World) (hn : n ≤ maxLen) (hR : RdS w B A n f) :
    Calls Tryd.prog 8 #[.slice A n c] w fun e w' => e = .returned (.bool (farF n f)) ∧ w = w' := by
  unfold maxLen at hn
  go_enter Tryd.func8, Tryd.ntmps8
  go_wp2_with fail
  go_loop [3] (fun i => ∃ k : Nat, k ≤ n ∧ i = .int .i64 k ∧ M.anyTo k (fun i => decide (60 < (f i).size)) = false) (fun i => n - (intOf i).toNat)
  case atStart => exact ⟨0, Nat.zero_le _, rfl, rfl⟩
  case round =>
    obtain ⟨k, hk, rfl, hf⟩ := hrel
    have HF := Lib.hid hf
    clear hf
    by_cases hlt : k < n
    · obtain ⟨b, off, rfl, hb, c0⟩ := hR.at_ hlt
      clear hR
      by_cases h1 : 60 < (f k).size
      · have g1 : decide ((60 : Int) < ((f k).size : Int)) = true := decide_eq_true (by omega)
        go_wp2_with fail
        go_ret
        exact ⟨ret_bool (by unfold farF; rw [M.anyTo_iff.2 ⟨k, hlt, decide_eq_true h1⟩]; rfl), rfl⟩
      · have g1 : decide ((60 : Int) < ((f k).size : Int)) = false := decide_eq_false (by omega)
        go_wp2_with fail
        go_round
        case rel => exact ⟨k + 1, by omega, by go_num, by simp only [M.anyTo, HF.out, Bool.false_or]; exact decide_eq_false h1⟩
        case measure => simp [intOf]; omega
    · obtain rfl : k = n := by omega
      go_wp2_with fail
      go_ret
      exact ⟨ret_bool (by unfold farF; rw [HF.out, Bool.false_or, decide_eq_decide]; omega), rfl⟩
end Go.Proofs.YtbjggnecfppjgaaDoor
