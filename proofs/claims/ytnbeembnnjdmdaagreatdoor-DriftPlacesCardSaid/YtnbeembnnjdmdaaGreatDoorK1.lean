/- chart.Check, and the library's IndexFunc with any pure function. -/
import Derived.Test.YtnbeembnnjdmdaaGreatDoorCp
import Derived.Test.YtnbeembnnjdmdaaGreatDoorLaA
namespace Go.Proofs.YtnbeembnnjdmdaaGreatDoor
open Go.RowKit

theorem within_any (n lo hi : Int) (w : World) :
    Calls Tryz.prog 110 #[.int .i64 n, .int .i64 lo, .int .i64 hi] w fun e w' => e = .returned (.bool (M.inB lo hi n)) ∧ w' = w := by
  unfold M.inB
  by_cases h1 : lo ≤ n
  · have g1 : decide (n < lo) = false := decide_eq_false (by omega)
    go_enter Tryz.func110, Tryz.ntmps110
    go_wp2_with fail
    go_ret
    exact ⟨ret_bool (by simp [h1]), rfl⟩
  · have g1 : decide (n < lo) = true := decide_eq_true (by omega)
    go_enter Tryz.func110, Tryz.ntmps110
    go_wp2_with fail
    go_ret
    exact ⟨ret_bool (by simp; omega), rfl⟩
theorem deep_any (n : Int) (w : World) :
    Calls Tryz.prog 111 #[.int .i64 n] w fun e w' => e = .returned (.bool (!M.inB (-1000) 1000 n)) ∧ Below w.heap.size w w' := by
  go_enter Tryz.func111, Tryz.ntmps111
  go_wp2_with (go_at_call 110; refine (within_any _ _ _ _).mono ?_; rintro e w1 ⟨rfl, rfl⟩)
  go_ret
  exact ⟨rfl, Below.refl _ _⟩
theorem swell_any (n : Int) (w : World) :
    Calls Tryz.prog 113 #[.int .i64 n] w fun e w' => e = .returned (.bool (!M.inB 0 100 n)) ∧ Below w.heap.size w w' := by
  go_enter Tryz.func113, Tryz.ntmps113
  go_wp2_with (go_at_call 110; refine (within_any _ _ _ _).mono ?_; rintro e w1 ⟨rfl, rfl⟩)
  go_ret
  exact ⟨rfl, Below.refl _ _⟩
def tideOk (a b : Int) : Bool := M.inB 0 b a && decide (b ≤ 200)
theorem tide_any (a b : Int) (w : World) :
    Calls Tryz.prog 112 #[.agg #[.int .i64 a, .int .i64 b]] w fun e w' => e = .returned (.bool (!tideOk a b)) ∧ Below w.heap.size w w' := by
  unfold tideOk M.inB
  by_cases h1 : a < 0
  · go_enter Tryz.func112, Tryz.ntmps112
    have g1 : decide (a < 0) = true := decide_eq_true h1
    go_wp2_with fail
    go_ret
    exact ⟨ret_bool (by simp [h1]), belowAlloc w _⟩
  · by_cases h2 : b < a
    · go_enter Tryz.func112, Tryz.ntmps112
      have g1 : decide (a < 0) = false := decide_eq_false h1
      have g2 : decide (b < a) = true := decide_eq_true h2
      go_wp2_with fail
      go_ret
      exact ⟨ret_bool (by simp <;> omega), belowAlloc w _⟩
    · by_cases h3 : 200 < b
      · go_enter Tryz.func112, Tryz.ntmps112
        have g1 : decide (a < 0) = false := decide_eq_false h1
        have g2 : decide (b < a) = false := decide_eq_false h2
        have g3 : decide (200 < b) = true := decide_eq_true h3
        go_wp2_with fail
        go_ret
        exact ⟨ret_bool (by simp <;> omega), belowAlloc w _⟩
      · go_enter Tryz.func112, Tryz.ntmps112
        have g1 : decide (a < 0) = false := decide_eq_false h1
        have g2 : decide (b < a) = false := decide_eq_false h2
        have g3 : decide (200 < b) = false := decide_eq_false h3
        go_wp2_with fail
        go_ret
        exact ⟨ret_bool (by simp <;> omega), belowAlloc w _⟩
def Idx (n : Nat) (p : Nat → Bool) (w : World) (e : Ending) (w' : World) : Prop := ∃ r : Int, e = .returned (.int .i64 r) ∧ decide (0 ≤ r) = M.anyTo n p ∧ Below w.heap.size w w'
def cfOk (cf : FuncId) : Prop := cf = 111 ∨ cf = 113 ∨ cf = 151 ∨ cf = 152 ∨ cf = 153
set_option maxHeartbeats 1600000 in
/-- IndexFunc over numbers, with a pure function -/
theorem idx_int (A : Option Addr) (n c B : Nat) (f : Nat → Int) (cf : FuncId) (caps : Array Value) (p : Int → Bool) (w : World) (hn : n ≤ maxLen) (hR : Rd1 w B A n f) (hB : B ≤ w.heap.size) (hcf : cfOk cf)
    (hf : ∀ W x, Below w.heap.size w W → Calls Tryz.prog cf (#[.int .i64 x] ++ caps) W fun e w' => e = .returned (.bool (p x)) ∧ Below W.heap.size W w') :
    Calls Tryz.prog 65 #[.slice A n c, .func (.func cf) #[] caps] w (Idx n (fun i => p (f i)) w) := by
  unfold maxLen at hn
  rcases hcf with rfl | rfl | rfl | rfl | rfl
  all_goals
    have HFN := Lib.hid hf
    clear hf
    go_enter Tryz.func65, Tryz.ntmps65
    go_wp2_with fail
    go_loopw [5, 8] (fun _ i wr => ∃ k : Nat, k ≤ n ∧ i = .int .i64 k ∧ M.anyTo k (fun i => p (f i)) = false ∧ Below w.heap.size w wr) (fun _ i _ => n - (intOf i).toNat)
    case atStart => exact ⟨0, Nat.zero_le _, rfl, rfl, Below.refl _ _⟩
    case round =>
      obtain ⟨k, hk, rfl, hf, hbw⟩ := hrel
      have HF := Lib.hid hf
      have HW := Lib.hid hbw
      have hz := hbw.size
      by_cases hlt : k < n
      · obtain ⟨b, off, rfl, hb, c0⟩ := (hR.below (hbw.mono hB)).at_ hlt
        clear hf hbw hR
        cases hp : p (f k)
        · have HP := Lib.hid hp
          clear hp
          go_wp2_with (refine (HFN.out _ _ HW.out).mono ?_; rw [HP.out]; rintro e w1 ⟨rfl, hb1⟩; have HB1 := Lib.hid hb1; clear hb1)
          go_roundw
          case rel => exact ⟨k + 1, by omega, by go_num, by simp [M.anyTo, HF.out, HP.out], HW.out.trans (HB1.out.mono hz)⟩
          case measure => simp [intOf]; omega
        · have HP := Lib.hid hp
          clear hp
          go_wp2_with (refine (HFN.out _ _ HW.out).mono ?_; rw [HP.out]; rintro e w1 ⟨rfl, hb1⟩; have HB1 := Lib.hid hb1; clear hb1)
          go_ret
          exact ⟨_, rfl, (by rw [M.anyTo_iff.2 ⟨k, hlt, HP.out⟩]; exact decide_eq_true (by omega)), HW.out.trans (HB1.out.mono hz)⟩
      · obtain rfl : k = n := by omega
        clear hf hbw hR
        go_wp2_with fail
        go_ret
        exact ⟨_, rfl, (by rw [HF.out]; rfl), HW.out⟩
theorem con_int (A : Option Addr) (n c B : Nat) (f : Nat → Int) (cf : FuncId) (caps : Array Value) (p : Int → Bool) (w : World) (hn : n ≤ maxLen) (hR : Rd1 w B A n f) (hB : B ≤ w.heap.size) (hcf : cfOk cf)
    (hf : ∀ W x, Below w.heap.size w W → Calls Tryz.prog cf (#[.int .i64 x] ++ caps) W fun e w' => e = .returned (.bool (p x)) ∧ Below W.heap.size W w') :
    Calls Tryz.prog 114 #[.slice A n c, .func (.func cf) #[] caps] w fun e w' => e = .returned (.bool (M.anyTo n fun i => p (f i))) ∧ Below w.heap.size w w' := by
  have HI := Lib.hid (idx_int A n c B f cf caps p w hn hR hB hcf hf)
  clear hf hR
  go_enter Tryz.func114, Tryz.ntmps114
  go_wp2_with (go_at_call 65; refine HI.out.mono ?_; rintro e w1 ⟨r, rfl, hr, hb⟩; have HR := Lib.hid hr; have HB := Lib.hid hb; clear hr hb)
  go_ret
  exact ⟨ret_bool HR.out, HB.out⟩
theorem idx_span (A : Option Addr) (n c B : Nat) (f : Nat → Nat → Int) (w : World) (hn : n ≤ maxLen) (hR : Rd w B A 2 n f) (hB : B ≤ w.heap.size) :
    Calls Tryz.prog 138 #[.slice A n c, .func (.func 112) #[] #[]] w (Idx n (fun i => !tideOk (f i 0) (f i 1)) w) := by
  unfold maxLen at hn
  go_enter Tryz.func138, Tryz.ntmps138
  go_wp2_with fail
  go_loopw [5, 8] (fun _ i wr => ∃ k : Nat, k ≤ n ∧ i = .int .i64 k ∧ M.anyTo k (fun i => !tideOk (f i 0) (f i 1)) = false ∧ Below w.heap.size w wr) (fun _ i _ => n - (intOf i).toNat)
  case atStart => exact ⟨0, Nat.zero_le _, rfl, rfl, Below.refl _ _⟩
  case round =>
    obtain ⟨k, hk, rfl, hf, hbw⟩ := hrel
    have HF := Lib.hid hf
    have HW := Lib.hid hbw
    have hz := hbw.size
    by_cases hlt : k < n
    · obtain ⟨b, off, rfl, hb, c0, c1⟩ := (hR.below (hbw.mono hB)).at2 hlt
      clear hf hbw hR
      cases hp : tideOk (f k 0) (f k 1)
      · have HP := Lib.hid hp
        go_wp2_with (go_at_call 112; refine (tide_any _ _ _).mono ?_; rw [HP.out]; rintro e w1 ⟨rfl, hb1⟩; have HB1 := Lib.hid hb1; clear hb1)
        go_ret
        exact ⟨_, rfl, (by rw [M.anyTo_iff.2 ⟨k, hlt, by rw [HP.out]; rfl⟩]; exact decide_eq_true (by omega)), HW.out.trans (HB1.out.mono hz)⟩
      · have HP := Lib.hid hp
        go_wp2_with (go_at_call 112; refine (tide_any _ _ _).mono ?_; rw [HP.out]; rintro e w1 ⟨rfl, hb1⟩; have HB1 := Lib.hid hb1; clear hb1)
        go_roundw
        case rel => exact ⟨k + 1, by omega, by go_num, by simp [M.anyTo, HF.out, HP.out], HW.out.trans (HB1.out.mono hz)⟩
        case measure => simp [intOf]; omega
    · obtain rfl : k = n := by omega
      clear hf hbw hR
      go_wp2_with fail
      go_ret
      exact ⟨_, rfl, (by rw [HF.out]; rfl), HW.out⟩
theorem con_span (A : Option Addr) (n c B : Nat) (f : Nat → Nat → Int) (w : World) (hn : n ≤ maxLen) (hR : Rd w B A 2 n f) (hB : B ≤ w.heap.size) :
    Calls Tryz.prog 115 #[.slice A n c, .func (.func 112) #[] #[]] w fun e w' => e = .returned (.bool (M.anyTo n fun i => !tideOk (f i 0) (f i 1))) ∧ Below w.heap.size w w' := by
  go_enter Tryz.func115, Tryz.ntmps115
  go_wp2_with (go_at_call 138; refine (idx_span _ _ _ B f _ hn hR hB).mono ?_; rintro e w1 ⟨r, rfl, hr, hb⟩; have HR := Lib.hid hr; have HB := Lib.hid hb; clear hr hb)
  go_ret
  exact ⟨ret_bool HR.out, HB.out⟩
end Go.Proofs.YtnbeembnnjdmdaaGreatDoor
