/- The program's Audit: the tests of the rows. -/
import Derived.Test.YtaljmlkapbojeaaA1
import Derived.Test.YtaljmlkapbojeaaG5
namespace Go.Proofs.Ytaljmlkapbojeaa
open Go.RowKit

theorem M.cellsIn_any (R : Nat → Nat → Int) (i n : Nat) : (M.anyTo n fun g => !M.within (R i g) (-1000000) 1000000) = !M.cellsIn R i n := M.allTo_not

set_option maxHeartbeats 400000 in
theorem au11_any (x : Int) (w : World) :
    Calls Try.prog 50 #[.int .i64 x] w fun e w' => e = .returned (.bool (!M.within x (-1000000) 1000000)) ∧ w = w' := by
  go_enter Try.func50, Try.ntmps50
  go_wp2_with (go_at_call 51; refine (within_any _ _ _ _).mono ?_; rintro e w1 ⟨rfl, rfl⟩)
  go_ret
  exact ⟨rfl, rfl⟩

set_option maxHeartbeats 400000 in
theorem idxi_any (A : Option Addr) (n c B : Nat) (f : Nat → Int) (w : World) (hn : n ≤ maxLen) (hR : Rd1 w B A n f) (hB : B ≤ w.heap.size) :
    Calls Try.prog 64 #[.slice A n c, .func (.func 50) #[] #[]] w (Idx n (fun g => !M.within (f g) (-1000000) 1000000) w) := by
  unfold maxLen at hn
  go_enter Try.func64, Try.ntmps64
  go_wp2_with fail
  go_loop [5, 8] (fun _ i => ∃ k : Nat, k ≤ n ∧ i = .int .i64 k ∧ M.anyTo k (fun g => !M.within (f g) (-1000000) 1000000) = false) (fun _ i => n - (intOf i).toNat)
  case atStart => exact ⟨0, Nat.zero_le _, rfl, rfl⟩
  case round =>
    obtain ⟨k, hk, rfl, hf⟩ := hrel
    have HF := Lib.hid hf
    clear hf
    by_cases hlt : k < n
    · obtain ⟨b, off, rfl, hb, c0⟩ := hR.at_ hlt
      have hbs : b < w.heap.size := by omega
      have hx : M.anyTo (k + 1) (fun g => !M.within (f g) (-1000000) 1000000) = (M.anyTo k (fun g => !M.within (f g) (-1000000) 1000000) || !M.within (f k) (-1000000) 1000000) := rfl
      rw [HF.out] at hx
      have HX := Lib.hid hx
      clear hR hx
      obtain ⟨x, hxx⟩ : ∃ x, x = f k := ⟨_, rfl⟩
      rw [← hxx] at c0
      have HXX := Lib.hid hxx
      clear hxx
      cases hw : M.within x (-1000000) 1000000
      all_goals
        have HW := Lib.hid hw
        clear hw
        go_wp2_with (go_at_call 50; refine (au11_any _ _).mono ?_; rw [HW.out]; rintro e w1 ⟨rfl, rfl⟩)
      · go_ret
        refine ⟨_, rfl, ?_, Below.refl _ _⟩
        rw [show M.anyTo n (fun g => !M.within (f g) (-1000000) 1000000) = true from M.anyTo_iff.2 ⟨k, hlt, by rw [← HXX.out, HW.out]; rfl⟩]
        simp
      · go_round
        case rel => exact ⟨k + 1, by omega, by go_num, by rw [HX.out, ← HXX.out, HW.out]; rfl⟩
        case measure => simp [intOf]; omega
    · obtain rfl : k = n := by omega
      go_wp2_with fail
      go_ret
      exact ⟨_, rfl, by rw [HF.out]; rfl, Below.refl _ _⟩

set_option maxHeartbeats 400000 in
theorem coni_any (A : Option Addr) (n c B : Nat) (f : Nat → Int) (w : World) (hn : n ≤ maxLen) (hR : Rd1 w B A n f) (hB : B ≤ w.heap.size) :
    Calls Try.prog 49 #[.slice A n c, .func (.func 50) #[] #[]] w fun e w' => e = .returned (.bool (M.anyTo n fun g => !M.within (f g) (-1000000) 1000000)) ∧ Below w.heap.size w w' := by
  go_enter Try.func49, Try.ntmps49
  go_wp2_with (go_at_call 64; refine (idxi_any _ _ _ _ _ _ hn hR hB).mono ?_; rintro e w1 ⟨r, rfl, hr, hb⟩; have HR := Lib.hid hr; clear hr)
  go_ret
  exact ⟨ret_bool HR.out, hb⟩

/-- is a row wrong? -/
def rowWrong (gn m : Nat) (f : Nat → Int) : Bool := decide (m ≠ gn) || M.anyTo m fun g => !M.within (f g) (-1000000) 1000000
set_option maxRecDepth 100000 in
set_option maxHeartbeats 800000 in
theorem au1_any (A gA : Option Addr) (n c gn gc S B : Nat) (f : Nat → Int) (w : World) (_hn : n ≤ maxLen) (hg : gn ≤ maxLen) (hR : Rd1 w B A n f) (hB : B ≤ w.heap.size) (hS : w.cell? ⟨S, 0, none⟩ = some (.slice gA gn gc)) :
    Calls Try.prog 48 #[.slice A n c, .pointer (some ⟨S, 0, none⟩)] w fun e w' => e = .returned (.bool (rowWrong gn n f)) ∧ Below w.heap.size w w' := by
  unfold maxLen at _hn hg
  by_cases h : n = gn
  · subst h
    cases hx : M.anyTo n fun g => !M.within (f g) (-1000000) 1000000
    all_goals
      have HX := Lib.hid hx
      clear hx
      go_enter Try.func48, Try.ntmps48
      go_wp2_with (go_at_call 49; refine (coni_any _ _ _ B f _ (by unfold maxLen; omega) hR hB).mono ?_; rw [HX.out]; rintro e w1 ⟨rfl, hb1⟩; have HB1 := Lib.hid hb1; clear hb1)
      go_ret
      exact ⟨ret_bool (by unfold rowWrong; rw [HX.out]; simp), HB1.out⟩
  · go_enter Try.func48, Try.ntmps48
    go_wp2_with fail
    go_ret
    exact ⟨ret_bool (by simp [rowWrong, h]), Below.refl _ _⟩

set_option maxRecDepth 100000 in
set_option maxHeartbeats 800000 in
theorem idxr_any (A gA : Option Addr) (n c gn gc S B : Nat) (m : Nat → Nat) (f : Nat → Nat → Int) (w : World) (hn : n ≤ maxLen) (hm : ∀ i, i < n → m i ≤ maxLen) (hg : gn ≤ maxLen) (hR : RR w B A n m f) (hB : B ≤ w.heap.size) (hS : w.cell? ⟨S, 0, none⟩ = some (.slice gA gn gc)) (hSw : S < w.heap.size) :
    Calls Try.prog 65 #[.slice A n c, .func (.func 48) #[] #[.pointer (some ⟨S, 0, none⟩)]] w (Idx n (fun i => rowWrong gn (m i) (f i)) w) := by
  unfold maxLen at hn
  go_enter Try.func65, Try.ntmps65
  go_wp2_with fail
  go_loopw [5, 8] (fun _ i wr => ∃ k : Nat, k ≤ n ∧ i = .int .i64 k ∧ M.anyTo k (fun i => rowWrong gn (m i) (f i)) = false ∧ Below w.heap.size w wr) (fun _ i _ => n - (intOf i).toNat)
  case atStart => exact ⟨0, Nat.zero_le _, rfl, rfl, Below.refl _ _⟩
  case round =>
    obtain ⟨k, hk, rfl, hf, hbw⟩ := hrel
    have HF := Lib.hid hf
    clear hf
    have HW := Lib.hid hbw
    by_cases hlt : k < n
    · obtain ⟨b, off, rfl, hb, eA, ec, c0, hE⟩ := (hR.below (hbw.mono hB)).at_ hlt
      have hsz := hbw.size
      have hbs : b < wr.heap.size := by omega
      have hs := (hbw.cell (p := ⟨S, 0, none⟩) hSw).trans hS
      have HS := Lib.hid hs
      have hx : M.anyTo (k + 1) (fun i => rowWrong gn (m i) (f i)) = (M.anyTo k (fun i => rowWrong gn (m i) (f i)) || rowWrong gn (m k) (f k)) := rfl
      rw [HF.out] at hx
      have HX := Lib.hid hx
      have HE := Lib.hid hE
      have hmk := hm k hlt
      have hmk' := hmk
      unfold maxLen at hmk'
      clear hbw hR hs hx hE hS
      cases hr : rowWrong gn (m k) (f k)
      all_goals
        have HR := Lib.hid hr
        clear hr
        go_wp2_with (go_at_call 48; refine (au1_any _ gA _ _ gn gc S B (f k) _ hmk hg HE.out (by omega) HS.out).mono ?_; rw [HR.out]; rintro e w1 ⟨rfl, hb1⟩; have HB1 := Lib.hid hb1; clear hb1)
      · go_roundw
        case rel => exact ⟨k + 1, by omega, by go_num, by rw [HX.out, HR.out]; rfl, HW.out.trans (HB1.out.mono hsz)⟩
        case measure => simp [intOf]; omega
      · go_ret
        refine ⟨_, rfl, ?_, HW.out.trans (HB1.out.mono hsz)⟩
        rw [show M.anyTo n (fun i => rowWrong gn (m i) (f i)) = true from M.anyTo_iff.2 ⟨k, hlt, HR.out⟩]
        simp
    · obtain rfl : k = n := by omega
      clear hbw
      go_wp2_with fail
      go_ret
      exact ⟨_, rfl, by rw [HF.out]; rfl, HW.out⟩

set_option maxHeartbeats 400000 in
theorem conr_any (A gA : Option Addr) (n c gn gc S B : Nat) (m : Nat → Nat) (f : Nat → Nat → Int) (w : World) (hn : n ≤ maxLen) (hm : ∀ i, i < n → m i ≤ maxLen) (hg : gn ≤ maxLen) (hR : RR w B A n m f) (hB : B ≤ w.heap.size) (hS : w.cell? ⟨S, 0, none⟩ = some (.slice gA gn gc)) (hSw : S < w.heap.size) :
    Calls Try.prog 52 #[.slice A n c, .func (.func 48) #[] #[.pointer (some ⟨S, 0, none⟩)]] w fun e w' => e = .returned (.bool (M.anyTo n fun i => rowWrong gn (m i) (f i))) ∧ Below w.heap.size w w' := by
  have HS := Lib.hid hS
  clear hS
  go_enter Try.func52, Try.ntmps52
  go_wp2_with (go_at_call 65; refine (idxr_any _ gA _ _ gn gc S B m f _ hn hm hg hR hB HS.out hSw).mono ?_; rintro e w1 ⟨r, rfl, hr, hb⟩; have HR := Lib.hid hr; clear hr)
  go_ret
  exact ⟨ret_bool HR.out, hb⟩
theorem wrong_in {rn gn : Nat} {rm : Nat → Nat} {R : Nat → Nat → Int} : (M.anyTo rn fun i => rowWrong gn (rm i) (R i)) = !M.rowsIn rn rm gn rn R := by
  unfold M.rowsIn
  have : (fun i => rowWrong gn (rm i) (R i)) = fun i => !(decide (rm i = gn) && M.cellsIn R i (rm i)) := by
    funext i
    unfold rowWrong
    rw [M.cellsIn_any]
    by_cases h : rm i = gn <;> simp [h]
  rw [this, M.allTo_not]
  simp
end Go.Proofs.Ytaljmlkapbojeaa
