/- The reference of layer 2: areCells; FarSeen, in. -/
import Derived.Test.YtnbeembnnjdmdaaGreatDoorE4
import Derived.Test.YtnbeembnnjdmdaaGreatDoorD31
namespace Go.Proofs.YtnbeembnnjdmdaaGreatDoor
open Go.RowKit

section
variable {W H : Int} {dA tA sA zA cA wA : Option Addr} {nd dc nt tc ns sc zn zc cn cc wn wc B : Nat} {w : World}
set_option maxRecDepth 100000 in
set_option maxHeartbeats 6400000 in
theorem rarecells_any (A : Option Addr) (n c : Nat) (f : Nat → Int) (hn : n ≤ maxLen) (hR : Rd1 w B A n f) (hB : B ≤ w.heap.size) (hnd : nd ≤ maxLen) :
  Calls Tryz.prog 100 #[.agg #[.int .i64 W, .int .i64 H, .slice dA nd dc, .slice tA nt tc, .slice sA ns sc, .slice zA zn zc, .slice cA cn cc, .slice wA wn wc], .slice A n c] w fun e w' => e = .returned (.bool (M.ascF nd n f)) ∧ Below w.heap.size w w' := by
 have HB0 := Lib.hid (belowAlloc w (.cells #[.int .i64 W, .int .i64 H, .slice dA nd dc, .slice tA nt tc, .slice sA ns sc, .slice zA zn zc, .slice cA cn cc, .slice wA wn wc] 29))
 have K0 := Lib.hid (Blk.new w 29 #[.int .i64 W, .int .i64 H, .slice dA nd dc, .slice tA nt tc, .slice sA ns sc, .slice zA zn zc, .slice cA cn cc, .slice wA wn wc])
 have HR := Lib.hid (hR.below (HB0.out.mono hB))
 obtain ⟨Q, hQ⟩ : ∃ Q, Q = M.ascF nd n f := ⟨_, rfl⟩
 rw [← hQ]
 unfold M.ascF at hQ
 have HQ := Lib.hid hQ
 unfold maxLen at hn hnd
 clear hQ hR
 go_enter Tryz.func100, Tryz.ntmps100
 go_upto_region 1 with fail
 generalize w.alloc (.cells #[.int .i64 W, .int .i64 H, .slice dA nd dc, .slice tA nt tc, .slice sA ns sc, .slice zA zn zc, .slice cA cn cc, .slice wA wn wc] 29) = X at HB0 K0 HR ⊢
 go_wp2_with fail
 go_loopw [5] (fun i wr => ∃ k : Nat, k ≤ n ∧ i = .int .i64 (k : Int) ∧ Hid (M.allTo k (fun i => decide (i = 0) || decide (f (i - 1) < f i)) = true) ∧ Hid (M.allTo k (fun i => M.inB 0 ((nd : Int) - 1) (f i)) = true) ∧ ∃ m, wr = X.drewN m) (fun i _ => n - (intOf i).toNat)
 case atStart => exact ⟨0, Nat.zero_le _, rfl, Lib.hid rfl, Lib.hid rfl, 0, rfl⟩
 case round =>
  obtain ⟨k, hk, rfl, HF1, HF2, m, rfl⟩ := hrel
  by_cases hlt : k < n
  ·
   obtain ⟨b, off, rfl, hb, c0⟩ := HR.out.at_ hlt
   have d2 : (X.drewN m).cell? ⟨w.heap.size, 2, none⟩ = some (.slice dA nd dc) := K0.out.cell 2
   have c0 : (X.drewN m).cell? ⟨b, off + k, none⟩ = some (.int .i64 (f k)) := c0
   have HBY := Lib.hid (show Below w.heap.size w (X.drewN m) from HB0.out.drewN m)
   have HMO := Lib.hid (show ∀ q, ∃ n', (X.drewN m).drewN q = X.drewN n' from fun q => ⟨m + q, by rw [World.drewN_drewN]⟩)
   have kx : decide (n ≤ k) = false := decide_eq_false (by omega)
   have HA1 := Lib.hid (show M.allTo (k + 1) (fun i => decide (i = 0) || decide (f (i - 1) < f i)) = (M.allTo k (fun i => decide (i = 0) || decide (f (i - 1) < f i)) && (decide (k = 0) || decide (f (k - 1) < f k))) from rfl)
   have HA2 := Lib.hid (show M.allTo (k + 1) (fun i => M.inB 0 ((nd : Int) - 1) (f i)) = (M.allTo k (fun i => M.inB 0 ((nd : Int) - 1) (f i)) && M.inB 0 ((nd : Int) - 1) (f k)) from rfl)
   have HN1 := Lib.hid (fun h : (decide (k = 0) || decide (f (k - 1) < f k)) = false => (show Q = false by rw [HQ.out, M.allTo_no (n := n) (p := fun i => decide (i = 0) || decide (f (i - 1) < f i)) hlt h]; rfl))
   have HN2 := Lib.hid (fun h : M.inB 0 ((nd : Int) - 1) (f k) = false => (show Q = false by rw [HQ.out, M.allTo_no (n := n) (p := fun i => M.inB 0 ((nd : Int) - 1) (f i)) hlt h]; simp))
   cases hp : M.inB 0 ((nd : Int) - 1) (f k)
   ·
    have HP := Lib.hid (fun V => rin_v V hp)
    have HEF := Lib.hid (HN2.out hp)
    clear hp
    generalize X.drewN m = Y at d2 c0 HBY HMO ⊢
    generalize f k = x at c0 HP
    go_upto_region 4 with fail
    go_quiet (first | (go_at_call 50; exact Calls.quiet_of_same (HP.out _)) | fail)
    go_wp2_with fail
    go_ret
    exact ⟨ret_bool HEF.out.symm, HBY.out.drewN nq⟩
   ·
    have HP := Lib.hid (fun V => rin_v V hp)
    have HPE := Lib.hid hp
    clear hp
    rcases Nat.eq_zero_or_pos k with h0 | h0
    ·
     have HK1 := Lib.hid (show M.allTo (k + 1) (fun i => decide (i = 0) || decide (f (i - 1) < f i)) = true from by rw [HA1.out, HF1.out, decide_eq_true h0]; rfl)
     have HK2 := Lib.hid (show M.allTo (k + 1) (fun i => M.inB 0 ((nd : Int) - 1) (f i)) = true from by rw [HA2.out, HF2.out, HPE.out]; rfl)
     have g1 : decide (0 < k) = false := decide_eq_false (by omega)
     have g2 : decide ((0 : Int) < (k : Int)) = false := decide_eq_false (by omega)
     clear h0
     generalize X.drewN m = Y at d2 c0 HBY HMO ⊢
     generalize f k = x at c0 HP
     go_upto_region 4 with fail
     go_quiet (first | (go_at_call 50; exact Calls.quiet_of_same (HP.out _)) | fail)
     go_wp2_with fail
     go_roundw
     case rel => exact ⟨k + 1, by omega, by go_num, HK1, HK2, HMO.out _⟩
     case measure => simp [intOf]; omega
    ·
     obtain ⟨j, rfl⟩ : ∃ j, k = j + 1 := ⟨k - 1, by omega⟩
     obtain ⟨b', off', e', hb', c1⟩ := HR.out.at_ (show j < n by omega)
     cases e'
     have c1 : (X.drewN m).cell? ⟨b, off + j, none⟩ = some (.int .i64 (f j)) := c1
     have ej : ((j + 1 : Nat) : Int) - 1 = (j : Int) := by omega
     have g1 : decide (0 < j + 1) = true := decide_eq_true (by omega)
     have g2 : decide ((0 : Int) < ((j + 1 : Nat) : Int)) = true := decide_eq_true (by omega)
     have kj : decide (n ≤ j) = false := decide_eq_false (by omega)
     by_cases hq : f (j + 1) ≤ f j
     ·
      have HEF := Lib.hid (HN1.out (by rw [decide_eq_false (by omega), Nat.add_sub_cancel, decide_eq_false (by omega)]; rfl))
      generalize X.drewN m = Y at d2 c0 c1 HBY HMO ⊢
      generalize f (j + 1) = x at c0 HP hq
      generalize f j = y at c1 hq
      have g3 : decide (x ≤ y) = true := decide_eq_true hq
      clear hq
      go_upto_region 4 with fail
      go_quiet (first | (go_at_call 50; exact Calls.quiet_of_same (HP.out _)) | fail)
      go_wp2_with fail
      go_ret
      exact ⟨ret_bool HEF.out.symm, HBY.out.drewN nq⟩
     ·
      have HK1 := Lib.hid (show M.allTo (j + 1 + 1) (fun i => decide (i = 0) || decide (f (i - 1) < f i)) = true from by rw [HA1.out, HF1.out, Nat.add_sub_cancel, decide_eq_true (show f j < f (j + 1) by omega)]; simp)
      have HK2 := Lib.hid (show M.allTo (j + 1 + 1) (fun i => M.inB 0 ((nd : Int) - 1) (f i)) = true from by rw [HA2.out, HF2.out, HPE.out]; rfl)
      generalize X.drewN m = Y at d2 c0 c1 HBY HMO ⊢
      generalize f (j + 1) = x at c0 HP hq
      generalize f j = y at c1 hq
      have g3 : decide (x ≤ y) = false := decide_eq_false hq
      clear hq
      go_upto_region 4 with fail
      go_quiet (first | (go_at_call 50; exact Calls.quiet_of_same (HP.out _)) | fail)
      go_wp2_with fail
      go_roundw
      case rel => exact ⟨j + 1 + 1, by omega, by go_num, HK1, HK2, HMO.out _⟩
      case measure => simp [intOf]; omega
  ·
   obtain rfl : k = n := by omega
   go_wp2_with fail
   go_ret
   exact ⟨ret_bool (by rw [HQ.out, HF1.out, HF2.out]; rfl), HB0.out.drewN m⟩
end
structure FarS (xn hn : Nat) (Xs : Nat → SgV) : Prop where
 x : xn ≤ 200
 l : ∀ i, i < hn → (Xs i).L.length ≤ 200
 n : hn ≤ 40
 six : hn ≤ 12 → hn ≤ 6
theorem rfarseen_any (at_ lo hi : Int) (xA hA : Option Addr) (xn xc hn hc B : Nat) (Xs : Nat → SgV) (w : World) (hxn : xn ≤ maxLen) (hhn : hn ≤ maxLen) (hR : RdS w B hA hn Xs) (hB : B ≤ w.heap.size) :
  Calls Tryz.prog 20 #[.agg #[.int .i64 at_, .slice xA xn xc, .int .i64 lo, .int .i64 hi], .slice hA hn hc] w fun e w' => (∃ q, e = .returned (.bool q) ∧ (q = false → FarS xn hn Xs)) ∧ Below w.heap.size w w' := by
 have HB0 := Lib.hid (belowAlloc w (.cells #[.int .i64 at_, .slice xA xn xc, .int .i64 lo, .int .i64 hi] 44))
 have K0 := Lib.hid (Blk.new w 44 #[.int .i64 at_, .slice xA xn xc, .int .i64 lo, .int .i64 hi])
 have HR := Lib.hid (hR.below (HB0.out.mono hB))
 unfold maxLen at hxn hhn
 clear hR
 go_enter Tryz.func20, Tryz.ntmps20
 go_upto_region 1 with fail
 generalize w.alloc (.cells #[.int .i64 at_, .slice xA xn xc, .int .i64 lo, .int .i64 hi] 44) = X at HB0 K0 HR ⊢
 go_wp2_with fail
 go_loopw [5] (fun i wr => ∃ k : Nat, k ≤ hn ∧ i = .int .i64 (k : Int) ∧ Hid (∀ i, i < k → (Xs i).L.length ≤ 200) ∧ wr = X) (fun i _ => hn - (intOf i).toNat)
 case atStart => exact ⟨0, Nat.zero_le _, rfl, Lib.hid (fun i h => absurd h (by omega)), rfl⟩
 case round =>
  obtain ⟨k, hk, rfl, HF, hwr⟩ := hrel
  obtain rfl := hwr
  by_cases hlt : k < hn
  ·
   obtain ⟨b, off, rfl, hb, c0, c1, c2, _, hl⟩ := HR.out.at_ hlt
   have kx : decide (hn ≤ k) = false := decide_eq_false (by omega)
   unfold maxLen at hl
   have HCL := Lib.hid (fun h : (Xs k).L.length ≤ 200 => (show ∀ i, i < k + 1 → (Xs i).L.length ≤ 200 from fun i hi => by
    rcases Nat.lt_succ_iff_lt_or_eq.1 hi with h2 | rfl
    · exact HF.out i h2
    · exact h))
   generalize (Xs k).L.length = m at c1 hl HCL
   by_cases h8 : 200 < m
   ·
    have i8 : decide ((200 : Int) < (m : Int)) = true := decide_eq_true (by omega)
    clear h8
    go_wp2_with fail
    go_ret
    exact ⟨⟨true, rfl, fun h => by cases h⟩, HB0.out⟩
   ·
    have i8 : decide ((200 : Int) < (m : Int)) = false := decide_eq_false (by omega)
    have HC2 := Lib.hid (HCL.out (by omega))
    clear h8
    go_wp2_with fail
    go_roundw
    case rel => exact ⟨k + 1, by omega, by go_num, HC2, by first | rfl | trivial⟩
    case measure => simp [intOf]; omega
  ·
   obtain rfl : k = hn := by omega
   have k1 := K0.out.cell 1
   obtain ⟨b1, hb1⟩ : ∃ b, decide ((200 : Int) < (xn : Int)) = b := ⟨_, rfl⟩
   obtain ⟨b2, hb2⟩ : ∃ b, decide ((6 : Int) < (k : Int)) = b := ⟨_, rfl⟩
   obtain ⟨b3, hb3⟩ : ∃ b, decide ((k : Int) ≤ 12) = b := ⟨_, rfl⟩
   obtain ⟨b4, hb4⟩ : ∃ b, decide ((40 : Int) < (k : Int)) = b := ⟨_, rfl⟩
   have HX := Lib.hid (fun (h1 : b1 = false) (h4 : b4 = false) (h23 : b2 = false ∨ b3 = false) => (show FarS xn k Xs from ⟨by subst h1; have := of_decide_eq_false hb1; omega, HF.out, by subst h4; have := of_decide_eq_false hb4; omega, fun h12 => by
    rcases h23 with h | h
    · subst h; have := of_decide_eq_false hb2; omega
    · subst h; have := of_decide_eq_false hb3; omega⟩))
   cases b1 <;> cases b2 <;> cases b3 <;> cases b4
   all_goals
    go_wp2_with fail
    go_ret
    refine ⟨?_, HB0.out⟩
    first | exact .inr rfl | exact ⟨true, rfl, fun h => Bool.noConfusion h⟩ | (refine .inl ⟨rfl, ?_⟩; exact HX.out (by simp) (by simp) (by simp))
end Go.Proofs.YtnbeembnnjdmdaaGreatDoor
