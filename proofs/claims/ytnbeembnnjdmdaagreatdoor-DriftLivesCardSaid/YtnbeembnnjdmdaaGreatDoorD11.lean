/- drift: what is tested of a drift. -/
import Derived.Test.YtnbeembnnjdmdaaGreatDoorD4
import Derived.Test.YtnbeembnnjdmdaaGreatDoorK1
namespace Go.Proofs.YtnbeembnnjdmdaaGreatDoor
open Go.RowKit Go.Maps

theorem dcd (x y : Int) : (if x ≤ y then decide (x ≤ y) = true else decide (x ≤ y) = false) := by split <;> simp_all
theorem dlt (x y : Int) : (if x ≤ y then decide (y < x) = false else decide (y < x) = true) := by split <;> simp_all <;> omega
theorem dwithin_any (n lo hi : Int) (w : World) :
  Calls Tryz.prog 45 #[.int .i64 n, .int .i64 lo, .int .i64 hi] w fun e w' => e = .returned (.bool (M.inB lo hi n)) ∧ w' = w := by
 unfold M.inB
 by_cases h1 : lo ≤ n
 ·
  have g1 : decide (n < lo) = false := decide_eq_false (by omega)
  go_enter Tryz.func45, Tryz.ntmps45
  go_wp2_with fail
  go_ret
  exact ⟨ret_bool (by simp [h1]), rfl⟩
 ·
  have g1 : decide (n < lo) = true := decide_eq_true (by omega)
  go_enter Tryz.func45, Tryz.ntmps45
  go_wp2_with fail
  go_ret
  exact ⟨ret_bool (by simp; omega), rfl⟩
theorem dhas_any (lo hi a b : Int) (w : World) :
  Calls Tryz.prog 76 #[.agg #[.int .i64 lo, .int .i64 hi], .agg #[.int .i64 a, .int .i64 b]] w fun e w' => e = .returned (.bool (decide (lo ≤ a) && decide (a ≤ b) && decide (b ≤ hi))) ∧ Below w.heap.size w w' := by
 by_cases h1 : lo ≤ a <;> by_cases h2 : a ≤ b <;> by_cases h3 : b ≤ hi
 all_goals
  have g1 := dcd lo a
  have g2 := dcd a b
  have g3 := dcd b hi
  have g4 := dlt lo a
  have g5 := dlt a b
  have g6 := dlt b hi
  simp only [h1, h2, h3, if_true, if_false] at g1 g2 g3 g4 g5 g6
  go_enter Tryz.func76, Tryz.ntmps76
  go_wp2_with fail
  go_ret
  exact ⟨ret_bool (by simp [h1, h2, h3]), belowAlloc2 _ _ _⟩
theorem dvalid1_any (x y z : Int) (w : World) :
  Calls Tryz.prog 117 #[.agg #[.int .i64 x, .int .i64 y, .int .i64 z]] w fun e w' => e = .returned (.bool (M.inB 1 63 x && (decide (0 ≤ y) && decide (y ≤ z) && decide (z ≤ 3)))) ∧ Below w.heap.size w w' := by
 obtain ⟨r, hr⟩ : ∃ r, (decide (0 ≤ y) && decide (y ≤ z) && decide (z ≤ 3)) = r := ⟨_, rfl⟩
 have HH := Lib.hid (fun W => dhas_any 0 3 y z W)
 rw [hr] at HH ⊢
 clear hr
 obtain ⟨q, hq⟩ : ∃ q, M.inB 1 63 x = q := ⟨_, rfl⟩
 have HW := Lib.hid (fun W => dwithin_any x 1 63 W)
 rw [hq] at HW ⊢
 clear hq
 cases q
 ·
  go_enter Tryz.func117, Tryz.ntmps117
  go_wp2_with (go_at_call 45; refine (HW.out _).mono ?_; rintro e w1 ⟨rfl, rfl⟩)
  go_ret
  exact ⟨ret_bool rfl, belowAlloc _ _⟩
 ·
  go_enter Tryz.func117, Tryz.ntmps117
  go_wp2_with (first | (go_at_call 45; refine (HW.out _).mono ?_; rintro e w1 ⟨rfl, rfl⟩) | (go_at_call 76; refine (HH.out _).mono ?_; rintro e w1 ⟨rfl, hb1⟩))
  go_ret
  exact ⟨ret_bool rfl, (belowAlloc _ _).trans (hb1.mono (by simp))⟩
theorem dallpush_any (A : Option Addr) (n c B : Nat) (f : Nat → Nat → Int) (w : World) (hm : n ≤ maxLen) (hR : Rd w B A 3 n f) (hB : B ≤ w.heap.size) :
  Calls Tryz.prog 116 #[.slice A n c, .func (.func 117) #[] #[]] w fun e w' => e = .returned (.bool (M.allTo n fun i => M.pushB (f i))) ∧ Below w.heap.size w w' := by
 unfold maxLen at hm
 have HR := Lib.hid hR
 clear hR
 go_enter Tryz.func116, Tryz.ntmps116
 go_wp2_with fail
 go_loopw [9] (fun i wr => ∃ k : Nat, k ≤ n ∧ i = .int .i64 k ∧ M.allTo k (fun i => M.pushB (f i)) = true ∧ Hid (Below w.heap.size w wr)) (fun i _ => n - (intOf i).toNat)
 case atStart => exact ⟨0, Nat.zero_le _, rfl, rfl, Lib.hid (Below.refl _ _)⟩
 case round =>
  obtain ⟨k, hk, rfl, hf, HB⟩ := hrel
  have HF := Lib.hid hf
  clear hf
  by_cases hlt : k < n
  ·
   obtain ⟨b, off, rfl, hb, c0, c1, c2⟩ := (HR.out.below (HB.out.mono hB)).at3 hlt
   obtain ⟨q, hq⟩ : ∃ q, M.pushB (f k) = q := ⟨_, rfl⟩
   have HV := Lib.hid (fun W => dvalid1_any (f k 0) (f k 1) (f k 2) W)
   rw [show (M.inB 1 63 (f k 0) && (decide (0 ≤ f k 1) && decide (f k 1 ≤ f k 2) && decide (f k 2 ≤ 3))) = q from hq] at HV
   have HQ := Lib.hid hq
   clear hq
   cases q
   ·
    go_wp2_with (go_at_call 117; refine (HV.out _).mono ?_; rintro e w1 ⟨rfl, hb1⟩; have HB1 := Lib.hid hb1; clear hb1)
    go_ret
    refine ⟨ret_bool ?_, ?_⟩
    ·
     cases ha : M.allTo n (fun i => M.pushB (f i))
     · rfl
     ·
      have := M.allTo_iff.1 ha k hlt
      rw [HQ.out] at this; cases this
    · exact (HB.out.trans ((belowAlloc _ _).mono HB.out.size)).trans (HB1.out.mono (Nat.le_trans HB.out.size (by simp)))
   ·
    go_wp2_with (go_at_call 117; refine (HV.out _).mono ?_; rintro e w1 ⟨rfl, hb1⟩; have HB1 := Lib.hid hb1; clear hb1)
    go_roundw
    case rel => exact ⟨k + 1, by omega, by go_num, by simp [M.allTo, HF.out, HQ.out], Lib.hid ((HB.out.trans ((belowAlloc _ _).mono HB.out.size)).trans (HB1.out.mono (Nat.le_trans HB.out.size (by simp))))⟩
    case measure => simp [intOf]; omega
  ·
   obtain rfl : k = n := by omega
   go_wp2_with fail
   go_ret
   exact ⟨ret_bool HF.out.symm, HB.out⟩
section
variable (P nt tc : Nat) (tA : Option Addr) (w : World) (h3 : w.cell? ⟨P, 3, none⟩ = some (.slice tA nt tc)) (hnt : nt ≤ maxLen)
include h3 hnt in
theorem dlast_any : Calls Tryz.prog 46 #[.pointer (some ⟨P, 0, none⟩)] w fun e w' => e = .returned (.int .i64 ((nt : Int) - 1)) ∧ w' = w := by
 unfold maxLen at hnt
 go_enter Tryz.func46, Tryz.ntmps46
 go_wp2_with fail
 go_ret
 exact ⟨rfl, rfl⟩
include h3 hnt in
theorem dvalid_any (A : Option Addr) (n c B : Nat) (f : Nat → Nat → Int) (hn : n ≤ maxLen) (hR : Rd w B A 3 n f) (hB : B ≤ w.heap.size) :
  Calls Tryz.prog 86 #[.pointer (some ⟨P, 0, none⟩), .slice A n c] w fun e w' => e = .returned (.bool (decide (n + 1 = nt) && M.allTo n fun t => M.pushB (f t))) ∧ Below w.heap.size w w' := by
 obtain ⟨r, hr⟩ : ∃ r, (M.allTo n fun t => M.pushB (f t)) = r := ⟨_, rfl⟩
 have HA := Lib.hid (dallpush_any A n c B f w hn hR hB)
 have HL := Lib.hid (dlast_any P nt tc tA w h3 hnt)
 rw [hr] at HA ⊢
 clear hr hR
 unfold maxLen at hn hnt
 by_cases he : n + 1 = nt
 ·
  have g1 : ((n : Int) == (nt : Int) - 1) = true := by rw [beq_iff_eq]; omega
  rw [decide_eq_true he]
  clear he
  go_enter Tryz.func86, Tryz.ntmps86
  go_wp2_with (first | (go_at_call 46; refine HL.out.mono ?_; rintro e w1 ⟨rfl, rfl⟩) | (go_at_call 116; refine HA.out.mono ?_; rintro e w1 ⟨rfl, hb1⟩))
  go_ret
  exact ⟨ret_bool (by simp), hb1⟩
 ·
  have g1 : ((n : Int) == (nt : Int) - 1) = false := by rw [beq_eq_false_iff_ne]; omega
  rw [decide_eq_false he]
  clear he
  go_enter Tryz.func86, Tryz.ntmps86
  go_wp2_with (go_at_call 46; refine HL.out.mono ?_; rintro e w1 ⟨rfl, rfl⟩)
  go_ret
  exact ⟨ret_bool (by simp), Below.refl _ _⟩
include h3 hnt in
theorem dallcur_any (A : Option Addr) (n c B : Nat) (cl : Nat → Nat) (cu : Nat → Nat → Nat → Int) (hm : n ≤ maxLen) (hR : RdP w B A n cl cu) (hB : B ≤ w.heap.size) :
  Calls Tryz.prog 85 #[.slice A n c, .func (.func 86) #[.pointer (some ⟨P, 0, none⟩)] #[]] w fun e w' => e = .returned (.bool (M.allTo n fun i => decide (cl i + 1 = nt) && M.allTo (cl i) fun t => M.pushB (cu i t))) ∧ Below w.heap.size w w' := by
 have hPw : P < w.heap.size := by
  obtain ⟨o, ho, _⟩ := cells_of_cell h3
  exact (Array.getElem?_eq_some_iff.1 ho).1
 unfold maxLen at hm
 have HR := Lib.hid hR
 have HV := Lib.hid (fun W (hb : Below w.heap.size w W) i (hi : i < n) => dvalid_any P nt tc tA W ((hb.cell hPw).trans h3) hnt)
 clear hR h3
 go_enter Tryz.func85, Tryz.ntmps85
 go_wp2_with fail
 go_loopw [9] (fun i wr => ∃ k : Nat, k ≤ n ∧ i = .int .i64 k ∧ M.allTo k (fun i => decide (cl i + 1 = nt) && M.allTo (cl i) fun t => M.pushB (cu i t)) = true ∧ Hid (Below w.heap.size w wr)) (fun i _ => n - (intOf i).toNat)
 case atStart => exact ⟨0, Nat.zero_le _, rfl, rfl, Lib.hid (Below.refl _ _)⟩
 case round =>
  obtain ⟨k, hk, rfl, hf, HB⟩ := hrel
  have HF := Lib.hid hf
  clear hf
  by_cases hlt : k < n
  ·
   obtain ⟨b, off, rA, rc, rfl, hb, c0, hrd, hcl⟩ := (HR.out.below (HB.out.mono hB)).at_ hlt
   have HVK := Lib.hid (HV.out wr HB.out k hlt rA (cl k) rc B (cu k) hcl hrd (Nat.le_trans hB HB.out.size))
   obtain ⟨q, hq⟩ : ∃ q, (decide (cl k + 1 = nt) && M.allTo (cl k) fun t => M.pushB (cu k t)) = q := ⟨_, rfl⟩
   rw [hq] at HVK
   have HQ := Lib.hid hq
   clear hq hrd
   cases q
   ·
    go_wp2_with (go_at_call 86; refine HVK.out.mono ?_; rintro e w1 ⟨rfl, hb1⟩; have HB1 := Lib.hid hb1; clear hb1)
    go_ret
    refine ⟨ret_bool ?_, HB.out.trans (HB1.out.mono HB.out.size)⟩
    cases ha : M.allTo n (fun i => decide (cl i + 1 = nt) && M.allTo (cl i) fun t => M.pushB (cu i t))
    · rfl
    ·
     have := M.allTo_iff.1 ha k hlt
     rw [HQ.out] at this; cases this
   ·
    go_wp2_with (go_at_call 86; refine HVK.out.mono ?_; rintro e w1 ⟨rfl, hb1⟩; have HB1 := Lib.hid hb1; clear hb1)
    go_roundw
    case rel => exact ⟨k + 1, by omega, by go_num, by unfold M.allTo; rw [HF.out]; exact HQ.out, Lib.hid (HB.out.trans (HB1.out.mono HB.out.size))⟩
    case measure => simp [intOf]; omega
  ·
   obtain rfl : k = n := by omega
   go_wp2_with fail
   go_ret
   exact ⟨ret_bool HF.out.symm, HB.out⟩
end
section
variable (x cn cc : Nat) (cA : Option Addr) (w : World) (h6 : w.cell? ⟨x, 6, none⟩ = some (.slice cA cn cc)) (hcn : cn ≤ maxLen)
include h6 hcn in
theorem dzone_any (n : Int) : Calls Tryz.prog 82 #[.int .i64 n, .pointer (some ⟨x, 0, none⟩)] w fun e w' => e = .returned (.bool (M.inB 0 ((cn : Int) - 1) n)) ∧ w' = w := by
 unfold maxLen at hcn
 go_enter Tryz.func82, Tryz.ntmps82
 go_wp2_with (go_at_call 45; refine (dwithin_any _ _ _ _).mono ?_; rintro e w1 ⟨rfl, rfl⟩)
 go_ret
 exact ⟨rfl, rfl⟩
include h6 hcn in
theorem dallzones_any (A : Option Addr) (n c B : Nat) (f : Nat → Int) (hm : n ≤ maxLen) (hR : Rd1 w B A n f) :
  Calls Tryz.prog 84 #[.slice A n c, .func (.func 82) #[] #[.pointer (some ⟨x, 0, none⟩)]] w fun e w' => e = .returned (.bool (M.allTo n fun i => M.inB 0 ((cn : Int) - 1) (f i))) ∧ w' = w := by
 unfold maxLen at hm
 have HC := Lib.hid (fun n => dzone_any x cn cc cA w h6 hcn n)
 have HR := Lib.hid hR
 clear h6 hR
 go_enter Tryz.func84, Tryz.ntmps84
 go_wp2_with fail
 go_loopw [9] (fun i wr => ∃ k : Nat, k ≤ n ∧ i = .int .i64 k ∧ M.allTo k (fun i => M.inB 0 ((cn : Int) - 1) (f i)) = true ∧ wr = w) (fun i _ => n - (intOf i).toNat)
 case atStart => exact ⟨0, Nat.zero_le _, rfl, rfl, rfl⟩
 case round =>
  obtain ⟨k, hk, rfl, hf, rfl⟩ := hrel
  have HF := Lib.hid hf
  clear hf
  by_cases hlt : k < n
  ·
   obtain ⟨b, off, rfl, hb, c0⟩ := HR.out.at_ hlt
   cases hp : M.inB 0 ((cn : Int) - 1) (f k)
   ·
    have HP := Lib.hid hp
    clear hp
    go_wp2_with (go_at_call 82; refine (HC.out _).mono ?_; rw [HP.out]; rintro e w1 ⟨rfl, rfl⟩)
    go_ret
    refine ⟨ret_bool ?_, rfl⟩
    cases ha : M.allTo n (fun i => M.inB 0 ((cn : Int) - 1) (f i))
    · rfl
    ·
     have := M.allTo_iff.1 ha k hlt
     rw [HP.out] at this; cases this
   ·
    have HP := Lib.hid hp
    clear hp
    go_wp2_with (go_at_call 82; refine (HC.out _).mono ?_; rw [HP.out]; rintro e w1 ⟨rfl, rfl⟩)
    go_roundw
    case rel => exact ⟨k + 1, by omega, by go_num, by simp [M.allTo, HF.out, HP.out], by first | rfl | trivial⟩
    case measure => simp [intOf]; omega
  ·
   obtain rfl : k = n := by omega
   go_wp2_with fail
   go_ret
   exact ⟨ret_bool HF.out.symm, rfl⟩
end
end Go.Proofs.YtnbeembnnjdmdaaGreatDoor
/- drift: open. -/
namespace Go.Proofs.YtnbeembnnjdmdaaGreatDoor
open Go.RowKit Go.Maps

theorem run_makeMap0 {P : Program} (t : TypeId) (w : World) : (Instr.makeMap t none).run P w = .ok (.map (some w.heap.size)) (w.alloc (.map #[] 0)) := rfl
attribute [local go_sem] run_makeMap0
theorem M.inB14 (n : Nat) : M.inB 1 4 (n : Int) = (decide (1 ≤ n) && decide (n ≤ 4)) := by
 cases h : M.inB 1 4 (n : Int)
 ·
  have this : (1 ≤ (n : Int) ∧ (n : Int) ≤ 4) → False := fun h2 => by rw [M.inB_iff.2 h2] at h; cases h
  by_cases h1 : 1 ≤ n
  ·
   by_cases h2 : n ≤ 4
   · exact (this ⟨by omega, by omega⟩).elim
   · rw [decide_eq_false h2]; simp
  · rw [decide_eq_false h1]; rfl
 ·
  have := M.inB_iff.1 h
  rw [decide_eq_true (by omega : 1 ≤ n), decide_eq_true (by omega : n ≤ 4)]; rfl
def OpenR (W H : Int) (dA tA sA zA cA wA : Option Addr) (nd dc nt tc ns sc zn zc cn cc wn wc : Nat) (w : World) (e : Ending) (w' : World) : Prop :=
 ∃ P m1 m2, e = .returned (.tuple #[.pointer (some ⟨P, 0, none⟩), .int .i64 0]) ∧ w.heap.size ≤ P ∧ w.heap.size ≤ m1 ∧ w.heap.size ≤ m2 ∧ m1 ≠ m2 ∧ Blk w' P 130 #[.int .i64 W, .int .i64 H, .slice dA nd dc, .slice tA nt tc, .slice sA ns sc, .slice zA zn zc, .slice cA cn cc, .slice wA wn wc, .map (some m1), .map (some m2)] ∧
  MemoM w' Tryz.prog 96 sliceR m1 77760 stepV (fun _ => (none : Option (DataW Unit))) ∧ MemoM w' Tryz.prog 193 (plainElem Tryz.prog 3) m2 864 nearV (fun _ => (none : Option (DataW Unit)))
section
variable (W H : Int) (dA tA sA zA cA wA : Option Addr) (nd dc nt tc ns sc zn zc cn cc wn wc B : Nat) (dep : Nat → Int) (tide : Nat → Nat → Int) (sw : Nat → Int) (z : Nat → Int) (cl : Nat → Nat) (cu : Nat → Nat → Nat → Int) (wd : Nat → Nat → Int) (w : World)
set_option maxRecDepth 100000 in
set_option maxHeartbeats 3200000 in
theorem dopen_any (hnd : nd ≤ maxLen) (hnt : nt ≤ maxLen) (hns : ns ≤ maxLen) (hzn : zn ≤ maxLen) (hcn : cn ≤ maxLen) (hwn : wn ≤ maxLen) (hR : RdD w B dA tA sA zA cA wA nd nt ns zn cn wn dep tide sw z cl cu wd) (hB : B ≤ w.heap.size) :
  Calls Tryz.prog 43 #[.agg #[.int .i64 W, .int .i64 H, .slice dA nd dc, .slice tA nt tc, .slice sA ns sc, .slice zA zn zc, .slice cA cn cc, .slice wA wn wc]] w fun e w' => Below w.heap.size w w' ∧
   if M.chkD (M.chkC W H nd nt ns dep tide sw) nd nt zn cn wn z cl cu wd = true then OpenR W H dA tA sA zA cA wA nd dc nt tc ns sc zn zc cn cc wn wc w e w' else e = .returned (.tuple #[.pointer none, .int .i64 20]) := by
 obtain ⟨E, hE⟩ : ∃ E, M.chkD (M.chkC W H nd nt ns dep tide sw) nd nt zn cn wn z cl cu wd = E := ⟨_, rfl⟩
 rw [hE]
 unfold M.chkD at hE
 have HRD := Lib.hid hR
 clear hR
 go_enter Tryz.func43, Tryz.ntmps43
 go_upto_region 3 with fail
 have K0 := Lib.hid ((((Blk.new w 29 #[.int .i64 W, .int .i64 H, .slice dA nd dc, .slice tA nt tc, .slice sA ns sc, .slice zA zn zc, .slice cA cn cc, .slice wA wn wc]).alloc (.map #[] 0)).alloc (.map #[] 0)).alloc (.cells #[.int .i64 W, .int .i64 H, .slice dA nd dc, .slice tA nt tc, .slice sA ns sc, .slice zA zn zc, .slice cA cn cc, .slice wA wn wc, .map (some (w.heap.size + 1)), .map (some (w.heap.size + 1 + 1))] 130))
 have KS := Lib.hid (Blk.new3 w (.cells #[.int .i64 W, .int .i64 H, .slice dA nd dc, .slice tA nt tc, .slice sA ns sc, .slice zA zn zc, .slice cA cn cc, .slice wA wn wc] 29) (.map #[] 0) (.map #[] 0) 130 #[.int .i64 W, .int .i64 H, .slice dA nd dc, .slice tA nt tc, .slice sA ns sc, .slice zA zn zc, .slice cA cn cc, .slice wA wn wc, .map (some (w.heap.size + 1)), .map (some (w.heap.size + 1 + 1))])
 have M1 := Lib.hid (((MemoM.made (H := Unit) (w.alloc (.cells #[.int .i64 W, .int .i64 H, .slice dA nd dc, .slice tA nt tc, .slice sA ns sc, .slice zA zn zc, .slice cA cn cc, .slice wA wn wc] 29)) Tryz.prog 96 sliceR 77760 stepV).kept (World.grownBy_alloc _ (.map #[] 0) none) (by simp)).kept (World.grownBy_alloc _ (.cells #[.int .i64 W, .int .i64 H, .slice dA nd dc, .slice tA nt tc, .slice sA ns sc, .slice zA zn zc, .slice cA cn cc, .slice wA wn wc, .map (some (w.heap.size + 1)), .map (some (w.heap.size + 1 + 1))] 130) none) (by simp))
 have M2 := Lib.hid ((MemoM.made (H := Unit) ((w.alloc (.cells #[.int .i64 W, .int .i64 H, .slice dA nd dc, .slice tA nt tc, .slice sA ns sc, .slice zA zn zc, .slice cA cn cc, .slice wA wn wc] 29)).alloc (.map #[] 0)) Tryz.prog 193 (plainElem Tryz.prog 3) 864 nearV).kept (World.grownBy_alloc _ (.cells #[.int .i64 W, .int .i64 H, .slice dA nd dc, .slice tA nt tc, .slice sA ns sc, .slice zA zn zc, .slice cA cn cc, .slice wA wn wc, .map (some (w.heap.size + 1)), .map (some (w.heap.size + 1 + 1))] 130) none) (by simp))
 rw [World.size_alloc] at M1
 rw [World.size_alloc, World.size_alloc] at M2
 have HX := Lib.hid ((belowAlloc3 w (.cells #[.int .i64 W, .int .i64 H, .slice dA nd dc, .slice tA nt tc, .slice sA ns sc, .slice zA zn zc, .slice cA cn cc, .slice wA wn wc] 29) (.map #[] 0) (.map #[] 0)).alloc (by simp; omega) (.cells #[.int .i64 W, .int .i64 H, .slice dA nd dc, .slice tA nt tc, .slice sA ns sc, .slice zA zn zc, .slice cA cn cc, .slice wA wn wc, .map (some (w.heap.size + 1)), .map (some (w.heap.size + 1 + 1))] 130))
 generalize (((w.alloc (.cells #[.int .i64 W, .int .i64 H, .slice dA nd dc, .slice tA nt tc, .slice sA ns sc, .slice zA zn zc, .slice cA cn cc, .slice wA wn wc] 29)).alloc (.map #[] 0)).alloc (.map #[] 0)).alloc (.cells #[.int .i64 W, .int .i64 H, .slice dA nd dc, .slice tA nt tc, .slice sA ns sc, .slice zA zn zc, .slice cA cn cc, .slice wA wn wc, .map (some (w.heap.size + 1)), .map (some (w.heap.size + 1 + 1))] 130) = X at K0 KS M1 M2 HX ⊢
 have hBX : B ≤ X.heap.size := Nat.le_trans hB HX.out.size
 have HRX := Lib.hid (HRD.out.below (HX.out.mono hB))
 have HCK := Lib.hid (cchk_any W H dA tA sA nd dc nt tc ns sc B dep tide sw X hnd hnt hns HRX.out.c hBX)
 have HZ := Lib.hid (fun Z (hb : Below X.heap.size X Z) => dallzones_any w.heap.size cn cc cA Z ((K0.out.below' hb).cell 6) hcn zA zn zc B z hzn (HRX.out.z.below (hb.mono hBX)))
 have HC := Lib.hid (fun Z (hb : Below X.heap.size X Z) => dallcur_any (w.heap.size + 1 + 1 + 1) nt tc tA Z ((KS.out.below' hb).cell 3) hnt cA cn cc B cl cu hcn (HRX.out.cu.below (hb.mono hBX)) (Nat.le_trans hBX hb.size))
 have HV := Lib.hid (fun Z (hb : Below X.heap.size X Z) => dvalid_any (w.heap.size + 1 + 1 + 1) nt tc tA Z ((KS.out.below' hb).cell 3) hnt wA wn wc B wd hwn (HRX.out.wd.below (hb.mono hBX)) (Nat.le_trans hBX hb.size))
 have HI := Lib.hid (fun Z => dwithin_any (cn : Int) 1 4 Z)
 rw [M.inB14] at HI
 obtain ⟨z0, z1, z2, z3⟩ := K0.out.c4
 have z4 := K0.out.cell 4
 generalize M.chkC W H nd nt ns dep tide sw = q0 at hE HCK
 generalize M.allTo zn (fun i => M.inB 0 ((cn : Int) - 1) (z i)) = q3 at hE HZ
 generalize M.allTo cn (fun i => decide (cl i + 1 = nt) && M.allTo (cl i) fun t => M.pushB (cu i t)) = q4 at hE HC
 generalize (decide (wn + 1 = nt) && M.allTo wn fun t => M.pushB (wd t)) = q5 at hE HV
 generalize (decide (1 ≤ cn) && decide (cn ≤ 4)) = q2 at hE HI
 have g1 : ((zn : Int) != (nd : Int)) = !decide (zn = nd) := by
  by_cases h : zn = nd
  · subst h; simp
  · rw [decide_eq_false h]; simp; omega
 generalize decide (zn = nd) = q1 at hE g1
 unfold maxLen at hnd hnt hns hzn hcn hwn
 clear hB HRD HRX
 cases q0
 ·
  obtain rfl : E = false := by rw [← hE]; simp
  go_wp2_with ((go_at_call 83; refine HCK.out.mono ?_; rintro e w1 ⟨rfl, hb1⟩; have HB1 := Lib.hid hb1; have D1 := Lib.hid (K0.out.below' hb1); have e2 := D1.out.cell 2; have e5 := D1.out.cell 5; have e6 := D1.out.cell 6; have e7 := D1.out.cell 7; clear hb1))
  go_ret2
  exact ⟨HX.out.trans (HB1.out.mono HX.out.size), by first | rfl | (rw [if_neg (by simp)]; rfl)⟩
 ·
  cases q1
  ·
   obtain rfl : E = false := by rw [← hE]; simp
   simp only [Bool.not_false] at g1
   go_wp2_with ((go_at_call 83; refine HCK.out.mono ?_; rintro e w1 ⟨rfl, hb1⟩; have HB1 := Lib.hid hb1; have D1 := Lib.hid (K0.out.below' hb1); have e2 := D1.out.cell 2; have e5 := D1.out.cell 5; have e6 := D1.out.cell 6; have e7 := D1.out.cell 7; clear hb1))
   go_ret2
   exact ⟨HX.out.trans (HB1.out.mono HX.out.size), by first | rfl | (rw [if_neg (by simp)]; rfl)⟩
  ·
   cases q2
   ·
    obtain rfl : E = false := by rw [← hE]; simp
    simp only [Bool.not_true] at g1
    go_wp2_with (first | (go_at_call 83; refine HCK.out.mono ?_; rintro e w1 ⟨rfl, hb1⟩; have HB1 := Lib.hid hb1; have D1 := Lib.hid (K0.out.below' hb1); have e2 := D1.out.cell 2; have e5 := D1.out.cell 5; have e6 := D1.out.cell 6; have e7 := D1.out.cell 7; clear hb1) | (go_at_call 45; refine (HI.out _).mono ?_; rintro e w9 ⟨rfl, rfl⟩))
    go_ret2
    exact ⟨HX.out.trans (HB1.out.mono HX.out.size), by first | rfl | (rw [if_neg (by simp)]; rfl)⟩
   ·
    cases q3
    ·
     obtain rfl : E = false := by rw [← hE]; simp
     simp only [Bool.not_true] at g1
     go_wp2_with (first | (go_at_call 83; refine HCK.out.mono ?_; rintro e w1 ⟨rfl, hb1⟩; have HB1 := Lib.hid hb1; have D1 := Lib.hid (K0.out.below' hb1); have e2 := D1.out.cell 2; have e5 := D1.out.cell 5; have e6 := D1.out.cell 6; have e7 := D1.out.cell 7; clear hb1) | (go_at_call 45; refine (HI.out _).mono ?_; rintro e w9 ⟨rfl, rfl⟩) | (go_at_call 84; refine (HZ.out _ HB1.out).mono ?_; rintro e w9 ⟨rfl, rfl⟩))
     go_ret2
     exact ⟨HX.out.trans (HB1.out.mono HX.out.size), by first | rfl | (rw [if_neg (by simp)]; rfl)⟩
    ·
     cases q4
     ·
      obtain rfl : E = false := by rw [← hE]; simp
      simp only [Bool.not_true] at g1
      go_wp2_with (first | (go_at_call 83; refine HCK.out.mono ?_; rintro e w1 ⟨rfl, hb1⟩; have HB1 := Lib.hid hb1; have D1 := Lib.hid (K0.out.below' hb1); have e2 := D1.out.cell 2; have e5 := D1.out.cell 5; have e6 := D1.out.cell 6; have e7 := D1.out.cell 7; clear hb1) | (go_at_call 45; refine (HI.out _).mono ?_; rintro e w9 ⟨rfl, rfl⟩) | (go_at_call 84; refine (HZ.out _ HB1.out).mono ?_; rintro e w9 ⟨rfl, rfl⟩) | (go_at_call 85; refine (HC.out _ HB1.out).mono ?_; rintro e w2 ⟨rfl, hb2⟩; have HB2 := Lib.hid (HB1.out.trans (hb2.mono HB1.out.size)); have D2 := Lib.hid (K0.out.below' HB2.out); have f7 := D2.out.cell 7; clear hb2))
      go_ret2
      exact ⟨HX.out.trans (HB2.out.mono HX.out.size), by first | rfl | (rw [if_neg (by simp)]; rfl)⟩
     ·
      cases q5
      ·
       obtain rfl : E = false := by rw [← hE]; simp
       simp only [Bool.not_true] at g1
       go_wp2_with (first | (go_at_call 83; refine HCK.out.mono ?_; rintro e w1 ⟨rfl, hb1⟩; have HB1 := Lib.hid hb1; have D1 := Lib.hid (K0.out.below' hb1); have e2 := D1.out.cell 2; have e5 := D1.out.cell 5; have e6 := D1.out.cell 6; have e7 := D1.out.cell 7; clear hb1) | (go_at_call 45; refine (HI.out _).mono ?_; rintro e w9 ⟨rfl, rfl⟩) | (go_at_call 84; refine (HZ.out _ HB1.out).mono ?_; rintro e w9 ⟨rfl, rfl⟩) | (go_at_call 85; refine (HC.out _ HB1.out).mono ?_; rintro e w2 ⟨rfl, hb2⟩; have HB2 := Lib.hid (HB1.out.trans (hb2.mono HB1.out.size)); have D2 := Lib.hid (K0.out.below' HB2.out); have f7 := D2.out.cell 7; clear hb2) | (go_at_call 86; refine (HV.out _ HB2.out).mono ?_; rintro e w3 ⟨rfl, hb3⟩; have HB3 := Lib.hid (HB2.out.trans (hb3.mono HB2.out.size)); clear hb3))
       go_ret2
       exact ⟨HX.out.trans (HB3.out.mono HX.out.size), by first | rfl | (rw [if_neg (by simp)]; rfl)⟩
      ·
       obtain rfl : E = true := by rw [← hE]; simp
       simp only [Bool.not_true] at g1
       go_wp2_with (first | (go_at_call 83; refine HCK.out.mono ?_; rintro e w1 ⟨rfl, hb1⟩; have HB1 := Lib.hid hb1; have D1 := Lib.hid (K0.out.below' hb1); have e2 := D1.out.cell 2; have e5 := D1.out.cell 5; have e6 := D1.out.cell 6; have e7 := D1.out.cell 7; clear hb1) | (go_at_call 45; refine (HI.out _).mono ?_; rintro e w9 ⟨rfl, rfl⟩) | (go_at_call 84; refine (HZ.out _ HB1.out).mono ?_; rintro e w9 ⟨rfl, rfl⟩) | (go_at_call 85; refine (HC.out _ HB1.out).mono ?_; rintro e w2 ⟨rfl, hb2⟩; have HB2 := Lib.hid (HB1.out.trans (hb2.mono HB1.out.size)); have D2 := Lib.hid (K0.out.below' HB2.out); have f7 := D2.out.cell 7; clear hb2) | (go_at_call 86; refine (HV.out _ HB2.out).mono ?_; rintro e w3 ⟨rfl, hb3⟩; have HB3 := Lib.hid (HB2.out.trans (hb3.mono HB2.out.size)); clear hb3))
       go_ret2
       refine ⟨HX.out.trans (HB3.out.mono HX.out.size), ?_⟩
       try rw [if_pos rfl]
       exact ⟨w.heap.size + 1 + 1 + 1, w.heap.size + 1, w.heap.size + 1 + 1, rfl, by omega, by omega, by omega, by omega, KS.out.below' HB3.out, M1.out.kept (below_grown HB3.out none) (by simp), M2.out.kept (below_grown HB3.out none) (by simp)⟩
end
end Go.Proofs.YtnbeembnnjdmdaaGreatDoor
