/- chart.Check, and the library's IndexFunc with any pure function. -/
import Derived.Test.YtnbeembnnjdmdaaGreatDoorCp
import Derived.Test.YtnbeembnnjdmdaaGreatDoorLaA
namespace Go.Proofs.YtnbeembnnjdmdaaGreatDoor
open Go.RowKit

theorem within_any (n lo hi : Int) (w : World) :
  Calls Tryz.prog 110 #[.int .i64 n, .int .i64 lo, .int .i64 hi] w fun e w' => e = .returned (.bool (M.inB lo hi n)) ∧ w' = w := by
 unfold M.inB
 by_cases h1 : lo ≤ n
 ·
  have g1 : decide (n < lo) = false := decide_eq_false (by omega)
  go_enter Tryz.func110, Tryz.ntmps110
  go_wp2_with fail
  go_ret
  exact ⟨ret_bool (by simp [h1]), rfl⟩
 ·
  have g1 : decide (n < lo) = true := decide_eq_true (by omega)
  go_enter Tryz.func110, Tryz.ntmps110
  go_wp2_with fail
  go_ret
  exact ⟨ret_bool (by simp; omega), rfl⟩
theorem deep_any (n : Int) (w : World) :
  Calls Tryz.prog 111 #[.int .i64 n] w fun e w' => e = .returned (.bool (!M.inB (-1000) 1000 n)) ∧ Below w.heap.size w w' := by
 go_enter Tryz.func111, Tryz.ntmps111
 go_wp2_with (go_at_call 110; refine (within_any _ _ _ _).mono ?_; rintro e w1 ⟨rfl, rfl⟩)
 go_ret
 exact ⟨rfl, Below.refl _ _⟩
theorem swell_any (n : Int) (w : World) :
  Calls Tryz.prog 113 #[.int .i64 n] w fun e w' => e = .returned (.bool (!M.inB 0 100 n)) ∧ Below w.heap.size w w' := by
 go_enter Tryz.func113, Tryz.ntmps113
 go_wp2_with (go_at_call 110; refine (within_any _ _ _ _).mono ?_; rintro e w1 ⟨rfl, rfl⟩)
 go_ret
 exact ⟨rfl, Below.refl _ _⟩
def tideOk (a b : Int) : Bool := M.inB 0 b a && decide (b ≤ 200)
theorem tide_any (a b : Int) (w : World) :
  Calls Tryz.prog 112 #[.agg #[.int .i64 a, .int .i64 b]] w fun e w' => e = .returned (.bool (!tideOk a b)) ∧ Below w.heap.size w w' := by
 unfold tideOk M.inB
 by_cases h1 : a < 0
 ·
  go_enter Tryz.func112, Tryz.ntmps112
  have g1 : decide (a < 0) = true := decide_eq_true h1
  go_wp2_with fail
  go_ret
  exact ⟨ret_bool (by simp [h1]), belowAlloc w _⟩
 ·
  by_cases h2 : b < a
  ·
   go_enter Tryz.func112, Tryz.ntmps112
   have g1 : decide (a < 0) = false := decide_eq_false h1
   have g2 : decide (b < a) = true := decide_eq_true h2
   go_wp2_with fail
   go_ret
   exact ⟨ret_bool (by simp <;> omega), belowAlloc w _⟩
  ·
   by_cases h3 : 200 < b
   ·
    go_enter Tryz.func112, Tryz.ntmps112
    have g1 : decide (a < 0) = false := decide_eq_false h1
    have g2 : decide (b < a) = false := decide_eq_false h2
    have g3 : decide (200 < b) = true := decide_eq_true h3
    go_wp2_with fail
    go_ret
    exact ⟨ret_bool (by simp <;> omega), belowAlloc w _⟩
   ·
    go_enter Tryz.func112, Tryz.ntmps112
    have g1 : decide (a < 0) = false := decide_eq_false h1
    have g2 : decide (b < a) = false := decide_eq_false h2
    have g3 : decide (200 < b) = false := decide_eq_false h3
    go_wp2_with fail
    go_ret
    exact ⟨ret_bool (by simp <;> omega), belowAlloc w _⟩
def Idx (n : Nat) (p : Nat → Bool) (w : World) (e : Ending) (w' : World) : Prop := ∃ r : Int, e = .returned (.int .i64 r) ∧ decide (0 ≤ r) = M.anyTo n p ∧ Below w.heap.size w w'
def cfOk (cf : FuncId) : Prop := cf = 111 ∨ cf = 113 ∨ cf = 151 ∨ cf = 152 ∨ cf = 153
set_option maxHeartbeats 1600000 in
theorem idx_int (A : Option Addr) (n c B : Nat) (f : Nat → Int) (cf : FuncId) (caps : Array Value) (p : Int → Bool) (w : World) (hn : n ≤ maxLen) (hR : Rd1 w B A n f) (hB : B ≤ w.heap.size) (hcf : cfOk cf)
  (hf : ∀ W x, Below w.heap.size w W → Calls Tryz.prog cf (#[.int .i64 x] ++ caps) W fun e w' => e = .returned (.bool (p x)) ∧ Below W.heap.size W w') :
  Calls Tryz.prog 65 #[.slice A n c, .func (.func cf) #[] caps] w (Idx n (fun i => p (f i)) w) := by
 unfold maxLen at hn
 rcases hcf with rfl | rfl | rfl | rfl | rfl
 all_goals
  have HFN := Lib.hid hf
  clear hf
  go_enter Tryz.func65, Tryz.ntmps65
  go_wp2_with fail
  go_loopw [5, 8] (fun _ i wr => ∃ k : Nat, k ≤ n ∧ i = .int .i64 k ∧ M.anyTo k (fun i => p (f i)) = false ∧ Below w.heap.size w wr) (fun _ i _ => n - (intOf i).toNat)
  case atStart => exact ⟨0, Nat.zero_le _, rfl, rfl, Below.refl _ _⟩
  case round =>
   obtain ⟨k, hk, rfl, hf, hbw⟩ := hrel
   have HF := Lib.hid hf
   have HW := Lib.hid hbw
   have hz := hbw.size
   by_cases hlt : k < n
   ·
    obtain ⟨b, off, rfl, hb, c0⟩ := (hR.below (hbw.mono hB)).at_ hlt
    clear hf hbw hR
    cases hp : p (f k)
    ·
     have HP := Lib.hid hp
     clear hp
     go_wp2_with (refine (HFN.out _ _ HW.out).mono ?_; rw [HP.out]; rintro e w1 ⟨rfl, hb1⟩; have HB1 := Lib.hid hb1; clear hb1)
     go_roundw
     case rel => exact ⟨k + 1, by omega, by go_num, by simp [M.anyTo, HF.out, HP.out], HW.out.trans (HB1.out.mono hz)⟩
     case measure => simp [intOf]; omega
    ·
     have HP := Lib.hid hp
     clear hp
     go_wp2_with (refine (HFN.out _ _ HW.out).mono ?_; rw [HP.out]; rintro e w1 ⟨rfl, hb1⟩; have HB1 := Lib.hid hb1; clear hb1)
     go_ret
     exact ⟨_, rfl, (by rw [M.anyTo_iff.2 ⟨k, hlt, HP.out⟩]; exact decide_eq_true (by omega)), HW.out.trans (HB1.out.mono hz)⟩
   ·
    obtain rfl : k = n := by omega
    clear hf hbw hR
    go_wp2_with fail
    go_ret
    exact ⟨_, rfl, (by rw [HF.out]; rfl), HW.out⟩
theorem con_int (A : Option Addr) (n c B : Nat) (f : Nat → Int) (cf : FuncId) (caps : Array Value) (p : Int → Bool) (w : World) (hn : n ≤ maxLen) (hR : Rd1 w B A n f) (hB : B ≤ w.heap.size) (hcf : cfOk cf)
  (hf : ∀ W x, Below w.heap.size w W → Calls Tryz.prog cf (#[.int .i64 x] ++ caps) W fun e w' => e = .returned (.bool (p x)) ∧ Below W.heap.size W w') :
  Calls Tryz.prog 114 #[.slice A n c, .func (.func cf) #[] caps] w fun e w' => e = .returned (.bool (M.anyTo n fun i => p (f i))) ∧ Below w.heap.size w w' := by
 have HI := Lib.hid (idx_int A n c B f cf caps p w hn hR hB hcf hf)
 clear hf hR
 go_enter Tryz.func114, Tryz.ntmps114
 go_wp2_with (go_at_call 65; refine HI.out.mono ?_; rintro e w1 ⟨r, rfl, hr, hb⟩; have HR := Lib.hid hr; have HB := Lib.hid hb; clear hr hb)
 go_ret
 exact ⟨ret_bool HR.out, HB.out⟩
theorem idx_span (A : Option Addr) (n c B : Nat) (f : Nat → Nat → Int) (w : World) (hn : n ≤ maxLen) (hR : Rd w B A 2 n f) (hB : B ≤ w.heap.size) :
  Calls Tryz.prog 138 #[.slice A n c, .func (.func 112) #[] #[]] w (Idx n (fun i => !tideOk (f i 0) (f i 1)) w) := by
 unfold maxLen at hn
 go_enter Tryz.func138, Tryz.ntmps138
 go_wp2_with fail
 go_loopw [5, 8] (fun _ i wr => ∃ k : Nat, k ≤ n ∧ i = .int .i64 k ∧ M.anyTo k (fun i => !tideOk (f i 0) (f i 1)) = false ∧ Below w.heap.size w wr) (fun _ i _ => n - (intOf i).toNat)
 case atStart => exact ⟨0, Nat.zero_le _, rfl, rfl, Below.refl _ _⟩
 case round =>
  obtain ⟨k, hk, rfl, hf, hbw⟩ := hrel
  have HF := Lib.hid hf
  have HW := Lib.hid hbw
  have hz := hbw.size
  by_cases hlt : k < n
  ·
   obtain ⟨b, off, rfl, hb, c0, c1⟩ := (hR.below (hbw.mono hB)).at2 hlt
   clear hf hbw hR
   cases hp : tideOk (f k 0) (f k 1)
   ·
    have HP := Lib.hid hp
    go_wp2_with (go_at_call 112; refine (tide_any _ _ _).mono ?_; rw [HP.out]; rintro e w1 ⟨rfl, hb1⟩; have HB1 := Lib.hid hb1; clear hb1)
    go_ret
    exact ⟨_, rfl, (by rw [M.anyTo_iff.2 ⟨k, hlt, by rw [HP.out]; rfl⟩]; exact decide_eq_true (by omega)), HW.out.trans (HB1.out.mono hz)⟩
   ·
    have HP := Lib.hid hp
    go_wp2_with (go_at_call 112; refine (tide_any _ _ _).mono ?_; rw [HP.out]; rintro e w1 ⟨rfl, hb1⟩; have HB1 := Lib.hid hb1; clear hb1)
    go_roundw
    case rel => exact ⟨k + 1, by omega, by go_num, by simp [M.anyTo, HF.out, HP.out], HW.out.trans (HB1.out.mono hz)⟩
    case measure => simp [intOf]; omega
  ·
   obtain rfl : k = n := by omega
   clear hf hbw hR
   go_wp2_with fail
   go_ret
   exact ⟨_, rfl, (by rw [HF.out]; rfl), HW.out⟩
theorem con_span (A : Option Addr) (n c B : Nat) (f : Nat → Nat → Int) (w : World) (hn : n ≤ maxLen) (hR : Rd w B A 2 n f) (hB : B ≤ w.heap.size) :
  Calls Tryz.prog 115 #[.slice A n c, .func (.func 112) #[] #[]] w fun e w' => e = .returned (.bool (M.anyTo n fun i => !tideOk (f i 0) (f i 1))) ∧ Below w.heap.size w w' := by
 go_enter Tryz.func115, Tryz.ntmps115
 go_wp2_with (go_at_call 138; refine (idx_span _ _ _ B f _ hn hR hB).mono ?_; rintro e w1 ⟨r, rfl, hr, hb⟩; have HR := Lib.hid hr; have HB := Lib.hid hb; clear hr hb)
 go_ret
 exact ⟨ret_bool HR.out, HB.out⟩
end Go.Proofs.YtnbeembnnjdmdaaGreatDoor
/- chart.Check. -/
namespace Go.Proofs.YtnbeembnnjdmdaaGreatDoor
open Go.RowKit

structure RdC (w : World) (B : Nat) (dA tA sA : Option Addr) (nd nt ns : Nat) (dep : Nat → Int) (tide : Nat → Nat → Int) (sw : Nat → Int) : Prop where
 d : Rd1 w B dA nd dep
 t : Rd w B tA 2 nt tide
 s : Rd1 w B sA ns sw
theorem RdC.below {w w' : World} {B : Nat} {dA tA sA : Option Addr} {nd nt ns : Nat} {dep : Nat → Int} {tide : Nat → Nat → Int} {sw : Nat → Int} (h : RdC w B dA tA sA nd nt ns dep tide sw) (hb : Below B w w') : RdC w' B dA tA sA nd nt ns dep tide sw := ⟨h.d.below hb, h.t.below hb, h.s.below hb⟩
theorem RdC.more {w : World} {B B' : Nat} {dA tA sA : Option Addr} {nd nt ns : Nat} {dep : Nat → Int} {tide : Nat → Nat → Int} {sw : Nat → Int} (h : RdC w B dA tA sA nd nt ns dep tide sw) (hb : B ≤ B') : RdC w B' dA tA sA nd nt ns dep tide sw := ⟨h.d.more hb, h.t.more hb, h.s.more hb⟩
theorem wrap_mul {W H : Int} (h1 : M.inB 1 12 W = true) (h2 : M.inB 1 12 H = true) : wrap64 (W * H) = W * H ∧ IntKind.i64.wrap (W * H) = W * H := by
 obtain ⟨a1, a2⟩ := M.inB_iff.1 h1
 obtain ⟨b1, b2⟩ := M.inB_iff.1 h2
 have h3 : 0 ≤ W * H := Int.mul_nonneg (by omega) (by omega)
 have h4 : W * H ≤ 12 * 12 := Int.mul_le_mul a2 b2 (by omega) (by omega)
 generalize W * H = q at *
 refine ⟨IntWalk.wrap64_in _ (by omega), ?_⟩
 rw [IntKind.wrap_i64]
 omega
section
variable (W H : Int) (dA tA sA : Option Addr) (nd dc nt tc ns sc B : Nat) (dep : Nat → Int) (tide : Nat → Nat → Int) (sw : Nat → Int) (w : World)
set_option maxRecDepth 100000 in
set_option maxHeartbeats 3200000 in
theorem cchk_any (hnd : nd ≤ maxLen) (hnt : nt ≤ maxLen) (hns : ns ≤ maxLen) (hR : RdC w B dA tA sA nd nt ns dep tide sw) (hB : B ≤ w.heap.size) :
  Calls Tryz.prog 83 #[.agg #[.int .i64 W, .int .i64 H, .slice dA nd dc, .slice tA nt tc, .slice sA ns sc]] w fun e w' => e = .returned (.int .i64 (if M.chkC W H nd nt ns dep tide sw then 0 else 10)) ∧ Below w.heap.size w w' := by
 obtain ⟨E, hE⟩ : ∃ E, E = M.chkC W H nd nt ns dep tide sw := ⟨_, rfl⟩
 rw [← hE]
 unfold M.chkC at hE
 obtain ⟨R, hRE⟩ : ∃ R : Int, R = if E then 0 else 10 := ⟨_, rfl⟩
 rw [← hRE]
 have HRE := Lib.hid hRE
 clear hRE
 have HB0 := Lib.hid (belowAlloc w (.cells #[.int .i64 W, .int .i64 H, .slice dA nd dc, .slice tA nt tc, .slice sA ns sc] 25))
 have D0 := Lib.hid (Blk.new w 25 #[.int .i64 W, .int .i64 H, .slice dA nd dc, .slice tA nt tc, .slice sA ns sc])
 by_cases hp : M.inB 1 12 W = true ∧ M.inB 1 12 H = true ∧ (nd : Int) = W * H ∧ M.inB 1 60 nt = true ∧ ns = nt
 ·
  obtain ⟨h1, h2, h3, h4, rfl⟩ := hp
  obtain ⟨m1, m2⟩ := wrap_mul h1 h2
  have g1 : ((nd : Int) != W * H) = false := by rw [h3]; simp
  have g2 : ((ns : Int) != (ns : Int)) = false := by simp
  have HE := Lib.hid hE
  have H0 := Lib.hid (And.intro h1 (And.intro h2 (And.intro h3 h4)))
  have HR := Lib.hid (hR.below (HB0.out.mono hB))
  clear hE h3 hR
  go_enter Tryz.func83, Tryz.ntmps83
  go_upto_region 6 with (go_at_call 110; refine (within_any _ _ _ _).mono ?_; rintro e w1 ⟨rfl, rfl⟩)
  obtain ⟨X, hX⟩ : ∃ X, X = w.alloc (.cells #[.int .i64 W, .int .i64 H, .slice dA nd dc, .slice tA ns tc, .slice sA ns sc] 25) := ⟨_, rfl⟩
  rw [← hX] at HB0 D0 HR
  rw [← hX]
  clear hX
  have hBX : B ≤ X.heap.size := Nat.le_trans hB HB0.out.size
  have HC1 := Lib.hid (fun W (hb : Below X.heap.size X W) => con_int dA nd dc B dep 111 #[] (fun x => !M.inB (-1000) 1000 x) W hnd (HR.out.d.below (hb.mono hBX)) (Nat.le_trans hBX hb.size) (.inl rfl) fun W' x _ => deep_any x W')
  have HC2 := Lib.hid (fun W (hb : Below X.heap.size X W) => con_span tA ns tc B tide W hns (HR.out.t.below (hb.mono hBX)) (Nat.le_trans hBX hb.size))
  have HC3 := Lib.hid (fun W (hb : Below X.heap.size X W) => con_int sA ns sc B sw 113 #[] (fun x => !M.inB 0 100 x) W hns (HR.out.s.below (hb.mono hBX)) (Nat.le_trans hBX hb.size) (.inr (.inl rfl)) fun W' x _ => swell_any x W')
  have d2 := D0.out.cell 2
  have d3 := D0.out.cell 3
  have d4 := D0.out.cell 4
  clear h1 h2 h4 m1 m2 g1 g2
  have e1 : M.anyTo nd (fun i => !M.inB (-1000) 1000 (dep i)) = !M.allTo nd (fun i => M.inB (-1000) 1000 (dep i)) := M.any_all
  have e2 : M.anyTo ns (fun i => !tideOk (tide i 0) (tide i 1)) = !M.allTo ns (fun i => tideOk (tide i 0) (tide i 1)) := M.any_all
  have e3 : M.anyTo ns (fun i => !M.inB 0 100 (sw i)) = !M.allTo ns (fun i => M.inB 0 100 (sw i)) := M.any_all
  rw [e1] at HC1
  rw [e2] at HC2
  rw [e3] at HC3
  cases q1 : M.allTo nd (fun i => M.inB (-1000) 1000 (dep i))
  ·
   have HQ := Lib.hid q1
   rw [q1] at HC1
   clear q1 e1 e2 e3
   go_wp2_with (go_at_call 114; go_must (refine (HC1.out _ (Below.refl _ _)).mono ?_); rintro e w1 ⟨rfl, hb1⟩; have HB1 := Lib.hid hb1; clear hb1)
   go_ret
   refine ⟨?_, HB0.out.trans (HB1.out.mono HB0.out.size)⟩
   have : E = false := by rw [HE.out, HQ.out]; simp
   rw [HRE.out, this]; rfl
  ·
   have HQ := Lib.hid q1
   rw [q1] at HC1
   clear q1 e1
   cases q2 : M.allTo ns (fun i => tideOk (tide i 0) (tide i 1))
   ·
    have HQ2 := Lib.hid q2
    rw [q2] at HC2
    clear q2 e2 e3
    go_wp2_with (first
     | (go_at_call 114; go_must (refine (HC1.out _ (Below.refl _ _)).mono ?_); rintro e w1 ⟨rfl, hb1⟩; have HB1 := Lib.hid hb1; have d3 := (D0.out.below' hb1).cell 3; clear hb1)
     | (go_at_call 115; go_must (refine (HC2.out _ HB1.out).mono ?_); rintro e w2 ⟨rfl, hb1⟩; have HB2 := Lib.hid (HB1.out.trans (hb1.mono HB1.out.size)); clear hb1))
    go_ret
    refine ⟨?_, HB0.out.trans (HB2.out.mono HB0.out.size)⟩
    have : E = false := by
     have h2 := HQ2.out
     unfold tideOk at h2
     rw [HE.out, h2]; simp
    rw [HRE.out, this]; rfl
   ·
    have HQ2 := Lib.hid q2
    rw [q2] at HC2
    clear q2 e2 e3
    cases q3 : M.allTo ns (fun i => M.inB 0 100 (sw i))
    all_goals
     have HQ3 := Lib.hid q3
     rw [q3] at HC3
     clear q3
     go_wp2_with (first
      | (go_at_call 114; refine (HC1.out _ (Below.refl _ _)).mono ?_; rintro e w1 ⟨rfl, hb1⟩; have HB1 := Lib.hid hb1; have d3 := (D0.out.below' hb1).cell 3; clear hb1)
      | (go_at_call 115; refine (HC2.out _ HB1.out).mono ?_; rintro e w2 ⟨rfl, hb1⟩; have HB2 := Lib.hid (HB1.out.trans (hb1.mono HB1.out.size)); have d4 := (D0.out.below' HB2.out).cell 4; clear hb1)
      | (go_at_call 114; refine (HC3.out _ HB2.out).mono ?_; rintro e w3 ⟨rfl, hb1⟩; have HB3 := Lib.hid (HB2.out.trans (hb1.mono HB2.out.size)); clear hb1))
     go_ret
     refine ⟨?_, HB0.out.trans (HB3.out.mono HB0.out.size)⟩
     have h1 := H0.out
     have h2 := HQ2.out
     unfold tideOk at h2
     rw [HRE.out, HE.out, HQ.out, h2, HQ3.out, h1.1, h1.2.1, h1.2.2.2, decide_eq_true h1.2.2.1]
     simp
 ·
  have HEf : E = false := by
   cases hE' : E
   · rfl
   ·
    rw [hE'] at hE
    have hE := hE.symm
    simp only [Bool.and_eq_true, decide_eq_true_eq] at hE
    exact absurd ⟨hE.1.1.1.1.1.1.1, hE.1.1.1.1.1.1.2, hE.1.1.1.1.1.2, hE.1.1.1.1.2, hE.1.1.1.2⟩ hp
  have hR10 : R = 10 := by rw [HRE.out, HEf]; rfl
  rw [hR10]
  clear hE hR hR10 HEf
  have k1 : M.inB 1 12 W = false ∨ (M.inB 1 12 W = true ∧ M.inB 1 12 H = false) ∨ (M.inB 1 12 W = true ∧ M.inB 1 12 H = true ∧ (nd : Int) ≠ W * H) ∨ (M.inB 1 12 W = true ∧ M.inB 1 12 H = true ∧ (nd : Int) = W * H ∧ M.inB 1 60 nt = false) ∨ (M.inB 1 12 W = true ∧ M.inB 1 12 H = true ∧ (nd : Int) = W * H ∧ M.inB 1 60 nt = true ∧ ns ≠ nt) := by
   cases h1 : M.inB 1 12 W
   · exact .inl rfl
   ·
    cases h2 : M.inB 1 12 H
    · exact .inr (.inl ⟨rfl, rfl⟩)
    ·
     by_cases h3 : (nd : Int) = W * H
     ·
      cases h4 : M.inB 1 60 nt
      · exact .inr (.inr (.inr (.inl ⟨rfl, rfl, h3, rfl⟩)))
      · refine .inr (.inr (.inr (.inr ⟨rfl, rfl, h3, rfl, fun e => hp ⟨h1, h2, h3, h4, e⟩⟩)))
     · exact .inr (.inr (.inl ⟨rfl, rfl, h3⟩))
  clear hp
  rcases k1 with h1 | ⟨h1, h2⟩ | ⟨h1, h2, h3⟩ | ⟨h1, h2, h3, h4⟩ | ⟨h1, h2, h3, h4, h5⟩
  ·
   go_enter Tryz.func83, Tryz.ntmps83
   go_wp2_with (go_at_call 110; refine (within_any _ _ _ _).mono ?_; rintro e w1 ⟨rfl, rfl⟩)
   go_ret
   exact ⟨rfl, HB0.out⟩
  ·
   go_enter Tryz.func83, Tryz.ntmps83
   go_wp2_with (go_at_call 110; refine (within_any _ _ _ _).mono ?_; rintro e w1 ⟨rfl, rfl⟩)
   go_ret
   exact ⟨rfl, HB0.out⟩
  ·
   obtain ⟨m1, m2⟩ := wrap_mul h1 h2
   have g1 : ((nd : Int) != W * H) = true := by rw [bne_iff_ne]; exact h3
   clear h3
   go_enter Tryz.func83, Tryz.ntmps83
   go_wp2_with (go_at_call 110; refine (within_any _ _ _ _).mono ?_; rintro e w1 ⟨rfl, rfl⟩)
   go_ret
   exact ⟨rfl, HB0.out⟩
  ·
   obtain ⟨m1, m2⟩ := wrap_mul h1 h2
   have g1 : ((nd : Int) != W * H) = false := by rw [h3]; simp
   clear h3
   go_enter Tryz.func83, Tryz.ntmps83
   go_wp2_with (go_at_call 110; refine (within_any _ _ _ _).mono ?_; rintro e w1 ⟨rfl, rfl⟩)
   go_ret
   exact ⟨rfl, HB0.out⟩
  ·
   obtain ⟨m1, m2⟩ := wrap_mul h1 h2
   have g1 : ((nd : Int) != W * H) = false := by rw [h3]; simp
   have g2 : ((ns : Int) != (nt : Int)) = true := by rw [bne_iff_ne]; omega
   clear h3 h5
   go_enter Tryz.func83, Tryz.ntmps83
   go_wp2_with (go_at_call 110; refine (within_any _ _ _ _).mono ?_; rintro e w1 ⟨rfl, rfl⟩)
   go_ret
   exact ⟨rfl, HB0.out⟩
end
end Go.Proofs.YtnbeembnnjdmdaaGreatDoor
/- chart.open, where the chart and all that is asked of it are valid. -/
namespace Go.Proofs.YtnbeembnnjdmdaaGreatDoor
open Go.RowKit

theorem ocell_any (n : Int) (g nd dc : Nat) (dA : Option Addr) (w : World) (hc : w.cell? ⟨g, 2, none⟩ = some (.slice dA nd dc)) (hn : 1 ≤ nd ∧ nd ≤ 144) :
  Calls Tryz.prog 151 #[.int .i64 n, .pointer (some ⟨g, 0, none⟩)] w fun e w' => e = .returned (.bool (!M.inB 0 ((nd : Int) - 1) n)) ∧ Below w.heap.size w w' := by
 have h1 := hn.1
 have h2 := hn.2
 go_enter Tryz.func151, Tryz.ntmps151
 go_wp2_with (go_at_call 110; refine (within_any _ _ _ _).mono ?_; rintro e w1 ⟨rfl, rfl⟩)
 go_ret
 exact ⟨rfl, Below.refl _ _⟩
theorem otick_any (n : Int) (g nt tc : Nat) (tA : Option Addr) (w : World) (hc : w.cell? ⟨g, 3, none⟩ = some (.slice tA nt tc)) (hn : 1 ≤ nt ∧ nt ≤ 60) :
  Calls Tryz.prog 152 #[.int .i64 n, .pointer (some ⟨g, 0, none⟩)] w fun e w' => e = .returned (.bool (!M.inB 0 ((nt : Int) - 1) n)) ∧ Below w.heap.size w w' := by
 have h1 := hn.1
 have h2 := hn.2
 go_enter Tryz.func152, Tryz.ntmps152
 go_wp2_with (go_at_call 110; refine (within_any _ _ _ _).mono ?_; rintro e w1 ⟨rfl, rfl⟩)
 go_ret
 exact ⟨rfl, Below.refl _ _⟩
theorem odraught_any (n : Int) (w : World) :
  Calls Tryz.prog 153 #[.int .i64 n] w fun e w' => e = .returned (.bool (!M.inB 1 100 n)) ∧ Below w.heap.size w w' := by
 go_enter Tryz.func153, Tryz.ntmps153
 go_wp2_with (go_at_call 110; refine (within_any _ _ _ _).mono ?_; rintro e w1 ⟨rfl, rfl⟩)
 go_ret
 exact ⟨rfl, Below.refl _ _⟩
theorem sea_size : (Tryz.prog.info? 200).map (·.size) = some 5 := by kernel_rfl
section
variable (s : M.Sea) (dA tA sA : Option Addr) (dc tc sc B : Nat) (w : World)
set_option maxRecDepth 100000 in
set_option maxHeartbeats 3200000 in
theorem open_ok (A1 A2 A3 : Option Addr) (n1 c1 n2 c2 n3 c3 : Nat) (f1 f2 f3 : Nat → Int) (hs : s.Ok) (hR : RdC w B dA tA sA s.nd s.nt s.nt s.dep s.tide s.sw) (hB : B ≤ w.heap.size)
  (hn : n1 ≤ 2 ∧ n2 ≤ 2 ∧ n3 ≤ 2) (r1 : Rd1 w B A1 n1 f1) (r2 : Rd1 w B A2 n2 f2) (r3 : Rd1 w B A3 n3 f3) (k1 : ∀ i, i < n1 → M.inB 0 ((s.nd : Int) - 1) (f1 i) = true) (k2 : ∀ i, i < n2 → M.inB 0 ((s.nt : Int) - 1) (f2 i) = true) (k3 : ∀ i, i < n3 → M.inB 1 100 (f3 i) = true) :
  Calls Tryz.prog 149 #[.agg #[.int .i64 (s.W : Int), .int .i64 (s.H : Int), .slice dA s.nd dc, .slice tA s.nt tc, .slice sA s.nt sc], .agg #[.slice A1 n1 c1, .slice A2 n2 c2, .slice A3 n3 c3]] w fun e w' => e = .returned (.tuple #[.agg #[.int .i64 (s.W : Int), .int .i64 (s.H : Int), .slice dA s.nd dc, .slice tA s.nt tc, .slice sA s.nt sc], .int .i64 0]) ∧ Below w.heap.size w w' := by
 have hnd := hs.nd1
 have hnt : 1 ≤ s.nt ∧ s.nt ≤ 60 := ⟨hs.t1, hs.t2⟩
 have z1 : M.anyTo n1 (fun i => !M.inB 0 ((s.nd : Int) - 1) (f1 i)) = false := M.anyTo_false.2 fun i hi => by rw [k1 i hi]; rfl
 have z2 : M.anyTo n2 (fun i => !M.inB 0 ((s.nt : Int) - 1) (f2 i)) = false := M.anyTo_false.2 fun i hi => by rw [k2 i hi]; rfl
 have z3 : M.anyTo n3 (fun i => !M.inB 1 100 (f3 i)) = false := M.anyTo_false.2 fun i hi => by rw [k3 i hi]; rfl
 have HCK := Lib.hid (fun W (hb : Below w.heap.size w W) => cchk_any (s.W : Int) (s.H : Int) dA tA sA s.nd dc s.nt tc s.nt sc B s.dep s.tide s.sw W (by unfold maxLen; omega) (by unfold maxLen; omega) (by unfold maxLen; omega) (hR.below (hb.mono hB)) (Nat.le_trans hB hb.size))
 rw [hs.chk, if_pos rfl] at HCK
 have HC1 := Lib.hid (fun W g (hb : Below w.heap.size w W) (hc : W.cell? ⟨g, 2, none⟩ = some (.slice dA s.nd dc)) (hg : g < W.heap.size) => con_int A1 n1 c1 B f1 151 #[.pointer (some ⟨g, 0, none⟩)] (fun x => !M.inB 0 ((s.nd : Int) - 1) x) W (by unfold maxLen; omega) (r1.below (hb.mono hB)) (Nat.le_trans hB hb.size) (.inr (.inr (.inl rfl))) fun W' x hb' => ocell_any x g s.nd dc dA W' ((hb'.cell (p := ⟨g, 2, none⟩) hg).trans hc) hnd)
 have HC2 := Lib.hid (fun W g (hb : Below w.heap.size w W) (hc : W.cell? ⟨g, 3, none⟩ = some (.slice tA s.nt tc)) (hg : g < W.heap.size) => con_int A2 n2 c2 B f2 152 #[.pointer (some ⟨g, 0, none⟩)] (fun x => !M.inB 0 ((s.nt : Int) - 1) x) W (by unfold maxLen; omega) (r2.below (hb.mono hB)) (Nat.le_trans hB hb.size) (.inr (.inr (.inr (.inl rfl)))) fun W' x hb' => otick_any x g s.nt tc tA W' ((hb'.cell (p := ⟨g, 3, none⟩) hg).trans hc) hnt)
 have HC3 := Lib.hid (fun W (hb : Below w.heap.size w W) => con_int A3 n3 c3 B f3 153 #[] (fun x => !M.inB 1 100 x) W (by unfold maxLen; omega) (r3.below (hb.mono hB)) (Nat.le_trans hB hb.size) (.inr (.inr (.inr (.inr rfl)))) fun W' x _ => odraught_any x W')
 rw [z1] at HC1
 rw [z2] at HC2
 rw [z3] at HC3
 clear z1 z2 z3 hR r1 r2 r3 k1 k2 k3 hs
 have D0 := Lib.hid (((((Blk.new w 25 #[.int .i64 (s.W : Int), .int .i64 (s.H : Int), .slice dA s.nd dc, .slice tA s.nt tc, .slice sA s.nt sc]).alloc (.cells #[.slice A1 n1 c1, .slice A2 n2 c2, .slice A3 n3 c3] 204)).alloc (.cells #[.int .i64 0, .int .i64 0, .slice none 0 0, .slice none 0 0, .slice none 0 0] 200)).alloc (.cells #[.int .i64 (s.W : Int), .int .i64 (s.H : Int), .slice dA s.nd dc, .slice tA s.nt tc, .slice sA s.nt sc] 200)))
 have D1 := Lib.hid ((((Blk.new1 w (.cells #[.int .i64 (s.W : Int), .int .i64 (s.H : Int), .slice dA s.nd dc, .slice tA s.nt tc, .slice sA s.nt sc] 25) 204 #[.slice A1 n1 c1, .slice A2 n2 c2, .slice A3 n3 c3]).alloc (.cells #[.int .i64 0, .int .i64 0, .slice none 0 0, .slice none 0 0, .slice none 0 0] 200)).alloc (.cells #[.int .i64 (s.W : Int), .int .i64 (s.H : Int), .slice dA s.nd dc, .slice tA s.nt tc, .slice sA s.nt sc] 200)))
 have D2 := Lib.hid ((Blk.new2 w (.cells #[.int .i64 (s.W : Int), .int .i64 (s.H : Int), .slice dA s.nd dc, .slice tA s.nt tc, .slice sA s.nt sc] 25) (.cells #[.slice A1 n1 c1, .slice A2 n2 c2, .slice A3 n3 c3] 204) 200 #[.int .i64 0, .int .i64 0, .slice none 0 0, .slice none 0 0, .slice none 0 0]).alloc (.cells #[.int .i64 (s.W : Int), .int .i64 (s.H : Int), .slice dA s.nd dc, .slice tA s.nt tc, .slice sA s.nt sc] 200))
 have D3 := Lib.hid (Blk.new3 w (.cells #[.int .i64 (s.W : Int), .int .i64 (s.H : Int), .slice dA s.nd dc, .slice tA s.nt tc, .slice sA s.nt sc] 25) (.cells #[.slice A1 n1 c1, .slice A2 n2 c2, .slice A3 n3 c3] 204) (.cells #[.int .i64 0, .int .i64 0, .slice none 0 0, .slice none 0 0, .slice none 0 0] 200) 200 #[.int .i64 (s.W : Int), .int .i64 (s.H : Int), .slice dA s.nd dc, .slice tA s.nt tc, .slice sA s.nt sc])
 have HB0 := Lib.hid ((belowAlloc3 w (.cells #[.int .i64 (s.W : Int), .int .i64 (s.H : Int), .slice dA s.nd dc, .slice tA s.nt tc, .slice sA s.nt sc] 25) (.cells #[.slice A1 n1 c1, .slice A2 n2 c2, .slice A3 n3 c3] 204) (.cells #[.int .i64 0, .int .i64 0, .slice none 0 0, .slice none 0 0, .slice none 0 0] 200)).alloc (by simp; omega) (.cells #[.int .i64 (s.W : Int), .int .i64 (s.H : Int), .slice dA s.nd dc, .slice tA s.nt tc, .slice sA s.nt sc] 200))
 go_enter Tryz.func149, Tryz.ntmps149
 go_upto_region 2 with fail
 obtain ⟨X, hX⟩ : ∃ X, X = (((w.alloc (.cells #[.int .i64 (s.W : Int), .int .i64 (s.H : Int), .slice dA s.nd dc, .slice tA s.nt tc, .slice sA s.nt sc] 25)).alloc (.cells #[.slice A1 n1 c1, .slice A2 n2 c2, .slice A3 n3 c3] 204)).alloc (.cells #[.int .i64 0, .int .i64 0, .slice none 0 0, .slice none 0 0, .slice none 0 0] 200)).alloc (.cells #[.int .i64 (s.W : Int), .int .i64 (s.H : Int), .slice dA s.nd dc, .slice tA s.nt tc, .slice sA s.nt sc] 200) := ⟨_, rfl⟩
 rw [← hX] at D0 D1 D2 D3 HB0
 rw [← hX]
 have hXs : X.heap.size = w.heap.size + 1 + 1 + 1 + 1 := by rw [hX]; simp
 have HXs := Lib.hid hXs
 clear hX hXs
 obtain ⟨a0, a1, a2, a3⟩ := D0.out.c4
 have a4 := D0.out.cell 4
 go_upto_region 3 with (go_at_call 83; go_must (refine (HCK.out _ HB0.out).mono ?_); rintro e w1 ⟨rfl, hb1⟩; have HB1 := Lib.hid hb1; clear hb1)
 clear a0 a1 a2 a3 a4
 have E0 := Lib.hid (D0.out.below' HB1.out)
 have E1 := Lib.hid (D1.out.below' HB1.out)
 have E2 := Lib.hid (D2.out.below' HB1.out)
 have E3 := Lib.hid (D3.out.below' HB1.out)
 have HB2 := Lib.hid (HB0.out.trans (HB1.out.mono HB0.out.size))
 obtain ⟨b0, b1, b2⟩ := E1.out.c3
 go_upto_region 10 with (first
  | (go_at_call 114; refine (HC1.out _ _ HB2.out (E0.out.cell 2) E0.out.lt).mono ?_; rintro e w2 ⟨rfl, hb1⟩; have HB3 := Lib.hid (HB2.out.trans (hb1.mono HB2.out.size)); have F0 := Lib.hid (E0.out.below' hb1); have b1 := (E1.out.below' hb1).cell 1; have HBy := Lib.hid hb1; clear hb1)
  | (go_at_call 114; refine (HC2.out _ _ HB3.out (F0.out.cell 3) F0.out.lt).mono ?_; rintro e w3 ⟨rfl, hb1⟩; have HB4 := Lib.hid (HB3.out.trans (hb1.mono HB3.out.size)); have HBz := Lib.hid (HBy.out.trans (hb1.mono HBy.out.size)); have b2 := (E1.out.below' HBz.out).cell 2; clear hb1)
  | (go_at_call 114; refine (HC3.out _ HB4.out).mono ?_; rintro e w4 ⟨rfl, hb1⟩; have HB5 := Lib.hid (HB4.out.trans (hb1.mono HB4.out.size)); have HBx := Lib.hid (HBz.out.trans (hb1.mono HBz.out.size)); clear hb1))
 have G2 := Lib.hid (E2.out.below' HBx.out)
 have G3 := Lib.hid (E3.out.below' HBx.out)
 have c0 := G3.out.cell 0
 have c1' := G3.out.cell 1
 have c2' := G3.out.cell 2
 have c3' := G3.out.cell 3
 have c4 := G3.out.cell 4
 obtain ⟨q0, q1, q2, q3⟩ := G2.out.c4
 have q4 := G2.out.cell 4
 have f0 := G2.out.frz 0
 have f1 := G2.out.frz 1
 have f2 := G2.out.frz 2
 have f3 := G2.out.frz 3
 have f4 := G2.out.frz 4
 go_wp2_with fail
 refine bodyPost_ret (results_cell_row1 rfl _ _ (w.heap.size + 1 + 1) 200 #[.int .i64 (s.W : Int), .int .i64 (s.H : Int), .slice dA s.nd dc, .slice tA s.nt tc, .slice sA s.nt sc] (0, 0) _ rfl (((((G2.out.set_ 0 _).set_ 1 _).set_ 2 _).set_ 3 _).set_ 4 _) Tryz.underlying200 rfl sea_size) rfl ⟨rfl, ?_⟩
 have hw : w.heap.size ≤ w.heap.size + 1 + 1 := by omega
 exact ((((HB5.out.setCell (p := ⟨w.heap.size + 1 + 1, 0, none⟩) hw _).setCell (p := ⟨w.heap.size + 1 + 1, 1, none⟩) hw _).setCell (p := ⟨w.heap.size + 1 + 1, 2, none⟩) hw _).setCell (p := ⟨w.heap.size + 1 + 1, 3, none⟩) hw _).setCell (p := ⟨w.heap.size + 1 + 1, 4, none⟩) hw _
end
end Go.Proofs.YtnbeembnnjdmdaaGreatDoor
