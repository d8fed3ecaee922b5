/- The reference of layer 1: from, Cells, Beside. -/
import Derived.Test.YtnbeembnnjdmdaaGreatDoorD11
namespace Go.Proofs.YtnbeembnnjdmdaaGreatDoor
open Go.RowKit

theorem from_any (n lo hi : Int) (w : World) :
  Calls Tryz.prog 94 #[.int .i64 n, .int .i64 lo, .int .i64 hi] w fun e w' => e = .returned (.bool (M.inB lo hi n)) ∧ w' = w := by
 unfold M.inB
 by_cases h1 : lo ≤ n
 ·
  have g1 : decide (lo ≤ n) = true := decide_eq_true h1
  go_enter Tryz.func94, Tryz.ntmps94
  go_wp2_with fail
  go_ret
  exact ⟨ret_bool (by simp [h1]), rfl⟩
 ·
  have g1 : decide (lo ≤ n) = false := decide_eq_false h1
  go_enter Tryz.func94, Tryz.ntmps94
  go_wp2_with fail
  go_ret
  exact ⟨ret_bool (by simp <;> omega), rfl⟩
section
variable (s : M.Sea) (dA tA sA : Option Addr) (dc tc sc B : Nat) (w : World)
set_option maxRecDepth 100000 in
set_option maxHeartbeats 3200000 in
theorem rcells_ok (hs : s.Ok) :
  Calls Tryz.prog 41 #[.agg #[.int .i64 (s.W : Int), .int .i64 (s.H : Int), .slice dA s.nd dc, .slice tA s.nt tc, .slice sA s.nt sc]] w fun e w' => e = .returned (.int .i64 (s.nd : Int)) ∧ Below w.heap.size w w' := by
 have hnd := hs.nd1
 have HB0 := Lib.hid (belowAlloc w (.cells #[.int .i64 (s.W : Int), .int .i64 (s.H : Int), .slice dA s.nd dc, .slice tA s.nt tc, .slice sA s.nt sc] 25))
 have hm : (s.W : Int) * (s.H : Int) = (s.nd : Int) := by rw [hs.nd]; simp
 have HR := Lib.hid (show IntKind.i64.wrap ((s.W : Int) * (s.H : Int)) = (s.nd : Int) by rw [hm, IntKind.wrap_i64]; omega)
 have HR2 := Lib.hid (show wrap64 ((s.W : Int) * (s.H : Int)) = (s.nd : Int) by rw [hm]; exact IntWalk.wrap64_in _ (by omega))
 clear hs hm
 go_enter Tryz.func41, Tryz.ntmps41
 go_wp2_with fail
 go_ret
 exact ⟨ret_int (by first | exact HR.out | exact HR2.out), HB0.out⟩
end
theorem add_off6 (g d : Nat) (hd : d < 6) (W : World) : (Instr.indexAt 186 (.pointer (some ⟨g, 0, none⟩)) (.int .i64 (d : Int))).run Tryz.prog W = .ok (.pointer (some ⟨g, d, none⟩)) W := by
 rw [run_indexAt_array (P := Tryz.prog) W 186 ⟨g, 0, none⟩ .i64 (d : Int) (by kernel_rfl)]
 rw [show Tryz.prog.arrayLen 186 = 6 by kernel_rfl, show Tryz.prog.elem 186 = 3 by kernel_rfl, if_pos (by omega), Tryz.sizeOf3]
 simp [add_off]
def evL : Array Value := #[.int .i64 1, .int .i64 0, .int .i64 (-1), .int .i64 (-1), .int .i64 (-1), .int .i64 0]
def odL : Array Value := #[.int .i64 1, .int .i64 1, .int .i64 0, .int .i64 (-1), .int .i64 0, .int .i64 1]
def roL : Array Value := #[.int .i64 0, .int .i64 1, .int .i64 1, .int .i64 0, .int .i64 (-1), .int .i64 (-1)]
theorem ev_at {d : Nat} (hd : d < 6) : evL[d]? = some (.int .i64 (M.dx d 0)) := by
 obtain rfl | rfl | rfl | rfl | rfl | rfl : d = 0 ∨ d = 1 ∨ d = 2 ∨ d = 3 ∨ d = 4 ∨ d = 5 := by omega
 all_goals rfl
theorem od_at {d : Nat} (hd : d < 6) : odL[d]? = some (.int .i64 (M.dx d 1)) := by
 obtain rfl | rfl | rfl | rfl | rfl | rfl : d = 0 ∨ d = 1 ∨ d = 2 ∨ d = 3 ∨ d = 4 ∨ d = 5 := by omega
 all_goals rfl
theorem ro_at {d : Nat} (hd : d < 6) : roL[d]? = some (.int .i64 (M.dy d)) := by
 obtain rfl | rfl | rfl | rfl | rfl | rfl : d = 0 ∨ d = 1 ∨ d = 2 ∨ d = 3 ∨ d = 4 ∨ d = 5 := by omega
 all_goals rfl
section
variable (s : M.Sea) (dA tA sA : Option Addr) (dc tc sc B : Nat) (w : World)
set_option maxRecDepth 100000 in
set_option maxHeartbeats 3200000 in
theorem beside_ok (c d : Nat) (hs : s.Ok) (hc : c < s.nd) (hd : d < 6) :
  Calls Tryz.prog 120 #[.agg #[.int .i64 (s.W : Int), .int .i64 (s.H : Int), .slice dA s.nd dc, .slice tA s.nt tc, .slice sA s.nt sc], .int .i64 (c : Int), .int .i64 (d : Int)] w fun e w' => e = .returned (.tuple #[.int .i64 (M.nbV s.W s.H c d), .bool (M.nbIs s.W s.H c d)]) ∧ Below w.heap.size w w' := by
 have hnd := hs.nd1
 have hW1 := hs.w1
 have hW2 := hs.w2
 have hH1 := hs.h1
 have hH2 := hs.h2
 have hIS := Lib.hid (M.nbIs_inB s.W s.H c d)
 have hV := Lib.hid (show M.nbV s.W s.H c d = if M.nbIs s.W s.H c d then ((M.nbN s.W c d : Nat) : Int) else 0 from rfl)
 have hN := Lib.hid (fun h : M.nbIs s.W s.H c d = true => (M.nb_spec h).2.2.2)
 have hX := Lib.hid (show M.nbX s.W c d = ((c % s.W : Nat) : Int) + M.dx d (c / s.W % 2) from rfl)
 have hY := Lib.hid (show M.nbY s.W c d = ((c / s.W : Nat) : Int) + M.dy d from rfl)
 have hqx : (c : Int) / (s.W : Int) = ((c / s.W : Nat) : Int) := rfl
 have hrx : (c : Int) % (s.W : Int) = ((c % s.W : Nat) : Int) := rfl
 have hxb : c % s.W < s.W := Nat.mod_lt _ (by omega)
 have hyb : c / s.W ≤ 143 := Nat.le_trans (Nat.div_le_self _ _) (by omega)
 have hyH : c / s.W < s.H := Nat.div_lt_of_lt_mul (by rw [← hs.nd]; exact hc)
 have b0 := M.dx_bd d 0
 have b1 := M.dx_bd d 1
 have b2 := M.dy_bd d
 have y0 := ev_at hd
 have y1 := od_at hd
 have y2 := ro_at hd
 have ix := fun g W => add_off6 g d hd W
 have hp : c / s.W % 2 = 0 ∨ c / s.W % 2 = 1 := by omega
 obtain ⟨xm, hxm⟩ : ∃ xm, xm = c % s.W := ⟨_, rfl⟩
 obtain ⟨ym, hym⟩ : ∃ ym, ym = c / s.W := ⟨_, rfl⟩
 obtain ⟨pm, hpm⟩ : ∃ pm, pm = c / s.W % 2 := ⟨_, rfl⟩
 rw [← hym] at hqx hyb hyH hX hY hp
 rw [← hym] at hpm
 rw [← hpm] at hX hp
 rw [← hxm] at hrx hxb hX
 have hpar : ((ym : Int) % 2 == 0) = decide (pm = 0) := by
  rw [show ((ym : Int) % 2 == 0) = decide ((ym : Int) % 2 = 0) from rfl]
  exact decide_eq_decide.2 (by omega)
 have hW0 : ¬ s.W = 0 := by omega
 clear hxm hym hpm
 have hW1' : (1 : Int) ≤ s.W := by omega
 obtain ⟨e0, he0⟩ : ∃ e0, e0 = M.dx d 0 := ⟨_, rfl⟩
 obtain ⟨e1, he1⟩ : ∃ e1, e1 = M.dx d 1 := ⟨_, rfl⟩
 obtain ⟨en, hen⟩ : ∃ en, en = M.dy d := ⟨_, rfl⟩
 rw [← he0] at b0 y0
 rw [← he1] at b1 y1
 rw [← hen] at b2 y2 hY
 have hE0 := Lib.hid he0
 have hE1 := Lib.hid he1
 clear he0 he1 hen hs hc
 have HB0 := Lib.hid (belowAlloc w (.cells #[.int .i64 (s.W : Int), .int .i64 (s.H : Int), .slice dA s.nd dc, .slice tA s.nt tc, .slice sA s.nt sc] 25))
 go_enter Tryz.func120, Tryz.ntmps120
 go_upto_region 4 with fail
 have HX4 := Lib.hid (((belowAlloc2 w (.cells #[.int .i64 (s.W : Int), .int .i64 (s.H : Int), .slice dA s.nd dc, .slice tA s.nt tc, .slice sA s.nt sc] 25) (.cells roL 186)).alloc (by simp; omega) (.cells evL 186)).alloc (by simp; omega) (.cells odL 186))
 have C4 := Lib.hid ((((Blk.new w 25 #[.int .i64 (s.W : Int), .int .i64 (s.H : Int), .slice dA s.nd dc, .slice tA s.nt tc, .slice sA s.nt sc]).alloc (.cells roL 186)).alloc (.cells evL 186)).alloc (.cells odL 186))
 have R4 := Lib.hid (((Blk.new1 w (.cells #[.int .i64 (s.W : Int), .int .i64 (s.H : Int), .slice dA s.nd dc, .slice tA s.nt tc, .slice sA s.nt sc] 25) 186 roL).alloc (.cells evL 186)).alloc (.cells odL 186))
 have E4 := Lib.hid ((Blk.new2 w (.cells #[.int .i64 (s.W : Int), .int .i64 (s.H : Int), .slice dA s.nd dc, .slice tA s.nt tc, .slice sA s.nt sc] 25) (.cells roL 186) 186 evL).alloc (.cells odL 186))
 have O4 := Lib.hid (Blk.new3 w (.cells #[.int .i64 (s.W : Int), .int .i64 (s.H : Int), .slice dA s.nd dc, .slice tA s.nt tc, .slice sA s.nt sc] 25) (.cells roL 186) (.cells evL 186) 186 odL)
 obtain ⟨X, hX0⟩ : ∃ X, X = (((w.alloc (.cells #[.int .i64 (s.W : Int), .int .i64 (s.H : Int), .slice dA s.nd dc, .slice tA s.nt tc, .slice sA s.nt sc] 25)).alloc (.cells roL 186)).alloc (.cells evL 186)).alloc (.cells odL 186) := ⟨_, rfl⟩
 rw [← hX0] at HX4 C4 R4 E4 O4
 show Code.wp _ _ _ _ ((((w.alloc (.cells #[.int .i64 (s.W : Int), .int .i64 (s.H : Int), .slice dA s.nd dc, .slice tA s.nt tc, .slice sA s.nt sc] 25)).alloc (.cells roL 186)).alloc (.cells evL 186)).alloc (.cells odL 186))
 rw [← hX0]
 clear hX0
 have c0 := C4.out.cell 0
 go_quiet (fail)
 go_upto_region 5 with fail
 have HB4 := Lib.hid (show Below w.heap.size w (X.drewN nq) from HX4.out.drewN nq)
 have d0 : (X.drewN nq).cell? ⟨w.heap.size, 0, none⟩ = some (.int .i64 (s.W : Int)) := C4.out.cell 0
 have d1 : (X.drewN nq).cell? ⟨w.heap.size, 1, none⟩ = some (.int .i64 (s.H : Int)) := C4.out.cell 1
 have d2 : (X.drewN nq).cell? ⟨w.heap.size + 1, d, none⟩ = some (.int .i64 en) := (R4.out.cell d).trans y2
 have d3 : (X.drewN nq).cell? ⟨w.heap.size + 1 + 1, d, none⟩ = some (.int .i64 e0) := (E4.out.cell d).trans y0
 have d4 : (X.drewN nq).cell? ⟨w.heap.size + 1 + 1 + 1, d, none⟩ = some (.int .i64 e1) := (O4.out.cell d).trans y1
 have i1 := ix (w.heap.size + 1)
 have i2 := ix (w.heap.size + 1 + 1)
 have i3 := ix (w.heap.size + 1 + 1 + 1)
 clear c0 y0 y1 y2 ix
 generalize X.drewN nq = Y at HB4 d0 d1 d2 d3 d4 ⊢
 rcases hp with rfl | rfl
 ·
  simp only [decide_true] at hpar

  have HIS := Lib.hid (show M.nbIs s.W s.H c d = (M.inB 0 ((s.W : Int) - 1) ((xm : Int) + e0) && M.inB 0 ((s.H : Int) - 1) ((ym : Int) + en)) from by rw [hIS.out, hX.out, hY.out, hE0.out])
  have HN := Lib.hid (show M.nbIs s.W s.H c d = true → ((ym : Int) + en) * s.W + ((xm : Int) + e0) = (M.nbN s.W c d : Nat) from by rw [hE0.out, ← hX.out, ← hY.out]; exact hN.out)
  cases hx : M.inB 0 ((s.W : Int) - 1) ((xm : Int) + e0)
  ·
   have HF := Lib.hid (show M.nbIs s.W s.H c d = false from by rw [HIS.out, hx]; rfl)
   go_wp2_with (go_at_call 94; refine (from_any _ _ _ _).mono ?_; rintro e w1 ⟨rfl, rfl⟩)
   go_ret2
   exact ⟨by rw [hV.out, HF.out]; rfl, HB4.out⟩
  ·
   cases hy : M.inB 0 ((s.H : Int) - 1) ((ym : Int) + en)
   ·
    have HF := Lib.hid (show M.nbIs s.W s.H c d = false from by rw [HIS.out, hx, hy]; rfl)
    go_wp2_with (go_at_call 94; refine (from_any _ _ _ _).mono ?_; rintro e w1 ⟨rfl, rfl⟩)
    go_ret2
    exact ⟨by rw [hV.out, HF.out]; rfl, HB4.out⟩
   ·
    have HF := Lib.hid (show M.nbIs s.W s.H c d = true from by rw [HIS.out, hx, hy]; rfl)
    have hxi := M.inB_iff.1 hx
    have hyi := M.inB_iff.1 hy
    have hm0 : 0 ≤ ((ym : Int) + en) * s.W := Int.mul_nonneg (by omega) (by omega)
    have hm1 : ((ym : Int) + en) * s.W ≤ 11 * 12 := Int.mul_le_mul (by omega) (by omega) (by omega) (by omega)
    obtain ⟨mm, hmm⟩ : ∃ mm, mm = ((ym : Int) + en) * s.W := ⟨_, rfl⟩
    have HM := Lib.hid hmm
    rw [← hmm] at hm0 hm1
    have hmr : ((ym : Int) + en) * s.W = mm := hmm.symm
    clear hmm
    go_wp2_with (go_at_call 94; refine (from_any _ _ _ _).mono ?_; rintro e w1 ⟨rfl, rfl⟩)
    go_ret2
    refine ⟨?_, HB4.out⟩
    rw [hV.out, HF.out, if_pos rfl, ← HN.out HF.out, ← HM.out]
    rfl
 ·
  simp only [show (1 = 0) = False by simp, decide_false] at hpar

  have HIS := Lib.hid (show M.nbIs s.W s.H c d = (M.inB 0 ((s.W : Int) - 1) ((xm : Int) + e1) && M.inB 0 ((s.H : Int) - 1) ((ym : Int) + en)) from by rw [hIS.out, hX.out, hY.out, hE1.out])
  have HN := Lib.hid (show M.nbIs s.W s.H c d = true → ((ym : Int) + en) * s.W + ((xm : Int) + e1) = (M.nbN s.W c d : Nat) from by rw [hE1.out, ← hX.out, ← hY.out]; exact hN.out)
  cases hx : M.inB 0 ((s.W : Int) - 1) ((xm : Int) + e1)
  ·
   have HF := Lib.hid (show M.nbIs s.W s.H c d = false from by rw [HIS.out, hx]; rfl)
   go_wp2_with (go_at_call 94; refine (from_any _ _ _ _).mono ?_; rintro e w1 ⟨rfl, rfl⟩)
   go_ret2
   exact ⟨by rw [hV.out, HF.out]; rfl, HB4.out⟩
  ·
   cases hy : M.inB 0 ((s.H : Int) - 1) ((ym : Int) + en)
   ·
    have HF := Lib.hid (show M.nbIs s.W s.H c d = false from by rw [HIS.out, hx, hy]; rfl)
    go_wp2_with (go_at_call 94; refine (from_any _ _ _ _).mono ?_; rintro e w1 ⟨rfl, rfl⟩)
    go_ret2
    exact ⟨by rw [hV.out, HF.out]; rfl, HB4.out⟩
   ·
    have HF := Lib.hid (show M.nbIs s.W s.H c d = true from by rw [HIS.out, hx, hy]; rfl)
    have hxi := M.inB_iff.1 hx
    have hyi := M.inB_iff.1 hy
    have hm0 : 0 ≤ ((ym : Int) + en) * s.W := Int.mul_nonneg (by omega) (by omega)
    have hm1 : ((ym : Int) + en) * s.W ≤ 11 * 12 := Int.mul_le_mul (by omega) (by omega) (by omega) (by omega)
    obtain ⟨mm, hmm⟩ : ∃ mm, mm = ((ym : Int) + en) * s.W := ⟨_, rfl⟩
    have HM := Lib.hid hmm
    rw [← hmm] at hm0 hm1
    have hmr : ((ym : Int) + en) * s.W = mm := hmm.symm
    clear hmm
    go_wp2_with (go_at_call 94; refine (from_any _ _ _ _).mono ?_; rintro e w1 ⟨rfl, rfl⟩)
    go_ret2
    refine ⟨?_, HB4.out⟩
    rw [hV.out, HF.out, if_pos rfl, ← HN.out HF.out, ← HM.out]
    rfl
end
end Go.Proofs.YtnbeembnnjdmdaaGreatDoor
/- The reference: cobleref01.Check, at any chart. -/
namespace Go.Proofs.YtnbeembnnjdmdaaGreatDoor
open Go.RowKit

theorem from_v (w : World) {n lo hi : Int} {b : Bool} (h : M.inB lo hi n = b) : Calls Tryz.prog 94 #[.int .i64 n, .int .i64 lo, .int .i64 hi] w fun e w' => e = .returned (.bool b) ∧ w' = w := by rw [← h]; exact from_any n lo hi w
theorem M.allTo_no {n k : Nat} {p : Nat → Bool} (hk : k < n) (h : p k = false) : M.allTo n p = false := by
 cases ha : M.allTo n p
 · rfl
 · have := M.allTo_iff.1 ha k hk; rw [h] at this; cases this
section
variable (W H : Int) (dA tA sA : Option Addr) (nd dc nt tc ns sc B : Nat) (dep : Nat → Int) (tide : Nat → Nat → Int) (sw : Nat → Int) (w : World)
set_option maxRecDepth 100000 in
set_option maxHeartbeats 6400000 in
theorem rchk_any (hnd : nd ≤ maxLen) (hnt : nt ≤ maxLen) (hns : ns ≤ maxLen) (hR : RdC w B dA tA sA nd nt ns dep tide sw) (hB : B ≤ w.heap.size) :
  Calls Tryz.prog 53 #[.agg #[.int .i64 W, .int .i64 H, .slice dA nd dc, .slice tA nt tc, .slice sA ns sc]] w fun e w' => e = .returned (.int .i64 (if M.chkC W H nd nt ns dep tide sw then 0 else 10)) ∧ Below w.heap.size w w' := by
 obtain ⟨E, hE⟩ : ∃ E, E = M.chkC W H nd nt ns dep tide sw := ⟨_, rfl⟩
 rw [← hE]
 unfold M.chkC at hE
 obtain ⟨R, hRE⟩ : ∃ R : Int, R = if E then 0 else 10 := ⟨_, rfl⟩
 rw [← hRE]
 have HRE := Lib.hid hRE
 clear hRE
 have HB0 := Lib.hid (belowAlloc w (.cells #[.int .i64 W, .int .i64 H, .slice dA nd dc, .slice tA nt tc, .slice sA ns sc] 25))
 have D0 := Lib.hid (Blk.new w 25 #[.int .i64 W, .int .i64 H, .slice dA nd dc, .slice tA nt tc, .slice sA ns sc])
 by_cases hp : M.inB 1 12 W = true ∧ M.inB 1 12 H = true ∧ (nd : Int) = W * H ∧ M.inB 1 60 nt = true ∧ ns = nt
 ·
  obtain ⟨h1, h2, h3, h4, rfl⟩ := hp
  obtain ⟨m1, m2⟩ := wrap_mul h1 h2
  have g1 : ((nd : Int) != W * H) = false := by rw [h3]; simp
  have g2 : ((ns : Int) != (ns : Int)) = false := by simp
  have HE := Lib.hid hE
  have H0 := Lib.hid (And.intro h1 (And.intro h2 (And.intro h3 h4)))
  have HR := Lib.hid (hR.below (HB0.out.mono hB))
  have hns60 : 1 ≤ ns ∧ ns ≤ 60 := by have := M.inB_iff.1 h4; omega
  unfold maxLen at hnd hns
  clear hE h3 hR
  go_enter Tryz.func53, Tryz.ntmps53
  go_upto_region 3 with (go_at_call 94; refine (from_any _ _ _ _).mono ?_; rintro e w1 ⟨rfl, rfl⟩)
  obtain ⟨X, hX⟩ : ∃ X, X = w.alloc (.cells #[.int .i64 W, .int .i64 H, .slice dA nd dc, .slice tA ns tc, .slice sA ns sc] 25) := ⟨_, rfl⟩
  rw [← hX] at HB0 D0 HR
  rw [← hX]
  clear hX
  have hBX : B ≤ X.heap.size := Nat.le_trans hB HB0.out.size
  clear h1 h2 h4 m1 m2 g1 g2
  go_wp2_with fail
  go_loopw [3] (fun i wr => ∃ k : Nat, k ≤ nd ∧ i = .int .i64 (k : Int) ∧ Hid (M.allTo k (fun i => M.inB (-1000) 1000 (dep i)) = true) ∧ wr = X) (fun i _ => nd - (intOf i).toNat)
  case atStart => exact ⟨0, Nat.zero_le _, rfl, Lib.hid rfl, rfl⟩
  case round =>
   obtain ⟨k, hk, rfl, HF, rfl⟩ := hrel
   have d2 := D0.out.cell 2
   by_cases hlt : k < nd
   ·
    obtain ⟨b, off, rfl, hb, c0⟩ := HR.out.d.at_ hlt
    have kx : decide (nd ≤ k) = false := decide_eq_false (by omega)
    cases hp : M.inB (-1000) 1000 (dep k)
    ·
     have HP := Lib.hid hp
     clear hp
     go_wp2_with (go_at_call 94; refine (from_v _ HP.out).mono ?_; rintro e w1 ⟨rfl, rfl⟩)
     go_ret
     refine ⟨?_, HB0.out⟩
     have : E = false := by rw [HE.out, M.allTo_no hlt HP.out]; simp
     rw [HRE.out, this]; rfl
    ·
     have HP := Lib.hid hp
     clear hp
     go_wp2_with (go_at_call 94; refine (from_v _ HP.out).mono ?_; rintro e w1 ⟨rfl, rfl⟩)
     go_roundw
     case rel => exact ⟨k + 1, by omega, by go_num, Lib.hid (by simp [M.allTo, HF.out, HP.out]), by first | rfl | trivial⟩
     case measure => simp [intOf]; omega
   ·
    obtain rfl : k = nd := by omega
    have HQ1 := Lib.hid HF.out
    go_wp2_with fail
    clear d2
    go_loopw [4] (fun i wq => ∃ j : Nat, j ≤ ns ∧ i = .int .i64 (j : Int) ∧ Hid (M.allTo j (fun t => M.inB 0 (tide t 1) (tide t 0) && decide (tide t 1 ≤ 200)) = true) ∧ Hid (M.allTo j (fun t => M.inB 0 100 (sw t)) = true) ∧ ∃ n, wq = wr.drewN n) (fun i _ => ns - (intOf i).toNat)
    case atStart => exact ⟨0, Nat.zero_le _, rfl, Lib.hid rfl, Lib.hid rfl, 0, rfl⟩
    case round =>
     obtain ⟨j, hj, rfl, HF1, HF2, n, rfl⟩ := hrel
     by_cases hlt : j < ns
     ·
      obtain ⟨tb, to_, rfl, htb, t0, t1⟩ := HR.out.t.at2 hlt
      obtain ⟨sb, so, rfl, hsb, s0⟩ := HR.out.s.at_ hlt
      have d3 : (wr.drewN n).cell? ⟨w.heap.size, 3, none⟩ = some (.slice (some ⟨tb, to_, none⟩) ns tc) := D0.out.cell 3
      have d4 : (wr.drewN n).cell? ⟨w.heap.size, 4, none⟩ = some (.slice (some ⟨sb, so, none⟩) ns sc) := D0.out.cell 4
      have t0 : (wr.drewN n).cell? ⟨tb, to_ + j * 2, none⟩ = some (.int .i64 (tide j 0)) := t0
      have t1 : (wr.drewN n).cell? ⟨tb, to_ + j * 2 + 1, none⟩ = some (.int .i64 (tide j 1)) := t1
      have s0 : (wr.drewN n).cell? ⟨sb, so + j, none⟩ = some (.int .i64 (sw j)) := s0
      have HB2 := Lib.hid (show Below w.heap.size w (wr.drewN n) from HB0.out.drewN n)
      have HMO := Lib.hid (show ∀ m, ∃ n', (wr.drewN n).drewN m = wr.drewN n' from fun m => ⟨n + m, by rw [World.drewN_drewN]⟩)
      generalize wr.drewN n = Y at d3 d4 t0 t1 s0 HB2 HMO ⊢
      have kx : decide (ns ≤ j) = false := decide_eq_false (by omega)
      have HA1 := Lib.hid (show M.allTo (j + 1) (fun t => M.inB 0 (tide t 1) (tide t 0) && decide (tide t 1 ≤ 200)) = (M.allTo j (fun t => M.inB 0 (tide t 1) (tide t 0) && decide (tide t 1 ≤ 200)) && (M.inB 0 (tide j 1) (tide j 0) && decide (tide j 1 ≤ 200))) from rfl)
      have HA2 := Lib.hid (show M.allTo (j + 1) (fun t => M.inB 0 100 (sw t)) = (M.allTo j (fun t => M.inB 0 100 (sw t)) && M.inB 0 100 (sw j)) from rfl)
      have HN1 := Lib.hid (fun h : (M.inB 0 (tide j 1) (tide j 0) && decide (tide j 1 ≤ 200)) = false => (show E = false by rw [HE.out, M.allTo_no (n := ns) (p := fun t => M.inB 0 (tide t 1) (tide t 0) && decide (tide t 1 ≤ 200)) hlt h]; simp))
      have HN2 := Lib.hid (fun h : M.inB 0 100 (sw j) = false => (show E = false by rw [HE.out, M.allTo_no (n := ns) (p := fun t => M.inB 0 100 (sw t)) hlt h]; simp))
      obtain ⟨x0, hx0⟩ : ∃ x0, x0 = tide j 0 := ⟨_, rfl⟩
      obtain ⟨x1, hx1⟩ : ∃ x1, x1 = tide j 1 := ⟨_, rfl⟩
      obtain ⟨x2, hx2⟩ : ∃ x2, x2 = sw j := ⟨_, rfl⟩
      rw [← hx0] at t0 HA1 HN1
      rw [← hx1] at t1 HA1 HN1
      rw [← hx2] at s0 HA2 HN2
      clear hx0 hx1 hx2
      cases q1 : M.inB 0 x1 x0
      ·
       have HQ := Lib.hid q1
       have HEF := Lib.hid (HN1.out (by rw [q1]; rfl))
       clear q1
       go_upto_region 11 with fail
       go_quiet (first | (go_at_call 94; exact Calls.quiet_of_same (from_v _ HQ.out)) | fail)
       go_wp2_with fail
       go_ret
       exact ⟨by rw [HRE.out, HEF.out]; rfl, HB2.out.drewN nq⟩
      ·
       have HQ := Lib.hid q1
       clear q1
       by_cases q2 : x1 ≤ 200
       ·
        have g2 : decide (200 < x1) = false := decide_eq_false (by omega)
        have HQ2 := Lib.hid (decide_eq_true q2)
        clear q2
        cases q3 : M.inB 0 100 x2
        ·
         have HQ3 := Lib.hid q3
         have HEF := Lib.hid (HN2.out q3)
         clear q3
         go_upto_region 11 with fail
         go_quiet (first | (go_at_call 94; first | exact Calls.quiet_of_same (from_v _ HQ.out) | exact Calls.quiet_of_same (from_v _ HQ3.out)) | fail)
         go_wp2_with fail
         go_ret
         exact ⟨by rw [HRE.out, HEF.out]; rfl, HB2.out.drewN nq⟩
        ·
         have HQ3 := Lib.hid q3
         clear q3
         go_upto_region 11 with fail
         go_quiet (first | (go_at_call 94; first | exact Calls.quiet_of_same (from_v _ HQ.out) | exact Calls.quiet_of_same (from_v _ HQ3.out)) | fail)
         go_wp2_with fail
         go_roundw
         case rel => exact ⟨j + 1, by omega, by go_num, Lib.hid (by rw [HA1.out, HF1.out, HQ.out, HQ2.out]; rfl), Lib.hid (by rw [HA2.out, HF2.out, HQ3.out]; rfl), HMO.out _⟩
         case measure => simp [intOf]; omega
       ·
        have g2 : decide (200 < x1) = true := decide_eq_true (by omega)
        have HEF := Lib.hid (HN1.out (by rw [decide_eq_false q2]; simp))
        clear q2
        go_upto_region 11 with fail
        go_quiet (first | (go_at_call 94; exact Calls.quiet_of_same (from_v _ HQ.out)) | fail)
        go_wp2_with fail
        go_ret
        exact ⟨by rw [HRE.out, HEF.out]; rfl, HB2.out.drewN nq⟩
     ·
      obtain rfl : j = ns := by omega
      have d3 : (wr.drewN n).cell? ⟨w.heap.size, 3, none⟩ = some (.slice tA j tc) := D0.out.cell 3
      go_wp2_with fail
      go_ret
      refine ⟨?_, HB0.out.drewN n⟩
      have h1 := H0.out
      rw [HRE.out, HE.out, HQ1.out, HF1.out, HF2.out, h1.1, h1.2.1, h1.2.2.2, decide_eq_true h1.2.2.1]
      simp
 ·
  have HEf : E = false := by
   cases hE' : E
   · rfl
   ·
    rw [hE'] at hE
    have hE := hE.symm
    simp only [Bool.and_eq_true, decide_eq_true_eq] at hE
    exact absurd ⟨hE.1.1.1.1.1.1.1, hE.1.1.1.1.1.1.2, hE.1.1.1.1.1.2, hE.1.1.1.1.2, hE.1.1.1.2⟩ hp
  have hR10 : R = 10 := by rw [HRE.out, HEf]; rfl
  rw [hR10]
  clear hE hR hR10 HEf
  have k1 : M.inB 1 12 W = false ∨ (M.inB 1 12 W = true ∧ M.inB 1 12 H = false) ∨ (M.inB 1 12 W = true ∧ M.inB 1 12 H = true ∧ (nd : Int) ≠ W * H) ∨ (M.inB 1 12 W = true ∧ M.inB 1 12 H = true ∧ (nd : Int) = W * H ∧ M.inB 1 60 nt = false) ∨ (M.inB 1 12 W = true ∧ M.inB 1 12 H = true ∧ (nd : Int) = W * H ∧ M.inB 1 60 nt = true ∧ ns ≠ nt) := by
   cases h1 : M.inB 1 12 W
   · exact .inl rfl
   ·
    cases h2 : M.inB 1 12 H
    · exact .inr (.inl ⟨rfl, rfl⟩)
    ·
     by_cases h3 : (nd : Int) = W * H
     ·
      cases h4 : M.inB 1 60 nt
      · exact .inr (.inr (.inr (.inl ⟨rfl, rfl, h3, rfl⟩)))
      · refine .inr (.inr (.inr (.inr ⟨rfl, rfl, h3, rfl, fun e => hp ⟨h1, h2, h3, h4, e⟩⟩)))
     · exact .inr (.inr (.inl ⟨rfl, rfl, h3⟩))
  clear hp
  rcases k1 with h1 | ⟨h1, h2⟩ | ⟨h1, h2, h3⟩ | ⟨h1, h2, h3, h4⟩ | ⟨h1, h2, h3, h4, h5⟩
  ·
   go_enter Tryz.func53, Tryz.ntmps53
   go_wp2_with (go_at_call 94; refine (from_any _ _ _ _).mono ?_; rintro e w1 ⟨rfl, rfl⟩)
   go_ret
   exact ⟨rfl, HB0.out⟩
  ·
   go_enter Tryz.func53, Tryz.ntmps53
   go_wp2_with (go_at_call 94; refine (from_any _ _ _ _).mono ?_; rintro e w1 ⟨rfl, rfl⟩)
   go_ret
   exact ⟨rfl, HB0.out⟩
  ·
   obtain ⟨m1, m2⟩ := wrap_mul h1 h2
   have g1 : ((nd : Int) != W * H) = true := by rw [bne_iff_ne]; exact h3
   clear h3
   go_enter Tryz.func53, Tryz.ntmps53
   go_wp2_with (go_at_call 94; refine (from_any _ _ _ _).mono ?_; rintro e w1 ⟨rfl, rfl⟩)
   go_ret
   exact ⟨rfl, HB0.out⟩
  ·
   obtain ⟨m1, m2⟩ := wrap_mul h1 h2
   have g1 : ((nd : Int) != W * H) = false := by rw [h3]; simp
   clear h3
   go_enter Tryz.func53, Tryz.ntmps53
   go_wp2_with (go_at_call 94; refine (from_any _ _ _ _).mono ?_; rintro e w1 ⟨rfl, rfl⟩)
   go_ret
   exact ⟨rfl, HB0.out⟩
  ·
   obtain ⟨m1, m2⟩ := wrap_mul h1 h2
   have g1 : ((nd : Int) != W * H) = false := by rw [h3]; simp
   have g2 : ((ns : Int) != (nt : Int)) = true := by rw [bne_iff_ne]; omega
   clear h3 h5
   go_enter Tryz.func53, Tryz.ntmps53
   go_wp2_with (go_at_call 94; refine (from_any _ _ _ _).mono ?_; rintro e w1 ⟨rfl, rfl⟩)
   go_ret
   exact ⟨rfl, HB0.out⟩
end
end Go.Proofs.YtnbeembnnjdmdaaGreatDoor
/- The reference of layer 2: within, dry, pushed. -/
namespace Go.Proofs.YtnbeembnnjdmdaaGreatDoor
open Go.RowKit

theorem rin_any (n lo hi : Int) (w : World) :
  Calls Tryz.prog 50 #[.int .i64 n, .int .i64 lo, .int .i64 hi] w fun e w' => e = .returned (.bool (M.inB lo hi n)) ∧ w' = w := by
 unfold M.inB
 by_cases h1 : lo ≤ n
 ·
  have g1 : decide (lo ≤ n) = true := decide_eq_true h1
  go_enter Tryz.func50, Tryz.ntmps50
  go_wp2_with fail
  go_ret
  exact ⟨ret_bool (by simp [h1]), rfl⟩
 ·
  have g1 : decide (lo ≤ n) = false := decide_eq_false h1
  go_enter Tryz.func50, Tryz.ntmps50
  go_wp2_with fail
  go_ret
  exact ⟨ret_bool (by simp <;> omega), rfl⟩
theorem rin_v (w : World) {n lo hi : Int} {b : Bool} (h : M.inB lo hi n = b) : Calls Tryz.prog 50 #[.int .i64 n, .int .i64 lo, .int .i64 hi] w fun e w' => e = .returned (.bool b) ∧ w' = w := by rw [← h]; exact rin_any n lo hi w
section
variable {d : M.Dr} {zA cA wA dA tA sA : Option Addr} {cl : Nat → Nat} {B dc tc sc zc cc wc : Nat} {w : World}
set_option maxRecDepth 100000 in
set_option maxHeartbeats 3200000 in
theorem rdry_ok (c t : Nat) (h : Int) (hd : d.Ok) (hc : c < d.s.nd) (ht : t < d.s.nt) (hh : 0 ≤ h ∧ h ≤ 200) (hR : RdD w B dA tA sA zA cA wA d.s.nd d.s.nt d.s.nt d.s.nd d.nz (d.s.nt - 1) d.s.dep d.s.tide d.s.sw d.z cl d.cu d.wd) (hB : B ≤ w.heap.size) :
  Calls Tryz.prog 92 #[.agg #[.int .i64 (d.s.W : Int), .int .i64 (d.s.H : Int), .slice dA d.s.nd dc, .slice tA d.s.nt tc, .slice sA d.s.nt sc, .slice zA d.s.nd zc, .slice cA d.nz cc, .slice wA (d.s.nt - 1) wc], .int .i64 (c : Int), .int .i64 (t : Int), .int .i64 h] w fun e w' => e = .returned (.bool (M.dryB d.s c t h)) ∧ Below w.heap.size w w' := by
 have hdp := hd.s.dep c hc
 have hsw := hd.s.sw t ht
 have HB0 := Lib.hid (belowAlloc w (.cells #[.int .i64 (d.s.W : Int), .int .i64 (d.s.H : Int), .slice dA d.s.nd dc, .slice tA d.s.nt tc, .slice sA d.s.nt sc, .slice zA d.s.nd zc, .slice cA d.nz cc, .slice wA (d.s.nt - 1) wc] 29))
 have hR' := hR.c.below (HB0.out.mono hB)
 obtain ⟨db, do_, rfl, hdb, d0⟩ := hR'.d.at_ hc
 obtain ⟨sb, so, rfl, hsb, s0⟩ := hR'.s.at_ ht
 have k1 : decide (d.s.nd ≤ c) = false := decide_eq_false (by omega)
 have k2 : decide (d.s.nt ≤ t) = false := decide_eq_false (by omega)
 have C0 := Lib.hid (Blk.new w 29 #[.int .i64 (d.s.W : Int), .int .i64 (d.s.H : Int), .slice (some ⟨db, do_, none⟩) d.s.nd dc, .slice tA d.s.nt tc, .slice (some ⟨sb, so, none⟩) d.s.nt sc, .slice zA d.s.nd zc, .slice cA d.nz cc, .slice wA (d.s.nt - 1) wc])
 obtain ⟨Y, hY⟩ : ∃ Y, Y = w.alloc (.cells #[.int .i64 (d.s.W : Int), .int .i64 (d.s.H : Int), .slice (some ⟨db, do_, none⟩) d.s.nd dc, .slice tA d.s.nt tc, .slice (some ⟨sb, so, none⟩) d.s.nt sc, .slice zA d.s.nd zc, .slice cA d.nz cc, .slice wA (d.s.nt - 1) wc] 29) := ⟨_, rfl⟩
 have HYe := Lib.hid hY
 rw [← hY] at HB0 C0 d0 s0
 have c2 := C0.out.cell 2
 have c4 := C0.out.cell 4
 have HD := Lib.hid (show M.dryB d.s c t h = decide (d.s.dep c + h - d.s.sw t < 1) from rfl)
 obtain ⟨dv, hdv⟩ : ∃ dv, dv = d.s.dep c := ⟨_, rfl⟩
 obtain ⟨sv, hsv⟩ : ∃ sv, sv = d.s.sw t := ⟨_, rfl⟩
 rw [← hdv] at hdp d0
 rw [← hsv] at hsw s0
 rw [← hdv, ← hsv] at HD
 generalize M.dryB d.s c t h = q at HD ⊢
 clear hdv hsv hR hR' hd hY
 go_enter Tryz.func92, Tryz.ntmps92
 go_upto_region 1 with fail
 rw [← HYe.out]
 clear HYe
 go_quiet (fail)
 go_wp2_with fail
 go_ret
 exact ⟨ret_bool HD.out.symm, HB0.out.drewN nq⟩
set_option maxRecDepth 100000 in
set_option maxHeartbeats 3200000 in
theorem rpushed_ok (c t a k : Nat) (h : Int) (hd : d.Ok) (hc : c < d.s.nd) (ht : t < d.s.nt) (ha : a < 6) (hk : k ≤ 100) (hh : 0 ≤ h ∧ h ≤ 200) (hR : RdD w B dA tA sA zA cA wA d.s.nd d.s.nt d.s.nt d.s.nd d.nz (d.s.nt - 1) d.s.dep d.s.tide d.s.sw d.z cl d.cu d.wd) (hB : B ≤ w.heap.size) :
  Calls Tryz.prog 93 #[.agg #[.int .i64 (d.s.W : Int), .int .i64 (d.s.H : Int), .slice dA d.s.nd dc, .slice tA d.s.nt tc, .slice sA d.s.nt sc, .slice zA d.s.nd zc, .slice cA d.nz cc, .slice wA (d.s.nt - 1) wc], .int .i64 (c : Int), .int .i64 (t : Int), .int .i64 h, .int .i64 (a : Int), .int .i64 (k : Int)] w fun e w' => e = .returned (.int .i64 (M.pushN d.s t h a k c)) ∧ Below w.heap.size w w' := by
 have hnd := hd.s.nd1
 have HB0 := Lib.hid (belowAlloc w (.cells #[.int .i64 (d.s.W : Int), .int .i64 (d.s.H : Int), .slice dA d.s.nd dc, .slice tA d.s.nt tc, .slice sA d.s.nt sc, .slice zA d.s.nd zc, .slice cA d.nz cc, .slice wA (d.s.nt - 1) wc] 29))
 have K0 := Lib.hid (Blk.new w 29 #[.int .i64 (d.s.W : Int), .int .i64 (d.s.H : Int), .slice dA d.s.nd dc, .slice tA d.s.nt tc, .slice sA d.s.nt sc, .slice zA d.s.nd zc, .slice cA d.nz cc, .slice wA (d.s.nt - 1) wc])
 obtain ⟨r, hr⟩ : ∃ r, M.pushN d.s t h a k c = r := ⟨_, rfl⟩
 rw [hr]
 have HR0 := Lib.hid hr
 have HBE := Lib.hid (fun (q : Nat) (hq : q < d.s.nd) (V : World) => beside_ok d.s dA tA sA dc tc sc V q a hd.s hq ha)
 have HNB := Lib.hid (fun (q : Nat) (h1 : M.nbIs d.s.W d.s.H q a = true) => (show M.nbN d.s.W q a < d.s.nd by rw [hd.s.nd]; exact (M.nb_spec h1).1))
 have HDR := Lib.hid (fun (q : Nat) (hq : q < d.s.nd) (V : World) (hb : Below w.heap.size w V) => rdry_ok (dc := dc) (tc := tc) (sc := sc) (zc := zc) (cc := cc) (wc := wc) q t h hd hq ht hh (hR.below (hb.mono hB)) (Nat.le_trans hB hb.size))
 clear hR hd hr
 go_enter Tryz.func93, Tryz.ntmps93
 go_upto_region 1 with fail
 generalize hYe : w.alloc (.cells #[.int .i64 (d.s.W : Int), .int .i64 (d.s.H : Int), .slice dA d.s.nd dc, .slice tA d.s.nt tc, .slice sA d.s.nt sc, .slice zA d.s.nd zc, .slice cA d.nz cc, .slice wA (d.s.nt - 1) wc] 29) = Y at HB0 K0 ⊢
 clear hYe
 go_wp2_with fail
 go_loopw [1, 13] (fun v i wr => ∃ j q : Nat, j ≤ k ∧ i = .int .i64 (j : Int) ∧ v = .int .i64 (q : Int) ∧ q < d.s.nd ∧ Hid (M.pushN d.s t h a (k - j) q = r) ∧ Hid (Below w.heap.size w wr) ∧ Hid (Blk wr w.heap.size 29 #[.int .i64 (d.s.W : Int), .int .i64 (d.s.H : Int), .slice dA d.s.nd dc, .slice tA d.s.nt tc, .slice sA d.s.nt sc, .slice zA d.s.nd zc, .slice cA d.nz cc, .slice wA (d.s.nt - 1) wc])) (fun _ i _ => k - (intOf i).toNat)
 case atStart => exact ⟨0, c, Nat.zero_le _, rfl, rfl, hc, by rw [Nat.sub_zero]; exact HR0, HB0, K0⟩
 case round =>
  clear HB0 K0 HR0 hc
  obtain ⟨j, q, hj, rfl, rfl, hq, HP, HB1, K1⟩ := hrel
  by_cases hlt : j < k
  ·
   obtain ⟨i, hi⟩ : ∃ i, k - j = i + 1 := ⟨k - j - 1, by omega⟩
   have HP' := Lib.hid (show M.pushN d.s t h a (i + 1) q = r from by rw [← hi]; exact HP.out)
   have HI := Lib.hid (show k - (j + 1) = i by omega)
   clear HP hi
   obtain ⟨k0, k1, k2, k3⟩ := K1.out.c4
   have k4 := K1.out.cell 4
   have HBQ := Lib.hid (HBE.out q hq wr)
   cases hb : M.nbIs d.s.W d.s.H q a
   ·
    have HE := Lib.hid (show r = -1 from by rw [← HP'.out]; unfold M.pushN; rw [hb]; rfl)
    rw [hb] at HBQ
    clear hb
    go_wp2_with (go_at_call 120; go_must (refine HBQ.out.mono ?_); rintro e w1 ⟨rfl, hb1⟩; have HB2 := Lib.hid hb1; clear hb1)
    go_ret
    exact ⟨ret_int HE.out.symm, HB1.out.trans (HB2.out.mono HB1.out.size)⟩
   ·
    have hn2 := HNB.out q hb
    have hv : M.nbV d.s.W d.s.H q a = ((M.nbN d.s.W q a : Nat) : Int) := by unfold M.nbV; rw [hb]; rfl
    have HE := Lib.hid (show r = if M.dryB d.s (M.nbN d.s.W q a) t h then (q : Int) else M.pushN d.s t h a i (M.nbN d.s.W q a) from by rw [← HP'.out]; conv => lhs; unfold M.pushN; rw [hb, if_pos rfl])
    rw [hb, hv] at HBQ
    clear hb hv HP'
    generalize M.nbN d.s.W q a = q2 at HBQ HE hn2
    have HDQ := Lib.hid (fun V hV => HDR.out q2 hn2 V hV)
    cases hdy : M.dryB d.s q2 t h
    ·
     rw [hdy] at HE HDQ
     clear hdy
     go_wp2_with (first | (go_at_call 120; go_must (refine HBQ.out.mono ?_); rintro e w1 ⟨rfl, hb1⟩; have HB2 := Lib.hid (HB1.out.trans (hb1.mono HB1.out.size)); have K2 := Lib.hid (K1.out.below' hb1); clear hb1 k0 k1 k2 k3 k4; obtain ⟨k0, k1, k2, k3⟩ := K2.out.c4; have k4 := K2.out.cell 4; have k5 := K2.out.cell 5; have k6 := K2.out.cell 6; have k7 := K2.out.cell 7) | (go_at_call 92; go_must (refine (HDQ.out _ HB2.out).mono ?_); rintro e w2 ⟨rfl, hb1⟩; have HB3 := Lib.hid (HB2.out.trans (hb1.mono HB2.out.size)); have K3 := Lib.hid (K2.out.below' hb1); clear hb1))
     go_roundw
     case rel => exact ⟨j + 1, q2, by omega, by go_num, rfl, hn2, Lib.hid (by rw [HI.out, HE.out]; rfl), HB3, K3⟩
     case measure => simp [intOf]; omega
    ·
     rw [hdy] at HE HDQ
     clear hdy
     go_wp2_with (first | (go_at_call 120; go_must (refine HBQ.out.mono ?_); rintro e w1 ⟨rfl, hb1⟩; have HB2 := Lib.hid (HB1.out.trans (hb1.mono HB1.out.size)); have K2 := Lib.hid (K1.out.below' hb1); clear hb1 k0 k1 k2 k3 k4; obtain ⟨k0, k1, k2, k3⟩ := K2.out.c4; have k4 := K2.out.cell 4; have k5 := K2.out.cell 5; have k6 := K2.out.cell 6; have k7 := K2.out.cell 7) | (go_at_call 92; go_must (refine (HDQ.out _ HB2.out).mono ?_); rintro e w2 ⟨rfl, hb1⟩; have HB3 := Lib.hid (HB2.out.trans (hb1.mono HB2.out.size)); have K3 := Lib.hid (K2.out.below' hb1); clear hb1))
     go_ret
     exact ⟨ret_int (by rw [HE.out]; rfl), HB3.out⟩
  ·
   obtain rfl : j = k := by omega
   have HE := Lib.hid (show r = (q : Int) from by rw [← HP.out, Nat.sub_self]; rfl)
   go_wp2_with fail
   go_ret
   exact ⟨ret_int HE.out.symm, HB1.out⟩
end
end Go.Proofs.YtnbeembnnjdmdaaGreatDoor
