/- The neighbour of a cell: (sea).next, chart.Next; the water, chart.Floats. -/
import Derived.Test.YtnbeembnnjdmdaaGreatDoorK1
namespace Go.Proofs.YtnbeembnnjdmdaaGreatDoor
open Go.RowKit

def M.wayF (d j : Nat) : Int := if j = 0 then M.dx d 0 else if j = 1 then M.dx d 1 else M.dy d
def Ways (w : World) : Prop := Rd w (1 + 1) (some ⟨1, 0, none⟩) 3 6 M.wayF ∧ 1 < w.heap.size
theorem Ways.below {w w' : World} (h : Ways w) (hb : Below w.heap.size w w') : Ways w' := ⟨h.1.below (hb.mono h.2), Nat.lt_of_lt_of_le h.2 hb.size⟩
theorem Ways.at_ {w : World} (h : Ways w) {d : Nat} (hd : d < 6) : w.cell? ⟨1, d * 3, none⟩ = some (.int .i64 (M.dx d 0)) ∧ w.cell? ⟨1, d * 3 + 1, none⟩ = some (.int .i64 (M.dx d 1)) ∧ w.cell? ⟨1, d * 3 + 2, none⟩ = some (.int .i64 (M.dy d)) := by
 have := h.1.c3 hd
 rw [Nat.zero_add] at this
 exact this
theorem add_off (b off o : Nat) : (⟨b, off, none⟩ : Addr).add o = ⟨b, off + o, none⟩ := by
 unfold Addr.add; split <;> simp_all
theorem idx_way (d : Nat) (hd : d < 6) (W : World) : (Instr.indexAt 208 (.pointer (some ⟨1, 0, none⟩)) (.int .i64 (d : Int))).run Tryz.prog W = .ok (.pointer (some ⟨1, d * 3, none⟩)) W := by
 rw [run_indexAt_array (P := Tryz.prog) W 208 ⟨1, 0, none⟩ .i64 (d : Int) (by kernel_rfl)]
 rw [show Tryz.prog.arrayLen 208 = 6 by kernel_rfl, show Tryz.prog.elem 208 = 207 by kernel_rfl, if_pos (by omega), Tryz.sizeOf207]
 simp [add_off]
def M.nbV (W H c d : Nat) : Int := if M.nbIs W H c d then (M.nbN W c d : Nat) else 0
theorem M.dx_bd (d p : Nat) : -1 ≤ M.dx d p ∧ M.dx d p ≤ 1 := by unfold M.dx; (repeat' split) <;> omega
theorem M.dy_bd (d : Nat) : -1 ≤ M.dy d ∧ M.dy d ≤ 1 := by unfold M.dy; (repeat' split) <;> omega
theorem M.nbIs_inB (W H c d : Nat) : M.nbIs W H c d = (M.inB 0 ((W : Int) - 1) (M.nbX W c d) && M.inB 0 ((H : Int) - 1) (M.nbY W c d)) := by
 apply M.bool_ext
 unfold M.nbIs
 simp only [Bool.and_eq_true, decide_eq_true_eq, M.inB_iff]
 omega
section
variable (s : M.Sea) (dA tA sA : Option Addr) (dc tc sc B : Nat) (w : World)
set_option maxRecDepth 100000 in
set_option maxHeartbeats 3200000 in
theorem next_any (c d : Nat) (hs : s.Ok) (hw : Ways w) (hc : c < s.nd) (hd : d < 6) :
  Calls Tryz.prog 150 #[.agg #[.int .i64 (s.W : Int), .int .i64 (s.H : Int), .slice dA s.nd dc, .slice tA s.nt tc, .slice sA s.nt sc], .int .i64 (c : Int), .int .i64 (d : Int)] w fun e w' => e = .returned (.tuple #[.int .i64 (M.nbV s.W s.H c d), .bool (M.nbIs s.W s.H c d)]) ∧ Below w.heap.size w w' := by
 have hnd := hs.nd1
 have hW1 := hs.w1
 have hW2 := hs.w2
 have hH1 := hs.h1
 have hH2 := hs.h2
 have hIS := Lib.hid (M.nbIs_inB s.W s.H c d)
 have hV := Lib.hid (show M.nbV s.W s.H c d = if M.nbIs s.W s.H c d then ((M.nbN s.W c d : Nat) : Int) else 0 from rfl)
 have hN := Lib.hid (fun h : M.nbIs s.W s.H c d = true => (M.nb_spec h).2.2.2)
 have hX := Lib.hid (show M.nbX s.W c d = ((c % s.W : Nat) : Int) + M.dx d (c / s.W % 2) from rfl)
 have hY := Lib.hid (show M.nbY s.W c d = ((c / s.W : Nat) : Int) + M.dy d from rfl)
 have hqx : (c : Int) / (s.W : Int) = ((c / s.W : Nat) : Int) := rfl
 have hrx : (c : Int) % (s.W : Int) = ((c % s.W : Nat) : Int) := rfl
 have hxb : c % s.W < s.W := Nat.mod_lt _ (by omega)
 have hyb : c / s.W ≤ 143 := Nat.le_trans (Nat.div_le_self _ _) (by omega)
 have hyH : c / s.W < s.H := Nat.div_lt_of_lt_mul (by rw [← hs.nd]; exact hc)
 have b0 := M.dx_bd d 0
 have b1 := M.dx_bd d 1
 have b2 := M.dy_bd d
 obtain ⟨y0, y1, y2⟩ := hw.at_ hd
 have hG := hw.2
 have ix := idx_way d hd
 have hp : c / s.W % 2 = 0 ∨ c / s.W % 2 = 1 := by omega
 obtain ⟨xm, hxm⟩ : ∃ xm, xm = c % s.W := ⟨_, rfl⟩
 obtain ⟨ym, hym⟩ : ∃ ym, ym = c / s.W := ⟨_, rfl⟩
 obtain ⟨pm, hpm⟩ : ∃ pm, pm = c / s.W % 2 := ⟨_, rfl⟩
 rw [← hym] at hqx hyb hyH hX hY hp
 rw [← hym] at hpm
 rw [← hpm] at hX hp
 rw [← hxm] at hrx hxb hX
 have hpar : ((ym : Int) % 2 == 1) = decide (pm = 1) := by
  rw [show ((ym : Int) % 2 == 1) = decide ((ym : Int) % 2 = 1) from rfl]
  exact decide_eq_decide.2 (by omega)
 have hW0 : ¬ s.W = 0 := by omega
 clear hxm hym hpm
 have hW1' : (1 : Int) ≤ s.W := by omega
 obtain ⟨e0, he0⟩ : ∃ e0, e0 = M.dx d 0 := ⟨_, rfl⟩
 obtain ⟨e1, he1⟩ : ∃ e1, e1 = M.dx d 1 := ⟨_, rfl⟩
 obtain ⟨en, hen⟩ : ∃ en, en = M.dy d := ⟨_, rfl⟩
 rw [← he0] at b0 y0
 rw [← he1] at b1 y1
 rw [← hen] at b2 y2 hY
 have hE0 := Lib.hid he0
 have hE1 := Lib.hid he1
 clear he0 he1 hen hs hw hc hd
 have HB0 := Lib.hid (belowAlloc w (.cells #[.int .i64 (s.W : Int), .int .i64 (s.H : Int), .slice dA s.nd dc, .slice tA s.nt tc, .slice sA s.nt sc] 200))
 have D0 := Lib.hid (Blk.new w 200 #[.int .i64 (s.W : Int), .int .i64 (s.H : Int), .slice dA s.nd dc, .slice tA s.nt tc, .slice sA s.nt sc])
 go_enter Tryz.func150, Tryz.ntmps150
 go_upto_region 1 with fail
 obtain ⟨X, hX0⟩ : ∃ X, X = w.alloc (.cells #[.int .i64 (s.W : Int), .int .i64 (s.H : Int), .slice dA s.nd dc, .slice tA s.nt tc, .slice sA s.nt sc] 200) := ⟨_, rfl⟩
 rw [← hX0] at HB0 D0
 rw [← hX0]
 clear hX0
 have hGX : 1 < X.heap.size := Nat.lt_of_lt_of_le hG HB0.out.size
 have z0 := (HB0.out.cell (p := ⟨1, d * 3, none⟩) hG).trans y0
 have z1 := (HB0.out.cell (p := ⟨1, d * 3 + 1, none⟩) hG).trans y1
 have z2 := (HB0.out.cell (p := ⟨1, d * 3 + 2, none⟩) hG).trans y2
 have HK := Lib.hid (fun (Z : World) (hb : Below X.heap.size X Z) => (show Z.cell? ⟨1, d * 3, none⟩ = some (.int .i64 e0) ∧ Z.cell? ⟨1, d * 3 + 1, none⟩ = some (.int .i64 e1) ∧ Z.cell? ⟨1, d * 3 + 2, none⟩ = some (.int .i64 en) ∧ Z.cell? ⟨w.heap.size, 0, none⟩ = some (.int .i64 (s.W : Int)) ∧ Below X.heap.size X Z from ⟨(hb.cell hGX).trans z0, (hb.cell hGX).trans z1, (hb.cell hGX).trans z2, (D0.out.below' hb).cell 0, hb⟩))
 clear y0 y1 y2 z0 z1 z2
 go_region_held3 (fun Z => Z.cell? ⟨1, d * 3, none⟩ = some (.int .i64 e0) ∧ Z.cell? ⟨1, d * 3 + 1, none⟩ = some (.int .i64 e1) ∧ Z.cell? ⟨1, d * 3 + 2, none⟩ = some (.int .i64 en) ∧ Z.cell? ⟨w.heap.size, 0, none⟩ = some (.int .i64 (s.W : Int)) ∧ Below X.heap.size X Z)
  (first
   | assumption
   | exact HK.out _ (Below.refl _ _).drew
   | exact HK.out _ (belowAlloc X _).drew
   | (go_split_ands; exact HK.out _ (Below.alloc (by assumption) (Below.size (by assumption)) _))
   | fail)
  (fail)
 all_goals
  have D1 := Lib.hid (D0.out.below' (belowAlloc X (.cells #[.int .i64 e0, .int .i64 e1, .int .i64 en] 207)))
  have T1 := Lib.hid (Blk.new X 207 #[.int .i64 e0, .int .i64 e1, .int .i64 en])
  have HB1 := Lib.hid (HB0.out.alloc HB0.out.size (.cells #[.int .i64 e0, .int .i64 e1, .int .i64 en] 207)).drew
  obtain ⟨Y, hY0⟩ : ∃ Y, Y = (X.alloc (.cells #[.int .i64 e0, .int .i64 e1, .int .i64 en] 207)).drew := ⟨_, rfl⟩
  have D2 := Lib.hid (show Blk Y w.heap.size 200 _ from by rw [hY0]; exact blk_dr.2 D1.out)
  have T2 := Lib.hid (show Blk Y X.heap.size 207 _ from by rw [hY0]; exact blk_dr.2 T1.out)
  have HB2 := Lib.hid (show Below w.heap.size w Y from by rw [hY0]; exact HB1.out)
  rw [← hY0]
  clear hY0 HB1 D1 T1 HK HB0 D0
  obtain ⟨t0, t1, t2⟩ := T2.out.c3
  obtain ⟨d0, d1⟩ := D2.out.c2
  obtain ⟨G, hG0⟩ : ∃ G, G = X.heap.size := ⟨_, rfl⟩
  rw [← hG0] at t0 t1 t2
  rw [← hG0]
  clear hG0 hGX hqx
  rcases hp with rfl | rfl
  ·
   have HIS := Lib.hid (show M.nbIs s.W s.H c d = (M.inB 0 ((s.W : Int) - 1) ((xm : Int) + e0) && M.inB 0 ((s.H : Int) - 1) ((ym : Int) + en)) from by rw [hIS.out, hX.out, hY.out, hE0.out])
   have HN := Lib.hid (show M.nbIs s.W s.H c d = true → ((ym : Int) + en) * s.W + ((xm : Int) + e0) = (M.nbN s.W c d : Nat) from by rw [hE0.out, ← hX.out, ← hY.out]; exact hN.out)
   simp only [show (0 = 1) = False by simp, decide_false] at hpar
   go_upto_region 5 with fail
   go_quiet (fail)
   have HB3 := Lib.hid (HB2.out.drewN nq)
   cases hx : M.inB 0 ((s.W : Int) - 1) ((xm : Int) + e0)
   ·
    have HF := Lib.hid (show M.nbIs s.W s.H c d = false from by rw [HIS.out, hx]; rfl)
    clear t0 t1 t2
    go_wp2_with (go_at_call 110; refine (within_any _ _ _ _).mono ?_; rintro e w1 ⟨rfl, rfl⟩)
    go_ret2
    exact ⟨by rw [hV.out, HF.out]; rfl, HB3.out⟩
   ·
    cases hy : M.inB 0 ((s.H : Int) - 1) ((ym : Int) + en)
    ·
     have HF := Lib.hid (show M.nbIs s.W s.H c d = false from by rw [HIS.out, hx, hy]; rfl)
     clear t0 t1 t2
     go_wp2_with (go_at_call 110; refine (within_any _ _ _ _).mono ?_; rintro e w1 ⟨rfl, rfl⟩)
     go_ret2
     exact ⟨by rw [hV.out, HF.out]; rfl, HB3.out⟩
    ·
     have HF := Lib.hid (show M.nbIs s.W s.H c d = true from by rw [HIS.out, hx, hy]; rfl)
     have hxi := M.inB_iff.1 hx
     have hyi := M.inB_iff.1 hy
     have hm0 : 0 ≤ ((ym : Int) + en) * s.W := Int.mul_nonneg (by omega) (by omega)
     have hm1 : ((ym : Int) + en) * s.W ≤ 11 * 12 := Int.mul_le_mul (by omega) (by omega) (by omega) (by omega)
     obtain ⟨mm, hmm⟩ : ∃ mm, mm = ((ym : Int) + en) * s.W := ⟨_, rfl⟩
     have HM := Lib.hid hmm
     rw [← hmm] at hm0 hm1
     have hmr : ((ym : Int) + en) * s.W = mm := hmm.symm
     clear hmm t0 t1 t2
     go_wp2_with (go_at_call 110; refine (within_any _ _ _ _).mono ?_; rintro e w1 ⟨rfl, rfl⟩)
     go_ret2
     refine ⟨?_, HB3.out⟩
     rw [hV.out, HF.out, if_pos rfl, ← HN.out HF.out, ← HM.out]
     rfl
  ·
   have HIS := Lib.hid (show M.nbIs s.W s.H c d = (M.inB 0 ((s.W : Int) - 1) ((xm : Int) + e1) && M.inB 0 ((s.H : Int) - 1) ((ym : Int) + en)) from by rw [hIS.out, hX.out, hY.out, hE1.out])
   have HN := Lib.hid (show M.nbIs s.W s.H c d = true → ((ym : Int) + en) * s.W + ((xm : Int) + e1) = (M.nbN s.W c d : Nat) from by rw [hE1.out, ← hX.out, ← hY.out]; exact hN.out)
   simp only [decide_true] at hpar
   go_upto_region 5 with fail
   go_quiet (fail)
   have HB3 := Lib.hid (HB2.out.drewN nq)
   cases hx : M.inB 0 ((s.W : Int) - 1) ((xm : Int) + e1)
   ·
    have HF := Lib.hid (show M.nbIs s.W s.H c d = false from by rw [HIS.out, hx]; rfl)
    clear t0 t1 t2
    go_wp2_with (go_at_call 110; refine (within_any _ _ _ _).mono ?_; rintro e w1 ⟨rfl, rfl⟩)
    go_ret2
    exact ⟨by rw [hV.out, HF.out]; rfl, HB3.out⟩
   ·
    cases hy : M.inB 0 ((s.H : Int) - 1) ((ym : Int) + en)
    ·
     have HF := Lib.hid (show M.nbIs s.W s.H c d = false from by rw [HIS.out, hx, hy]; rfl)
     clear t0 t1 t2
     go_wp2_with (go_at_call 110; refine (within_any _ _ _ _).mono ?_; rintro e w1 ⟨rfl, rfl⟩)
     go_ret2
     exact ⟨by rw [hV.out, HF.out]; rfl, HB3.out⟩
    ·
     have HF := Lib.hid (show M.nbIs s.W s.H c d = true from by rw [HIS.out, hx, hy]; rfl)
     have hxi := M.inB_iff.1 hx
     have hyi := M.inB_iff.1 hy
     have hm0 : 0 ≤ ((ym : Int) + en) * s.W := Int.mul_nonneg (by omega) (by omega)
     have hm1 : ((ym : Int) + en) * s.W ≤ 11 * 12 := Int.mul_le_mul (by omega) (by omega) (by omega) (by omega)
     obtain ⟨mm, hmm⟩ : ∃ mm, mm = ((ym : Int) + en) * s.W := ⟨_, rfl⟩
     have HM := Lib.hid hmm
     rw [← hmm] at hm0 hm1
     have hmr : ((ym : Int) + en) * s.W = mm := hmm.symm
     clear hmm t0 t1 t2
     go_wp2_with (go_at_call 110; refine (within_any _ _ _ _).mono ?_; rintro e w1 ⟨rfl, rfl⟩)
     go_ret2
     refine ⟨?_, HB3.out⟩
     rw [hV.out, HF.out, if_pos rfl, ← HN.out HF.out, ← HM.out]
     rfl
end
end Go.Proofs.YtnbeembnnjdmdaaGreatDoor
/- chart.Next, chart.Floats where all is valid. -/
namespace Go.Proofs.YtnbeembnnjdmdaaGreatDoor
open Go.RowKit

theorem span_size : (Tryz.prog.info? 42).map (·.size) = some 2 := by kernel_rfl
theorem rd1_one {w : World} {g : Nat} {t : TypeId} {x : Int} (h : Blk w g t #[.int .i64 x]) : Rd1 w w.heap.size (some ⟨g, 0, none⟩) 1 (fun _ => x) :=
 .inr ⟨g, 0, rfl, h.lt, fun i hi => by obtain rfl : i = 0 := (by omega); exact h.cell 0⟩
section
variable (s : M.Sea) (dA tA sA : Option Addr) (dc tc sc B : Nat) (w : World)
set_option maxRecDepth 100000 in
set_option maxHeartbeats 3200000 in
theorem cnext_ok (c d : Nat) (hs : s.Ok) (hw : Ways w) (hc : c < s.nd) (hd : d < 6) (hR : RdC w B dA tA sA s.nd s.nt s.nt s.dep s.tide s.sw) (hB : B ≤ w.heap.size) :
  Calls Tryz.prog 147 #[.agg #[.int .i64 (s.W : Int), .int .i64 (s.H : Int), .slice dA s.nd dc, .slice tA s.nt tc, .slice sA s.nt sc], .int .i64 (c : Int), .int .i64 (d : Int)] w fun e w' => (∃ k : Int, e = .returned (.tuple #[.int .i64 (M.nbV s.W s.H c d), .int .i64 k]) ∧ (k == 0) = M.nbIs s.W s.H c d) ∧ Below w.heap.size w w' := by
 have hnd := hs.nd1
 have HB0 := Lib.hid (belowAlloc2 w (.cells #[.int .i64 (s.W : Int), .int .i64 (s.H : Int), .slice dA s.nd dc, .slice tA s.nt tc, .slice sA s.nt sc] 25) (.cells #[.int .i64 (c : Int)] 3))
 have T0 := Lib.hid (Blk.new1 w (.cells #[.int .i64 (s.W : Int), .int .i64 (s.H : Int), .slice dA s.nd dc, .slice tA s.nt tc, .slice sA s.nt sc] 25) 3 #[.int .i64 (c : Int)])
 have HOP := Lib.hid (fun W (hb : Below w.heap.size w W) A1 c1 (hr : Rd1 W W.heap.size A1 1 fun _ => (c : Int)) => open_ok s dA tA sA dc tc sc W.heap.size W A1 none none 1 c1 0 0 0 0 (fun _ => (c : Int)) (fun _ => 0) (fun _ => 0) hs ((hR.below (hb.mono hB)).more (Nat.le_trans hB hb.size)) (Nat.le_refl _) ⟨by omega, by omega, by omega⟩ hr (.inl rfl) (.inl rfl) (fun i _ => M.inB_iff.2 ⟨by omega, by omega⟩) (fun i hi => by omega) (fun i hi => by omega))
 have HNX := Lib.hid (fun W (hb : Below w.heap.size w W) => next_any s dA tA sA dc tc sc W c d hs (hw.below hb) hc hd)
 have HV := Lib.hid (show M.nbV s.W s.H c d = if M.nbIs s.W s.H c d then ((M.nbN s.W c d : Nat) : Int) else 0 from rfl)
 have g1 : M.inB 0 5 (d : Int) = true := M.inB_iff.2 ⟨by omega, by omega⟩
 clear hR hs hw
 obtain ⟨nv, hnv⟩ : ∃ nv, nv = M.nbV s.W s.H c d := ⟨_, rfl⟩
 obtain ⟨ni, hni⟩ : ∃ ni, ni = M.nbIs s.W s.H c d := ⟨_, rfl⟩
 rw [← hnv, ← hni] at HV
 rw [← hnv, ← hni]
 rw [← hnv, ← hni] at HNX
 clear hnv hni
 go_enter Tryz.func147, Tryz.ntmps147
 cases ni
 all_goals
  go_wp2_with (first
   | (go_at_call 149; go_must (refine (HOP.out _ HB0.out _ _ (rd1_one T0.out)).mono ?_); rintro e w1 ⟨rfl, hb1⟩; have HB1 := Lib.hid (HB0.out.trans (hb1.mono HB0.out.size)); have HB2 := Lib.hid (HB1.out.alloc HB1.out.size (.cells #[.int .i64 (s.W : Int), .int .i64 (s.H : Int), .slice dA s.nd dc, .slice tA s.nt tc, .slice sA s.nt sc] 200)); clear hb1)
   | (go_at_call 110; refine (within_any _ _ _ _).mono ?_; rintro e w3 ⟨rfl, rfl⟩)
   | (go_at_call 150; go_must (refine (HNX.out _ HB2.out).mono ?_); rintro e w2 ⟨rfl, hb2⟩; have HB3 := Lib.hid (HB2.out.trans (hb2.mono HB2.out.size)); clear hb2))
  go_ret2
  exact ⟨⟨_, by first | rfl | (rw [HV.out]; rfl), rfl⟩, HB3.out⟩
end
end Go.Proofs.YtnbeembnnjdmdaaGreatDoor
