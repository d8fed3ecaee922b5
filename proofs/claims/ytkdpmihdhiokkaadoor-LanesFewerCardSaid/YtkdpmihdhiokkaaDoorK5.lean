/- chart.Next, chart.Floats where all is valid. -/
import Derived.Test.YtkdpmihdhiokkaaDoorK4
namespace Go.Proofs.YtkdpmihdhiokkaaDoor
open Go.RowKit

theorem span_size : (Tryd.prog.info? 52).map (·.size) = some 2 := by kernel_rfl
theorem rd1_one {w : World} {g : Nat} {t : TypeId} {x : Int} (h : Blk w g t #[.int .i64 x]) : Rd1 w w.heap.size (some ⟨g, 0, none⟩) 1 (fun _ => x) :=
  .inr ⟨g, 0, rfl, h.lt, fun i hi => by obtain rfl : i = 0 := (by omega); exact h.cell 0⟩
section
variable (s : M.Sea) (dA tA sA : Option Addr) (dc tc sc B : Nat) (w : World)
set_option maxRecDepth 100000 in
set_option maxHeartbeats 3200000 in
theorem cnext_ok (c d : Nat) (hs : s.Ok) (hw : Ways w) (hc : c < s.nd) (hd : d < 6) (hR : RdC w B dA tA sA s.nd s.nt s.nt s.dep s.tide s.sw) (hB : B ≤ w.heap.size) :
    Calls Tryd.prog 71 #[.agg #[.int .i64 (s.W : Int), .int .i64 (s.H : Int), .slice dA s.nd dc, .slice tA s.nt tc, .slice sA s.nt sc], .int .i64 (c : Int), .int .i64 (d : Int)] w fun e w' => (∃ k : Int, e = .returned (.tuple #[.int .i64 (M.nbV s.W s.H c d), .int .i64 k]) ∧ (k == 0) = M.nbIs s.W s.H c d) ∧ Below w.heap.size w w' := by
  have hnd := hs.nd1
  have HB0 := Lib.hid (belowAlloc2 w (.cells #[.int .i64 (s.W : Int), .int .i64 (s.H : Int), .slice dA s.nd dc, .slice tA s.nt tc, .slice sA s.nt sc] 25) (.cells #[.int .i64 (c : Int)] 3))
  have T0 := Lib.hid (Blk.new1 w (.cells #[.int .i64 (s.W : Int), .int .i64 (s.H : Int), .slice dA s.nd dc, .slice tA s.nt tc, .slice sA s.nt sc] 25) 3 #[.int .i64 (c : Int)])
  have HOP := Lib.hid (fun W (hb : Below w.heap.size w W) A1 c1 (hr : Rd1 W W.heap.size A1 1 fun _ => (c : Int)) => open_ok s dA tA sA dc tc sc W.heap.size W A1 none none 1 c1 0 0 0 0 (fun _ => (c : Int)) (fun _ => 0) (fun _ => 0) hs ((hR.below (hb.mono hB)).more (Nat.le_trans hB hb.size)) (Nat.le_refl _) ⟨by omega, by omega, by omega⟩ hr (.inl rfl) (.inl rfl) (fun i _ => M.inB_iff.2 ⟨by omega, by omega⟩) (fun i hi => by omega) (fun i hi => by omega))
  have HNX := Lib.hid (fun W (hb : Below w.heap.size w W) => next_any s dA tA sA dc tc sc W c d hs (hw.below hb) hc hd)
  have HV := Lib.hid (show M.nbV s.W s.H c d = if M.nbIs s.W s.H c d then ((M.nbN s.W c d : Nat) : Int) else 0 from rfl)
  have g1 : M.inB 0 5 (d : Int) = true := M.inB_iff.2 ⟨by omega, by omega⟩
  clear hR hs hw
  obtain ⟨nv, hnv⟩ : ∃ nv, nv = M.nbV s.W s.H c d := ⟨_, rfl⟩
  obtain ⟨ni, hni⟩ : ∃ ni, ni = M.nbIs s.W s.H c d := ⟨_, rfl⟩
  rw [← hnv, ← hni] at HV
  rw [← hnv, ← hni]
  rw [← hnv, ← hni] at HNX
  clear hnv hni
  go_enter Tryd.func71, Tryd.ntmps71
  cases ni
  all_goals
    go_wp2_with (first
      | (go_at_call 54; go_must (refine (HOP.out _ HB0.out _ _ (rd1_one T0.out)).mono ?_); rintro e w1 ⟨rfl, hb1⟩; have HB1 := Lib.hid (HB0.out.trans (hb1.mono HB0.out.size)); have HB2 := Lib.hid (HB1.out.alloc HB1.out.size (.cells #[.int .i64 (s.W : Int), .int .i64 (s.H : Int), .slice dA s.nd dc, .slice tA s.nt tc, .slice sA s.nt sc] 95)); clear hb1)
      | (go_at_call 77; refine (within_any _ _ _ _).mono ?_; rintro e w3 ⟨rfl, rfl⟩)
      | (go_at_call 82; go_must (refine (HNX.out _ HB2.out).mono ?_); rintro e w2 ⟨rfl, hb2⟩; have HB3 := Lib.hid (HB2.out.trans (hb2.mono HB2.out.size)); clear hb2))
    go_ret2
    exact ⟨⟨_, by first | rfl | (rw [HV.out]; rfl), rfl⟩, HB3.out⟩
set_option maxRecDepth 100000 in
set_option maxHeartbeats 3200000 in
theorem water_ok (c t : Nat) (hs : s.Ok) (hc : c < s.nd) (ht : t < s.nt) (hR : RdC w B dA tA sA s.nd s.nt s.nt s.dep s.tide s.sw) (hB : B ≤ w.heap.size) :
    Calls Tryd.prog 116 #[.agg #[.int .i64 (s.W : Int), .int .i64 (s.H : Int), .slice dA s.nd dc, .slice tA s.nt tc, .slice sA s.nt sc], .int .i64 (c : Int), .int .i64 (t : Int)] w fun e w' => (∃ h : Int, e = .returned (.agg #[.int .i64 (M.low s c t), .int .i64 h])) ∧ Below w.heap.size w w' := by
  have hd := hs.dep c hc
  have htd := hs.tide t ht
  have hsw := hs.sw t ht
  have HL := Lib.hid (show M.low s c t = s.dep c + s.tide t 0 - s.sw t from rfl)
  have HB0 := Lib.hid (belowAlloc2 w (.cells #[.int .i64 (s.W : Int), .int .i64 (s.H : Int), .slice dA s.nd dc, .slice tA s.nt tc, .slice sA s.nt sc] 95) (.cells #[.int .i64 0, .int .i64 0] 52))
  have hR' := hR.below (HB0.out.mono hB)
  obtain ⟨db, do_, rfl, hdb, d0⟩ := hR'.d.at_ hc
  obtain ⟨tb, to_, rfl, htb, t0, t1⟩ := hR'.t.at2 ht
  obtain ⟨sb, so, rfl, hsb, s0⟩ := hR'.s.at_ ht
  have D0 := Lib.hid ((Blk.new w 95 #[.int .i64 (s.W : Int), .int .i64 (s.H : Int), .slice (some ⟨db, do_, none⟩) s.nd dc, .slice (some ⟨tb, to_, none⟩) s.nt tc, .slice (some ⟨sb, so, none⟩) s.nt sc]).alloc (.cells #[.int .i64 0, .int .i64 0] 52))
  have R0 := Lib.hid (Blk.new1 w (.cells #[.int .i64 (s.W : Int), .int .i64 (s.H : Int), .slice (some ⟨db, do_, none⟩) s.nd dc, .slice (some ⟨tb, to_, none⟩) s.nt tc, .slice (some ⟨sb, so, none⟩) s.nt sc] 95) 52 #[.int .i64 0, .int .i64 0])
  have k1 : decide (s.nd ≤ c) = false := decide_eq_false (by omega)
  have k2 : decide (s.nt ≤ t) = false := decide_eq_false (by omega)
  clear hR hR' hs
  go_enter Tryd.func116, Tryd.ntmps116
  go_upto_region 1 with fail
  obtain ⟨X, hX⟩ : ∃ X, X = (w.alloc (.cells #[.int .i64 (s.W : Int), .int .i64 (s.H : Int), .slice (some ⟨db, do_, none⟩) s.nd dc, .slice (some ⟨tb, to_, none⟩) s.nt tc, .slice (some ⟨sb, so, none⟩) s.nt sc] 95)).alloc (.cells #[.int .i64 0, .int .i64 0] 52) := ⟨_, rfl⟩
  rw [← hX] at HB0 D0 R0 d0 t0 t1 s0
  rw [← hX]
  clear hX
  obtain ⟨dv, hdv⟩ : ∃ dv, dv = s.dep c := ⟨_, rfl⟩
  obtain ⟨t0v, ht0v⟩ : ∃ t0v, t0v = s.tide t 0 := ⟨_, rfl⟩
  obtain ⟨t1v, ht1v⟩ : ∃ t1v, t1v = s.tide t 1 := ⟨_, rfl⟩
  obtain ⟨sv, hsv⟩ : ∃ sv, sv = s.sw t := ⟨_, rfl⟩
  rw [← hdv] at hd d0 HL
  rw [← ht0v] at htd t0 HL
  rw [← ht1v] at htd t1
  rw [← hsv] at hsw s0 HL
  clear hdv ht0v ht1v hsv
  have x2 := D0.out.cell 2
  have x3 := D0.out.cell 3
  have x4 := D0.out.cell 4
  go_quiet (fail)
  go_wp2_with fail
  generalize hY : X.drewN nq = Y
  have y3 : Y.cell? ⟨w.heap.size, 3, none⟩ = some (.slice (some ⟨tb, to_, none⟩) s.nt tc) := by rw [← hY]; exact x3
  have y0 : Y.cell? ⟨tb, to_ + t * 2, none⟩ = some (.int .i64 t0v) := by rw [← hY]; exact t0
  have y1 : Y.cell? ⟨tb, to_ + t * 2 + 1, none⟩ = some (.int .i64 t1v) := by rw [← hY]; exact t1
  have R1 := Lib.hid (show Blk Y (w.heap.size + 1) 52 #[.int .i64 0, .int .i64 0] by rw [← hY]; exact R0.out)
  have HB1 := Lib.hid (show Below w.heap.size w Y by rw [← hY]; exact HB0.out.drewN nq)
  clear hY x2 x3 x4 d0 t0 t1 s0
  have r0 := R1.out.cell 0
  have r1 := R1.out.cell 1
  have f0 := R1.out.frz 0
  have f1 := R1.out.frz 1
  go_still_tail 19, (by kernel_rfl)
  go_wp2_with fail
  refine bodyPost_ret (results_cell_row rfl _ _ (w.heap.size + 1) 52 #[.int .i64 (dv - sv + t0v), .int .i64 (dv - sv + t1v)] (0, 0) _ rfl (blk_dr.2 ((R1.out.set_ 0 _).set_ 1 _)) Tryd.underlying52 rfl span_size) rfl ⟨⟨dv - sv + t1v, ?_⟩, ?_⟩
  · rw [HL.out, show dv + t0v - sv = dv - sv + t0v by omega]
  · exact ((HB1.out.setCell (p := ⟨w.heap.size + 1, 0, none⟩) (Nat.le_succ _) _).setCell (p := ⟨w.heap.size + 1, 1, none⟩) (Nat.le_succ _) _).drew
set_option maxRecDepth 100000 in
set_option maxHeartbeats 3200000 in
theorem cfloats_ok (dr : Int) (c t : Nat) (hs : s.Ok) (hc : c < s.nd) (ht : t < s.nt) (hdr : 1 ≤ dr ∧ dr ≤ 100) (hR : RdC w B dA tA sA s.nd s.nt s.nt s.dep s.tide s.sw) (hB : B ≤ w.heap.size) :
    Calls Tryd.prog 101 #[.agg #[.int .i64 (s.W : Int), .int .i64 (s.H : Int), .slice dA s.nd dc, .slice tA s.nt tc, .slice sA s.nt sc], .int .i64 dr, .int .i64 (c : Int), .int .i64 (t : Int)] w fun e w' => (∃ m : Bool, e = .returned (.tuple #[.bool (decide (dr ≤ M.low s c t)), .bool m, .int .i64 0])) ∧ Below w.heap.size w w' := by
  have hnd := hs.nd1
  have hnt : 1 ≤ s.nt ∧ s.nt ≤ 60 := ⟨hs.t1, hs.t2⟩
  have HOP := Lib.hid (fun W (hb : Below w.heap.size w W) A1 c1 A2 c2 A3 c3 (hr1 : Rd1 W W.heap.size A1 1 fun _ => (c : Int)) (hr2 : Rd1 W W.heap.size A2 1 fun _ => (t : Int)) (hr3 : Rd1 W W.heap.size A3 1 fun _ => dr) => open_ok s dA tA sA dc tc sc W.heap.size W A1 A2 A3 1 c1 1 c2 1 c3 (fun _ => (c : Int)) (fun _ => (t : Int)) (fun _ => dr) hs ((hR.below (hb.mono hB)).more (Nat.le_trans hB hb.size)) (Nat.le_refl _) ⟨by omega, by omega, by omega⟩ hr1 hr2 hr3 (fun i _ => M.inB_iff.2 ⟨by omega, by omega⟩) (fun i _ => M.inB_iff.2 ⟨by omega, by omega⟩) (fun i _ => M.inB_iff.2 ⟨by omega, by omega⟩))
  have HWT := Lib.hid (fun W (hb : Below w.heap.size w W) => water_ok s dA tA sA dc tc sc B W c t hs hc ht (hR.below (hb.mono hB)) (Nat.le_trans hB hb.size))
  have HB0 := Lib.hid ((belowAlloc3 w (.cells #[.int .i64 (s.W : Int), .int .i64 (s.H : Int), .slice dA s.nd dc, .slice tA s.nt tc, .slice sA s.nt sc] 25) (.cells #[.int .i64 (c : Int)] 3) (.cells #[.int .i64 (t : Int)] 3)).alloc (by simp; omega) (.cells #[.int .i64 dr] 3))
  have T0 := Lib.hid (((Blk.new1 w (.cells #[.int .i64 (s.W : Int), .int .i64 (s.H : Int), .slice dA s.nd dc, .slice tA s.nt tc, .slice sA s.nt sc] 25) 3 #[.int .i64 (c : Int)]).alloc (.cells #[.int .i64 (t : Int)] 3)).alloc (.cells #[.int .i64 dr] 3))
  have T1 := Lib.hid ((Blk.new2 w (.cells #[.int .i64 (s.W : Int), .int .i64 (s.H : Int), .slice dA s.nd dc, .slice tA s.nt tc, .slice sA s.nt sc] 25) (.cells #[.int .i64 (c : Int)] 3) 3 #[.int .i64 (t : Int)]).alloc (.cells #[.int .i64 dr] 3))
  have T2 := Lib.hid (Blk.new3 w (.cells #[.int .i64 (s.W : Int), .int .i64 (s.H : Int), .slice dA s.nd dc, .slice tA s.nt tc, .slice sA s.nt sc] 25) (.cells #[.int .i64 (c : Int)] 3) (.cells #[.int .i64 (t : Int)] 3) 3 #[.int .i64 dr])
  clear hR hs
  obtain ⟨lw, hlw⟩ : ∃ lw, lw = M.low s c t := ⟨_, rfl⟩
  rw [← hlw] at HWT
  rw [← hlw]
  clear hlw
  obtain ⟨Y, hY⟩ : ∃ Y, Y = (((w.alloc (.cells #[.int .i64 (s.W : Int), .int .i64 (s.H : Int), .slice dA s.nd dc, .slice tA s.nt tc, .slice sA s.nt sc] 25)).alloc (.cells #[.int .i64 (c : Int)] 3)).alloc (.cells #[.int .i64 (t : Int)] 3)).alloc (.cells #[.int .i64 dr] 3) := ⟨_, rfl⟩
  have HYe := Lib.hid hY
  rw [← hY] at HB0 T0 T1 T2
  clear hY
  go_enter Tryd.func101, Tryd.ntmps101
  go_upto_region 5 with (first
      | (go_at_call 54; rw [← HYe.out]; go_must (refine (HOP.out _ HB0.out _ _ _ _ _ _ (rd1_one T0.out) (rd1_one T1.out) (rd1_one T2.out)).mono ?_); rintro e w1 ⟨rfl, hb1⟩; have HB1 := Lib.hid (HB0.out.trans (hb1.mono HB0.out.size)); have HB2 := Lib.hid (HB1.out.alloc HB1.out.size (.cells #[.int .i64 (s.W : Int), .int .i64 (s.H : Int), .slice dA s.nd dc, .slice tA s.nt tc, .slice sA s.nt sc] 95)); clear hb1)
      | (go_at_call 116; go_must (refine (HWT.out _ HB2.out).mono ?_); rintro e w2 ⟨⟨hh, rfl⟩, hb2⟩; have HB3 := Lib.hid (HB2.out.trans (hb2.mono HB2.out.size)); have HB4 := Lib.hid (HB3.out.alloc HB3.out.size (.cells #[.int .i64 lw, .int .i64 hh] 52)); have W4 := Lib.hid (Blk.new w2 52 #[.int .i64 lw, .int .i64 hh]); clear hb2))
  have x0 := W4.out.cell 0
  have x1 := W4.out.cell 1
  go_quiet (fail)
  go_wp2_with fail
  go_ret3
  exact ⟨⟨_, rfl⟩, HB4.out.drewN nq⟩
end
end Go.Proofs.YtkdpmihdhiokkaaDoor
