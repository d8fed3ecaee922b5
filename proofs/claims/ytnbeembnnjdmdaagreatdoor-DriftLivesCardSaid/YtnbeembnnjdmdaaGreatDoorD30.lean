/- drift: begin, of a valid drift. -/
import Derived.Test.YtnbeembnnjdmdaaGreatDoorD27
namespace Go.Proofs.YtnbeembnnjdmdaaGreatDoor
open Go.RowKit Go.Maps

section
variable {d : M.Dr} {zA cA wA dA tA sA : Option Addr} {cl : Nat → Nat} {B P m1 m2 dc tc sc zc cc wc : Nat} {T : Nat → Prop} {W W' : World}
theorem SeaM.base {B1 : Nat} (h : SeaM d zA cA wA dA tA sA cl B P m1 m2 #[.int .i64 (d.s.W : Int), .int .i64 (d.s.H : Int), .slice dA d.s.nd dc, .slice tA d.s.nt tc, .slice sA d.s.nt sc, .slice zA d.s.nd zc, .slice cA d.nz cc, .slice wA (d.s.nt - 1) wc, .map (some m1), .map (some m2)] T W) (h1 : B1 ≤ B) (hrd : RdD W B1 dA tA sA zA cA wA d.s.nd d.s.nt d.s.nt d.s.nd d.nz (d.s.nt - 1) d.s.dep d.s.tide d.s.sw d.z cl d.cu d.wd) (hw : 1 < B1) : SeaM d zA cA wA dA tA sA cl B1 P m1 m2 #[.int .i64 (d.s.W : Int), .int .i64 (d.s.H : Int), .slice dA d.s.nd dc, .slice tA d.s.nt tc, .slice sA d.s.nt sc, .slice zA d.s.nd zc, .slice cA d.nz cc, .slice wA (d.s.nt - 1) wc, .map (some m1), .map (some m2)] T W := by
 obtain ⟨b1, b2, b3, b4, b5⟩ := h.b
 obtain ⟨t1, t2, t3, t4⟩ := h.t
 refine ⟨h.box, hrd, h.cl, ⟨Nat.le_trans h1 b1, Nat.le_trans h1 b2, Nat.le_trans h1 b3, b4, Nat.le_trans h1 b5⟩, ⟨t1, t2, t3, fun k hk => ⟨Nat.le_trans h1 (t4 k hk).1, (t4 k hk).2⟩⟩, ⟨h.way.1, hw⟩, h.near, ?_⟩
 obtain ⟨v, k1, k2⟩ := h.steps
 refine ⟨v, k1, fun i y hy => ?_⟩
 obtain ⟨g, c, e1, e2, e3⟩ := k2 i y hy
 exact ⟨g, c, e1, e2, Own.less e3 h1⟩
end
theorem chase_size : (Tryz.prog.info? 105).map (·.size) = some 6 := by kernel_rfl
theorem below_setc {B b i : Nat} {a w' : World} {v : Value} (h : Below B a w') (hb : B ≤ b) : Below B a (w'.setCell ⟨b, i, none⟩ v) :=
 ⟨h.os, h.tape, h.output, Nat.le_trans h.size (KeepsWalks.setCell _ _ _).size, fun k hk => (Below.heap_setCell _ _ _ k (show k ≠ b by omega)).trans (h.block k hk)⟩
section
variable {d : M.Dr} {zA cA wA dA tA sA xA hA : Option Addr} {cl : Nat → Nat} {B dc tc sc zc cc wc xc hn hc : Nat} {at_ lo hi : Int} {xL : List Int} {Xs : Nat → SgV} {w : World}
def chkX (nd nt : Nat) (at_ lo hi : Int) (xL : List Int) : Bool := M.inB 0 ((nt : Int) - 1) at_ && !(xL.length == 0) && M.ascF nd xL.length (fun k => xL.getD k 0) && (decide (0 ≤ lo) && decide (lo ≤ hi) && decide (hi ≤ 8))
def chkS (nd nt : Nat) (at_ : Int) (hn : Nat) (Xs : Nat → SgV) : Bool := decide (hn ≤ 12) && M.allTo hn fun i => M.inB at_ ((nt : Int) - 1) (Xs i).tk && M.ascF nd (Xs i).L.length (fun k => (Xs i).L.getD k 0)
set_option maxRecDepth 100000 in
set_option maxHeartbeats 8000000 in
theorem begin_ok (hd : d.Ok) (hcl : ∀ i, i < d.nz → cl i + 1 = d.s.nt) (hR : RdD w B dA tA sA zA cA wA d.s.nd d.s.nt d.s.nt d.s.nd d.nz (d.s.nt - 1) d.s.dep d.s.tide d.s.sw d.z cl d.cu d.wd) (hB : B ≤ w.heap.size) (hW : Ways w)
  (hx3 : Rd1 w B xA xL.length (fun k => xL.getD k 0)) (hx4 : xL.length ≤ maxLen) (hRS : RdS w B hA hn Xs) (hhn : hn ≤ maxLen) :
  Calls Tryz.prog 55 #[.agg #[.int .i64 (d.s.W : Int), .int .i64 (d.s.H : Int), .slice dA d.s.nd dc, .slice tA d.s.nt tc, .slice sA d.s.nt sc, .slice zA d.s.nd zc, .slice cA d.nz cc, .slice wA (d.s.nt - 1) wc], .agg #[.int .i64 at_, .slice xA xL.length xc, .int .i64 lo, .int .i64 hi], .slice hA hn hc] w fun e w' => Below w.heap.size w w' ∧
   ((chkX d.s.nd d.s.nt at_ lo hi xL = false ∧ e = .returned (.tuple #[.agg #[.pointer none, .int .i64 0, .slice none 0 0, .int .i64 0, .int .i64 0, .slice none 0 0], .int .i64 21])) ∨ (chkX d.s.nd d.s.nt at_ lo hi xL = true ∧ chkS d.s.nd d.s.nt at_ hn Xs = false ∧ e = .returned (.tuple #[.agg #[.pointer none, .int .i64 0, .slice none 0 0, .int .i64 0, .int .i64 0, .slice none 0 0], .int .i64 22])) ∨
    (chkX d.s.nd d.s.nt at_ lo hi xL = true ∧ chkS d.s.nd d.s.nt at_ hn Xs = true ∧ ∃ B2 P m1 m2, w.heap.size ≤ B2 ∧ e = .returned (.tuple #[.agg #[.pointer (some ⟨P, 0, none⟩), .int .i64 at_, .slice xA xL.length xc, .int .i64 lo, .int .i64 hi, .slice hA hn hc], .int .i64 0]) ∧ SeaM d zA cA wA dA tA sA cl B2 P m1 m2 #[.int .i64 (d.s.W : Int), .int .i64 (d.s.H : Int), .slice dA d.s.nd dc, .slice tA d.s.nt tc, .slice sA d.s.nt sc, .slice zA d.s.nd zc, .slice cA d.nz cc, .slice wA (d.s.nt - 1) wc, .map (some m1), .map (some m2)] (own3 P m1 m2) w')) := by
 obtain ⟨qx, hqx⟩ : ∃ qx, chkX d.s.nd d.s.nt at_ lo hi xL = qx := ⟨_, rfl⟩
 obtain ⟨qs, hqs⟩ : ∃ qs, chkS d.s.nd d.s.nt at_ hn Xs = qs := ⟨_, rfl⟩
 rw [hqx, hqs]
 unfold chkX at hqx
 have HQS := Lib.hid hqs
 clear hqs
 have h60 := hd.s.t2
 have h1n := hd.s.t1
 have hnd := hd.s.nd1
 have hbY := belowAlloc3 w (.cells #[.int .i64 (d.s.W : Int), .int .i64 (d.s.H : Int), .slice dA d.s.nd dc, .slice tA d.s.nt tc, .slice sA d.s.nt sc, .slice zA d.s.nd zc, .slice cA d.nz cc, .slice wA (d.s.nt - 1) wc] 29) (.cells #[.int .i64 at_, .slice xA xL.length xc, .int .i64 lo, .int .i64 hi] 44) (.cells #[.pointer none, .int .i64 0, .slice none 0 0, .int .i64 0, .int .i64 0, .slice none 0 0] 105)
 have HO := Lib.hid (dopen_ok (dc := dc) (tc := tc) (sc := sc) (zc := zc) (cc := cc) (wc := wc) (w := ((w.alloc (.cells #[.int .i64 (d.s.W : Int), .int .i64 (d.s.H : Int), .slice dA d.s.nd dc, .slice tA d.s.nt tc, .slice sA d.s.nt sc, .slice zA d.s.nd zc, .slice cA d.nz cc, .slice wA (d.s.nt - 1) wc] 29)).alloc (.cells #[.int .i64 at_, .slice xA xL.length xc, .int .i64 lo, .int .i64 hi] 44)).alloc (.cells #[.pointer none, .int .i64 0, .slice none 0 0, .int .i64 0, .int .i64 0, .slice none 0 0] 105)) hd hcl (hR.below (hbY.mono hB)) (Nat.le_trans hB hbY.size) (hW.below hbY))
 have HBY := Lib.hid hbY
 have HRD := Lib.hid (hR.more hB)
 have HWY := Lib.hid hW.2
 have K1 := Lib.hid ((Blk.new1 w (.cells #[.int .i64 (d.s.W : Int), .int .i64 (d.s.H : Int), .slice dA d.s.nd dc, .slice tA d.s.nt tc, .slice sA d.s.nt sc, .slice zA d.s.nd zc, .slice cA d.nz cc, .slice wA (d.s.nt - 1) wc] 29) 44 #[.int .i64 at_, .slice xA xL.length xc, .int .i64 lo, .int .i64 hi]).alloc (.cells #[.pointer none, .int .i64 0, .slice none 0 0, .int .i64 0, .int .i64 0, .slice none 0 0] 105))
 have K2 := Lib.hid (Blk.new2 w (.cells #[.int .i64 (d.s.W : Int), .int .i64 (d.s.H : Int), .slice dA d.s.nd dc, .slice tA d.s.nt tc, .slice sA d.s.nt sc, .slice zA d.s.nd zc, .slice cA d.nz cc, .slice wA (d.s.nt - 1) wc] 29) (.cells #[.int .i64 at_, .slice xA xL.length xc, .int .i64 lo, .int .i64 hi] 44) 105 #[.pointer none, .int .i64 0, .slice none 0 0, .int .i64 0, .int .i64 0, .slice none 0 0])
 have HX3 := Lib.hid hx3
 have HRS := Lib.hid hRS
 clear hd hcl hR hW hbY hx3 hRS
 go_enter Tryz.func55, Tryz.ntmps55
 go_upto_region 4 with (go_at_call 43; refine HO.out.mono ?_; rintro e w1 ⟨P, m1, m2, rfl, hM, hb⟩; have HM := Lib.hid hM; have HB1 := Lib.hid hb; clear hb hM)
 have hBY0 : B ≤ (((w.alloc (.cells #[.int .i64 (d.s.W : Int), .int .i64 (d.s.H : Int), .slice dA d.s.nd dc, .slice tA d.s.nt tc, .slice sA d.s.nt sc, .slice zA d.s.nd zc, .slice cA d.nz cc, .slice wA (d.s.nt - 1) wc] 29)).alloc (.cells #[.int .i64 at_, .slice xA xL.length xc, .int .i64 lo, .int .i64 hi] 44)).alloc (.cells #[.pointer none, .int .i64 0, .slice none 0 0, .int .i64 0, .int .i64 0, .slice none 0 0] 105)).heap.size := Nat.le_trans hB HBY.out.size
 have hsz3 : (((w.alloc (.cells #[.int .i64 (d.s.W : Int), .int .i64 (d.s.H : Int), .slice dA d.s.nd dc, .slice tA d.s.nt tc, .slice sA d.s.nt sc, .slice zA d.s.nd zc, .slice cA d.nz cc, .slice wA (d.s.nt - 1) wc] 29)).alloc (.cells #[.int .i64 at_, .slice xA xL.length xc, .int .i64 lo, .int .i64 hi] 44)).alloc (.cells #[.pointer none, .int .i64 0, .slice none 0 0, .int .i64 0, .int .i64 0, .slice none 0 0] 105)).heap.size = w.heap.size + 3 := by simp
 have HBZ := Lib.hid (show Below (((w.alloc (.cells #[.int .i64 (d.s.W : Int), .int .i64 (d.s.H : Int), .slice dA d.s.nd dc, .slice tA d.s.nt tc, .slice sA d.s.nt sc, .slice zA d.s.nd zc, .slice cA d.nz cc, .slice wA (d.s.nt - 1) wc] 29)).alloc (.cells #[.int .i64 at_, .slice xA xL.length xc, .int .i64 lo, .int .i64 hi] 44)).alloc (.cells #[.pointer none, .int .i64 0, .slice none 0 0, .int .i64 0, .int .i64 0, .slice none 0 0] 105)).heap.size (((w.alloc (.cells #[.int .i64 (d.s.W : Int), .int .i64 (d.s.H : Int), .slice dA d.s.nd dc, .slice tA d.s.nt tc, .slice sA d.s.nt sc, .slice zA d.s.nd zc, .slice cA d.nz cc, .slice wA (d.s.nt - 1) wc] 29)).alloc (.cells #[.int .i64 at_, .slice xA xL.length xc, .int .i64 lo, .int .i64 hi] 44)).alloc (.cells #[.pointer none, .int .i64 0, .slice none 0 0, .int .i64 0, .int .i64 0, .slice none 0 0] 105)) (w1.alloc (.cells #[.pointer (some ⟨P, 0, none⟩)] 87)) from HB1.out.alloc HB1.out.size _)
 have KS := Lib.hid (Blk.new w1 87 #[.pointer (some ⟨P, 0, none⟩)])
 have G1 := Lib.hid (K1.out.below' HBZ.out)
 have G2 := Lib.hid (K2.out.below' HBZ.out)
 have HMZ := Lib.hid (HM.out.alloc (.cells #[.pointer (some ⟨P, 0, none⟩)] 87))
 have HX3' := Lib.hid ((HX3.out.below (HBY.out.mono hB)).below (HBZ.out.mono hBY0))
 have HRS' := Lib.hid ((HRS.out.below (HBY.out.mono hB)).below (HBZ.out.mono hBY0))
 have HBW := Lib.hid (HBY.out.trans (HBZ.out.mono HBY.out.size))
 generalize w1.alloc (.cells #[.pointer (some ⟨P, 0, none⟩)] 87) = Z at *
 have HLA := Lib.hid (fun n => dlast_any P d.s.nt tc tA (Z.drewN n) (HMZ.out.box.cell 3) (by unfold maxLen; omega))
 have HAS := Lib.hid (fun n => asc_any P d.s.nd dc dA (Z.drewN n) (HMZ.out.box.cell 2) (by unfold maxLen; omega) xA xL.length xc B _ hx4 HX3'.out)
 have HWI := Lib.hid (fun W => dwithin_any at_ 0 ((d.s.nt : Int) - 1) W)
 obtain ⟨x0, x1, x2, x3⟩ := G1.out.c4
 have s0 := KS.out.cell 0
 generalize M.inB 0 ((d.s.nt : Int) - 1) at_ = q1 at HWI hqx
 obtain ⟨q3, hq3⟩ : ∃ q, M.ascF d.s.nd xL.length (fun k => xL.getD k 0) = q := ⟨_, rfl⟩
 rw [hq3] at HAS hqx
 have HQ3 := Lib.hid hq3
 clear hq3
 have HQX := Lib.hid hqx
 clear hqx
 clear HM HB1 HO HX3 HRS K1 K2
 cases q1
 ·
  go_quiet (first | (go_at_call 46; exact Calls.quiet_of_same (HLA.out _)) | (go_at_call 45; exact Calls.quiet_of_same (HWI.out _)) | (go_at_call 96; exact Calls.quiet_of_same (HAS.out _)) | fail)
  have z0 := G2.out.frz 0
  have z1 := G2.out.frz 1
  have z2 := G2.out.frz 2
  have z3 := G2.out.frz 3
  have z4 := G2.out.frz 4
  have z5 := G2.out.frz 5
  obtain ⟨y0, y1, y2, y3⟩ := G2.out.c4
  have y4 := G2.out.cell 4
  have y5 := G2.out.cell 5
  go_wp2_with fail
  refine bodyPost_ret (results_cell_row1 rfl _ _ (w.heap.size + 1 + 1) 105 #[.pointer none, .int .i64 0, .slice none 0 0, .int .i64 0, .int .i64 0, .slice none 0 0] (0, 0) _ rfl (((((((show Blk (Z.drewN nq) (w.heap.size + 1 + 1) 105 #[.pointer none, .int .i64 0, .slice none 0 0, .int .i64 0, .int .i64 0, .slice none 0 0] from G2.out).set_ 0 _).set_ 1 _).set_ 2 _).set_ 3 _).set_ 4 _).set_ 5 _) Tryz.underlying105 rfl chase_size) rfl ⟨?_, .inl ⟨HQX.out.symm, rfl⟩⟩
  exact below_setc (below_setc (below_setc (below_setc (below_setc (below_setc (HBW.out.drewN nq) (by omega)) (by omega)) (by omega)) (by omega)) (by omega)) (by omega)
 ·
  by_cases h0 : xL.length = 0
  ·
   have HH := Lib.hid h0
   have g0 : ((xL.length : Int) == 0) = true := by rw [beq_iff_eq]; omega
   have HE := Lib.hid (show qx = false from by rw [← HQX.out]; simp [h0])
   clear h0
   go_quiet (first | (go_at_call 46; exact Calls.quiet_of_same (HLA.out _)) | (go_at_call 45; exact Calls.quiet_of_same (HWI.out _)) | (go_at_call 96; exact Calls.quiet_of_same (HAS.out _)) | fail)
   have z0 := G2.out.frz 0
   have z1 := G2.out.frz 1
   have z2 := G2.out.frz 2
   have z3 := G2.out.frz 3
   have z4 := G2.out.frz 4
   have z5 := G2.out.frz 5
   obtain ⟨y0, y1, y2, y3⟩ := G2.out.c4
   have y4 := G2.out.cell 4
   have y5 := G2.out.cell 5
   go_wp2_with fail
   refine bodyPost_ret (results_cell_row1 rfl _ _ (w.heap.size + 1 + 1) 105 #[.pointer none, .int .i64 0, .slice none 0 0, .int .i64 0, .int .i64 0, .slice none 0 0] (0, 0) _ rfl (((((((show Blk (Z.drewN nq) (w.heap.size + 1 + 1) 105 #[.pointer none, .int .i64 0, .slice none 0 0, .int .i64 0, .int .i64 0, .slice none 0 0] from G2.out).set_ 0 _).set_ 1 _).set_ 2 _).set_ 3 _).set_ 4 _).set_ 5 _) Tryz.underlying105 rfl chase_size) rfl ⟨?_, .inl ⟨HE.out, rfl⟩⟩
   exact below_setc (below_setc (below_setc (below_setc (below_setc (below_setc (HBW.out.drewN nq) (by omega)) (by omega)) (by omega)) (by omega)) (by omega)) (by omega)
  ·
   have g0 : ((xL.length : Int) == 0) = false := by rw [beq_eq_false_iff_ne]; omega
   have HH := Lib.hid h0
   clear h0
   cases q3
   ·
    have HE := Lib.hid (show qx = false from by rw [← HQX.out]; simp)
    go_quiet (first | (go_at_call 46; exact Calls.quiet_of_same (HLA.out _)) | (go_at_call 45; exact Calls.quiet_of_same (HWI.out _)) | (go_at_call 96; exact Calls.quiet_of_same (HAS.out _)) | fail)
    have z0 := G2.out.frz 0
    have z1 := G2.out.frz 1
    have z2 := G2.out.frz 2
    have z3 := G2.out.frz 3
    have z4 := G2.out.frz 4
    have z5 := G2.out.frz 5
    obtain ⟨y0, y1, y2, y3⟩ := G2.out.c4
    have y4 := G2.out.cell 4
    have y5 := G2.out.cell 5
    go_wp2_with fail
    refine bodyPost_ret (results_cell_row1 rfl _ _ (w.heap.size + 1 + 1) 105 #[.pointer none, .int .i64 0, .slice none 0 0, .int .i64 0, .int .i64 0, .slice none 0 0] (0, 0) _ rfl (((((((show Blk (Z.drewN nq) (w.heap.size + 1 + 1) 105 #[.pointer none, .int .i64 0, .slice none 0 0, .int .i64 0, .int .i64 0, .slice none 0 0] from G2.out).set_ 0 _).set_ 1 _).set_ 2 _).set_ 3 _).set_ 4 _).set_ 5 _) Tryz.underlying105 rfl chase_size) rfl ⟨?_, .inl ⟨HE.out, rfl⟩⟩
    exact below_setc (below_setc (below_setc (below_setc (below_setc (below_setc (HBW.out.drewN nq) (by omega)) (by omega)) (by omega)) (by omega)) (by omega)) (by omega)
   ·
    have HHA := Lib.hid (fun W => dhas_any 0 8 lo hi W)
    have hqx := HQX.out
    generalize (decide (0 ≤ lo) && decide (lo ≤ hi) && decide (hi ≤ 8)) = q4 at HHA hqx
    have HE := Lib.hid (show qx = q4 from by rw [← hqx]; have := HH.out; simp [this])
    clear hqx x0 x1 x2 x3 s0
    have hBZ : B ≤ Z.heap.size := Nat.le_trans hBY0 HBZ.out.size
    have HL4 := Lib.hid (fun W (hb : Below Z.heap.size Z W) => dlast_any P d.s.nt tc tA W ((HMZ.out.below hb).box.cell 3) (by unfold maxLen; omega))
    have HA4 := Lib.hid (fun W (hb : Below Z.heap.size Z W) => asc_any P d.s.nd dc dA W ((HMZ.out.below hb).box.cell 2) (by unfold maxLen; omega) xA xL.length xc B _ hx4 (HX3'.out.below (hb.mono hBZ)))
    have HAV := Lib.hid (show M.ascF d.s.nd xL.length (fun k => xL.getD k 0) = true from HQ3.out)
    rw [HAV.out] at HA4
    refine wp_nopanic ?_
    refine wp_region_T 23 (fun w' => Below Z.heap.size Z w') (by kernel_rfl) ((Below.refl _ Z).drew) ?_
    intro hS
    refine tkA (i := 0) (v := ?_) rfl (by kernel_rfl) (.inl ⟨by kernel_rfl, ?_⟩) hS ?_
    rotate_left
    · (intro w' hw; obtain ⟨x0, x1, x2, x3⟩ := (G1.out.below' hw).c4; have s0 := (KS.out.below' hw).cell 0; go_simp; try with_reducible rfl)
    try simp only [put_laws]
    refine tkA (i := 1) (v := ?_) rfl (by kernel_rfl) (.inl ⟨by kernel_rfl, ?_⟩) hS ?_
    rotate_left
    · (intro w' hw; obtain ⟨x0, x1, x2, x3⟩ := (G1.out.below' hw).c4; have s0 := (KS.out.below' hw).cell 0; go_simp; try with_reducible rfl)
    try simp only [put_laws]
    refine tkA (i := 2) (v := ?_) rfl (by kernel_rfl) (.inl ⟨by kernel_rfl, ?_⟩) hS ?_
    rotate_left
    · (intro w' hw; obtain ⟨x0, x1, x2, x3⟩ := (G1.out.below' hw).c4; have s0 := (KS.out.below' hw).cell 0; go_simp; try with_reducible rfl)
    try simp only [put_laws]
    refine wpAnyT_one (i := 3) (by kernel_rfl) rfl ?_
    intro K' hK'
    go_simp
    refine (HL4.out _ hS).mono ?_
    rintro e w9 ⟨rfl, rfl⟩
    refine hK'.out _ _ (.inr hS) ?_
    clear hK' K'
    try simp only [put_laws]
    refine wpAnyT_one (i := 4) (by kernel_rfl) rfl ?_
    intro K' hK'
    go_simp
    refine (HWI.out _).mono ?_
    rintro e w9 ⟨rfl, rfl⟩
    refine hK'.out _ _ (.inr hS) ?_
    clear hK' K'
    try simp only [put_laws]
    refine tkA (i := 5) (v := ?_) rfl (by kernel_rfl) (.inl ⟨by kernel_rfl, ?_⟩) hS ?_
    rotate_left
    · (intro w' hw; obtain ⟨x0, x1, x2, x3⟩ := (G1.out.below' hw).c4; have s0 := (KS.out.below' hw).cell 0; go_simp; try with_reducible rfl)
    try simp only [put_laws]
    refine tkA (i := 6) (v := ?_) rfl (by kernel_rfl) (.inl ⟨by kernel_rfl, ?_⟩) hS ?_
    rotate_left
    · (intro w' hw; obtain ⟨x0, x1, x2, x3⟩ := (G1.out.below' hw).c4; have s0 := (KS.out.below' hw).cell 0; go_simp; try with_reducible rfl)
    try simp only [put_laws]
    refine tkA (i := 7) (v := ?_) rfl (by kernel_rfl) (.inl ⟨by kernel_rfl, ?_⟩) hS ?_
    rotate_left
    · (intro w' hw; obtain ⟨x0, x1, x2, x3⟩ := (G1.out.below' hw).c4; have s0 := (KS.out.below' hw).cell 0; go_simp; try with_reducible rfl)
    try simp only [put_laws]
    refine tkA (i := 8) (v := ?_) rfl (by kernel_rfl) (.inl ⟨by kernel_rfl, ?_⟩) hS ?_
    rotate_left
    · (intro w' hw; obtain ⟨x0, x1, x2, x3⟩ := (G1.out.below' hw).c4; have s0 := (KS.out.below' hw).cell 0; go_simp; try with_reducible rfl)
    try simp only [put_laws]
    refine tkA (i := 9) (v := ?_) rfl (by kernel_rfl) (.inl ⟨by kernel_rfl, ?_⟩) hS ?_
    rotate_left
    · (intro w' hw; obtain ⟨x0, x1, x2, x3⟩ := (G1.out.below' hw).c4; have s0 := (KS.out.below' hw).cell 0; go_simp; try with_reducible rfl)
    try simp only [put_laws]
    refine tkA (i := 10) (v := ?_) rfl (by kernel_rfl) (.inl ⟨by kernel_rfl, ?_⟩) hS ?_
    rotate_left
    · (intro w' hw; obtain ⟨x0, x1, x2, x3⟩ := (G1.out.below' hw).c4; have s0 := (KS.out.below' hw).cell 0; go_simp; try with_reducible rfl)
    try simp only [put_laws]
    refine tkA (i := 11) (v := ?_) rfl (by kernel_rfl) (.inl ⟨by kernel_rfl, ?_⟩) hS ?_
    rotate_left
    · (intro w' hw; obtain ⟨x0, x1, x2, x3⟩ := (G1.out.below' hw).c4; have s0 := (KS.out.below' hw).cell 0; go_simp; try with_reducible rfl)
    try simp only [put_laws]
    refine tkA (i := 12) (v := ?_) rfl (by kernel_rfl) (.inl ⟨by kernel_rfl, ?_⟩) hS ?_
    rotate_left
    · (intro w' hw; obtain ⟨x0, x1, x2, x3⟩ := (G1.out.below' hw).c4; have s0 := (KS.out.below' hw).cell 0; go_simp; try with_reducible rfl)
    try simp only [put_laws]
    refine tkA (i := 13) (v := ?_) rfl (by kernel_rfl) (.inl ⟨by kernel_rfl, ?_⟩) hS ?_
    rotate_left
    · (intro w' hw; obtain ⟨x0, x1, x2, x3⟩ := (G1.out.below' hw).c4; have s0 := (KS.out.below' hw).cell 0; go_simp; try with_reducible rfl)
    try simp only [put_laws]
    refine tkA (i := 14) (v := ?_) rfl (by kernel_rfl) (.inl ⟨by kernel_rfl, ?_⟩) hS ?_
    rotate_left
    · (intro w' hw; obtain ⟨x0, x1, x2, x3⟩ := (G1.out.below' hw).c4; have s0 := (KS.out.below' hw).cell 0; go_simp; try with_reducible rfl)
    try simp only [put_laws]
    refine tkA (i := 15) (v := ?_) rfl (by kernel_rfl) (.inl ⟨by kernel_rfl, ?_⟩) hS ?_
    rotate_left
    · (intro w' hw; obtain ⟨x0, x1, x2, x3⟩ := (G1.out.below' hw).c4; have s0 := (KS.out.below' hw).cell 0; go_simp; try with_reducible rfl)
    try simp only [put_laws]
    refine wpAnyT_one (i := 16) (by kernel_rfl) rfl ?_
    intro K' hK'
    go_simp
    refine (HA4.out _ hS).mono ?_
    rintro e w9 ⟨rfl, rfl⟩
    refine hK'.out _ _ (.inr hS) ?_
    clear hK' K'
    try simp only [put_laws]
    refine tkA (i := 17) (v := ?_) rfl (by kernel_rfl) (.inl ⟨by kernel_rfl, ?_⟩) hS ?_
    rotate_left
    · (intro w' hw; obtain ⟨x0, x1, x2, x3⟩ := (G1.out.below' hw).c4; have s0 := (KS.out.below' hw).cell 0; go_simp; try with_reducible rfl)
    try simp only [put_laws]
    refine tkA (i := 18) (v := ?_) rfl (by kernel_rfl) (.inl ⟨by kernel_rfl, ?_⟩) hS ?_
    rotate_left
    · (intro w' hw; obtain ⟨x0, x1, x2, x3⟩ := (G1.out.below' hw).c4; have s0 := (KS.out.below' hw).cell 0; go_simp; try with_reducible rfl)
    try simp only [put_laws]
    refine tkA (i := 19) (v := ?_) rfl (by kernel_rfl) (.inl ⟨by kernel_rfl, ?_⟩) hS ?_
    rotate_left
    · (intro w' hw; obtain ⟨x0, x1, x2, x3⟩ := (G1.out.below' hw).c4; have s0 := (KS.out.below' hw).cell 0; go_simp; try with_reducible rfl)
    try simp only [put_laws]
    refine tkA (i := 20) (v := ?_) rfl (by kernel_rfl) (.inl ⟨by kernel_rfl, ?_⟩) hS ?_
    rotate_left
    · (intro w' hw; obtain ⟨x0, x1, x2, x3⟩ := (G1.out.below' hw).c4; have s0 := (KS.out.below' hw).cell 0; go_simp; try with_reducible rfl)
    try simp only [put_laws]
    refine tkA (i := 21) (v := ?_) rfl (by kernel_rfl) (.inl ⟨by kernel_rfl, ?_⟩) hS ?_
    rotate_left
    · (intro w' hw; obtain ⟨x0, x1, x2, x3⟩ := (G1.out.below' hw).c4; have s0 := (KS.out.below' hw).cell 0; go_simp; try with_reducible rfl)
    try simp only [put_laws]
    refine tkA (i := 22) (v := ?_) rfl (by kernel_rfl) (.inl ⟨by kernel_rfl, ?_⟩) hS ?_
    rotate_left
    · (intro w' hw; obtain ⟨x0, x1, x2, x3⟩ := (G1.out.below' hw).c4; have s0 := (KS.out.below' hw).cell 0; go_simp; try with_reducible rfl)
    try simp only [put_laws]
    refine wpAnyT_one (i := 23) (by kernel_rfl) rfl ?_
    intro K' hK'
    go_simp
    refine (HHA.out _).mono ?_
    rintro e wH ⟨rfl, hbH⟩
    have HBH := Lib.hid (hS.trans hbH)
    refine hK'.out _ _ (.inl rfl) ?_
    clear hK' K'
    try simp only [put_laws]
    have GH1 := Lib.hid (G1.out.below' HBH.out)
    have GH2 := Lib.hid (G2.out.below' HBH.out)
    cases q4
    ·
     refine wpAnyT_one (i := 24) (by kernel_rfl) rfl ?_
     intro K' hK'
     go_simp
     refine hK'.out _ _ (.inl rfl) ?_
     clear hK' K'
     try simp only [put_laws]
     refine wpAnyT_one (i := 25) (by kernel_rfl) rfl ?_
     intro K' hK'
     go_simp
     refine hK'.out _ _ (.inl rfl) ?_
     clear hK' K'
     try simp only [put_laws]
     refine wpAnyT_done (by kernel_rfl) ?_ _
     refine ⟨fun x e => (by cases e), ?_⟩
     have z0 := GH2.out.frz 0
     have z1 := GH2.out.frz 1
     have z2 := GH2.out.frz 2
     have z3 := GH2.out.frz 3
     have z4 := GH2.out.frz 4
     have z5 := GH2.out.frz 5
     obtain ⟨y0, y1, y2, y3⟩ := GH2.out.c4
     have y4 := GH2.out.cell 4
     have y5 := GH2.out.cell 5
     go_wp2_with fail
     refine bodyPost_ret (results_cell_row1 rfl _ _ (w.heap.size + 1 + 1) 105 #[.pointer none, .int .i64 0, .slice none 0 0, .int .i64 0, .int .i64 0, .slice none 0 0] (0, 0) _ rfl ((((((GH2.out.set_ 0 _).set_ 1 _).set_ 2 _).set_ 3 _).set_ 4 _).set_ 5 _) Tryz.underlying105 rfl chase_size) rfl ⟨?_, .inl ⟨HE.out, rfl⟩⟩
     exact below_setc (below_setc (below_setc (below_setc (below_setc (below_setc (HBW.out.trans (HBH.out.mono HBW.out.size)) (by omega)) (by omega)) (by omega)) (by omega)) (by omega)) (by omega)
    ·
     refine wpAnyT_one (i := 24) (by kernel_rfl) rfl ?_
     intro K' hK'
     go_simp
     refine hK'.out _ _ (.inl rfl) ?_
     clear hK' K'
     try simp only [put_laws]
     refine wpAnyT_one (i := 25) (by kernel_rfl) rfl ?_
     intro K' hK'
     go_simp
     refine hK'.out _ _ (.inl rfl) ?_
     clear hK' K'
     try simp only [put_laws]
     refine wpAnyT_done (by kernel_rfl) ?_ _
     refine ⟨fun x e => (by cases e), ?_⟩
     have hBH : B ≤ wH.heap.size := Nat.le_trans hBZ HBH.out.size
     have KSH := Lib.hid (KS.out.below' HBH.out)
     have HMH := Lib.hid (HMZ.out.below HBH.out)
     have HRSH := Lib.hid (HRS'.out.below (HBH.out.mono hBZ))
     have HSL := Lib.hid (allsg_any hA hn hc B Xs 97 #[.pointer (some ⟨w.heap.size + 1, 0, none⟩), .pointer (some ⟨w1.heap.size, 0, none⟩)] (fun i => M.inB at_ ((d.s.nt : Int) - 1) (Xs i).tk && M.ascF d.s.nd (Xs i).L.length (fun k => (Xs i).L.getD k 0)) wH hhn HRSH.out hBH (.inl rfl) (fun V i hV hlt => by
      obtain ⟨_, _, _, _, _, _, _, k1, k2⟩ := (HRSH.out.below (hV.mono hBH)).at_ hlt
      have := sighted_any (P := P) (nd := d.s.nd) (dc := dc) (nt := d.s.nt) (tc := tc) (dA := dA) (tA := tA) (Xs i) (w.heap.size + 1) w1.heap.size B at_ #[] V ((GH1.out.below' hV).cell 0) ((KSH.out.below' hV).cell 0) ((HMH.out.below hV).box.cell 2) ((HMH.out.below hV).box.cell 3) (by unfold maxLen; omega) (by unfold maxLen; omega) k1 (Nat.le_trans hBH hV.size) k2
      simpa using this))
     have hqs := HQS.out
     unfold chkS at hqs
     generalize (M.allTo hn fun i => M.inB at_ ((d.s.nt : Int) - 1) (Xs i).tk && M.ascF d.s.nd (Xs i).L.length (fun k => (Xs i).L.getD k 0)) = q5 at HSL hqs
     by_cases h12 : hn ≤ 12
     ·
      rw [decide_eq_true h12, Bool.true_and] at hqs
      have HES := Lib.hid hqs
      clear hqs
      cases q5
      ·
       go_upto_region 8 with (go_at_call 98; refine HSL.out.mono ?_; rintro e wS ⟨rfl, hbS⟩; have HBS := Lib.hid hbS; clear hbS)
       have GS2 := Lib.hid (GH2.out.below' HBS.out)
       have GS1 := Lib.hid (GH1.out.below' HBS.out)
       have z0 := GS2.out.frz 0
       have z1 := GS2.out.frz 1
       have z2 := GS2.out.frz 2
       have z3 := GS2.out.frz 3
       have z4 := GS2.out.frz 4
       have z5 := GS2.out.frz 5
       obtain ⟨y0, y1, y2, y3⟩ := GS2.out.c4
       have y4 := GS2.out.cell 4
       have y5 := GS2.out.cell 5
       go_wp2_with fail
       refine bodyPost_ret (results_cell_row1 rfl _ _ (w.heap.size + 1 + 1) 105 #[.pointer none, .int .i64 0, .slice none 0 0, .int .i64 0, .int .i64 0, .slice none 0 0] (0, 0) _ rfl ((((((GS2.out.set_ 0 _).set_ 1 _).set_ 2 _).set_ 3 _).set_ 4 _).set_ 5 _) Tryz.underlying105 rfl chase_size) rfl ⟨?_, .inr (.inl ⟨HE.out, HES.out.symm, rfl⟩)⟩
       exact below_setc (below_setc (below_setc (below_setc (below_setc (below_setc ((HBW.out.trans (HBH.out.mono HBW.out.size)).trans (HBS.out.mono (Nat.le_trans HBW.out.size HBH.out.size))) (by omega)) (by omega)) (by omega)) (by omega)) (by omega)) (by omega)
      ·
       go_upto_region 9 with (go_at_call 98; refine HSL.out.mono ?_; rintro e wS ⟨rfl, hbS⟩; have HBS := Lib.hid hbS; clear hbS)
       have GS2 := Lib.hid (GH2.out.below' HBS.out)
       have GS1 := Lib.hid (GH1.out.below' HBS.out)
       have KSS := Lib.hid (KSH.out.below' HBS.out)
       have s0 := KSS.out.cell 0
       obtain ⟨x0, x1, x2, x3⟩ := GS1.out.c4
       have z0 := GS2.out.frz 0
       have z1 := GS2.out.frz 1
       have z2 := GS2.out.frz 2
       have z3 := GS2.out.frz 3
       have z4 := GS2.out.frz 4
       have z5 := GS2.out.frz 5
       obtain ⟨y0, y1, y2, y3⟩ := GS2.out.c4
       have y4 := GS2.out.cell 4
       have y5 := GS2.out.cell 5
       have HBF := Lib.hid (show Below w.heap.size w wS from (HBW.out.trans (HBH.out.mono HBW.out.size)).trans (HBS.out.mono (Nat.le_trans HBW.out.size HBH.out.size)))
       have HSB := Lib.hid (SeaM.base (HMH.out.below HBS.out) (B1 := w.heap.size) (by omega) (HRD.out.below HBF.out) HWY.out)
       have hP : w.heap.size + 3 ≤ P := by have := HMZ.out.b.1; omega
       have hp1 : w.heap.size + 3 ≤ m1 := by have := HMZ.out.b.2.1; omega
       have hp2 : w.heap.size + 3 ≤ m2 := by have := HMZ.out.b.2.2.1; omega
       have hno : ¬ own3 P m1 m2 (w.heap.size + 1 + 1) := fun h => by rcases h with h | h | h <;> omega
       go_wp2_with fail
       refine bodyPost_ret (results_cell_row1 rfl _ _ (w.heap.size + 1 + 1) 105 #[.pointer (some ⟨P, 0, none⟩), .int .i64 at_, .slice xA xL.length xc, .int .i64 lo, .int .i64 hi, .slice hA hn hc] (0, 0) _ rfl ((((((GS2.out.set_ 0 _).set_ 1 _).set_ 2 _).set_ 3 _).set_ 4 _).set_ 5 _) Tryz.underlying105 rfl chase_size) rfl ⟨?_, .inr (.inr ⟨HE.out, HES.out.symm, w.heap.size, P, m1, m2, Nat.le_refl _, rfl, ?_⟩)⟩
       · exact below_setc (below_setc (below_setc (below_setc (below_setc (below_setc (HBF.out) (by omega)) (by omega)) (by omega)) (by omega)) (by omega)) (by omega)
       · exact (((((HSB.out.set_ (p := ⟨_, 0, none⟩) (by show w.heap.size ≤ w.heap.size + 1 + 1; omega) hno _).set_ (p := ⟨_, 1, none⟩) (by show w.heap.size ≤ w.heap.size + 1 + 1; omega) hno _).set_ (p := ⟨_, 2, none⟩) (by show w.heap.size ≤ w.heap.size + 1 + 1; omega) hno _).set_ (p := ⟨_, 3, none⟩) (by show w.heap.size ≤ w.heap.size + 1 + 1; omega) hno _).set_ (p := ⟨_, 4, none⟩) (by show w.heap.size ≤ w.heap.size + 1 + 1; omega) hno _).set_ (p := ⟨_, 5, none⟩) (by show w.heap.size ≤ w.heap.size + 1 + 1; omega) hno _
     ·
      rw [decide_eq_false h12, Bool.false_and] at hqs
      have HES := Lib.hid hqs
      have h13 : 12 < (hn : Int) := by omega
      clear hqs h12
      have z0 := GH2.out.frz 0
      have z1 := GH2.out.frz 1
      have z2 := GH2.out.frz 2
      have z3 := GH2.out.frz 3
      have z4 := GH2.out.frz 4
      have z5 := GH2.out.frz 5
      obtain ⟨y0, y1, y2, y3⟩ := GH2.out.c4
      have y4 := GH2.out.cell 4
      have y5 := GH2.out.cell 5
      go_wp2_with fail
      refine bodyPost_ret (results_cell_row1 rfl _ _ (w.heap.size + 1 + 1) 105 #[.pointer none, .int .i64 0, .slice none 0 0, .int .i64 0, .int .i64 0, .slice none 0 0] (0, 0) _ rfl ((((((GH2.out.set_ 0 _).set_ 1 _).set_ 2 _).set_ 3 _).set_ 4 _).set_ 5 _) Tryz.underlying105 rfl chase_size) rfl ⟨?_, .inr (.inl ⟨HE.out, HES.out.symm, rfl⟩)⟩
      exact below_setc (below_setc (below_setc (below_setc (below_setc (below_setc (HBW.out.trans (HBH.out.mono HBW.out.size)) (by omega)) (by omega)) (by omega)) (by omega)) (by omega)) (by omega)
end
end Go.Proofs.YtnbeembnnjdmdaaGreatDoor
