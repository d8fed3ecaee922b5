/- The reference of layer 2: Alive; and what the program and the reference answer. -/
import Derived.Test.YtnbeembnnjdmdaaGreatDoorJ12
import Derived.Test.YtnbeembnnjdmdaaGreatDoorA4
import Derived.Test.YtnbeembnnjdmdaaGreatDoorA7
import Derived.Test.YtnbeembnnjdmdaaGreatDoorA8
import Derived.Test.YtnbeembnnjdmdaaGreatDoorG3
import Derived.Test.YtnbeembnnjdmdaaGreatDoorJ6
namespace Go.Proofs.YtnbeembnnjdmdaaGreatDoor
open Go.RowKit Go.Maps

section
variable {bA : Option Addr} {bn bc B2 : Nat} {s0 s1 : Int} {cs : Nat → Nat → Int} {W H : Int} {dA tA sA zA cA wA xA hA : Option Addr} {nd dc nt tc ns sc zn zc cn cc wn wc xc hn hc B : Nat} {at_ lo hi : Int} {dep : Nat → Int} {tide : Nat → Nat → Int} {sw z : Nat → Int} {cl : Nat → Nat} {cu : Nat → Nat → Nat → Int} {wd : Nat → Nat → Int} {xL : List Int} {Xs : Nat → SgV} {w : World}
set_option maxRecDepth 100000 in
set_option maxHeartbeats 3200000 in
theorem ralive_bad (hnd : nd ≤ maxLen) (hnt : nt ≤ maxLen) (hns : ns ≤ maxLen) (hzn : zn ≤ maxLen) (hcn : cn ≤ maxLen) (hwn : wn ≤ maxLen) (hR : RdD w B dA tA sA zA cA wA nd nt ns zn cn wn dep tide sw z cl cu wd) (hB : B ≤ w.heap.size)
  (hx3 : Rd1 w B xA xL.length (fun k => xL.getD k 0)) (hx4 : xL.length ≤ maxLen) (hRS : RdS w B hA hn Xs) (hhn : hn ≤ maxLen) (hE : (begE (M.chkD (M.chkC W H nd nt ns dep tide sw) nd nt zn cn wn z cl cu wd) (chkX nd nt at_ lo hi xL) (chkS nd nt at_ hn Xs)) ≠ 0) :
  Calls Tryz.prog 40 #[.agg #[.int .i64 W, .int .i64 H, .slice dA nd dc, .slice tA nt tc, .slice sA ns sc, .slice zA zn zc, .slice cA cn cc, .slice wA wn wc], .agg #[.int .i64 at_, .slice xA xL.length xc, .int .i64 lo, .int .i64 hi], .slice hA hn hc, .agg #[.slice bA bn bc, .int .i64 s0, .int .i64 s1]] w fun e w' => e = .returned (.tuple #[.int .i64 0, .int .i64 0, .int .i64 (begE (M.chkD (M.chkC W H nd nt ns dep tide sw) nd nt zn cn wn z cl cu wd) (chkX nd nt at_ lo hi xL) (chkS nd nt at_ hn Xs))]) ∧ Below w.heap.size w w' := by
 have hbY := belowAlloc3 w (.cells #[.int .i64 W, .int .i64 H, .slice dA nd dc, .slice tA nt tc, .slice sA ns sc, .slice zA zn zc, .slice cA cn cc, .slice wA wn wc] 29) (.cells #[.int .i64 at_, .slice xA xL.length xc, .int .i64 lo, .int .i64 hi] 44) (.cells #[.slice bA bn bc, .int .i64 s0, .int .i64 s1] 73)
 have HO := Lib.hid (rcheckall_any (W := W) (H := H) (at_ := at_) (lo := lo) (hi := hi) (dc := dc) (tc := tc) (sc := sc) (zc := zc) (cc := cc) (wc := wc) (xc := xc) (hc := hc) hnd hnt hns hzn hcn hwn (hR.below (hbY.mono hB)) (Nat.le_trans hB hbY.size) (hx3.below (hbY.mono hB)) hx4 (hRS.below (hbY.mono hB)) hhn)
 have HBY := Lib.hid hbY
 obtain ⟨r, hr⟩ : ∃ r, r = (begE (M.chkD (M.chkC W H nd nt ns dep tide sw) nd nt zn cn wn z cl cu wd) (chkX nd nt at_ lo hi xL) (chkS nd nt at_ hn Xs)) := ⟨_, rfl⟩
 rw [← hr] at HO hE ⊢
 have hr3 : (r != 0) = true := by simpa using hE
 clear hR hnd hnt hns hzn hcn hwn hbY hr hx3 hRS
 go_enter Tryz.func40, Tryz.ntmps40
 go_wp2_with (go_at_call 58; refine HO.out.mono ?_; rintro e w1 ⟨rfl, hb⟩; have HB1 := Lib.hid (HBY.out.trans (hb.mono HBY.out.size)); clear hb)
 go_ret3
 exact ⟨rfl, HB1.out⟩
set_option maxRecDepth 100000 in
set_option maxHeartbeats 3200000 in
theorem ralive_nob (hnd : nd ≤ maxLen) (hnt : nt ≤ maxLen) (hns : ns ≤ maxLen) (hzn : zn ≤ maxLen) (hcn : cn ≤ maxLen) (hwn : wn ≤ maxLen) (hR : RdD w B dA tA sA zA cA wA nd nt ns zn cn wn dep tide sw z cl cu wd) (hB : B ≤ w.heap.size)
  (hx3 : Rd1 w B xA xL.length (fun k => xL.getD k 0)) (hx4 : xL.length ≤ maxLen) (hRS : RdS w B hA hn Xs) (hhn : hn ≤ maxLen) (hE : (begE (M.chkD (M.chkC W H nd nt ns dep tide sw) nd nt zn cn wn z cl cu wd) (chkX nd nt at_ lo hi xL) (chkS nd nt at_ hn Xs)) = 0) (hb : Rd w B2 bA 2 bn cs) (hB2 : B2 ≤ w.heap.size) (hbm : bn ≤ maxLen) (hbo : M.bodB cn bn cs s0 s1 = false) :
  Calls Tryz.prog 40 #[.agg #[.int .i64 W, .int .i64 H, .slice dA nd dc, .slice tA nt tc, .slice sA ns sc, .slice zA zn zc, .slice cA cn cc, .slice wA wn wc], .agg #[.int .i64 at_, .slice xA xL.length xc, .int .i64 lo, .int .i64 hi], .slice hA hn hc, .agg #[.slice bA bn bc, .int .i64 s0, .int .i64 s1]] w fun e w' => e = .returned (.tuple #[.int .i64 0, .int .i64 0, .int .i64 23]) ∧ Below w.heap.size w w' := by
 have HB0 := Lib.hid (belowAlloc3 w (.cells #[.int .i64 W, .int .i64 H, .slice dA nd dc, .slice tA nt tc, .slice sA ns sc, .slice zA zn zc, .slice cA cn cc, .slice wA wn wc] 29) (.cells #[.int .i64 at_, .slice xA xL.length xc, .int .i64 lo, .int .i64 hi] 44) (.cells #[.slice bA bn bc, .int .i64 s0, .int .i64 s1] 73))
 have K0 := Lib.hid (((Blk.new w 29 #[.int .i64 W, .int .i64 H, .slice dA nd dc, .slice tA nt tc, .slice sA ns sc, .slice zA zn zc, .slice cA cn cc, .slice wA wn wc]).alloc (.cells #[.int .i64 at_, .slice xA xL.length xc, .int .i64 lo, .int .i64 hi] 44)).alloc (.cells #[.slice bA bn bc, .int .i64 s0, .int .i64 s1] 73))
 have X0 := Lib.hid ((Blk.new1 w (.cells #[.int .i64 W, .int .i64 H, .slice dA nd dc, .slice tA nt tc, .slice sA ns sc, .slice zA zn zc, .slice cA cn cc, .slice wA wn wc] 29) 44 #[.int .i64 at_, .slice xA xL.length xc, .int .i64 lo, .int .i64 hi]).alloc (.cells #[.slice bA bn bc, .int .i64 s0, .int .i64 s1] 73))
 have Y0 := Lib.hid (Blk.new2 w (.cells #[.int .i64 W, .int .i64 H, .slice dA nd dc, .slice tA nt tc, .slice sA ns sc, .slice zA zn zc, .slice cA cn cc, .slice wA wn wc] 29) (.cells #[.int .i64 at_, .slice xA xL.length xc, .int .i64 lo, .int .i64 hi] 44) 73 #[.slice bA bn bc, .int .i64 s0, .int .i64 s1])
 have HO := Lib.hid (fun (V : World) (hV : Below w.heap.size w V) => rcheckall_any (W := W) (H := H) (at_ := at_) (lo := lo) (hi := hi) (dc := dc) (tc := tc) (sc := sc) (zc := zc) (cc := cc) (wc := wc) (xc := xc) (hc := hc) hnd hnt hns hzn hcn hwn (hR.below (hV.mono hB)) (Nat.le_trans hB hV.size) (hx3.below (hV.mono hB)) hx4 (hRS.below (hV.mono hB)) hhn)
 have HC := Lib.hid (fun (V : World) (hV : Below w.heap.size w V) => rcheckbody_any (W := W) (H := H) (s0 := s0) (s1 := s1) (bc := bc) (dA := dA) (tA := tA) (sA := sA) (zA := zA) (cA := cA) (wA := wA) (nd := nd) (dc := dc) (nt := nt) (tc := tc) (ns := ns) (sc := sc) (zn := zn) (zc := zc) (cc := cc) (wn := wn) (wc := wc) V hcn hbm (hb.below (hV.mono hB2)) (Nat.le_trans hB2 hV.size))
 rw [hE] at HO
 rw [hbo] at HC
 clear hR hnd hnt hns hzn hcn hwn hx3 hRS hE hbo hb hB2 hbm
 go_enter Tryz.func40, Tryz.ntmps40
 go_upto_region 1 with fail
 generalize ((w.alloc (.cells #[.int .i64 W, .int .i64 H, .slice dA nd dc, .slice tA nt tc, .slice sA ns sc, .slice zA zn zc, .slice cA cn cc, .slice wA wn wc] 29)).alloc (.cells #[.int .i64 at_, .slice xA xL.length xc, .int .i64 lo, .int .i64 hi] 44)).alloc (.cells #[.slice bA bn bc, .int .i64 s0, .int .i64 s1] 73) = X at HB0 K0 X0 Y0 ⊢
 simp only [Nat.add_assoc, Nat.reduceAdd] at Y0 ⊢
 have HOX := Lib.hid (HO.out X HB0.out)
 obtain ⟨k0, k1, k2, k3, k4, k5, k6, k7⟩ := K0.out.c8
 obtain ⟨x0, x1, x2, x3⟩ := X0.out.c4
 go_wp2_with fail
 refine HOX.out.mono ?_
 rintro e w1 ⟨rfl, hb⟩
 have HB1 := Lib.hid (HB0.out.trans (hb.mono HB0.out.size))
 have K1 := Lib.hid (K0.out.below' hb)
 have Y1 := Lib.hid (Y0.out.below' hb)
 clear hb k0 k1 k2 k3 k4 k5 k6 k7 x0 x1 x2 x3 HOX K0 X0 Y0 HB0 HO
 have HCX := Lib.hid (HC.out w1 HB1.out)
 obtain ⟨k0, k1, k2, k3, k4, k5, k6, k7⟩ := K1.out.c8
 obtain ⟨y0, y1, y2⟩ := Y1.out.c3
 go_wp2_with fail
 refine HCX.out.mono ?_
 rintro e w2 ⟨rfl, hb⟩
 have HB2 := Lib.hid (HB1.out.trans (hb.mono HB1.out.size))
 clear hb k0 k1 k2 k3 k4 k5 k6 k7 y0 y1 y2 HCX K1 Y1 HB1 HC
 rw [if_neg (by decide)]
 go_wp2_with fail
 go_ret3
 exact ⟨rfl, HB2.out⟩
end
section
variable {d : M.Dr} {zA cA wA dA tA sA xA hA bA : Option Addr} {cl : Nat → Nat} {dc tc sc zc cc wc xc hn hc bc B B2 ta lo hi : Nat} {xL : List Int} {Xs : Nat → SgV} {cs : Nat → Nat → Int} {s0 s1 : Int} {w : World}
set_option maxRecDepth 100000 in
set_option maxHeartbeats 12800000 in
theorem ralive_ok (hd : d.Ok) (hcl : ∀ i, i < d.nz → cl i + 1 = d.s.nt) (hR : RdD w B dA tA sA zA cA wA d.s.nd d.s.nt d.s.nt d.s.nd d.nz (d.s.nt - 1) d.s.dep d.s.tide d.s.sw d.z cl d.cu d.wd) (hB : B ≤ w.heap.size) (hx3 : Rd1 w B xA xL.length (fun k => xL.getD k 0)) (hx4 : xL.length ≤ maxLen) (hRS : RdS w B hA hn Xs) (hhn : hn ≤ maxLen)
  (hX : chkX d.s.nd d.s.nt (ta : Int) (lo : Int) (hi : Int) xL = true) (hS : chkS d.s.nd d.s.nt (ta : Int) hn Xs = true) (hb : Rd w B2 bA 2 d.nz cs) (hB2 : B2 ≤ w.heap.size) (hbo : M.bodB d.nz d.nz cs s0 s1 = true) :
  Calls Tryz.prog 40 #[.agg #[.int .i64 (d.s.W : Int), .int .i64 (d.s.H : Int), .slice dA d.s.nd dc, .slice tA d.s.nt tc, .slice sA d.s.nt sc, .slice zA d.s.nd zc, .slice cA d.nz cc, .slice wA (d.s.nt - 1) wc], .agg #[.int .i64 (ta : Int), .slice xA xL.length xc, .int .i64 (lo : Int), .int .i64 (hi : Int)], .slice hA hn hc, .agg #[.slice bA d.nz bc, .int .i64 s0, .int .i64 s1]] w (AlvR d ta hn (lo : Int) (hi : Int) xL Xs cs s0 s1 w) := by
 have hnd := hd.s.nd1
 have hnt := hd.s.t2
 obtain ⟨⟨ha1, ha2⟩, hxl, -, hl1, hl2, hl3⟩ := chkX_bd hX
 have hta : ta < d.s.nt := by omega
 have hlo : lo ≤ hi := by omega
 have hhi : hi ≤ 8 := by omega
 obtain ⟨m, hm⟩ : ∃ m, ta + m + 1 = d.s.nt := ⟨d.s.nt - 1 - ta, by omega⟩
 have hcs : (∀ i, i < d.nz → 0 ≤ cs i 0 ∧ cs i 0 ≤ cs i 1 ∧ cs i 1 ≤ 100) ∧ 0 ≤ s0 ∧ s0 ≤ s1 ∧ s1 ≤ 100000 := by
  have h := hbo
  unfold M.bodB at h
  simp only [Bool.and_eq_true, decide_eq_true_eq] at h
  obtain ⟨⟨_, h1⟩, h2⟩ := h
  refine ⟨fun i hi => ?_, ?_⟩
  ·
   have := M.allTo_iff.1 h1 i hi
   unfold M.spanOk at this
   simp only [Bool.and_eq_true, decide_eq_true_eq] at this
   exact ⟨this.1.1, this.1.2, this.2⟩
  ·
   unfold M.spanOk at h2
   simp only [Bool.and_eq_true, decide_eq_true_eq] at h2
   exact ⟨h2.1.1, h2.1.2, h2.2⟩
 have h0 : ∀ p, (0 ≤ M.costN d.s.nd d.z cs p 0 ∧ M.costN d.s.nd d.z cs p 0 ≤ 100) ∧ 0 ≤ M.costN d.s.nd d.z cs p 1 ∧ M.costN d.s.nd d.z cs p 1 ≤ 100 := fun p => by
  unfold M.costN
  by_cases h : p < 0 ∨ (d.s.nd : Int) ≤ p
  · rw [if_pos h]; simp [h]
  ·
   rw [if_neg h, if_neg h]
   have hz := hd.z p.toNat (by omega)
   have h9 := hcs.1 (d.z p.toNat).toNat (by omega)
   omega
 have HB0 := Lib.hid (belowAlloc3 w (.cells #[.int .i64 (d.s.W : Int), .int .i64 (d.s.H : Int), .slice dA d.s.nd dc, .slice tA d.s.nt tc, .slice sA d.s.nt sc, .slice zA d.s.nd zc, .slice cA d.nz cc, .slice wA (d.s.nt - 1) wc] 29) (.cells #[.int .i64 (ta : Int), .slice xA xL.length xc, .int .i64 (lo : Int), .int .i64 (hi : Int)] 44) (.cells #[.slice bA d.nz bc, .int .i64 s0, .int .i64 s1] 73))
 have K0 := Lib.hid (((Blk.new w 29 #[.int .i64 (d.s.W : Int), .int .i64 (d.s.H : Int), .slice dA d.s.nd dc, .slice tA d.s.nt tc, .slice sA d.s.nt sc, .slice zA d.s.nd zc, .slice cA d.nz cc, .slice wA (d.s.nt - 1) wc]).alloc (.cells #[.int .i64 (ta : Int), .slice xA xL.length xc, .int .i64 (lo : Int), .int .i64 (hi : Int)] 44)).alloc (.cells #[.slice bA d.nz bc, .int .i64 s0, .int .i64 s1] 73))
 have X0 := Lib.hid ((Blk.new1 w (.cells #[.int .i64 (d.s.W : Int), .int .i64 (d.s.H : Int), .slice dA d.s.nd dc, .slice tA d.s.nt tc, .slice sA d.s.nt sc, .slice zA d.s.nd zc, .slice cA d.nz cc, .slice wA (d.s.nt - 1) wc] 29) 44 #[.int .i64 (ta : Int), .slice xA xL.length xc, .int .i64 (lo : Int), .int .i64 (hi : Int)]).alloc (.cells #[.slice bA d.nz bc, .int .i64 s0, .int .i64 s1] 73))
 have Y0 := Lib.hid (Blk.new2 w (.cells #[.int .i64 (d.s.W : Int), .int .i64 (d.s.H : Int), .slice dA d.s.nd dc, .slice tA d.s.nt tc, .slice sA d.s.nt sc, .slice zA d.s.nd zc, .slice cA d.nz cc, .slice wA (d.s.nt - 1) wc] 29) (.cells #[.int .i64 (ta : Int), .slice xA xL.length xc, .int .i64 (lo : Int), .int .i64 (hi : Int)] 44) 73 #[.slice bA d.nz bc, .int .i64 s0, .int .i64 s1])
 have HCA := Lib.hid (fun (V : World) (hb : Below w.heap.size w V) => (show Calls Tryz.prog 58 #[.agg #[.int .i64 (d.s.W : Int), .int .i64 (d.s.H : Int), .slice dA d.s.nd dc, .slice tA d.s.nt tc, .slice sA d.s.nt sc, .slice zA d.s.nd zc, .slice cA d.nz cc, .slice wA (d.s.nt - 1) wc], .agg #[.int .i64 (ta : Int), .slice xA xL.length xc, .int .i64 (lo : Int), .int .i64 (hi : Int)], .slice hA hn hc] V fun e w' => e = .returned (.int .i64 0) ∧ Below V.heap.size V w' from by
  have h := rcheckall_any (dc := dc) (tc := tc) (sc := sc) (zc := zc) (cc := cc) (wc := wc) (xc := xc) (hc := hc) (W := d.s.W) (H := d.s.H) (at_ := (ta : Int)) (lo := (lo : Int)) (hi := (hi : Int)) (show d.s.nd ≤ maxLen by unfold maxLen; omega) (show d.s.nt ≤ maxLen by unfold maxLen; omega) (show d.s.nt ≤ maxLen by unfold maxLen; omega) (show d.s.nd ≤ maxLen by unfold maxLen; omega) (show d.nz ≤ maxLen by have := hd.z4; unfold maxLen; omega) (show d.s.nt - 1 ≤ maxLen by unfold maxLen; omega) (hR.below (hb.mono hB)) (Nat.le_trans hB hb.size) (hx3.below (hb.mono hB)) hx4 (hRS.below (hb.mono hB)) hhn
  rw [hX, hS, hd.chk hcl] at h
  exact h))
 have HCB := Lib.hid (fun (V : World) (hV : Below w.heap.size w V) => (show Calls Tryz.prog 37 #[.agg #[.int .i64 (d.s.W : Int), .int .i64 (d.s.H : Int), .slice dA d.s.nd dc, .slice tA d.s.nt tc, .slice sA d.s.nt sc, .slice zA d.s.nd zc, .slice cA d.nz cc, .slice wA (d.s.nt - 1) wc], .agg #[.slice bA d.nz bc, .int .i64 s0, .int .i64 s1]] V fun e w' => e = .returned (.int .i64 0) ∧ Below V.heap.size V w' from by
  have h := rcheckbody_any (W := d.s.W) (H := d.s.H) (s0 := s0) (s1 := s1) (bc := bc) (dA := dA) (tA := tA) (sA := sA) (zA := zA) (cA := cA) (wA := wA) (nd := d.s.nd) (dc := dc) (nt := d.s.nt) (tc := tc) (ns := d.s.nt) (sc := sc) (zn := d.s.nd) (zc := zc) (cn := d.nz) (cc := cc) (wn := d.s.nt - 1) (wc := wc) V (show d.nz ≤ maxLen by have := hd.z4; unfold maxLen; omega) (show d.nz ≤ maxLen by have := hd.z4; unfold maxLen; omega) (hb.below (hV.mono hB2)) (Nat.le_trans hB2 hV.size)
  rw [hbo, if_pos rfl] at h
  exact h))
 obtain ⟨co, hco⟩ : ∃ f, f = M.costN d.s.nd d.z cs := ⟨_, rfl⟩
 obtain ⟨LS, hLS⟩ : ∃ f, f = leeL d (ta : Int) (lo : Int) (hi : Int) xL hn Xs := ⟨_, rfl⟩
 obtain ⟨LW, hLW⟩ : ∃ f : Int → Nat → Int, f = fun l i => M.lowR d ta l (fun c => xL.contains c) (trFit Xs hn ta (-1) 0) m co i := ⟨_, rfl⟩
 obtain ⟨HW, hHW⟩ : ∃ f : Int → Nat → Int, f = fun l i => M.highR d ta l (fun c => xL.contains c) (trFit Xs hn ta (-1) 0) m co i := ⟨_, rfl⟩
 obtain ⟨A, hA1⟩ : ∃ f : Int → Bool, f = fun l => M.anyC d.s.nd (M.rowB d ta l (fun c => xL.contains c) (trFit Xs hn ta (-1) 0) m 0) := ⟨_, rfl⟩
 have hml : d.s.nt - ta - 1 = m := by omega
 have HLO := Lib.hid (fun (V : World) (hV : Below w.heap.size w V) (l : Nat) (hl : l ≤ 8) => (show Calls Tryz.prog 80 #[.agg #[.int .i64 (d.s.W : Int), .int .i64 (d.s.H : Int), .slice dA d.s.nd dc, .slice tA d.s.nt tc, .slice sA d.s.nt sc, .slice zA d.s.nd zc, .slice cA d.nz cc, .slice wA (d.s.nt - 1) wc], .agg #[.int .i64 (ta : Int), .slice xA xL.length xc, .int .i64 (lo : Int), .int .i64 (hi : Int)], .slice hA hn hc, .agg #[.slice bA d.nz bc, .int .i64 s0, .int .i64 s1], .int .i64 (l : Int)] V fun e w' => Below V.heap.size V w' ∧ ((A l = false ∧ e = .returned (.tuple #[.slice none 0 0, .bool false])) ∨ (A l = true ∧ ∃ v, e = .returned (.tuple #[v, .bool true]) ∧ Own w' V.heap.size 42 2 v (m + 1) (prV fun i => (LW l i, HW l i)))) from by
  rw [hA1, hLW, hHW, hco]
  exact rlosses_any (dc := dc) (tc := tc) (sc := sc) (zc := zc) (cc := cc) (wc := wc) (xc := xc) (hc := hc) (bc := bc) (s0 := s0) (s1 := s1) hd hcl (hR.below (hV.mono hB)) (Nat.le_trans hB hV.size) (hx3.below (hV.mono hB)) hx4 (hRS.below (hV.mono hB)) hhn (hb.below (hV.mono hB2)) (Nat.le_trans hB2 hV.size) h0 hm hl))
 have HLS := Lib.hid (show ∀ l : Int, l ∈ LS ↔ ((lo : Int) ≤ l ∧ l ≤ hi) ∧ A l = true from fun l => by
  rw [hLS, hA1]
  unfold leeL
  rw [Int.toNat_natCast, M.mem_spanL, show d.s.nt - ta = m + 1 by omega]
  rw [← setF_some (Nat.succ_pos m)])
 have hrow : ∀ l, l ∈ LS → M.rwL d ta l (fun c => xL.contains c) (trFit Xs hn ta (-1) 0) m 0 ≠ [] := fun l h => by
  have h := ((HLS.out l).1 h).2
  rw [hA1] at h
  exact M.listB_ne.2 h
 have HSD := Lib.hid (show ∀ (v : Nat) (dn : Int → Nat → Prop), LS ≠ [] → M.SureI HW (m + 1) s0 dn v → (∀ l i, dn l i → l ∈ LS) → (∀ l i, l ∈ LS → i < m + 1 → dn l i) → v = sureA d ta hn (lo : Int) (hi : Int) xL Xs cs s0 from fun v dn hne h h1 h2 => by
  unfold sureA
  rw [← hLS, hml, ← hco]
  rw [hHW] at h
  exact h.done hne h1 h2)
 have HMD := Lib.hid (show ∀ (v : Nat) (dn : Int → Nat → Prop), LS ≠ [] → M.MayI LW (m + 1) s1 dn v → (∀ l i, dn l i → l ∈ LS ∧ i < m + 1) → (∀ l i, l ∈ LS → i < m + 1 → dn l i) → v = mayA d ta hn (lo : Int) (hi : Int) xL Xs cs s1 from fun v dn hne h h1 h2 => by
  unfold mayA
  rw [← hLS, hml, ← hco]
  rw [hLW] at h
  exact h.done (fun p => by rw [hco]; exact (h0 p).1.1) hne hrow h1 h2)
 have hs0 : 0 ≤ s0 ∧ s0 ≤ 100000 := by omega
 have hs1 : 0 ≤ s1 ∧ s1 ≤ 100000 := by omega
 unfold AlvR
 rw [← hLS]
 generalize sureA d ta hn (lo : Int) (hi : Int) xL Xs cs s0 = sU at HSD ⊢
 generalize mayA d ta hn (lo : Int) (hi : Int) xL Xs cs s1 = mU at HMD ⊢
 have HM := Lib.hid hm
 have hm60 : m < 60 := by omega
 have ht60 : ta < 60 := by omega
 clear hrow hml hA1 hHW hLW hLS hco h0 hcs hbo hb hB2 hS hX hRS hx3 hB hR hcl hd hm hxl ha1 ha2 hl1 hl2 hl3
 go_enter Tryz.func40, Tryz.ntmps40
 go_upto_region 1 with fail
 generalize ((w.alloc (.cells #[.int .i64 (d.s.W : Int), .int .i64 (d.s.H : Int), .slice dA d.s.nd dc, .slice tA d.s.nt tc, .slice sA d.s.nt sc, .slice zA d.s.nd zc, .slice cA d.nz cc, .slice wA (d.s.nt - 1) wc] 29)).alloc (.cells #[.int .i64 (ta : Int), .slice xA xL.length xc, .int .i64 (lo : Int), .int .i64 (hi : Int)] 44)).alloc (.cells #[.slice bA d.nz bc, .int .i64 s0, .int .i64 s1] 73) = X at HB0 K0 X0 Y0 ⊢
 simp only [Nat.add_assoc, Nat.reduceAdd] at Y0 ⊢
 have HCX := Lib.hid (HCA.out X HB0.out)
 obtain ⟨k0, k1, k2, k3, k4, k5, k6, k7⟩ := K0.out.c8
 obtain ⟨x0, x1, x2, x3⟩ := X0.out.c4
 go_wp2_with fail
 refine HCX.out.mono ?_
 rintro e w1 ⟨rfl, hb⟩
 have HB1 := Lib.hid (HB0.out.trans (hb.mono HB0.out.size))
 have K1 := Lib.hid (K0.out.below' hb)
 have X1 := Lib.hid (X0.out.below' hb)
 have Y1 := Lib.hid (Y0.out.below' hb)
 clear k0 k1 k2 k3 k4 k5 k6 k7
 clear x0 x1 x2 x3
 clear hb HCX HCA HB0 K0 X0 Y0
 clear X
 have HCY := Lib.hid (HCB.out w1 HB1.out)
 obtain ⟨k0, k1, k2, k3, k4, k5, k6, k7⟩ := K1.out.c8
 obtain ⟨y0, y1, y2⟩ := Y1.out.c3
 go_wp2_with fail
 refine HCY.out.mono ?_
 rintro e w2 ⟨rfl, hb⟩
 have HB2 := Lib.hid (HB1.out.trans (hb.mono HB1.out.size))
 have K2 := Lib.hid (K1.out.below' hb)
 have X2 := Lib.hid (X1.out.below' hb)
 have Y2 := Lib.hid (Y1.out.below' hb)
 clear k0 k1 k2 k3 k4 k5 k6 k7
 clear y0 y1 y2
 clear hb HCY HCB HB1 K1 X1 Y1
 clear w1
 have k3 := K2.out.cell 3
 have x0 := X2.out.cell 0
 go_upto_region 8 with fail
 go_quiet (fail)
 have HB3 := Lib.hid (HB2.out.drewN nq)
 have K3 := Lib.hid (show Blk (w2.drewN nq) w.heap.size 29 #[.int .i64 (d.s.W : Int), .int .i64 (d.s.H : Int), .slice dA d.s.nd dc, .slice tA d.s.nt tc, .slice sA d.s.nt sc, .slice zA d.s.nd zc, .slice cA d.nz cc, .slice wA (d.s.nt - 1) wc] from K2.out)
 have X3 := Lib.hid (show Blk (w2.drewN nq) (w.heap.size + 1) 44 #[.int .i64 (ta : Int), .slice xA xL.length xc, .int .i64 (lo : Int), .int .i64 (hi : Int)] from X2.out)
 have Y3 := Lib.hid (show Blk (w2.drewN nq) (w.heap.size + 2) 73 #[.slice bA d.nz bc, .int .i64 s0, .int .i64 s1] from Y2.out)
 clear k3 x0 HB2 K2 X2 Y2
 generalize w2.drewN nq = w3 at HB3 K3 X3 Y3 ⊢
 have x2 := X3.out.cell 2
 go_wp2_with fail
 clear x2
 go_loopw [8, 9, 14, 15] (fun a b c l wr => ∃ k : Nat, lo ≤ k ∧ k ≤ hi + 1 ∧ l = .int .i64 (k : Int) ∧ ∃ (v u : Nat) (fb : Bool), a = .int .i64 ((ta : Int) + (v : Int) - 1) ∧ b = .int .i64 ((ta : Int) + (u : Int) - 1) ∧ c = .bool fb ∧ Hid (M.SureI HW (m + 1) s0 (fun l' i' => (l' ∈ LS ∧ l' < (k : Int)) ∧ i' < m + 1) v) ∧ Hid (M.MayI LW (m + 1) s1 (fun l' i' => (l' ∈ LS ∧ l' < (k : Int)) ∧ i' < m + 1) u) ∧ Hid (fb = true ↔ ∃ l', l' ∈ LS ∧ l' < (k : Int)) ∧ Hid (Below w.heap.size w wr ∧ Blk wr w.heap.size 29 #[.int .i64 (d.s.W : Int), .int .i64 (d.s.H : Int), .slice dA d.s.nd dc, .slice tA d.s.nt tc, .slice sA d.s.nt sc, .slice zA d.s.nd zc, .slice cA d.nz cc, .slice wA (d.s.nt - 1) wc] ∧ Blk wr (w.heap.size + 1) 44 #[.int .i64 (ta : Int), .slice xA xL.length xc, .int .i64 (lo : Int), .int .i64 (hi : Int)] ∧ Blk wr (w.heap.size + 2) 73 #[.slice bA d.nz bc, .int .i64 s0, .int .i64 s1])) (fun _ _ _ l _ => hi + 1 - (intOf l).toNat)
 case atStart => exact ⟨lo, Nat.le_refl _, by omega, rfl, m + 1, 0, false, by congr 1; have := HM.out; omega, by first | rfl | (congr 1; omega), rfl, Lib.hid (M.SureI.start.congr fun l i => ⟨False.elim, fun h => by have := (HLS.out l).1 h.1.1; omega⟩), Lib.hid (M.MayI.start.congr fun l i => ⟨False.elim, fun h => by have := (HLS.out l).1 h.1.1; omega⟩), Lib.hid ⟨fun h => (by cases h), fun ⟨l, h1, h2⟩ => by have := (HLS.out l).1 h1; omega⟩, Lib.hid ⟨HB3.out, K3.out, X3.out, Y3.out⟩⟩
 case round =>
  obtain ⟨k, hk1, hk2, rfl, v, u, fb, rfl, rfl, rfl, HSU, HMA, HFB, HS⟩ := hrel
  clear HB3 K3 X3 Y3
  obtain ⟨wo, rfl⟩ : ∃ wo, wo = wr := ⟨_, rfl⟩
  have hv := HSU.out.le
  have hu := HMA.out.le
  by_cases hkh : k ≤ hi
  ·
   have g1 : decide (k ≤ hi) = true := decide_eq_true hkh
   have g1' : decide ((k : Int) ≤ (hi : Int)) = true := decide_eq_true (by omega)
   have HLX := Lib.hid (HLO.out wo HS.out.1 k (by omega))
   have KR := Lib.hid HS.out.2.1
   have XR := Lib.hid HS.out.2.2.1
   have YR := Lib.hid HS.out.2.2.2
   obtain ⟨k0, k1, k2, k3, k4, k5, k6, k7⟩ := KR.out.c8
   obtain ⟨x0, x1, x2, x3⟩ := XR.out.c4
   obtain ⟨y0, y1, y2⟩ := YR.out.c3
   go_wp2_with fail
   refine HLX.out.mono ?_
   rintro e w4 ⟨hb, h4⟩
   have HS4 := Lib.hid (show Below w.heap.size w w4 ∧ Blk w4 w.heap.size 29 #[.int .i64 (d.s.W : Int), .int .i64 (d.s.H : Int), .slice dA d.s.nd dc, .slice tA d.s.nt tc, .slice sA d.s.nt sc, .slice zA d.s.nd zc, .slice cA d.nz cc, .slice wA (d.s.nt - 1) wc] ∧ Blk w4 (w.heap.size + 1) 44 #[.int .i64 (ta : Int), .slice xA xL.length xc, .int .i64 (lo : Int), .int .i64 (hi : Int)] ∧ Blk w4 (w.heap.size + 2) 73 #[.slice bA d.nz bc, .int .i64 s0, .int .i64 s1] from ⟨HS.out.1.trans (hb.mono HS.out.1.size), KR.out.below' hb, XR.out.below' hb, YR.out.below' hb⟩)
   clear k0 k1 k2 k3 k4 k5 k6 k7
   clear x0 x1 x2 x3
   clear y0 y1 y2
   clear KR XR YR HLX HS
   rcases h4 with ⟨hA4, rfl⟩ | ⟨hA4, v4, rfl, hO4⟩
   ·
    have HNI := Lib.hid (show ¬ (k : Int) ∈ LS from fun h => by have := ((HLS.out _).1 h).2; rw [hA4] at this; cases this)
    have HIF := Lib.hid (show ∀ l : Int, (l ∈ LS ∧ l < (k : Int)) ↔ (l ∈ LS ∧ l < ((k + 1 : Nat) : Int)) from fun l => ⟨fun h => ⟨h.1, by omega⟩, fun h => ⟨h.1, by have h2 := h.2; have h3 : ¬ l = (k : Int) := fun e => HNI.out (e ▸ h.1); omega⟩⟩)
    clear hb hA4
    go_wp2_with fail
    go_roundw
    case rel => exact ⟨k + 1, by omega, by omega, by go_num, v, u, fb, rfl, rfl, rfl, Lib.hid (HSU.out.congr fun l i => and_congr_left' (HIF.out l)), Lib.hid (HMA.out.congr fun l i => and_congr_left' (HIF.out l)), Lib.hid (HFB.out.trans (exists_congr fun l => HIF.out l)), HS4⟩
    case measure => simp [intOf]; omega
   ·
    obtain ⟨sg, sc4, e⟩ := Own.nz hO4 (Nat.succ_pos m)
    subst e
    have HO4 := Lib.hid hO4
    have HKI := Lib.hid (show (k : Int) ∈ LS from (HLS.out _).2 ⟨⟨by omega, by omega⟩, hA4⟩)
    clear hb hA4 hO4
    generalize wo.heap.size = bo at HO4
    clear wo
    go_wp2_with fail
    go_loopw [8, 9, 18] (fun a b c wr => ∃ i : Nat, i ≤ m + 1 ∧ c = .int .i64 (i : Int) ∧ ∃ v u : Nat, a = .int .i64 ((ta : Int) + (v : Int) - 1) ∧ b = .int .i64 ((ta : Int) + (u : Int) - 1) ∧ Hid (M.SureI HW (m + 1) s0 (fun l' i' => ((l' ∈ LS ∧ l' < (k : Int)) ∧ i' < m + 1) ∨ (l' = (k : Int) ∧ i' < i)) v) ∧ Hid (M.MayI LW (m + 1) s1 (fun l' i' => ((l' ∈ LS ∧ l' < (k : Int)) ∧ i' < m + 1) ∨ (l' = (k : Int) ∧ i' < i)) u) ∧ Hid (Below w4.heap.size w4 wr)) (fun _ _ c _ => m + 1 - (intOf c).toNat)
    case atStart => exact ⟨0, Nat.zero_le _, rfl, v, u, rfl, rfl, Lib.hid (HSU.out.congr fun l i => ⟨.inl, fun h => h.elim id fun h => absurd h.2 (Nat.not_lt_zero _)⟩), Lib.hid (HMA.out.congr fun l i => ⟨.inl, fun h => h.elim id fun h => absurd h.2 (Nat.not_lt_zero _)⟩), Lib.hid (Below.refl _ _)⟩
    case round =>
     clear HSU HMA hv hu
     obtain ⟨i, hi', rfl, v, u, rfl, rfl, HSU, HMA, HR⟩ := hrel
     obtain ⟨wi, rfl⟩ : ∃ wi, wi = wr := ⟨_, rfl⟩
     have hv := HSU.out.le
     have hu := HMA.out.le
     by_cases hit : i < m + 1
     ·
      have g2 : decide (i < m + 1) = true := decide_eq_true hit
      have HO5 := Lib.hid (HO4.out.below HR.out)
      have c0 := Own.cell HO5.out (i := i) (j := 0) hit (by decide)
      have c1 := Own.cell HO5.out (i := i) (j := 1) hit (by decide)
      rw [show prV (fun i => (LW k i, HW k i)) i 0 = .int .i64 (LW k i) from rfl, Nat.add_zero] at c0
      rw [show prV (fun i => (LW k i, HW k i)) i 1 = .int .i64 (HW k i) from rfl] at c1
      have y1 := (HS4.out.2.2.2.below' HR.out).cell 1
      have y2 := (HS4.out.2.2.2.below' HR.out).cell 2
      have x0 := (HS4.out.2.2.1.below' HR.out).cell 0
      by_cases h1 : s0 ≤ HW k i
      ·
       have g3 : decide (s0 ≤ HW k i) = true := decide_eq_true h1
       go_upto_region 19 with fail
       go_quiet (fail)
       have HR1 := Lib.hid (show Below w4.heap.size w4 (wi.drewN nq) from HR.out.drewN nq)
       clear HO5 c0 c1 y1 y2 x0
       generalize wi.drewN nq = w1 at HR1 ⊢
       have x0 := (HS4.out.2.2.1.below' HR1.out).cell 0
       have HO5 := Lib.hid (HO4.out.below HR1.out)
       have c0 := Own.cell HO5.out (i := i) (j := 0) hit (by decide)
       have c1 := Own.cell HO5.out (i := i) (j := 1) hit (by decide)
       rw [show prV (fun i => (LW k i, HW k i)) i 0 = .int .i64 (LW k i) from rfl, Nat.add_zero] at c0
       rw [show prV (fun i => (LW k i, HW k i)) i 1 = .int .i64 (HW k i) from rfl] at c1
       have y1 := (HS4.out.2.2.2.below' HR1.out).cell 1
       have y2 := (HS4.out.2.2.2.below' HR1.out).cell 2
       have x0 := (HS4.out.2.2.1.below' HR1.out).cell 0
       by_cases h2 : LW k i < s1
       ·
        have g4 : decide (LW k i < s1) = true := decide_eq_true h2
        go_upto_region 21 with fail
        go_quiet (fail)
        have HR2 := Lib.hid (show Below w4.heap.size w4 (w1.drewN nq) from HR1.out.drewN nq)
        clear HO5 c0 c1 y1 y2 x0
        generalize w1.drewN nq = w2 at HR2 ⊢
        have x0 := (HS4.out.2.2.1.below' HR2.out).cell 0
        go_wp2_with fail
        clear x0
        go_roundw
        case rel => exact ⟨i + 1, by omega, by go_num, min v i, max u (i + 1), by congr 1; omega, by congr 1; omega, Lib.hid ((HSU.out.yes hit h1).congr fun l' i' => ⟨fun h => by rcases h with (h | ⟨h, h2⟩) | ⟨h, h2⟩; exact .inl h; exact .inr ⟨h, by omega⟩; exact .inr ⟨h, by omega⟩, fun h => by rcases h with h | ⟨h, h2⟩; exact .inl (.inl h); by_cases e : i' = i; exact .inr ⟨h, e⟩; exact .inl (.inr ⟨h, by omega⟩)⟩), Lib.hid ((HMA.out.yes hit h2).congr fun l' i' => ⟨fun h => by rcases h with (h | ⟨h, h2⟩) | ⟨h, h2⟩; exact .inl h; exact .inr ⟨h, by omega⟩; exact .inr ⟨h, by omega⟩, fun h => by rcases h with h | ⟨h, h2⟩; exact .inl (.inl h); by_cases e : i' = i; exact .inr ⟨h, e⟩; exact .inl (.inr ⟨h, by omega⟩)⟩), HR2⟩
        case measure => simp [intOf]; omega
       ·
        have g4 : decide (LW k i < s1) = false := decide_eq_false h2
        go_upto_region 21 with fail
        go_quiet (fail)
        have HR2 := Lib.hid (show Below w4.heap.size w4 (w1.drewN nq) from HR1.out.drewN nq)
        clear HO5 c0 c1 y1 y2 x0
        generalize w1.drewN nq = w2 at HR2 ⊢
        go_wp2_with fail
        go_roundw
        case rel => exact ⟨i + 1, by omega, by go_num, min v i, u, by congr 1; omega, rfl, Lib.hid ((HSU.out.yes hit h1).congr fun l' i' => ⟨fun h => by rcases h with (h | ⟨h, h2⟩) | ⟨h, h2⟩; exact .inl h; exact .inr ⟨h, by omega⟩; exact .inr ⟨h, by omega⟩, fun h => by rcases h with h | ⟨h, h2⟩; exact .inl (.inl h); by_cases e : i' = i; exact .inr ⟨h, e⟩; exact .inl (.inr ⟨h, by omega⟩)⟩), Lib.hid ((HMA.out.no h2).congr fun l' i' => ⟨fun h => by rcases h with (h | ⟨h, h2⟩) | ⟨h, h2⟩; exact .inl h; exact .inr ⟨h, by omega⟩; exact .inr ⟨h, by omega⟩, fun h => by rcases h with h | ⟨h, h2⟩; exact .inl (.inl h); by_cases e : i' = i; exact .inr ⟨h, e⟩; exact .inl (.inr ⟨h, by omega⟩)⟩), HR2⟩
        case measure => simp [intOf]; omega
      ·
       have g3 : decide (s0 ≤ HW k i) = false := decide_eq_false h1
       go_upto_region 19 with fail
       go_quiet (fail)
       have HR1 := Lib.hid (show Below w4.heap.size w4 (wi.drewN nq) from HR.out.drewN nq)
       clear HO5 c0 c1 y1 y2 x0
       generalize wi.drewN nq = w1 at HR1 ⊢
       have HO5 := Lib.hid (HO4.out.below HR1.out)
       have c0 := Own.cell HO5.out (i := i) (j := 0) hit (by decide)
       have c1 := Own.cell HO5.out (i := i) (j := 1) hit (by decide)
       rw [show prV (fun i => (LW k i, HW k i)) i 0 = .int .i64 (LW k i) from rfl, Nat.add_zero] at c0
       rw [show prV (fun i => (LW k i, HW k i)) i 1 = .int .i64 (HW k i) from rfl] at c1
       have y1 := (HS4.out.2.2.2.below' HR1.out).cell 1
       have y2 := (HS4.out.2.2.2.below' HR1.out).cell 2
       have x0 := (HS4.out.2.2.1.below' HR1.out).cell 0
       by_cases h2 : LW k i < s1
       ·
        have g4 : decide (LW k i < s1) = true := decide_eq_true h2
        go_upto_region 21 with fail
        go_quiet (fail)
        have HR2 := Lib.hid (show Below w4.heap.size w4 (w1.drewN nq) from HR1.out.drewN nq)
        clear HO5 c0 c1 y1 y2 x0
        generalize w1.drewN nq = w2 at HR2 ⊢
        have x0 := (HS4.out.2.2.1.below' HR2.out).cell 0
        go_wp2_with fail
        clear x0
        go_roundw
        case rel => exact ⟨i + 1, by omega, by go_num, v, max u (i + 1), rfl, by congr 1; omega, Lib.hid ((HSU.out.no h1).congr fun l' i' => ⟨fun h => by rcases h with (h | ⟨h, h2⟩) | ⟨h, h2⟩; exact .inl h; exact .inr ⟨h, by omega⟩; exact .inr ⟨h, by omega⟩, fun h => by rcases h with h | ⟨h, h2⟩; exact .inl (.inl h); by_cases e : i' = i; exact .inr ⟨h, e⟩; exact .inl (.inr ⟨h, by omega⟩)⟩), Lib.hid ((HMA.out.yes hit h2).congr fun l' i' => ⟨fun h => by rcases h with (h | ⟨h, h2⟩) | ⟨h, h2⟩; exact .inl h; exact .inr ⟨h, by omega⟩; exact .inr ⟨h, by omega⟩, fun h => by rcases h with h | ⟨h, h2⟩; exact .inl (.inl h); by_cases e : i' = i; exact .inr ⟨h, e⟩; exact .inl (.inr ⟨h, by omega⟩)⟩), HR2⟩
        case measure => simp [intOf]; omega
       ·
        have g4 : decide (LW k i < s1) = false := decide_eq_false h2
        go_upto_region 21 with fail
        go_quiet (fail)
        have HR2 := Lib.hid (show Below w4.heap.size w4 (w1.drewN nq) from HR1.out.drewN nq)
        clear HO5 c0 c1 y1 y2 x0
        generalize w1.drewN nq = w2 at HR2 ⊢
        go_wp2_with fail
        go_roundw
        case rel => exact ⟨i + 1, by omega, by go_num, v, u, rfl, rfl, Lib.hid ((HSU.out.no h1).congr fun l' i' => ⟨fun h => by rcases h with (h | ⟨h, h2⟩) | ⟨h, h2⟩; exact .inl h; exact .inr ⟨h, by omega⟩; exact .inr ⟨h, by omega⟩, fun h => by rcases h with h | ⟨h, h2⟩; exact .inl (.inl h); by_cases e : i' = i; exact .inr ⟨h, e⟩; exact .inl (.inr ⟨h, by omega⟩)⟩), Lib.hid ((HMA.out.no h2).congr fun l' i' => ⟨fun h => by rcases h with (h | ⟨h, h2⟩) | ⟨h, h2⟩; exact .inl h; exact .inr ⟨h, by omega⟩; exact .inr ⟨h, by omega⟩, fun h => by rcases h with h | ⟨h, h2⟩; exact .inl (.inl h); by_cases e : i' = i; exact .inr ⟨h, e⟩; exact .inl (.inr ⟨h, by omega⟩)⟩), HR2⟩
        case measure => simp [intOf]; omega
     ·
      obtain rfl : i = m + 1 := by omega
      have g2 : decide (m + 1 < m + 1) = false := decide_eq_false (Nat.lt_irrefl _)
      have HIF := Lib.hid (show ∀ (l' : Int) (i' : Nat), (((l' ∈ LS ∧ l' < (k : Int)) ∧ i' < m + 1) ∨ (l' = (k : Int) ∧ i' < m + 1)) ↔ ((l' ∈ LS ∧ l' < ((k + 1 : Nat) : Int)) ∧ i' < m + 1) from fun l' i' => ⟨fun h => by rcases h with ⟨⟨h, h2⟩, h3⟩ | ⟨h, h3⟩; exact ⟨⟨h, by omega⟩, h3⟩; exact ⟨⟨h ▸ HKI.out, by omega⟩, h3⟩, fun h => by obtain ⟨⟨h, h2⟩, h3⟩ := h; by_cases e : l' = (k : Int); exact .inr ⟨e, h3⟩; exact .inl ⟨⟨h, by omega⟩, h3⟩⟩)
      go_wp2_with fail
      go_roundw
      case rel => exact ⟨k + 1, by omega, by omega, by go_num, v, u, true, rfl, rfl, rfl, Lib.hid (HSU.out.congr HIF.out), Lib.hid (HMA.out.congr HIF.out), Lib.hid ⟨fun _ => ⟨k, HKI.out, by omega⟩, fun _ => rfl⟩, Lib.hid ⟨HS4.out.1.trans (HR.out.mono HS4.out.1.size), HS4.out.2.1.below' HR.out, HS4.out.2.2.1.below' HR.out, HS4.out.2.2.2.below' HR.out⟩⟩
      case measure => simp [intOf]; omega
  ·
   obtain rfl : k = hi + 1 := by omega
   have g1 : decide (hi + 1 ≤ hi) = false := decide_eq_false (by omega)
   have g1' : decide (((hi + 1 : Nat) : Int) ≤ (hi : Int)) = false := decide_eq_false (by omega)
   have x3 := HS.out.2.2.1.cell 3
   cases fb
   ·
    have HNE := Lib.hid (show LS = [] from by
      refine List.eq_nil_iff_forall_not_mem.2 fun l hl => ?_
      have h1 := (HLS.out l).1 hl
      have h2 := HFB.out.2 ⟨l, hl, by omega⟩
      cases h2)
    go_wp2_with fail
    go_ret3
    exact ⟨HS.out.1, .inl ⟨HNE.out, rfl⟩⟩
   ·
    have HNE := Lib.hid (show LS ≠ [] from by
      obtain ⟨l, hl, _⟩ := HFB.out.1 rfl
      exact List.ne_nil_of_mem hl)
    have HV := Lib.hid (HSD.out v _ HNE.out HSU.out (fun l i h => h.1.1) fun l i h1 h2 => ⟨⟨h1, by have := (HLS.out l).1 h1; omega⟩, h2⟩)
    have HU := Lib.hid (HMD.out u _ HNE.out HMA.out (fun l i h => ⟨h.1.1, h.2⟩) fun l i h1 h2 => ⟨⟨h1, by have := (HLS.out l).1 h1; omega⟩, h2⟩)
    go_wp2_with fail
    go_ret3
    exact ⟨HS.out.1, .inr ⟨HNE.out, by rw [HV.out, HU.out]; rfl⟩⟩
end

end Go.Proofs.YtnbeembnnjdmdaaGreatDoor
/- Alive: what the program and the reference answer. -/
namespace Go.Proofs.YtnbeembnnjdmdaaGreatDoor
open Go.RowKit Go.Maps

section
variable {W H : Int} {nd nt ns zn cn wn hn bn : Nat} {at_ lo hi s0 s1 : Int} {dep : Nat → Int} {tide : Nat → Nat → Int} {sw z : Nat → Int} {cl : Nat → Nat} {cu : Nat → Nat → Nat → Int} {wd : Nat → Nat → Int} {xL : List Int} {Xs : Nat → SgV} {cs : Nat → Nat → Int}
theorem leeL_at2 {d : M.Dr} {U : Nat → Value} : leeL d at_ lo hi xL hn (fun i => (Xs i).at_ (U i)) = leeL d at_ lo hi xL hn Xs := by
 unfold leeL
 rw [leeP_at_]
theorem alive_both (hnd : nd ≤ maxLen) (hnt : nt ≤ maxLen) (hns : ns ≤ maxLen) (hzn : zn ≤ maxLen) (hcn : cn ≤ maxLen) (hwn : wn ≤ maxLen) (hx4 : xL.length ≤ maxLen) (hhn : hn ≤ maxLen) (hbm : bn ≤ maxLen) : ∃ a m r : Int,
  (∀ (B : Nat) (V : World) (dA tA sA zA cA wA xA hA bA : Option Addr) (dc tc sc zc cc wc xc hc bc : Nat) (U : Nat → Value), RdD V B dA tA sA zA cA wA nd nt ns zn cn wn dep tide sw z cl cu wd → B ≤ V.heap.size → Ways V → Fre V → Rd1 V B xA xL.length (fun k => xL.getD k 0) → RdS V B hA hn (fun i => (Xs i).at_ (U i)) → Rd V B bA 2 bn cs → Calls Tryz.prog 38 #[.agg #[.int .i64 W, .int .i64 H, .slice dA nd dc, .slice tA nt tc, .slice sA ns sc, .slice zA zn zc, .slice cA cn cc, .slice wA wn wc], .agg #[.int .i64 at_, .slice xA xL.length xc, .int .i64 lo, .int .i64 hi], .slice hA hn hc, .agg #[.slice bA bn bc, .int .i64 s0, .int .i64 s1]] V fun e w' => e = .returned (.tuple #[.int .i64 a, .int .i64 m, .int .i64 r]) ∧ Below V.heap.size V w') ∧
  (∀ (B : Nat) (V : World) (dA tA sA zA cA wA xA hA bA : Option Addr) (dc tc sc zc cc wc xc hc bc : Nat), RdD V B dA tA sA zA cA wA nd nt ns zn cn wn dep tide sw z cl cu wd → B ≤ V.heap.size → Rd1 V B xA xL.length (fun k => xL.getD k 0) → RdS V B hA hn Xs → Rd V B bA 2 bn cs → Calls Tryz.prog 40 #[.agg #[.int .i64 W, .int .i64 H, .slice dA nd dc, .slice tA nt tc, .slice sA ns sc, .slice zA zn zc, .slice cA cn cc, .slice wA wn wc], .agg #[.int .i64 at_, .slice xA xL.length xc, .int .i64 lo, .int .i64 hi], .slice hA hn hc, .agg #[.slice bA bn bc, .int .i64 s0, .int .i64 s1]] V fun e w' => e = .returned (.tuple #[.int .i64 a, .int .i64 m, .int .i64 r]) ∧ Below V.heap.size V w') := by
 by_cases hE : (begE (M.chkD (M.chkC W H nd nt ns dep tide sw) nd nt zn cn wn z cl cu wd) (chkX nd nt at_ lo hi xL) (chkS nd nt at_ hn Xs)) = 0
 ·
  obtain ⟨h1, h2, h3⟩ := beg_ok hE
  have hE' := hE
  obtain ⟨d, hd, rfl, rfl, rfl, rfl, rfl, rfl, rfl, rfl, rfl, rfl, rfl, rfl, rfl, rfl, hcl⟩ := M.chkD_form h1
  obtain ⟨⟨ha1, ha2⟩, hxl, -, hl1, hl2, hl3⟩ := chkX_bd h2
  obtain ⟨ta, rfl⟩ : ∃ n : Nat, at_ = (n : Int) := ⟨at_.toNat, by omega⟩
  obtain ⟨lo', rfl⟩ : ∃ n : Nat, lo = (n : Int) := ⟨lo.toNat, by omega⟩
  obtain ⟨hi', rfl⟩ : ∃ n : Nat, hi = (n : Int) := ⟨hi.toNat, by omega⟩
  cases hbo : M.bodB d.nz bn cs s0 s1
  ·
   refine ⟨0, 0, 23, fun B V dA tA sA zA cA wA xA hA bA dc tc sc zc cc wc xc hc bc U hR hB hW hF hx hS hb => ?_, fun B V dA tA sA zA cA wA xA hA bA dc tc sc zc cc wc xc hc bc hR hB hx hS hb => ?_⟩
   · exact alive_nob (dc := dc) (tc := tc) (sc := sc) (zc := zc) (cc := cc) (wc := wc) (xc := xc) (hc := hc) (bc := bc) hd hcl hR hB hW hx hx4 hS hhn h2 (by rw [chkS_at]; exact h3) hb hbm hbo
   · exact ralive_nob (dc := dc) (tc := tc) (sc := sc) (zc := zc) (cc := cc) (wc := wc) (xc := xc) (hc := hc) (bc := bc) hnd hnt hns hzn hcn hwn hR hB hx hx4 hS hhn hE' hb hB hbm hbo
  ·
   have hbn : bn = d.nz := by
    have h := hbo
    unfold M.bodB at h
    simp only [Bool.and_eq_true, decide_eq_true_eq] at h
    exact h.1.1
   subst hbn
   have hP := fun (B : Nat) (V : World) (dA tA sA zA cA wA xA hA bA : Option Addr) (dc tc sc zc cc wc xc hc bc : Nat) (U : Nat → Value) (hR : RdD V B dA tA sA zA cA wA d.s.nd d.s.nt d.s.nt d.s.nd d.nz (d.s.nt - 1) d.s.dep d.s.tide d.s.sw d.z cl d.cu d.wd) (hB : B ≤ V.heap.size) (hW : Ways V) (hF : Fre V) (hx : Rd1 V B xA xL.length (fun k => xL.getD k 0)) (hS : RdS V B hA hn (fun i => (Xs i).at_ (U i))) (hb : Rd V B bA 2 d.nz cs) => alive_ok (bc := bc) (lo := (lo' : Int)) (hi := (hi' : Int)) (dc := dc) (tc := tc) (sc := sc) (zc := zc) (cc := cc) (wc := wc) (xc := xc) (hc := hc) hd hcl hR hB hW hx hx4 hS hhn hF h2 (by rw [chkS_at]; exact h3) hb hbm hbo
   have hQ := fun (B : Nat) (V : World) (dA tA sA zA cA wA xA hA bA : Option Addr) (dc tc sc zc cc wc xc hc bc : Nat) (hR : RdD V B dA tA sA zA cA wA d.s.nd d.s.nt d.s.nt d.s.nd d.nz (d.s.nt - 1) d.s.dep d.s.tide d.s.sw d.z cl d.cu d.wd) (hB : B ≤ V.heap.size) (hx : Rd1 V B xA xL.length (fun k => xL.getD k 0)) (hS : RdS V B hA hn Xs) (hb : Rd V B bA 2 d.nz cs) => ralive_ok (dc := dc) (tc := tc) (sc := sc) (zc := zc) (cc := cc) (wc := wc) (xc := xc) (hc := hc) (bc := bc) hd hcl hR hB hx hx4 hS hhn h2 h3 hb hB hbo
   have e1 : ∀ (U : Nat → Value) (s : Int), sureA d ta hn (lo' : Int) (hi' : Int) xL (fun i => (Xs i).at_ (U i)) cs s = sureA d ta hn (lo' : Int) (hi' : Int) xL Xs cs s := fun U s => by unfold sureA; rw [leeL_at2, trFit_at]
   have e2 : ∀ (U : Nat → Value) (s : Int), mayA d ta hn (lo' : Int) (hi' : Int) xL (fun i => (Xs i).at_ (U i)) cs s = mayA d ta hn (lo' : Int) (hi' : Int) xL Xs cs s := fun U s => by unfold mayA; rw [leeL_at2, trFit_at]
   by_cases hq : leeL d (ta : Int) (lo' : Int) (hi' : Int) xL hn Xs = []
   ·
    refine ⟨0, 0, 3, fun B V dA tA sA zA cA wA xA hA bA dc tc sc zc cc wc xc hc bc U hR hB hW hF hx hS hb => ?_, fun B V dA tA sA zA cA wA xA hA bA dc tc sc zc cc wc xc hc bc hR hB hx hS hb => ?_⟩
    ·
     refine (hP B V dA tA sA zA cA wA xA hA bA dc tc sc zc cc wc xc hc bc U hR hB hW hF hx hS hb).mono fun e w' h => ?_
     rcases h with ⟨h4, ⟨_, h5⟩ | ⟨h5, _⟩⟩
     · exact ⟨h5, h4⟩
     · rw [leeL_at2] at h5; exact absurd hq h5
    ·
     refine (hQ B V dA tA sA zA cA wA xA hA bA dc tc sc zc cc wc xc hc bc hR hB hx hS hb).mono fun e w' h => ?_
     rcases h with ⟨h4, ⟨_, h5⟩ | ⟨h5, _⟩⟩
     · exact ⟨h5, h4⟩
     · exact absurd hq h5
   ·
    refine ⟨(ta : Int) + (sureA d ta hn (lo' : Int) (hi' : Int) xL Xs cs s0 : Nat) - 1, (ta : Int) + (mayA d ta hn (lo' : Int) (hi' : Int) xL Xs cs s1 : Nat) - 1, 0, fun B V dA tA sA zA cA wA xA hA bA dc tc sc zc cc wc xc hc bc U hR hB hW hF hx hS hb => ?_, fun B V dA tA sA zA cA wA xA hA bA dc tc sc zc cc wc xc hc bc hR hB hx hS hb => ?_⟩
    rotate_left
    ·
     refine (hQ B V dA tA sA zA cA wA xA hA bA dc tc sc zc cc wc xc hc bc hR hB hx hS hb).mono fun e w' h => ?_
     rcases h with ⟨h4, ⟨h5, _⟩ | ⟨_, h5⟩⟩
     · exact absurd h5 hq
     · exact ⟨h5, h4⟩
    ·
     refine (hP B V dA tA sA zA cA wA xA hA bA dc tc sc zc cc wc xc hc bc U hR hB hW hF hx hS hb).mono fun e w' h => ?_
     rcases h with ⟨h4, ⟨h5, _⟩ | ⟨_, h5⟩⟩
     · rw [leeL_at2] at h5; exact absurd h5 hq
     · rw [e1, e2] at h5; exact ⟨h5, h4⟩
 ·
  refine ⟨0, 0, (begE (M.chkD (M.chkC W H nd nt ns dep tide sw) nd nt zn cn wn z cl cu wd) (chkX nd nt at_ lo hi xL) (chkS nd nt at_ hn Xs)), fun B V dA tA sA zA cA wA xA hA bA dc tc sc zc cc wc xc hc bc U hR hB hW hF hx hS hb => ?_, fun B V dA tA sA zA cA wA xA hA bA dc tc sc zc cc wc xc hc bc hR hB hx hS hb => ?_⟩
  ·
   rw [← chkS_at (U := U)] at hE ⊢
   exact alive_bad (dc := dc) (tc := tc) (sc := sc) (zc := zc) (cc := cc) (wc := wc) (xc := xc) (hc := hc) (bc := bc) hnd hnt hns hzn hcn hwn hR hB hW hx hx4 hS hhn hE
  · exact ralive_bad (dc := dc) (tc := tc) (sc := sc) (zc := zc) (cc := cc) (wc := wc) (xc := xc) (hc := hc) (bc := bc) hnd hnt hns hzn hcn hwn hR hB hx hx4 hS hhn hE
end
end Go.Proofs.YtnbeembnnjdmdaaGreatDoor
