/- DriftWider, walked. -/
import Derived.Test.YtnbeembnnjdmdaaDoorWD
import Derived.Test.YtnbeembnnjdmdaaDoorG4
namespace Go.Proofs.YtnbeembnnjdmdaaDoor
open Go.RowKit Go.Maps
section
variable {W H : Int} {dA tA sA zA cA wA xA hA : Option Addr} {nd dc nt tc ns sc zn zc cn cc wn wc xc hn hc B : Nat} {at_ lo hi D S cQ ylo yhi : Int} {dep : Nat → Int} {tide : Nat → Nat → Int} {sw z : Nat → Int} {cl : Nat → Nat} {cu : Nat → Nat → Nat → Int} {wd : Nat → Nat → Int} {xL : List Int} {Xs : Nat → SgV} {w : World}
set_option maxRecDepth 100000 in
set_option maxHeartbeats 12800000 in
theorem driftWider_any (hnd : nd ≤ maxLen) (hnt : nt ≤ maxLen) (hns : ns ≤ maxLen) (hzn : zn ≤ maxLen) (hcn : cn ≤ maxLen) (hwn : wn ≤ maxLen) (hR : RdD w B dA tA sA zA cA wA nd nt ns zn cn wn dep tide sw z cl cu wd) (hB : B ≤ w.heap.size) (hW : Ways w)
  (hx3 : Rd1 w B xA xL.length (fun k => xL.getD k 0)) (hx4 : xL.length ≤ maxLen) (hRS : RdS w B hA hn Xs) (hhn : hn ≤ maxLen) (hF : Fre w) :
  Calls Tryd.prog 3 #[.agg #[.int .i64 W, .int .i64 H, .slice dA nd dc, .slice tA nt tc, .slice sA ns sc, .slice zA zn zc, .slice cA cn cc, .slice wA wn wc], .agg #[.int .i64 at_, .slice xA xL.length xc, .int .i64 lo, .int .i64 hi], .agg #[.slice hA hn hc, .int .i64 D, .int .i64 S, .int .i64 cQ, .int .i64 ylo, .int .i64 yhi]] w fun e w' => e = .returned (.bool true) ∧ Below w.heap.size w w' := by
 have HB0 := Lib.hid (belowAlloc3 w (.cells #[.int .i64 W, .int .i64 H, .slice dA nd dc, .slice tA nt tc, .slice sA ns sc, .slice zA zn zc, .slice cA cn cc, .slice wA wn wc] 29) (.cells #[.int .i64 at_, .slice xA xL.length xc, .int .i64 lo, .int .i64 hi] 33) (.cells #[.slice hA hn hc, .int .i64 D, .int .i64 S, .int .i64 cQ, .int .i64 ylo, .int .i64 yhi] 36))
 have K0 := Lib.hid (((Blk.new w 29 #[.int .i64 W, .int .i64 H, .slice dA nd dc, .slice tA nt tc, .slice sA ns sc, .slice zA zn zc, .slice cA cn cc, .slice wA wn wc]).alloc (.cells #[.int .i64 at_, .slice xA xL.length xc, .int .i64 lo, .int .i64 hi] 33)).alloc (.cells #[.slice hA hn hc, .int .i64 D, .int .i64 S, .int .i64 cQ, .int .i64 ylo, .int .i64 yhi] 36))
 have X0 := Lib.hid ((Blk.new1 w (.cells #[.int .i64 W, .int .i64 H, .slice dA nd dc, .slice tA nt tc, .slice sA ns sc, .slice zA zn zc, .slice cA cn cc, .slice wA wn wc] 29) 33 #[.int .i64 at_, .slice xA xL.length xc, .int .i64 lo, .int .i64 hi]).alloc (.cells #[.slice hA hn hc, .int .i64 D, .int .i64 S, .int .i64 cQ, .int .i64 ylo, .int .i64 yhi] 36))
 have Z0 := Lib.hid (Blk.new2 w (.cells #[.int .i64 W, .int .i64 H, .slice dA nd dc, .slice tA nt tc, .slice sA ns sc, .slice zA zn zc, .slice cA cn cc, .slice wA wn wc] 29) (.cells #[.int .i64 at_, .slice xA xL.length xc, .int .i64 lo, .int .i64 hi] 33) 36 #[.slice hA hn hc, .int .i64 D, .int .i64 S, .int .i64 cQ, .int .i64 ylo, .int .i64 yhi])
 have HVA := Lib.hid (fun (V : World) (hb : Below w.heap.size w V) => valid_any (dc := dc) (tc := tc) (sc := sc) (zc := zc) (cc := cc) (wc := wc) (xc := xc) (hc := hc) (W := W) (H := H) (at_ := at_) (lo := lo) (hi := hi) hnd hnt hns hzn hcn hwn (hR.below (hb.mono hB)) (Nat.le_trans hB hb.size) (hx3.below (hb.mono hB)) hx4 (hRS.below (hb.mono hB)) hhn)
 have HWK := Lib.hid (fun (V : World) (hb : Below w.heap.size w V) => works_any V (hW.below hb))
 have HRR := Lib.hid (And.intro hR (And.intro hB (And.intro hW (And.intro hF (And.intro hx3 hRS)))))
 clear hR hW hx3 hRS hF
 go_enter Tryd.func3, Tryd.ntmps3
 go_upto_region 1 with fail
 generalize ((w.alloc (.cells #[.int .i64 W, .int .i64 H, .slice dA nd dc, .slice tA nt tc, .slice sA ns sc, .slice zA zn zc, .slice cA cn cc, .slice wA wn wc] 29)).alloc (.cells #[.int .i64 at_, .slice xA xL.length xc, .int .i64 lo, .int .i64 hi] 33)).alloc (.cells #[.slice hA hn hc, .int .i64 D, .int .i64 S, .int .i64 cQ, .int .i64 ylo, .int .i64 yhi] 36) = X at HB0 K0 X0 Z0 ⊢
 simp only [Nat.add_assoc, Nat.reduceAdd] at Z0 ⊢
 have HFX := Lib.hid (HVA.out X HB0.out)
 have k0 := K0.out.cell 0
 have k1 := K0.out.cell 1
 have k2 := K0.out.cell 2
 have k3 := K0.out.cell 3
 have k4 := K0.out.cell 4
 have k5 := K0.out.cell 5
 have k6 := K0.out.cell 6
 have k7 := K0.out.cell 7
 have x0 := X0.out.cell 0
 have x1 := X0.out.cell 1
 have x2 := X0.out.cell 2
 have x3 := X0.out.cell 3
 have z0 := Z0.out.cell 0
 go_wp2_with fail
 refine HFX.out.mono ?_
 rintro e w1 ⟨⟨q, rfl, hq⟩, hb⟩
 have HB1 := Lib.hid (HB0.out.trans (hb.mono HB0.out.size))
 have K1 := Lib.hid (K0.out.below' hb)
 have X1 := Lib.hid (X0.out.below' hb)
 have Z1 := Lib.hid (Z0.out.below' hb)
 have HQ := Lib.hid hq
 clear hq HFX HVA HB0 K0 X0 Z0
 clear k0 k1 k2 k3 k4 k5 k6 k7 x0 x1 x2 x3 z0
 clear hb
 cases q
 ·
  clear K1 X1 Z1
  have HWX := Lib.hid (HWK.out w1 HB1.out)
  go_wp2_with fail
  refine HWX.out.mono ?_
  rintro e wz ⟨rfl, hb⟩
  have HBZ := Lib.hid (HB1.out.trans (hb.mono HB1.out.size))
  clear hb
  go_wp2_with fail
  go_ret
  exact ⟨rfl, HBZ.out⟩
 obtain ⟨hok, hxo, hso, hfar, hfars, h6⟩ := HQ.out rfl
 obtain ⟨d, hd, rfl, rfl, rfl, rfl, rfl, rfl, rfl, rfl, rfl, rfl, rfl, rfl, rfl, rfl, hcl⟩ := M.chkD_form hok
 have h60 := hd.s.t2
 have h1n := hd.s.t1
 have hnd2 := hd.s.nd1
 obtain ⟨⟨ha1, ha2⟩, hxl, ⟨hx1, hx2⟩, hl1, hl2, hl3⟩ := chkX_bd hxo
 obtain ⟨ta, rfl⟩ : ∃ n : Nat, at_ = (n : Int) := ⟨at_.toNat, by omega⟩
 have HVL := Lib.hid (And.intro hd (And.intro hcl (And.intro hxo (And.intro hso (And.intro hfar hfars)))))
 have hxm : xL.length ≤ 1048576 := by have := M.asc_len hx1 (fun x hx => ⟨by have := hx2 x hx; omega, (hx2 x hx).2⟩); omega
 have HXM := Lib.hid hxm
 clear hok hxo hso hfar hfars HQ hxl hx1 hx2 hd hcl hxm
 have k2 := K1.out.cell 2
 have x2 := X1.out.cell 2
 have x3 := X1.out.cell 3
 have z1 := Z1.out.cell 1
 have z2 := Z1.out.cell 2
 have z3 := Z1.out.cell 3
 have z4 := Z1.out.cell 4
 have z5 := Z1.out.cell 5
 by_cases e0 : D < 0
 ·
  have g0 : decide (D < 0) = true := decide_eq_true e0
  have HWX := Lib.hid (HWK.out w1 HB1.out)
  go_wp2_with fail
  refine HWX.out.mono ?_
  rintro e wz ⟨rfl, hb⟩
  have HBZ := Lib.hid (HB1.out.trans (hb.mono HB1.out.size))
  clear hb
  go_wp2_with fail
  go_ret
  exact ⟨rfl, HBZ.out⟩
 have g0 : decide (D < 0) = false := decide_eq_false e0
 by_cases e1 : 63 < D
 ·
  have g1 : decide (63 < D) = true := decide_eq_true e1
  have HWX := Lib.hid (HWK.out w1 HB1.out)
  go_wp2_with fail
  refine HWX.out.mono ?_
  rintro e wz ⟨rfl, hb⟩
  have HBZ := Lib.hid (HB1.out.trans (hb.mono HB1.out.size))
  clear hb
  go_wp2_with fail
  go_ret
  exact ⟨rfl, HBZ.out⟩
 have g1 : decide (63 < D) = false := decide_eq_false e1
 by_cases e2 : S < 0
 ·
  have g2 : decide (S < 0) = true := decide_eq_true e2
  have HWX := Lib.hid (HWK.out w1 HB1.out)
  go_wp2_with fail
  refine HWX.out.mono ?_
  rintro e wz ⟨rfl, hb⟩
  have HBZ := Lib.hid (HB1.out.trans (hb.mono HB1.out.size))
  clear hb
  go_wp2_with fail
  go_ret
  exact ⟨rfl, HBZ.out⟩
 have g2 : decide (S < 0) = false := decide_eq_false e2
 by_cases e3 : 3 < S
 ·
  have g3 : decide (3 < S) = true := decide_eq_true e3
  have HWX := Lib.hid (HWK.out w1 HB1.out)
  go_wp2_with fail
  refine HWX.out.mono ?_
  rintro e wz ⟨rfl, hb⟩
  have HBZ := Lib.hid (HB1.out.trans (hb.mono HB1.out.size))
  clear hb
  go_wp2_with fail
  go_ret
  exact ⟨rfl, HBZ.out⟩
 have g3 : decide (3 < S) = false := decide_eq_false e3
 by_cases e4 : ylo < 0
 ·
  have g4 : decide (ylo < 0) = true := decide_eq_true e4
  have HWX := Lib.hid (HWK.out w1 HB1.out)
  go_wp2_with fail
  refine HWX.out.mono ?_
  rintro e wz ⟨rfl, hb⟩
  have HBZ := Lib.hid (HB1.out.trans (hb.mono HB1.out.size))
  clear hb
  go_wp2_with fail
  go_ret
  exact ⟨rfl, HBZ.out⟩
 have g4 : decide (ylo < 0) = false := decide_eq_false e4
 by_cases e5 : lo < ylo
 ·
  have g5 : decide (lo < ylo) = true := decide_eq_true e5
  have HWX := Lib.hid (HWK.out w1 HB1.out)
  go_wp2_with fail
  refine HWX.out.mono ?_
  rintro e wz ⟨rfl, hb⟩
  have HBZ := Lib.hid (HB1.out.trans (hb.mono HB1.out.size))
  clear hb
  go_wp2_with fail
  go_ret
  exact ⟨rfl, HBZ.out⟩
 have g5 : decide (lo < ylo) = false := decide_eq_false e5
 by_cases e6 : yhi < hi
 ·
  have g6 : decide (yhi < hi) = true := decide_eq_true e6
  have HWX := Lib.hid (HWK.out w1 HB1.out)
  go_wp2_with fail
  refine HWX.out.mono ?_
  rintro e wz ⟨rfl, hb⟩
  have HBZ := Lib.hid (HB1.out.trans (hb.mono HB1.out.size))
  clear hb
  go_wp2_with fail
  go_ret
  exact ⟨rfl, HBZ.out⟩
 have g6 : decide (yhi < hi) = false := decide_eq_false e6
 by_cases e7 : 8 < yhi
 ·
  have g7 : decide (8 < yhi) = true := decide_eq_true e7
  have HWX := Lib.hid (HWK.out w1 HB1.out)
  go_wp2_with fail
  refine HWX.out.mono ?_
  rintro e wz ⟨rfl, hb⟩
  have HBZ := Lib.hid (HB1.out.trans (hb.mono HB1.out.size))
  clear hb
  go_wp2_with fail
  go_ret
  exact ⟨rfl, HBZ.out⟩
 have g7 : decide (8 < yhi) = false := decide_eq_false e7
 by_cases e8 : cQ < 0
 ·
  have g8 : decide (cQ < 0) = true := decide_eq_true e8
  have HWX := Lib.hid (HWK.out w1 HB1.out)
  go_wp2_with fail
  refine HWX.out.mono ?_
  rintro e wz ⟨rfl, hb⟩
  have HBZ := Lib.hid (HB1.out.trans (hb.mono HB1.out.size))
  clear hb
  go_wp2_with fail
  go_ret
  exact ⟨rfl, HBZ.out⟩
 have g8 : decide (cQ < 0) = false := decide_eq_false e8
 by_cases e9 : (d.s.nd : Int) ≤ cQ
 ·
  have g9 : decide ((d.s.nd : Int) ≤ cQ) = true := decide_eq_true e9
  have HWX := Lib.hid (HWK.out w1 HB1.out)
  go_wp2_with fail
  refine HWX.out.mono ?_
  rintro e wz ⟨rfl, hb⟩
  have HBZ := Lib.hid (HB1.out.trans (hb.mono HB1.out.size))
  clear hb
  go_wp2_with fail
  go_ret
  exact ⟨rfl, HBZ.out⟩
 have g9 : decide ((d.s.nd : Int) ≤ cQ) = false := decide_eq_false e9
 obtain ⟨cq, rfl⟩ : ∃ n : Nat, cQ = (n : Int) := ⟨cQ.toNat, by omega⟩
 have g99 : decide (d.s.nd ≤ cq) = false := decide_eq_false (by omega)
 clear g9
 go_upto_if 83 with fail
 refine wp_cond_false rfl (wp_skip ?_)
 apply_assumption
 exact wider_front HVL.out.1 HVL.out.2.1 HRR.out.1 HRR.out.2.1 HRR.out.2.2.1 HRR.out.2.2.2.1 HRR.out.2.2.2.2.1 hx4 HRR.out.2.2.2.2.2 hhn HVL.out.2.2.1 HVL.out.2.2.2.1 (by omega) (by omega) (by omega) (by omega) (by omega) (by omega) (by omega) HVL.out.2.2.2.2.1 HXM.out HB1.out K1.out X1.out Z1.out
end
end Go.Proofs.YtnbeembnnjdmdaaDoor
