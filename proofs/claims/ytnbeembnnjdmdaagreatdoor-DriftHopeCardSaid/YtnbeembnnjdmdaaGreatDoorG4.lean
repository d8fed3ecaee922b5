/- coblelaw02.valid: what a drift, a drifter and sightings must be to be looked at. -/
import Derived.Test.YtnbeembnnjdmdaaGreatDoorG3
namespace Go.Proofs.YtnbeembnnjdmdaaGreatDoor
open Go.RowKit

theorem begE_zero {ok x s : Bool} (h : begE ok x s = 0) : ok = true ∧ x = true ∧ s = true := by
  revert h
  cases ok <;> cases x <;> cases s <;> simp [begE]
/-- all is valid, and small enough -/
structure ValA (nd nt ns zn cn wn : Nat) (cl : Nat → Nat) (at_ lo hi : Int) (xL : List Int) (hn : Nat) (Xs : Nat → SgV) (ok : Bool) : Prop where
  ok : ok = true
  x : chkX nd nt at_ lo hi xL = true
  s : chkS nd nt at_ hn Xs = true
  far : FarOk nd nt ns zn cn wn cl true
  fars : FarS xL.length hn Xs
  six : hn ≤ 6
section
variable {W H : Int} {dA tA sA zA cA wA xA hA : Option Addr} {nd dc nt tc ns sc zn zc cn cc wn wc xc hn hc B : Nat} {at_ lo hi : Int} {dep : Nat → Int} {tide : Nat → Nat → Int} {sw z : Nat → Int} {cl : Nat → Nat} {cu : Nat → Nat → Nat → Int} {wd : Nat → Nat → Int} {xL : List Int} {Xs : Nat → SgV} {w : World}
set_option maxRecDepth 100000 in
set_option maxHeartbeats 6400000 in
theorem valid_any (hnd : nd ≤ maxLen) (hnt : nt ≤ maxLen) (hns : ns ≤ maxLen) (hzn : zn ≤ maxLen) (hcn : cn ≤ maxLen) (hwn : wn ≤ maxLen) (hR : RdD w B dA tA sA zA cA wA nd nt ns zn cn wn dep tide sw z cl cu wd) (hB : B ≤ w.heap.size)
    (hx3 : Rd1 w B xA xL.length (fun k => xL.getD k 0)) (hx4 : xL.length ≤ maxLen) (hRS : RdS w B hA hn Xs) (hhn : hn ≤ maxLen) :
    Calls Tryz.prog 27 #[.agg #[.int .i64 W, .int .i64 H, .slice dA nd dc, .slice tA nt tc, .slice sA ns sc, .slice zA zn zc, .slice cA cn cc, .slice wA wn wc], .agg #[.int .i64 at_, .slice xA xL.length xc, .int .i64 lo, .int .i64 hi], .slice hA hn hc] w fun e w' => (∃ q, e = .returned (.bool q) ∧ (q = true → ValA nd nt ns zn cn wn cl at_ lo hi xL hn Xs (M.chkD (M.chkC W H nd nt ns dep tide sw) nd nt zn cn wn z cl cu wd))) ∧ Below w.heap.size w w' := by
  have HB0 := Lib.hid (belowAlloc2 w (.cells #[.int .i64 W, .int .i64 H, .slice dA nd dc, .slice tA nt tc, .slice sA ns sc, .slice zA zn zc, .slice cA cn cc, .slice wA wn wc] 29) (.cells #[.int .i64 at_, .slice xA xL.length xc, .int .i64 lo, .int .i64 hi] 44))
  have K0 := Lib.hid ((Blk.new w 29 #[.int .i64 W, .int .i64 H, .slice dA nd dc, .slice tA nt tc, .slice sA ns sc, .slice zA zn zc, .slice cA cn cc, .slice wA wn wc]).alloc (.cells #[.int .i64 at_, .slice xA xL.length xc, .int .i64 lo, .int .i64 hi] 44))
  have X0 := Lib.hid (Blk.new1 w (.cells #[.int .i64 W, .int .i64 H, .slice dA nd dc, .slice tA nt tc, .slice sA ns sc, .slice zA zn zc, .slice cA cn cc, .slice wA wn wc] 29) 44 #[.int .i64 at_, .slice xA xL.length xc, .int .i64 lo, .int .i64 hi])
  have HFA := Lib.hid (fun (V : World) (hb : Below w.heap.size w V) => rfar_any (dc := dc) (tc := tc) (sc := sc) (zc := zc) (cc := cc) (wc := wc) (W := W) (H := H) hnd hnt hns hzn hcn hwn (hR.below (hb.mono hB)) (Nat.le_trans hB hb.size))
  have HFS := Lib.hid (fun (V : World) (hb : Below w.heap.size w V) => rfarseen_any at_ lo hi xA hA xL.length xc hn hc B Xs V hx4 hhn (hRS.below (hb.mono hB)) (Nat.le_trans hB hb.size))
  have hCA := fun (V : World) (hb : Below w.heap.size w V) => rcheckall_any (dc := dc) (tc := tc) (sc := sc) (zc := zc) (cc := cc) (wc := wc) (xc := xc) (hc := hc) (W := W) (H := H) (at_ := at_) (lo := lo) (hi := hi) hnd hnt hns hzn hcn hwn (hR.below (hb.mono hB)) (Nat.le_trans hB hb.size) (hx3.below (hb.mono hB)) hx4 (hRS.below (hb.mono hB)) hhn
  obtain ⟨rv, hrv⟩ : ∃ r, r = begE (M.chkD (M.chkC W H nd nt ns dep tide sw) nd nt zn cn wn z cl cu wd) (chkX nd nt at_ lo hi xL) (chkS nd nt at_ hn Xs) := ⟨_, rfl⟩
  rw [← hrv] at hCA
  have HCA := Lib.hid hCA
  have HRV := Lib.hid hrv
  have HVA := Lib.hid (fun (h1 : FarOk nd nt ns zn cn wn cl (M.chkD (M.chkC W H nd nt ns dep tide sw) nd nt zn cn wn z cl cu wd)) (h2 : FarS xL.length hn Xs) (h3 : hn ≤ 6) (h4 : rv = 0) => (show ValA nd nt ns zn cn wn cl at_ lo hi xL hn Xs (M.chkD (M.chkC W H nd nt ns dep tide sw) nd nt zn cn wn z cl cu wd) from by
    obtain ⟨e1, e2, e3⟩ := begE_zero (hrv.symm.trans h4)
    rw [e1] at h1 ⊢
    exact ⟨rfl, e2, e3, h1, h2, h3⟩))
  unfold maxLen at hhn
  clear hCA hrv hR hx3 hRS hnd hnt hns hzn hcn hwn hx4
  go_enter Tryz.func27, Tryz.ntmps27
  go_upto_region 1 with fail
  generalize (w.alloc (.cells #[.int .i64 W, .int .i64 H, .slice dA nd dc, .slice tA nt tc, .slice sA ns sc, .slice zA zn zc, .slice cA cn cc, .slice wA wn wc] 29)).alloc (.cells #[.int .i64 at_, .slice xA xL.length xc, .int .i64 lo, .int .i64 hi] 44) = X at HB0 K0 X0 ⊢
  have HFX := Lib.hid (HFA.out X HB0.out)
  have k0 := K0.out.cell 0
  have k1 := K0.out.cell 1
  have k2 := K0.out.cell 2
  have k3 := K0.out.cell 3
  have k4 := K0.out.cell 4
  have k5 := K0.out.cell 5
  have k6 := K0.out.cell 6
  have k7 := K0.out.cell 7
  have x0 := X0.out.cell 0
  have x1 := X0.out.cell 1
  have x2 := X0.out.cell 2
  have x3 := X0.out.cell 3
  go_wp2_with fail
  refine HFX.out.mono ?_
  rintro e w1 ⟨⟨q, rfl, hq⟩, hb⟩
  have HB1 := Lib.hid (HB0.out.trans (hb.mono HB0.out.size))
  have K1 := Lib.hid (K0.out.below' hb)
  have X1 := Lib.hid (X0.out.below' hb)
  have HQ1 := Lib.hid hq
  clear k0 k1 k2 k3 k4 k5 k6 k7 x0 x1 x2 x3
  clear hb hq K0 X0 HB0 HFX HFA
  have k0 := K1.out.cell 0
  have k1 := K1.out.cell 1
  have k2 := K1.out.cell 2
  have k3 := K1.out.cell 3
  have k4 := K1.out.cell 4
  have k5 := K1.out.cell 5
  have k6 := K1.out.cell 6
  have k7 := K1.out.cell 7
  have x0 := X1.out.cell 0
  have x1 := X1.out.cell 1
  have x2 := X1.out.cell 2
  have x3 := X1.out.cell 3
  cases q
  rotate_left
  · go_wp2_with fail
    go_ret
    exact ⟨⟨false, rfl, fun h => by cases h⟩, HB1.out⟩
  have HFY := Lib.hid (HFS.out w1 HB1.out)
  go_wp2_with fail
  refine HFY.out.mono ?_
  rintro e w2 ⟨⟨q, rfl, hq⟩, hb⟩
  have HB2 := Lib.hid (HB1.out.trans (hb.mono HB1.out.size))
  have K2 := Lib.hid (K1.out.below' hb)
  have X2 := Lib.hid (X1.out.below' hb)
  have HQ2 := Lib.hid hq
  clear k0 k1 k2 k3 k4 k5 k6 k7 x0 x1 x2 x3
  clear hb hq K1 X1 HFY HFS
  have k0 := K2.out.cell 0
  have k1 := K2.out.cell 1
  have k2 := K2.out.cell 2
  have k3 := K2.out.cell 3
  have k4 := K2.out.cell 4
  have k5 := K2.out.cell 5
  have k6 := K2.out.cell 6
  have k7 := K2.out.cell 7
  have x0 := X2.out.cell 0
  have x1 := X2.out.cell 1
  have x2 := X2.out.cell 2
  have x3 := X2.out.cell 3
  cases q
  rotate_left
  · go_wp2_with fail
    go_ret
    exact ⟨⟨false, rfl, fun h => by cases h⟩, HB2.out⟩
  by_cases h6 : hn ≤ 6
  rotate_left
  · have i6 : decide ((hn : Int) ≤ 6) = false := decide_eq_false (by omega)
    clear h6
    go_wp2_with fail
    go_ret
    exact ⟨⟨false, rfl, fun h => by cases h⟩, HB2.out⟩
  have i6 : decide ((hn : Int) ≤ 6) = true := decide_eq_true (by omega)
  have H6 := Lib.hid h6
  have HCX := Lib.hid (HCA.out w2 HB2.out)
  clear h6
  go_wp2_with fail
  refine HCX.out.mono ?_
  rintro e w3 ⟨rfl, hb⟩
  have HB3 := Lib.hid (HB2.out.trans (hb.mono HB2.out.size))
  clear hb
  by_cases h0 : rv = 0
  · have g0 : (rv == 0) = true := by simpa using h0
    have H0 := Lib.hid h0
    clear h0
    go_wp2_with fail
    go_ret
    exact ⟨⟨true, rfl, fun _ => HVA.out (HQ1.out trivial) (HQ2.out trivial) H6.out H0.out⟩, HB3.out⟩
  · have g0 : (rv == 0) = false := by simpa using h0
    clear h0
    go_wp2_with fail
    go_ret
    exact ⟨⟨false, rfl, fun h => by cases h⟩, HB3.out⟩
end
end Go.Proofs.YtnbeembnnjdmdaaGreatDoor
