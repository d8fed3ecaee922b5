/- The reference of layer 2: CheckAll. -/
import Derived.Test.YtnbeembnnjdmdaaGreatDoorG2
namespace Go.Proofs.YtnbeembnnjdmdaaGreatDoor
open Go.RowKit

def begE (ok x s : Bool) : Int := if ok = true then (if x = true then (if s = true then 0 else 22) else 21) else 20
section
variable {W H : Int} {dA tA sA zA cA wA xA hA : Option Addr} {nd dc nt tc ns sc zn zc cn cc wn wc xc hn hc B : Nat} {at_ lo hi : Int} {dep : Nat → Int} {tide : Nat → Nat → Int} {sw z : Nat → Int} {cl : Nat → Nat} {cu : Nat → Nat → Nat → Int} {wd : Nat → Nat → Int} {xL : List Int} {Xs : Nat → SgV} {w : World}
set_option maxRecDepth 100000 in
set_option maxHeartbeats 6400000 in
theorem rcheckall_any (hnd : nd ≤ maxLen) (hnt : nt ≤ maxLen) (hns : ns ≤ maxLen) (hzn : zn ≤ maxLen) (hcn : cn ≤ maxLen) (hwn : wn ≤ maxLen) (hR : RdD w B dA tA sA zA cA wA nd nt ns zn cn wn dep tide sw z cl cu wd) (hB : B ≤ w.heap.size)
  (hx3 : Rd1 w B xA xL.length (fun k => xL.getD k 0)) (hx4 : xL.length ≤ maxLen) (hRS : RdS w B hA hn Xs) (hhn : hn ≤ maxLen) :
  Calls Tryz.prog 58 #[.agg #[.int .i64 W, .int .i64 H, .slice dA nd dc, .slice tA nt tc, .slice sA ns sc, .slice zA zn zc, .slice cA cn cc, .slice wA wn wc], .agg #[.int .i64 at_, .slice xA xL.length xc, .int .i64 lo, .int .i64 hi], .slice hA hn hc] w fun e w' => e = .returned (.int .i64 (begE (M.chkD (M.chkC W H nd nt ns dep tide sw) nd nt zn cn wn z cl cu wd) (chkX nd nt at_ lo hi xL) (chkS nd nt at_ hn Xs))) ∧ Below w.heap.size w w' := by
 have HB0 := Lib.hid (belowAlloc2 w (.cells #[.int .i64 W, .int .i64 H, .slice dA nd dc, .slice tA nt tc, .slice sA ns sc, .slice zA zn zc, .slice cA cn cc, .slice wA wn wc] 29) (.cells #[.int .i64 at_, .slice xA xL.length xc, .int .i64 lo, .int .i64 hi] 44))
 have K0 := Lib.hid ((Blk.new w 29 #[.int .i64 W, .int .i64 H, .slice dA nd dc, .slice tA nt tc, .slice sA ns sc, .slice zA zn zc, .slice cA cn cc, .slice wA wn wc]).alloc (.cells #[.int .i64 at_, .slice xA xL.length xc, .int .i64 lo, .int .i64 hi] 44))
 have X0 := Lib.hid (Blk.new1 w (.cells #[.int .i64 W, .int .i64 H, .slice dA nd dc, .slice tA nt tc, .slice sA ns sc, .slice zA zn zc, .slice cA cn cc, .slice wA wn wc] 29) 44 #[.int .i64 at_, .slice xA xL.length xc, .int .i64 lo, .int .i64 hi])
 have hCK := rdchk_any (dc := dc) (tc := tc) (sc := sc) (zc := zc) (cc := cc) (wc := wc) (W := W) (H := H) hnd hnt hns hzn hcn hwn (hR.below (HB0.out.mono hB)) (Nat.le_trans hB HB0.out.size)
 have HAR := Lib.hid (fun (V : World) (hb : Below w.heap.size w V) => rarecells_any (W := W) (H := H) (dA := dA) (dc := dc) (tA := tA) (nt := nt) (tc := tc) (sA := sA) (ns := ns) (sc := sc) (zA := zA) (zn := zn) (zc := zc) (cA := cA) (cn := cn) (cc := cc) (wA := wA) (wn := wn) (wc := wc) xA xL.length xc (fun k => xL.getD k 0) hx4 (hx3.below (hb.mono hB)) (Nat.le_trans hB hb.size) hnd)
 have HAS := Lib.hid (fun (V : World) (hb : Below w.heap.size w V) (A : Option Addr) (L : List Int) (c : Nat) (hr : Rd1 V B A L.length (fun k => L.getD k 0)) (hl : L.length ≤ maxLen) => rarecells_any (W := W) (H := H) (dA := dA) (dc := dc) (tA := tA) (nt := nt) (tc := tc) (sA := sA) (ns := ns) (sc := sc) (zA := zA) (zn := zn) (zc := zc) (cA := cA) (cn := cn) (cc := cc) (wA := wA) (wn := wn) (wc := wc) A L.length c (fun k => L.getD k 0) hl hr (Nat.le_trans hB hb.size) hnd)
 have HRS := Lib.hid (fun (V : World) (hb : Below w.heap.size w V) => hRS.below (hb.mono hB))
 obtain ⟨ok, hok⟩ : ∃ q, M.chkD (M.chkC W H nd nt ns dep tide sw) nd nt zn cn wn z cl cu wd = q := ⟨_, rfl⟩
 rw [hok] at hCK
 rw [hok]
 obtain ⟨qx, hqx⟩ : ∃ q, chkX nd nt at_ lo hi xL = q := ⟨_, rfl⟩
 obtain ⟨qs, hqs⟩ : ∃ q, chkS nd nt at_ hn Xs = q := ⟨_, rfl⟩
 rw [hqx, hqs]
 unfold chkX at hqx
 obtain ⟨rv, hrv⟩ : ∃ r, r = begE ok qx qs := ⟨_, rfl⟩
 rw [← hrv]
 have HRV := Lib.hid hrv
 have HQS := Lib.hid hqs
 obtain ⟨q3, hq3⟩ : ∃ q, M.ascF nd xL.length (fun k => xL.getD k 0) = q := ⟨_, rfl⟩
 rw [hq3] at HAR hqx
 obtain ⟨b1, hb1⟩ : ∃ q, M.inB 0 ((nt : Int) - 1) at_ = q := ⟨_, rfl⟩
 obtain ⟨b2, hb2⟩ : ∃ q, ((xL.length : Int) == 0) = q := ⟨_, rfl⟩
 obtain ⟨b4, hb4⟩ : ∃ q, M.inB 0 hi lo = q := ⟨_, rfl⟩
 obtain ⟨b5, hb5⟩ : ∃ q, decide ((8 : Int) < hi) = q := ⟨_, rfl⟩
 have e2 : (xL.length == 0) = b2 := by
  rw [← hb2, Bool.eq_iff_iff, beq_iff_eq, beq_iff_eq]; omega
 have e5 : decide (hi ≤ 8) = !b5 := by
  rw [← hb5]
  by_cases h : hi ≤ 8
  · rw [decide_eq_true h, decide_eq_false (by omega)]; rfl
  · rw [decide_eq_false h, decide_eq_true (by omega)]; rfl
 rw [hb1, e2, e5, show (decide (0 ≤ lo) && decide (lo ≤ hi)) = b4 from hb4] at hqx
 have HQX := Lib.hid hqx
 have HX5 := Lib.hid hb5
 unfold maxLen at hnd hnt hns hzn hcn hwn hx4 hhn
 clear hrv hqx hqs hok hR hx3 hRS hq3 e2 e5
 cases ok
 ·
  rw [if_neg (by simp)] at hCK
  have HCK := Lib.hid hCK
  clear hCK
  go_enter Tryz.func58, Tryz.ntmps58
  go_wp2_with (go_at_call 18; go_must (refine HCK.out.mono ?_); rintro e w1 ⟨rfl, hb⟩; have HB1 := Lib.hid (HB0.out.trans (hb.mono HB0.out.size)); clear hb)
  go_ret
  exact ⟨by rw [HRV.out]; rfl, HB1.out⟩
 rw [if_pos rfl] at hCK
 have HCK := Lib.hid hCK
 clear hCK
 cases b1
 ·
  have HCX := Lib.hid (show qx = false by rw [← HQX.out]; rfl)
  go_enter Tryz.func58, Tryz.ntmps58
  go_upto_region 3 with (go_at_call 18; go_must (refine HCK.out.mono ?_); rintro e w1 ⟨rfl, hb⟩; have HB1 := Lib.hid (HB0.out.trans (hb.mono HB0.out.size)); have K1 := Lib.hid (K0.out.below' hb); have X1 := Lib.hid (X0.out.below' hb); clear hb; obtain ⟨k0, k1, k2, k3, k4, k5, k6, k7⟩ := K1.out.c8; obtain ⟨x0, x1, x2⟩ := X1.out.c3; have x3 := X1.out.cell 3)
  go_wp2_with (first | (go_at_call 50; refine (rin_any _ _ _ _).mono ?_; rintro e w9 ⟨rfl, rfl⟩) | (go_at_call 100; go_must (refine (HAR.out _ HB1.out).mono ?_); rintro e w2 ⟨rfl, hb⟩; have HB2 := Lib.hid (HB1.out.trans (hb.mono HB1.out.size)); have K2 := Lib.hid (K1.out.below' hb); have X2 := Lib.hid (X1.out.below' hb); clear hb k0 k1 k2 k3 k4 k5 k6 k7 x0 x1 x2 x3; have k3 := K2.out.cell 3; obtain ⟨x0, x1, x2⟩ := X2.out.c3; have x3 := X2.out.cell 3))
  go_ret
  exact ⟨by rw [HRV.out, HCX.out]; rfl, HB1.out⟩
 cases b2
 rotate_left
 ·
  have HCX := Lib.hid (show qx = false by rw [← HQX.out]; rfl)
  go_enter Tryz.func58, Tryz.ntmps58
  go_upto_region 3 with (go_at_call 18; go_must (refine HCK.out.mono ?_); rintro e w1 ⟨rfl, hb⟩; have HB1 := Lib.hid (HB0.out.trans (hb.mono HB0.out.size)); have K1 := Lib.hid (K0.out.below' hb); have X1 := Lib.hid (X0.out.below' hb); clear hb; obtain ⟨k0, k1, k2, k3, k4, k5, k6, k7⟩ := K1.out.c8; obtain ⟨x0, x1, x2⟩ := X1.out.c3; have x3 := X1.out.cell 3)
  go_wp2_with (first | (go_at_call 50; refine (rin_any _ _ _ _).mono ?_; rintro e w9 ⟨rfl, rfl⟩) | (go_at_call 100; go_must (refine (HAR.out _ HB1.out).mono ?_); rintro e w2 ⟨rfl, hb⟩; have HB2 := Lib.hid (HB1.out.trans (hb.mono HB1.out.size)); have K2 := Lib.hid (K1.out.below' hb); have X2 := Lib.hid (X1.out.below' hb); clear hb k0 k1 k2 k3 k4 k5 k6 k7 x0 x1 x2 x3; have k3 := K2.out.cell 3; obtain ⟨x0, x1, x2⟩ := X2.out.c3; have x3 := X2.out.cell 3))
  go_ret
  exact ⟨by rw [HRV.out, HCX.out]; rfl, HB1.out⟩
 cases q3
 ·
  have HCX := Lib.hid (show qx = false by rw [← HQX.out]; rfl)
  go_enter Tryz.func58, Tryz.ntmps58
  go_upto_region 3 with (go_at_call 18; go_must (refine HCK.out.mono ?_); rintro e w1 ⟨rfl, hb⟩; have HB1 := Lib.hid (HB0.out.trans (hb.mono HB0.out.size)); have K1 := Lib.hid (K0.out.below' hb); have X1 := Lib.hid (X0.out.below' hb); clear hb; obtain ⟨k0, k1, k2, k3, k4, k5, k6, k7⟩ := K1.out.c8; obtain ⟨x0, x1, x2⟩ := X1.out.c3; have x3 := X1.out.cell 3)
  go_wp2_with (first | (go_at_call 50; refine (rin_any _ _ _ _).mono ?_; rintro e w9 ⟨rfl, rfl⟩) | (go_at_call 100; go_must (refine (HAR.out _ HB1.out).mono ?_); rintro e w2 ⟨rfl, hb⟩; have HB2 := Lib.hid (HB1.out.trans (hb.mono HB1.out.size)); have K2 := Lib.hid (K1.out.below' hb); have X2 := Lib.hid (X1.out.below' hb); clear hb k0 k1 k2 k3 k4 k5 k6 k7 x0 x1 x2 x3; have k3 := K2.out.cell 3; obtain ⟨x0, x1, x2⟩ := X2.out.c3; have x3 := X2.out.cell 3))
  go_ret
  exact ⟨by rw [HRV.out, HCX.out]; rfl, HB2.out⟩
 cases b4
 ·
  have HCX := Lib.hid (show qx = false by rw [← HQX.out]; rfl)
  go_enter Tryz.func58, Tryz.ntmps58
  go_upto_region 3 with (go_at_call 18; go_must (refine HCK.out.mono ?_); rintro e w1 ⟨rfl, hb⟩; have HB1 := Lib.hid (HB0.out.trans (hb.mono HB0.out.size)); have K1 := Lib.hid (K0.out.below' hb); have X1 := Lib.hid (X0.out.below' hb); clear hb; obtain ⟨k0, k1, k2, k3, k4, k5, k6, k7⟩ := K1.out.c8; obtain ⟨x0, x1, x2⟩ := X1.out.c3; have x3 := X1.out.cell 3)
  go_wp2_with (first | (go_at_call 50; refine (rin_any _ _ _ _).mono ?_; rintro e w9 ⟨rfl, rfl⟩) | (go_at_call 100; go_must (refine (HAR.out _ HB1.out).mono ?_); rintro e w2 ⟨rfl, hb⟩; have HB2 := Lib.hid (HB1.out.trans (hb.mono HB1.out.size)); have K2 := Lib.hid (K1.out.below' hb); have X2 := Lib.hid (X1.out.below' hb); clear hb k0 k1 k2 k3 k4 k5 k6 k7 x0 x1 x2 x3; have k3 := K2.out.cell 3; obtain ⟨x0, x1, x2⟩ := X2.out.c3; have x3 := X2.out.cell 3))
  go_ret
  exact ⟨by rw [HRV.out, HCX.out]; rfl, HB2.out⟩
 cases b5
 rotate_left
 ·
  have HCX := Lib.hid (show qx = false by rw [← HQX.out]; rfl)
  go_enter Tryz.func58, Tryz.ntmps58
  go_upto_region 3 with (go_at_call 18; go_must (refine HCK.out.mono ?_); rintro e w1 ⟨rfl, hb⟩; have HB1 := Lib.hid (HB0.out.trans (hb.mono HB0.out.size)); have K1 := Lib.hid (K0.out.below' hb); have X1 := Lib.hid (X0.out.below' hb); clear hb; obtain ⟨k0, k1, k2, k3, k4, k5, k6, k7⟩ := K1.out.c8; obtain ⟨x0, x1, x2⟩ := X1.out.c3; have x3 := X1.out.cell 3)
  go_wp2_with (first | (go_at_call 50; refine (rin_any _ _ _ _).mono ?_; rintro e w9 ⟨rfl, rfl⟩) | (go_at_call 100; go_must (refine (HAR.out _ HB1.out).mono ?_); rintro e w2 ⟨rfl, hb⟩; have HB2 := Lib.hid (HB1.out.trans (hb.mono HB1.out.size)); have K2 := Lib.hid (K1.out.below' hb); have X2 := Lib.hid (X1.out.below' hb); clear hb k0 k1 k2 k3 k4 k5 k6 k7 x0 x1 x2 x3; have k3 := K2.out.cell 3; obtain ⟨x0, x1, x2⟩ := X2.out.c3; have x3 := X2.out.cell 3))
  go_ret
  exact ⟨by rw [HRV.out, HCX.out]; rfl, HB2.out⟩
 have HCX := Lib.hid (show qx = true by rw [← HQX.out]; rfl)
 go_enter Tryz.func58, Tryz.ntmps58
 go_upto_region 3 with (go_at_call 18; go_must (refine HCK.out.mono ?_); rintro e w1 ⟨rfl, hb⟩; have HB1 := Lib.hid (HB0.out.trans (hb.mono HB0.out.size)); have K1 := Lib.hid (K0.out.below' hb); have X1 := Lib.hid (X0.out.below' hb); clear hb; obtain ⟨k0, k1, k2, k3, k4, k5, k6, k7⟩ := K1.out.c8; obtain ⟨x0, x1, x2⟩ := X1.out.c3; have x3 := X1.out.cell 3)
 go_upto_region 5 with (first | (go_at_call 50; refine (rin_any _ _ _ _).mono ?_; rintro e w9 ⟨rfl, rfl⟩) | (go_at_call 100; go_must (refine (HAR.out _ HB1.out).mono ?_); rintro e w2 ⟨rfl, hb⟩; have HB2 := Lib.hid (HB1.out.trans (hb.mono HB1.out.size)); have K2 := Lib.hid (K1.out.below' hb); have X2 := Lib.hid (X1.out.below' hb); clear hb k0 k1 k2 k3 k4 k5 k6 k7 x0 x1 x2 x3; have k3 := K2.out.cell 3; obtain ⟨x0, x1, x2⟩ := X2.out.c3; have x3 := X2.out.cell 3))
 clear k3 x0 x1 x2 x3
 have HBN := Lib.hid HB2.out
 have K3 := Lib.hid (show Blk _ w.heap.size 29 #[.int .i64 W, .int .i64 H, .slice dA nd dc, .slice tA nt tc, .slice sA ns sc, .slice zA zn zc, .slice cA cn cc, .slice wA wn wc] from K2.out)
 have X3 := Lib.hid (show Blk _ (w.heap.size + 1) 44 #[.int .i64 at_, .slice xA xL.length xc, .int .i64 lo, .int .i64 hi] from X2.out)
 by_cases h12 : 12 < hn
 ·
  have i12 : decide ((12 : Int) < (hn : Int)) = true := decide_eq_true (by omega)
  have HCS := Lib.hid (show qs = false from by rw [← HQS.out]; unfold chkS; rw [decide_eq_false (by omega)]; rfl)
  clear h12
  go_wp2_with fail
  go_ret
  exact ⟨by rw [HRV.out, HCX.out, HCS.out]; rfl, HBN.out⟩
 ·
  have i12 : decide ((12 : Int) < (hn : Int)) = false := decide_eq_false (by omega)
  have HQ2 := Lib.hid (show qs = M.allTo hn (fun i => M.inB at_ ((nt : Int) - 1) (Xs i).tk && M.ascF nd (Xs i).L.length (fun k => (Xs i).L.getD k 0)) from by rw [← HQS.out]; unfold chkS; rw [decide_eq_true (by omega)]; rfl)
  go_wp2_with fail
  go_loopw [7] (fun i wr => ∃ k : Nat, k ≤ hn ∧ i = .int .i64 (k : Int) ∧ Hid (M.allTo k (fun i => M.inB at_ ((nt : Int) - 1) (Xs i).tk && M.ascF nd (Xs i).L.length (fun k => (Xs i).L.getD k 0)) = true) ∧ Hid (Below w9.heap.size w9 wr)) (fun i _ => hn - (intOf i).toNat)
  case atStart => exact ⟨0, Nat.zero_le _, rfl, Lib.hid rfl, Lib.hid (Below.refl _ _)⟩
  case round =>
   obtain ⟨k, hk, rfl, HF, HBX⟩ := hrel
   have HBR := Lib.hid (HBN.out.trans (HBX.out.mono HBN.out.size))
   have K2 := Lib.hid (K3.out.below' HBX.out)
   have X2 := Lib.hid (X3.out.below' HBX.out)
   by_cases hlt : k < hn
   ·
    obtain ⟨b, off, rfl, hb, c0, c1, c2, hrd, hl⟩ := (HRS.out wr HBR.out).at_ hlt
    have hbl : b < wr.heap.size := Nat.lt_of_lt_of_le hb (Nat.le_trans hB HBR.out.size)
    have kx : decide (hn ≤ k) = false := decide_eq_false (by omega)
    have qw : IntKind.i64.wrap ((nt : Int) - 1) = (nt : Int) - 1 := by rw [IntKind.wrap_i64]; omega
    have HNO := Lib.hid (fun h : (M.inB at_ ((nt : Int) - 1) (Xs k).tk && M.ascF nd (Xs k).L.length (fun j => (Xs k).L.getD j 0)) = false => (show qs = false by rw [HQ2.out, M.allTo_no (n := hn) (p := fun i => M.inB at_ ((nt : Int) - 1) (Xs i).tk && M.ascF nd (Xs i).L.length (fun k => (Xs i).L.getD k 0)) hlt h]))
    have HA := Lib.hid (show M.allTo (k + 1) (fun i => M.inB at_ ((nt : Int) - 1) (Xs i).tk && M.ascF nd (Xs i).L.length (fun k => (Xs i).L.getD k 0)) = (M.allTo k (fun i => M.inB at_ ((nt : Int) - 1) (Xs i).tk && M.ascF nd (Xs i).L.length (fun k => (Xs i).L.getD k 0)) && (M.inB at_ ((nt : Int) - 1) (Xs k).tk && M.ascF nd (Xs k).L.length (fun j => (Xs k).L.getD j 0))) from rfl)
    have hAC := fun (V : World) (hS : Below wr.heap.size wr V) => HAS.out V (HBR.out.trans (hS.mono HBR.out.size)) (Xs k).A (Xs k).L (Xs k).c (hrd.below (hS.mono (Nat.le_trans hB HBR.out.size))) hl
    obtain ⟨qa, hqa⟩ : ∃ q, M.ascF nd (Xs k).L.length (fun j => (Xs k).L.getD j 0) = q := ⟨_, rfl⟩
    obtain ⟨qi, hqi⟩ : ∃ q, M.inB at_ ((nt : Int) - 1) (Xs k).tk = q := ⟨_, rfl⟩
    rw [hqa] at hAC HNO HA
    rw [hqi] at HNO HA
    have HAC := Lib.hid hAC
    have HWI := Lib.hid (fun V => rin_v V hqi)
    clear hqa hqi hAC hrd hl c2
    generalize (Xs k).L.length = m at c1 HAC
    generalize (Xs k).tk = tk at c0 HWI
    generalize (Xs k).A = sA' at c1 HAC
    generalize (Xs k).c = sc' at c1 HAC
    cases qi
    ·
     have HCS := Lib.hid (HNO.out rfl)
     go_upto_region 10 with fail
     refine wp_nopanic ?_
     refine wp_region_T 23 (fun w' => Below wr.heap.size wr w') (by kernel_rfl) (Below.refl _ _).drew ?_
     intro hS
     refine tkA (i := 0) (v := ?_) rfl (by kernel_rfl) (.inl ⟨by kernel_rfl, ?_⟩) hS ?_
     rotate_left
     · (intro w' hw; obtain ⟨x0, x1⟩ := (X2.out.below' hw).c2; obtain ⟨d0, d1, d2, d3, d4, d5, d6, d7⟩ := (K2.out.below' hw).c8; have r0 := (hw.cell (p := ⟨b, off + k * 3, none⟩) hbl).trans c0; have r1 := (hw.cell (p := ⟨b, off + k * 3 + 1, none⟩) hbl).trans c1; go_simp; try with_reducible rfl)
     try simp only [put_laws]
     refine tkA (i := 1) (v := ?_) rfl (by kernel_rfl) (.inl ⟨by kernel_rfl, ?_⟩) hS ?_
     rotate_left
     · (intro w' hw; obtain ⟨x0, x1⟩ := (X2.out.below' hw).c2; obtain ⟨d0, d1, d2, d3, d4, d5, d6, d7⟩ := (K2.out.below' hw).c8; have r0 := (hw.cell (p := ⟨b, off + k * 3, none⟩) hbl).trans c0; have r1 := (hw.cell (p := ⟨b, off + k * 3 + 1, none⟩) hbl).trans c1; go_simp; try with_reducible rfl)
     try simp only [put_laws]
     refine tkA (i := 2) (v := ?_) rfl (by kernel_rfl) (.inl ⟨by kernel_rfl, ?_⟩) hS ?_
     rotate_left
     · (intro w' hw; obtain ⟨x0, x1⟩ := (X2.out.below' hw).c2; obtain ⟨d0, d1, d2, d3, d4, d5, d6, d7⟩ := (K2.out.below' hw).c8; have r0 := (hw.cell (p := ⟨b, off + k * 3, none⟩) hbl).trans c0; have r1 := (hw.cell (p := ⟨b, off + k * 3 + 1, none⟩) hbl).trans c1; go_simp; try with_reducible rfl)
     try simp only [put_laws]
     refine tkA (i := 3) (v := ?_) rfl (by kernel_rfl) (.inl ⟨by kernel_rfl, ?_⟩) hS ?_
     rotate_left
     · (intro w' hw; obtain ⟨x0, x1⟩ := (X2.out.below' hw).c2; obtain ⟨d0, d1, d2, d3, d4, d5, d6, d7⟩ := (K2.out.below' hw).c8; have r0 := (hw.cell (p := ⟨b, off + k * 3, none⟩) hbl).trans c0; have r1 := (hw.cell (p := ⟨b, off + k * 3 + 1, none⟩) hbl).trans c1; go_simp; try with_reducible rfl)
     try simp only [put_laws]
     refine tkA (i := 4) (v := ?_) rfl (by kernel_rfl) (.inl ⟨by kernel_rfl, ?_⟩) hS ?_
     rotate_left
     · (intro w' hw; obtain ⟨x0, x1⟩ := (X2.out.below' hw).c2; obtain ⟨d0, d1, d2, d3, d4, d5, d6, d7⟩ := (K2.out.below' hw).c8; have r0 := (hw.cell (p := ⟨b, off + k * 3, none⟩) hbl).trans c0; have r1 := (hw.cell (p := ⟨b, off + k * 3 + 1, none⟩) hbl).trans c1; go_simp; try with_reducible rfl)
     try simp only [put_laws]
     refine tkA (i := 5) (v := ?_) rfl (by kernel_rfl) (.inl ⟨by kernel_rfl, ?_⟩) hS ?_
     rotate_left
     · (intro w' hw; obtain ⟨x0, x1⟩ := (X2.out.below' hw).c2; obtain ⟨d0, d1, d2, d3, d4, d5, d6, d7⟩ := (K2.out.below' hw).c8; have r0 := (hw.cell (p := ⟨b, off + k * 3, none⟩) hbl).trans c0; have r1 := (hw.cell (p := ⟨b, off + k * 3 + 1, none⟩) hbl).trans c1; go_simp; try with_reducible rfl)
     try simp only [put_laws]
     refine tkA (i := 6) (v := ?_) rfl (by kernel_rfl) (.inl ⟨by kernel_rfl, ?_⟩) hS ?_
     rotate_left
     · (intro w' hw; obtain ⟨x0, x1⟩ := (X2.out.below' hw).c2; obtain ⟨d0, d1, d2, d3, d4, d5, d6, d7⟩ := (K2.out.below' hw).c8; have r0 := (hw.cell (p := ⟨b, off + k * 3, none⟩) hbl).trans c0; have r1 := (hw.cell (p := ⟨b, off + k * 3 + 1, none⟩) hbl).trans c1; go_simp; try with_reducible rfl)
     try simp only [put_laws]
     refine tkA (i := 7) (v := ?_) rfl (by kernel_rfl) (.inl ⟨by kernel_rfl, ?_⟩) hS ?_
     rotate_left
     · (intro w' hw; obtain ⟨x0, x1⟩ := (X2.out.below' hw).c2; obtain ⟨d0, d1, d2, d3, d4, d5, d6, d7⟩ := (K2.out.below' hw).c8; have r0 := (hw.cell (p := ⟨b, off + k * 3, none⟩) hbl).trans c0; have r1 := (hw.cell (p := ⟨b, off + k * 3 + 1, none⟩) hbl).trans c1; go_simp; try with_reducible rfl)
     try simp only [put_laws]
     refine tkA (i := 8) (v := ?_) rfl (by kernel_rfl) (.inl ⟨by kernel_rfl, ?_⟩) hS ?_
     rotate_left
     · (intro w' hw; obtain ⟨x0, x1⟩ := (X2.out.below' hw).c2; obtain ⟨d0, d1, d2, d3, d4, d5, d6, d7⟩ := (K2.out.below' hw).c8; have r0 := (hw.cell (p := ⟨b, off + k * 3, none⟩) hbl).trans c0; have r1 := (hw.cell (p := ⟨b, off + k * 3 + 1, none⟩) hbl).trans c1; go_simp; try with_reducible rfl)
     try simp only [put_laws]
     refine tkA (i := 9) (v := ?_) rfl (by kernel_rfl) (.inl ⟨by kernel_rfl, ?_⟩) hS ?_
     rotate_left
     · (intro w' hw; obtain ⟨x0, x1⟩ := (X2.out.below' hw).c2; obtain ⟨d0, d1, d2, d3, d4, d5, d6, d7⟩ := (K2.out.below' hw).c8; have r0 := (hw.cell (p := ⟨b, off + k * 3, none⟩) hbl).trans c0; have r1 := (hw.cell (p := ⟨b, off + k * 3 + 1, none⟩) hbl).trans c1; go_simp; try with_reducible rfl)
     try simp only [put_laws]
     refine tkA (i := 10) (v := ?_) rfl (by kernel_rfl) (.inl ⟨by kernel_rfl, ?_⟩) hS ?_
     rotate_left
     · (intro w' hw; obtain ⟨x0, x1⟩ := (X2.out.below' hw).c2; obtain ⟨d0, d1, d2, d3, d4, d5, d6, d7⟩ := (K2.out.below' hw).c8; have r0 := (hw.cell (p := ⟨b, off + k * 3, none⟩) hbl).trans c0; have r1 := (hw.cell (p := ⟨b, off + k * 3 + 1, none⟩) hbl).trans c1; go_simp; try with_reducible rfl)
     try simp only [put_laws]
     refine tkA (i := 11) (v := ?_) rfl (by kernel_rfl) (.inl ⟨by kernel_rfl, ?_⟩) hS ?_
     rotate_left
     · (intro w' hw; obtain ⟨x0, x1⟩ := (X2.out.below' hw).c2; obtain ⟨d0, d1, d2, d3, d4, d5, d6, d7⟩ := (K2.out.below' hw).c8; have r0 := (hw.cell (p := ⟨b, off + k * 3, none⟩) hbl).trans c0; have r1 := (hw.cell (p := ⟨b, off + k * 3 + 1, none⟩) hbl).trans c1; go_simp; try with_reducible rfl)
     try simp only [put_laws]
     refine wpAnyT_one (i := 12) (by kernel_rfl) rfl ?_
     intro K' hK'
     go_simp
     refine (HWI.out _).mono ?_
     rintro e w9 ⟨rfl, hw9⟩
     subst hw9
     refine hK'.out _ _ (.inr hS) ?_
     clear hK' K'
     try simp only [put_laws]
     refine wpAnyT_one (i := 13) (by kernel_rfl) rfl ?_
     intro K' hK'
     go_simp
     refine hK'.out _ _ (.inr hS) ?_
     clear hK' K'
     try simp only [put_laws]
     refine wpAnyT_one (i := 14) (by kernel_rfl) rfl ?_
     intro K' hK'
     go_simp
     refine hK'.out _ _ (.inr hS) ?_
     clear hK' K'
     try simp only [put_laws]
     refine tkA (i := 15) (v := undef) rfl (by kernel_rfl) (.inr ⟨by kernel_rfl, rfl⟩) hS ?_
     try simp only [put_laws]
     refine tkA (i := 16) (v := undef) rfl (by kernel_rfl) (.inr ⟨by kernel_rfl, rfl⟩) hS ?_
     try simp only [put_laws]
     refine tkA (i := 17) (v := undef) rfl (by kernel_rfl) (.inr ⟨by kernel_rfl, rfl⟩) hS ?_
     try simp only [put_laws]
     refine wpAnyT_one (i := 18) (by kernel_rfl) rfl ?_
     intro K' hK'
     go_simp
     refine hK'.out _ _ (.inr hS) ?_
     clear hK' K'
     try simp only [put_laws]
     refine wpAnyT_one (i := 19) (by kernel_rfl) rfl ?_
     intro K' hK'
     go_simp
     refine hK'.out _ _ (.inr hS) ?_
     clear hK' K'
     try simp only [put_laws]
     refine wpAnyT_one (i := 20) (by kernel_rfl) rfl ?_
     intro K' hK'
     go_simp
     refine hK'.out _ _ (.inr hS) ?_
     clear hK' K'
     try simp only [put_laws]
     refine wpAnyT_one (i := 21) (by kernel_rfl) rfl ?_
     intro K' hK'
     go_simp
     refine hK'.out _ _ (.inr hS) ?_
     clear hK' K'
     try simp only [put_laws]
     refine wpAnyT_one (i := 22) (by kernel_rfl) rfl ?_
     intro K' hK'
     go_simp
     refine hK'.out _ _ (.inr hS) ?_
     clear hK' K'
     try simp only [put_laws]
     refine wpAnyT_one (i := 23) (by kernel_rfl) rfl ?_
     intro K' hK'
     go_simp
     refine hK'.out _ _ (.inr hS) ?_
     clear hK' K'
     try simp only [put_laws]
     refine wpAnyT_done (by kernel_rfl) ?_ _
     refine ⟨fun x e => (by cases e), ?_⟩
     go_wp2_with fail
     go_ret
     exact ⟨by rw [HRV.out, HCX.out, HCS.out]; rfl, HBR.out.trans (hS.mono HBR.out.size)⟩
    cases qa
    ·
     have HCS := Lib.hid (HNO.out rfl)
     go_upto_region 10 with fail
     refine wp_nopanic ?_
     refine wp_region_T 23 (fun w' => Below wr.heap.size wr w') (by kernel_rfl) (Below.refl _ _).drew ?_
     intro hS
     refine tkA (i := 0) (v := ?_) rfl (by kernel_rfl) (.inl ⟨by kernel_rfl, ?_⟩) hS ?_
     rotate_left
     · (intro w' hw; obtain ⟨x0, x1⟩ := (X2.out.below' hw).c2; obtain ⟨d0, d1, d2, d3, d4, d5, d6, d7⟩ := (K2.out.below' hw).c8; have r0 := (hw.cell (p := ⟨b, off + k * 3, none⟩) hbl).trans c0; have r1 := (hw.cell (p := ⟨b, off + k * 3 + 1, none⟩) hbl).trans c1; go_simp; try with_reducible rfl)
     try simp only [put_laws]
     refine tkA (i := 1) (v := ?_) rfl (by kernel_rfl) (.inl ⟨by kernel_rfl, ?_⟩) hS ?_
     rotate_left
     · (intro w' hw; obtain ⟨x0, x1⟩ := (X2.out.below' hw).c2; obtain ⟨d0, d1, d2, d3, d4, d5, d6, d7⟩ := (K2.out.below' hw).c8; have r0 := (hw.cell (p := ⟨b, off + k * 3, none⟩) hbl).trans c0; have r1 := (hw.cell (p := ⟨b, off + k * 3 + 1, none⟩) hbl).trans c1; go_simp; try with_reducible rfl)
     try simp only [put_laws]
     refine tkA (i := 2) (v := ?_) rfl (by kernel_rfl) (.inl ⟨by kernel_rfl, ?_⟩) hS ?_
     rotate_left
     · (intro w' hw; obtain ⟨x0, x1⟩ := (X2.out.below' hw).c2; obtain ⟨d0, d1, d2, d3, d4, d5, d6, d7⟩ := (K2.out.below' hw).c8; have r0 := (hw.cell (p := ⟨b, off + k * 3, none⟩) hbl).trans c0; have r1 := (hw.cell (p := ⟨b, off + k * 3 + 1, none⟩) hbl).trans c1; go_simp; try with_reducible rfl)
     try simp only [put_laws]
     refine tkA (i := 3) (v := ?_) rfl (by kernel_rfl) (.inl ⟨by kernel_rfl, ?_⟩) hS ?_
     rotate_left
     · (intro w' hw; obtain ⟨x0, x1⟩ := (X2.out.below' hw).c2; obtain ⟨d0, d1, d2, d3, d4, d5, d6, d7⟩ := (K2.out.below' hw).c8; have r0 := (hw.cell (p := ⟨b, off + k * 3, none⟩) hbl).trans c0; have r1 := (hw.cell (p := ⟨b, off + k * 3 + 1, none⟩) hbl).trans c1; go_simp; try with_reducible rfl)
     try simp only [put_laws]
     refine tkA (i := 4) (v := ?_) rfl (by kernel_rfl) (.inl ⟨by kernel_rfl, ?_⟩) hS ?_
     rotate_left
     · (intro w' hw; obtain ⟨x0, x1⟩ := (X2.out.below' hw).c2; obtain ⟨d0, d1, d2, d3, d4, d5, d6, d7⟩ := (K2.out.below' hw).c8; have r0 := (hw.cell (p := ⟨b, off + k * 3, none⟩) hbl).trans c0; have r1 := (hw.cell (p := ⟨b, off + k * 3 + 1, none⟩) hbl).trans c1; go_simp; try with_reducible rfl)
     try simp only [put_laws]
     refine tkA (i := 5) (v := ?_) rfl (by kernel_rfl) (.inl ⟨by kernel_rfl, ?_⟩) hS ?_
     rotate_left
     · (intro w' hw; obtain ⟨x0, x1⟩ := (X2.out.below' hw).c2; obtain ⟨d0, d1, d2, d3, d4, d5, d6, d7⟩ := (K2.out.below' hw).c8; have r0 := (hw.cell (p := ⟨b, off + k * 3, none⟩) hbl).trans c0; have r1 := (hw.cell (p := ⟨b, off + k * 3 + 1, none⟩) hbl).trans c1; go_simp; try with_reducible rfl)
     try simp only [put_laws]
     refine tkA (i := 6) (v := ?_) rfl (by kernel_rfl) (.inl ⟨by kernel_rfl, ?_⟩) hS ?_
     rotate_left
     · (intro w' hw; obtain ⟨x0, x1⟩ := (X2.out.below' hw).c2; obtain ⟨d0, d1, d2, d3, d4, d5, d6, d7⟩ := (K2.out.below' hw).c8; have r0 := (hw.cell (p := ⟨b, off + k * 3, none⟩) hbl).trans c0; have r1 := (hw.cell (p := ⟨b, off + k * 3 + 1, none⟩) hbl).trans c1; go_simp; try with_reducible rfl)
     try simp only [put_laws]
     refine tkA (i := 7) (v := ?_) rfl (by kernel_rfl) (.inl ⟨by kernel_rfl, ?_⟩) hS ?_
     rotate_left
     · (intro w' hw; obtain ⟨x0, x1⟩ := (X2.out.below' hw).c2; obtain ⟨d0, d1, d2, d3, d4, d5, d6, d7⟩ := (K2.out.below' hw).c8; have r0 := (hw.cell (p := ⟨b, off + k * 3, none⟩) hbl).trans c0; have r1 := (hw.cell (p := ⟨b, off + k * 3 + 1, none⟩) hbl).trans c1; go_simp; try with_reducible rfl)
     try simp only [put_laws]
     refine tkA (i := 8) (v := ?_) rfl (by kernel_rfl) (.inl ⟨by kernel_rfl, ?_⟩) hS ?_
     rotate_left
     · (intro w' hw; obtain ⟨x0, x1⟩ := (X2.out.below' hw).c2; obtain ⟨d0, d1, d2, d3, d4, d5, d6, d7⟩ := (K2.out.below' hw).c8; have r0 := (hw.cell (p := ⟨b, off + k * 3, none⟩) hbl).trans c0; have r1 := (hw.cell (p := ⟨b, off + k * 3 + 1, none⟩) hbl).trans c1; go_simp; try with_reducible rfl)
     try simp only [put_laws]
     refine tkA (i := 9) (v := ?_) rfl (by kernel_rfl) (.inl ⟨by kernel_rfl, ?_⟩) hS ?_
     rotate_left
     · (intro w' hw; obtain ⟨x0, x1⟩ := (X2.out.below' hw).c2; obtain ⟨d0, d1, d2, d3, d4, d5, d6, d7⟩ := (K2.out.below' hw).c8; have r0 := (hw.cell (p := ⟨b, off + k * 3, none⟩) hbl).trans c0; have r1 := (hw.cell (p := ⟨b, off + k * 3 + 1, none⟩) hbl).trans c1; go_simp; try with_reducible rfl)
     try simp only [put_laws]
     refine tkA (i := 10) (v := ?_) rfl (by kernel_rfl) (.inl ⟨by kernel_rfl, ?_⟩) hS ?_
     rotate_left
     · (intro w' hw; obtain ⟨x0, x1⟩ := (X2.out.below' hw).c2; obtain ⟨d0, d1, d2, d3, d4, d5, d6, d7⟩ := (K2.out.below' hw).c8; have r0 := (hw.cell (p := ⟨b, off + k * 3, none⟩) hbl).trans c0; have r1 := (hw.cell (p := ⟨b, off + k * 3 + 1, none⟩) hbl).trans c1; go_simp; try with_reducible rfl)
     try simp only [put_laws]
     refine tkA (i := 11) (v := ?_) rfl (by kernel_rfl) (.inl ⟨by kernel_rfl, ?_⟩) hS ?_
     rotate_left
     · (intro w' hw; obtain ⟨x0, x1⟩ := (X2.out.below' hw).c2; obtain ⟨d0, d1, d2, d3, d4, d5, d6, d7⟩ := (K2.out.below' hw).c8; have r0 := (hw.cell (p := ⟨b, off + k * 3, none⟩) hbl).trans c0; have r1 := (hw.cell (p := ⟨b, off + k * 3 + 1, none⟩) hbl).trans c1; go_simp; try with_reducible rfl)
     try simp only [put_laws]
     refine wpAnyT_one (i := 12) (by kernel_rfl) rfl ?_
     intro K' hK'
     go_simp
     refine (HWI.out _).mono ?_
     rintro e w9 ⟨rfl, hw9⟩
     subst hw9
     refine hK'.out _ _ (.inr hS) ?_
     clear hK' K'
     try simp only [put_laws]
     refine wpAnyT_one (i := 13) (by kernel_rfl) rfl ?_
     intro K' hK'
     go_simp
     refine hK'.out _ _ (.inr hS) ?_
     clear hK' K'
     try simp only [put_laws]
     refine wpAnyT_one (i := 14) (by kernel_rfl) rfl ?_
     intro K' hK'
     go_simp
     refine hK'.out _ _ (.inr hS) ?_
     clear hK' K'
     try simp only [put_laws]
     refine tkA (i := 15) (v := ?_) rfl (by kernel_rfl) (.inl ⟨by kernel_rfl, ?_⟩) hS ?_
     rotate_left
     · (intro w' hw; obtain ⟨x0, x1⟩ := (X2.out.below' hw).c2; obtain ⟨d0, d1, d2, d3, d4, d5, d6, d7⟩ := (K2.out.below' hw).c8; have r0 := (hw.cell (p := ⟨b, off + k * 3, none⟩) hbl).trans c0; have r1 := (hw.cell (p := ⟨b, off + k * 3 + 1, none⟩) hbl).trans c1; go_simp; try with_reducible rfl)
     try simp only [put_laws]
     refine tkA (i := 16) (v := ?_) rfl (by kernel_rfl) (.inl ⟨by kernel_rfl, ?_⟩) hS ?_
     rotate_left
     · (intro w' hw; obtain ⟨x0, x1⟩ := (X2.out.below' hw).c2; obtain ⟨d0, d1, d2, d3, d4, d5, d6, d7⟩ := (K2.out.below' hw).c8; have r0 := (hw.cell (p := ⟨b, off + k * 3, none⟩) hbl).trans c0; have r1 := (hw.cell (p := ⟨b, off + k * 3 + 1, none⟩) hbl).trans c1; go_simp; try with_reducible rfl)
     try simp only [put_laws]
     refine tkA (i := 17) (v := ?_) rfl (by kernel_rfl) (.inl ⟨by kernel_rfl, ?_⟩) hS ?_
     rotate_left
     · (intro w' hw; obtain ⟨x0, x1⟩ := (X2.out.below' hw).c2; obtain ⟨d0, d1, d2, d3, d4, d5, d6, d7⟩ := (K2.out.below' hw).c8; have r0 := (hw.cell (p := ⟨b, off + k * 3, none⟩) hbl).trans c0; have r1 := (hw.cell (p := ⟨b, off + k * 3 + 1, none⟩) hbl).trans c1; go_simp; try with_reducible rfl)
     try simp only [put_laws]
     refine wpAnyT_one (i := 18) (by kernel_rfl) rfl ?_
     intro K' hK'
     go_simp
     refine hK'.out _ _ (.inr hS) ?_
     clear hK' K'
     try simp only [put_laws]
     refine wpAnyT_one (i := 19) (by kernel_rfl) rfl ?_
     intro K' hK'
     go_simp
     refine hK'.out _ _ (.inr hS) ?_
     clear hK' K'
     try simp only [put_laws]
     have r1 := (hS.cell (p := ⟨b, off + k * 3 + 1, none⟩) hbl).trans c1
     refine wpAnyT_one (i := 20) (by kernel_rfl) rfl ?_
     intro K' hK'
     go_simp
     refine hK'.out _ _ (.inr hS) ?_
     clear hK' K'
     try simp only [put_laws]
     refine wpAnyT_one (i := 21) (by kernel_rfl) rfl ?_
     intro K' hK'
     go_simp
     refine (HAC.out _ hS).mono ?_
     rintro e w10 ⟨rfl, hb10⟩
     have hS2 : Below wr.heap.size wr w10 := hS.trans (hb10.mono hS.size)
     refine hK'.out _ _ (.inr hS2) ?_
     clear hK' K' hS
     have hS := hS2
     clear hS2
     try simp only [put_laws]
     refine wpAnyT_one (i := 22) (by kernel_rfl) rfl ?_
     intro K' hK'
     go_simp
     refine hK'.out _ _ (.inr hS) ?_
     clear hK' K'
     try simp only [put_laws]
     refine wpAnyT_one (i := 23) (by kernel_rfl) rfl ?_
     intro K' hK'
     go_simp
     refine hK'.out _ _ (.inr hS) ?_
     clear hK' K'
     try simp only [put_laws]
     refine wpAnyT_done (by kernel_rfl) ?_ _
     refine ⟨fun x e => (by cases e), ?_⟩
     go_wp2_with fail
     go_ret
     exact ⟨by rw [HRV.out, HCX.out, HCS.out]; rfl, HBR.out.trans (hS.mono HBR.out.size)⟩
    ·
     have HK1 := Lib.hid (show M.allTo (k + 1) (fun i => M.inB at_ ((nt : Int) - 1) (Xs i).tk && M.ascF nd (Xs i).L.length (fun k => (Xs i).L.getD k 0)) = true from by rw [HA.out, HF.out]; rfl)
     go_upto_region 10 with fail
     refine wp_nopanic ?_
     refine wp_region_T 23 (fun w' => Below wr.heap.size wr w') (by kernel_rfl) (Below.refl _ _).drew ?_
     intro hS
     refine tkA (i := 0) (v := ?_) rfl (by kernel_rfl) (.inl ⟨by kernel_rfl, ?_⟩) hS ?_
     rotate_left
     · (intro w' hw; obtain ⟨x0, x1⟩ := (X2.out.below' hw).c2; obtain ⟨d0, d1, d2, d3, d4, d5, d6, d7⟩ := (K2.out.below' hw).c8; have r0 := (hw.cell (p := ⟨b, off + k * 3, none⟩) hbl).trans c0; have r1 := (hw.cell (p := ⟨b, off + k * 3 + 1, none⟩) hbl).trans c1; go_simp; try with_reducible rfl)
     try simp only [put_laws]
     refine tkA (i := 1) (v := ?_) rfl (by kernel_rfl) (.inl ⟨by kernel_rfl, ?_⟩) hS ?_
     rotate_left
     · (intro w' hw; obtain ⟨x0, x1⟩ := (X2.out.below' hw).c2; obtain ⟨d0, d1, d2, d3, d4, d5, d6, d7⟩ := (K2.out.below' hw).c8; have r0 := (hw.cell (p := ⟨b, off + k * 3, none⟩) hbl).trans c0; have r1 := (hw.cell (p := ⟨b, off + k * 3 + 1, none⟩) hbl).trans c1; go_simp; try with_reducible rfl)
     try simp only [put_laws]
     refine tkA (i := 2) (v := ?_) rfl (by kernel_rfl) (.inl ⟨by kernel_rfl, ?_⟩) hS ?_
     rotate_left
     · (intro w' hw; obtain ⟨x0, x1⟩ := (X2.out.below' hw).c2; obtain ⟨d0, d1, d2, d3, d4, d5, d6, d7⟩ := (K2.out.below' hw).c8; have r0 := (hw.cell (p := ⟨b, off + k * 3, none⟩) hbl).trans c0; have r1 := (hw.cell (p := ⟨b, off + k * 3 + 1, none⟩) hbl).trans c1; go_simp; try with_reducible rfl)
     try simp only [put_laws]
     refine tkA (i := 3) (v := ?_) rfl (by kernel_rfl) (.inl ⟨by kernel_rfl, ?_⟩) hS ?_
     rotate_left
     · (intro w' hw; obtain ⟨x0, x1⟩ := (X2.out.below' hw).c2; obtain ⟨d0, d1, d2, d3, d4, d5, d6, d7⟩ := (K2.out.below' hw).c8; have r0 := (hw.cell (p := ⟨b, off + k * 3, none⟩) hbl).trans c0; have r1 := (hw.cell (p := ⟨b, off + k * 3 + 1, none⟩) hbl).trans c1; go_simp; try with_reducible rfl)
     try simp only [put_laws]
     refine tkA (i := 4) (v := ?_) rfl (by kernel_rfl) (.inl ⟨by kernel_rfl, ?_⟩) hS ?_
     rotate_left
     · (intro w' hw; obtain ⟨x0, x1⟩ := (X2.out.below' hw).c2; obtain ⟨d0, d1, d2, d3, d4, d5, d6, d7⟩ := (K2.out.below' hw).c8; have r0 := (hw.cell (p := ⟨b, off + k * 3, none⟩) hbl).trans c0; have r1 := (hw.cell (p := ⟨b, off + k * 3 + 1, none⟩) hbl).trans c1; go_simp; try with_reducible rfl)
     try simp only [put_laws]
     refine tkA (i := 5) (v := ?_) rfl (by kernel_rfl) (.inl ⟨by kernel_rfl, ?_⟩) hS ?_
     rotate_left
     · (intro w' hw; obtain ⟨x0, x1⟩ := (X2.out.below' hw).c2; obtain ⟨d0, d1, d2, d3, d4, d5, d6, d7⟩ := (K2.out.below' hw).c8; have r0 := (hw.cell (p := ⟨b, off + k * 3, none⟩) hbl).trans c0; have r1 := (hw.cell (p := ⟨b, off + k * 3 + 1, none⟩) hbl).trans c1; go_simp; try with_reducible rfl)
     try simp only [put_laws]
     refine tkA (i := 6) (v := ?_) rfl (by kernel_rfl) (.inl ⟨by kernel_rfl, ?_⟩) hS ?_
     rotate_left
     · (intro w' hw; obtain ⟨x0, x1⟩ := (X2.out.below' hw).c2; obtain ⟨d0, d1, d2, d3, d4, d5, d6, d7⟩ := (K2.out.below' hw).c8; have r0 := (hw.cell (p := ⟨b, off + k * 3, none⟩) hbl).trans c0; have r1 := (hw.cell (p := ⟨b, off + k * 3 + 1, none⟩) hbl).trans c1; go_simp; try with_reducible rfl)
     try simp only [put_laws]
     refine tkA (i := 7) (v := ?_) rfl (by kernel_rfl) (.inl ⟨by kernel_rfl, ?_⟩) hS ?_
     rotate_left
     · (intro w' hw; obtain ⟨x0, x1⟩ := (X2.out.below' hw).c2; obtain ⟨d0, d1, d2, d3, d4, d5, d6, d7⟩ := (K2.out.below' hw).c8; have r0 := (hw.cell (p := ⟨b, off + k * 3, none⟩) hbl).trans c0; have r1 := (hw.cell (p := ⟨b, off + k * 3 + 1, none⟩) hbl).trans c1; go_simp; try with_reducible rfl)
     try simp only [put_laws]
     refine tkA (i := 8) (v := ?_) rfl (by kernel_rfl) (.inl ⟨by kernel_rfl, ?_⟩) hS ?_
     rotate_left
     · (intro w' hw; obtain ⟨x0, x1⟩ := (X2.out.below' hw).c2; obtain ⟨d0, d1, d2, d3, d4, d5, d6, d7⟩ := (K2.out.below' hw).c8; have r0 := (hw.cell (p := ⟨b, off + k * 3, none⟩) hbl).trans c0; have r1 := (hw.cell (p := ⟨b, off + k * 3 + 1, none⟩) hbl).trans c1; go_simp; try with_reducible rfl)
     try simp only [put_laws]
     refine tkA (i := 9) (v := ?_) rfl (by kernel_rfl) (.inl ⟨by kernel_rfl, ?_⟩) hS ?_
     rotate_left
     · (intro w' hw; obtain ⟨x0, x1⟩ := (X2.out.below' hw).c2; obtain ⟨d0, d1, d2, d3, d4, d5, d6, d7⟩ := (K2.out.below' hw).c8; have r0 := (hw.cell (p := ⟨b, off + k * 3, none⟩) hbl).trans c0; have r1 := (hw.cell (p := ⟨b, off + k * 3 + 1, none⟩) hbl).trans c1; go_simp; try with_reducible rfl)
     try simp only [put_laws]
     refine tkA (i := 10) (v := ?_) rfl (by kernel_rfl) (.inl ⟨by kernel_rfl, ?_⟩) hS ?_
     rotate_left
     · (intro w' hw; obtain ⟨x0, x1⟩ := (X2.out.below' hw).c2; obtain ⟨d0, d1, d2, d3, d4, d5, d6, d7⟩ := (K2.out.below' hw).c8; have r0 := (hw.cell (p := ⟨b, off + k * 3, none⟩) hbl).trans c0; have r1 := (hw.cell (p := ⟨b, off + k * 3 + 1, none⟩) hbl).trans c1; go_simp; try with_reducible rfl)
     try simp only [put_laws]
     refine tkA (i := 11) (v := ?_) rfl (by kernel_rfl) (.inl ⟨by kernel_rfl, ?_⟩) hS ?_
     rotate_left
     · (intro w' hw; obtain ⟨x0, x1⟩ := (X2.out.below' hw).c2; obtain ⟨d0, d1, d2, d3, d4, d5, d6, d7⟩ := (K2.out.below' hw).c8; have r0 := (hw.cell (p := ⟨b, off + k * 3, none⟩) hbl).trans c0; have r1 := (hw.cell (p := ⟨b, off + k * 3 + 1, none⟩) hbl).trans c1; go_simp; try with_reducible rfl)
     try simp only [put_laws]
     refine wpAnyT_one (i := 12) (by kernel_rfl) rfl ?_
     intro K' hK'
     go_simp
     refine (HWI.out _).mono ?_
     rintro e w9 ⟨rfl, hw9⟩
     subst hw9
     refine hK'.out _ _ (.inr hS) ?_
     clear hK' K'
     try simp only [put_laws]
     refine wpAnyT_one (i := 13) (by kernel_rfl) rfl ?_
     intro K' hK'
     go_simp
     refine hK'.out _ _ (.inr hS) ?_
     clear hK' K'
     try simp only [put_laws]
     refine wpAnyT_one (i := 14) (by kernel_rfl) rfl ?_
     intro K' hK'
     go_simp
     refine hK'.out _ _ (.inr hS) ?_
     clear hK' K'
     try simp only [put_laws]
     refine tkA (i := 15) (v := ?_) rfl (by kernel_rfl) (.inl ⟨by kernel_rfl, ?_⟩) hS ?_
     rotate_left
     · (intro w' hw; obtain ⟨x0, x1⟩ := (X2.out.below' hw).c2; obtain ⟨d0, d1, d2, d3, d4, d5, d6, d7⟩ := (K2.out.below' hw).c8; have r0 := (hw.cell (p := ⟨b, off + k * 3, none⟩) hbl).trans c0; have r1 := (hw.cell (p := ⟨b, off + k * 3 + 1, none⟩) hbl).trans c1; go_simp; try with_reducible rfl)
     try simp only [put_laws]
     refine tkA (i := 16) (v := ?_) rfl (by kernel_rfl) (.inl ⟨by kernel_rfl, ?_⟩) hS ?_
     rotate_left
     · (intro w' hw; obtain ⟨x0, x1⟩ := (X2.out.below' hw).c2; obtain ⟨d0, d1, d2, d3, d4, d5, d6, d7⟩ := (K2.out.below' hw).c8; have r0 := (hw.cell (p := ⟨b, off + k * 3, none⟩) hbl).trans c0; have r1 := (hw.cell (p := ⟨b, off + k * 3 + 1, none⟩) hbl).trans c1; go_simp; try with_reducible rfl)
     try simp only [put_laws]
     refine tkA (i := 17) (v := ?_) rfl (by kernel_rfl) (.inl ⟨by kernel_rfl, ?_⟩) hS ?_
     rotate_left
     · (intro w' hw; obtain ⟨x0, x1⟩ := (X2.out.below' hw).c2; obtain ⟨d0, d1, d2, d3, d4, d5, d6, d7⟩ := (K2.out.below' hw).c8; have r0 := (hw.cell (p := ⟨b, off + k * 3, none⟩) hbl).trans c0; have r1 := (hw.cell (p := ⟨b, off + k * 3 + 1, none⟩) hbl).trans c1; go_simp; try with_reducible rfl)
     try simp only [put_laws]
     refine wpAnyT_one (i := 18) (by kernel_rfl) rfl ?_
     intro K' hK'
     go_simp
     refine hK'.out _ _ (.inr hS) ?_
     clear hK' K'
     try simp only [put_laws]
     refine wpAnyT_one (i := 19) (by kernel_rfl) rfl ?_
     intro K' hK'
     go_simp
     refine hK'.out _ _ (.inr hS) ?_
     clear hK' K'
     try simp only [put_laws]
     have r1 := (hS.cell (p := ⟨b, off + k * 3 + 1, none⟩) hbl).trans c1
     refine wpAnyT_one (i := 20) (by kernel_rfl) rfl ?_
     intro K' hK'
     go_simp
     refine hK'.out _ _ (.inr hS) ?_
     clear hK' K'
     try simp only [put_laws]
     refine wpAnyT_one (i := 21) (by kernel_rfl) rfl ?_
     intro K' hK'
     go_simp
     refine (HAC.out _ hS).mono ?_
     rintro e w10 ⟨rfl, hb10⟩
     have hS2 : Below wr.heap.size wr w10 := hS.trans (hb10.mono hS.size)
     refine hK'.out _ _ (.inr hS2) ?_
     clear hK' K' hS
     have hS := hS2
     clear hS2
     try simp only [put_laws]
     refine wpAnyT_one (i := 22) (by kernel_rfl) rfl ?_
     intro K' hK'
     go_simp
     refine hK'.out _ _ (.inr hS) ?_
     clear hK' K'
     try simp only [put_laws]
     refine wpAnyT_one (i := 23) (by kernel_rfl) rfl ?_
     intro K' hK'
     go_simp
     refine hK'.out _ _ (.inr hS) ?_
     clear hK' K'
     try simp only [put_laws]
     refine wpAnyT_done (by kernel_rfl) ?_ _
     refine ⟨fun x e => (by cases e), ?_⟩
     go_wp2_with fail
     go_roundw
     case rel => exact ⟨k + 1, by omega, by go_num, HK1, Lib.hid (HBX.out.trans (hS.mono HBX.out.size))⟩
     case measure => simp [intOf]; omega
   ·
    obtain rfl : k = hn := by omega
    have HCS := Lib.hid (show qs = true from by rw [HQ2.out, HF.out])
    go_wp2_with fail
    go_ret
    exact ⟨by rw [HRV.out, HCX.out, HCS.out]; rfl, HBR.out⟩
end
end Go.Proofs.YtnbeembnnjdmdaaGreatDoor
