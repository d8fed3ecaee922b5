/- drift.Alive: its errors. -/
import Derived.Test.YtnbeembnnjdmdaaGreatDoorJ6
namespace Go.Proofs.YtnbeembnnjdmdaaGreatDoor
open Go.RowKit Go.Maps

section
variable {bA : Option Addr} {bn bc : Nat} {s0 s1 : Int} {W H : Int} {dA tA sA zA cA wA xA hA : Option Addr} {nd dc nt tc ns sc zn zc cn cc wn wc xc hn hc B : Nat} {at_ lo hi : Int} {dep : Nat → Int} {tide : Nat → Nat → Int} {sw z : Nat → Int} {cl : Nat → Nat} {cu : Nat → Nat → Nat → Int} {wd : Nat → Nat → Int} {xL : List Int} {Xs : Nat → SgV} {w : World}
set_option maxRecDepth 100000 in
set_option maxHeartbeats 3200000 in
theorem alive_bad (hnd : nd ≤ maxLen) (hnt : nt ≤ maxLen) (hns : ns ≤ maxLen) (hzn : zn ≤ maxLen) (hcn : cn ≤ maxLen) (hwn : wn ≤ maxLen) (hR : RdD w B dA tA sA zA cA wA nd nt ns zn cn wn dep tide sw z cl cu wd) (hB : B ≤ w.heap.size) (hW : Ways w)
  (hx3 : Rd1 w B xA xL.length (fun k => xL.getD k 0)) (hx4 : xL.length ≤ maxLen) (hRS : RdS w B hA hn Xs) (hhn : hn ≤ maxLen) (hE : (begE (M.chkD (M.chkC W H nd nt ns dep tide sw) nd nt zn cn wn z cl cu wd) (chkX nd nt at_ lo hi xL) (chkS nd nt at_ hn Xs)) ≠ 0) :
  Calls Tryz.prog 38 #[.agg #[.int .i64 W, .int .i64 H, .slice dA nd dc, .slice tA nt tc, .slice sA ns sc, .slice zA zn zc, .slice cA cn cc, .slice wA wn wc], .agg #[.int .i64 at_, .slice xA xL.length xc, .int .i64 lo, .int .i64 hi], .slice hA hn hc, .agg #[.slice bA bn bc, .int .i64 s0, .int .i64 s1]] w fun e w' => e = .returned (.tuple #[.int .i64 0, .int .i64 0, .int .i64 (begE (M.chkD (M.chkC W H nd nt ns dep tide sw) nd nt zn cn wn z cl cu wd) (chkX nd nt at_ lo hi xL) (chkS nd nt at_ hn Xs))]) ∧ Below w.heap.size w w' := by
 have hbY := belowAlloc3 w (.cells #[.int .i64 W, .int .i64 H, .slice dA nd dc, .slice tA nt tc, .slice sA ns sc, .slice zA zn zc, .slice cA cn cc, .slice wA wn wc] 29) (.cells #[.int .i64 at_, .slice xA xL.length xc, .int .i64 lo, .int .i64 hi] 44) (.cells #[.slice bA bn bc, .int .i64 s0, .int .i64 s1] 73)
 have HO := Lib.hid (begin_err (dc := dc) (tc := tc) (sc := sc) (zc := zc) (cc := cc) (wc := wc) (xc := xc) (hc := hc) hnd hnt hns hzn hcn hwn (hR.below (hbY.mono hB)) (Nat.le_trans hB hbY.size) (hW.below hbY) (hx3.below (hbY.mono hB)) hx4 (hRS.below (hbY.mono hB)) hhn hE)
 have HBY := Lib.hid hbY
 obtain ⟨r, hr⟩ : ∃ r, r = (begE (M.chkD (M.chkC W H nd nt ns dep tide sw) nd nt zn cn wn z cl cu wd) (chkX nd nt at_ lo hi xL) (chkS nd nt at_ hn Xs)) := ⟨_, rfl⟩
 rw [← hr] at HO hE ⊢
 have hr3 : (r != 0) = true := by simpa using hE
 have hr4 : (r == 0) = false := by simpa using hE
 have hr5 : decide (r = 0) = false := by simpa using hE
 clear hR hnd hnt hns hzn hcn hwn hbY hr hW hx3 hRS
 go_enter Tryz.func38, Tryz.ntmps38
 go_wp2_with (go_at_call 55; refine HO.out.mono ?_; rintro e w1 ⟨rfl, hb⟩; have HB1 := Lib.hid (HBY.out.trans (hb.mono HBY.out.size)); clear hb)
 go_ret3
 exact ⟨rfl, HB1.out.alloc HB1.out.size _⟩
end
end Go.Proofs.YtnbeembnnjdmdaaGreatDoor
