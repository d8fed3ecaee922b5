/- Conflict and Struck, program and reference, for any drift, drifter and sightings. -/
import Derived.Test.YtnbeembnnjdmdaaGreatDoorJ6
import Derived.Test.YtnbeembnnjdmdaaGreatDoorJ10
import Derived.Test.YtnbeembnnjdmdaaGreatDoorD31
namespace Go.Proofs.YtnbeembnnjdmdaaGreatDoor
open Go.RowKit Go.Maps

section
variable {W H : Int} {dA tA sA zA cA wA xA hA : Option Addr} {nd dc nt tc ns sc zn zc cn cc wn wc xc hn hc B : Nat} {at_ lo hi : Int} {dep : Nat → Int} {tide : Nat → Nat → Int} {sw z : Nat → Int} {cl : Nat → Nat} {cu : Nat → Nat → Nat → Int} {wd : Nat → Nat → Int} {xL : List Int} {Xs : Nat → SgV} {w : World}
set_option maxRecDepth 100000 in
set_option maxHeartbeats 3200000 in
theorem conflict_bad (hnd : nd ≤ maxLen) (hnt : nt ≤ maxLen) (hns : ns ≤ maxLen) (hzn : zn ≤ maxLen) (hcn : cn ≤ maxLen) (hwn : wn ≤ maxLen) (hR : RdD w B dA tA sA zA cA wA nd nt ns zn cn wn dep tide sw z cl cu wd) (hB : B ≤ w.heap.size) (hW : Ways w)
    (hx3 : Rd1 w B xA xL.length (fun k => xL.getD k 0)) (hx4 : xL.length ≤ maxLen) (hRS : RdS w B hA hn Xs) (hhn : hn ≤ maxLen) (hE : (begE (M.chkD (M.chkC W H nd nt ns dep tide sw) nd nt zn cn wn z cl cu wd) (chkX nd nt at_ lo hi xL) (chkS nd nt at_ hn Xs)) ≠ 0) :
    Calls Tryz.prog 23 #[.agg #[.int .i64 W, .int .i64 H, .slice dA nd dc, .slice tA nt tc, .slice sA ns sc, .slice zA zn zc, .slice cA cn cc, .slice wA wn wc], .agg #[.int .i64 at_, .slice xA xL.length xc, .int .i64 lo, .int .i64 hi], .slice hA hn hc] w fun e w' => e = .returned (.tuple #[.slice none 0 0, .int .i64 (begE (M.chkD (M.chkC W H nd nt ns dep tide sw) nd nt zn cn wn z cl cu wd) (chkX nd nt at_ lo hi xL) (chkS nd nt at_ hn Xs))]) ∧ Below w.heap.size w w' := by
  have hbY := belowAlloc2 w (.cells #[.int .i64 W, .int .i64 H, .slice dA nd dc, .slice tA nt tc, .slice sA ns sc, .slice zA zn zc, .slice cA cn cc, .slice wA wn wc] 29) (.cells #[.int .i64 at_, .slice xA xL.length xc, .int .i64 lo, .int .i64 hi] 44)
  have HO := Lib.hid (begin_err (dc := dc) (tc := tc) (sc := sc) (zc := zc) (cc := cc) (wc := wc) (xc := xc) (hc := hc) hnd hnt hns hzn hcn hwn (hR.below (hbY.mono hB)) (Nat.le_trans hB hbY.size) (hW.below hbY) (hx3.below (hbY.mono hB)) hx4 (hRS.below (hbY.mono hB)) hhn hE)
  have HBY := Lib.hid hbY
  obtain ⟨r, hr⟩ : ∃ r, r = (begE (M.chkD (M.chkC W H nd nt ns dep tide sw) nd nt zn cn wn z cl cu wd) (chkX nd nt at_ lo hi xL) (chkS nd nt at_ hn Xs)) := ⟨_, rfl⟩
  rw [← hr] at HO hE ⊢
  have hr3 : (r != 0) = true := by simpa using hE
  have hr4 : (r == 0) = false := by simpa using hE
  have hr5 : decide (r = 0) = false := by simpa using hE
  clear hR hnd hnt hns hzn hcn hwn hbY hr hW hx3 hRS
  go_enter Tryz.func23, Tryz.ntmps23
  go_wp2_with (go_at_call 55; refine HO.out.mono ?_; rintro e w1 ⟨rfl, hb⟩; have HB1 := Lib.hid (HBY.out.trans (hb.mono HBY.out.size)); clear hb)
  go_ret2
  exact ⟨rfl, HB1.out.alloc HB1.out.size _⟩

set_option maxRecDepth 100000 in
set_option maxHeartbeats 3200000 in
theorem rconflict_bad (hnd : nd ≤ maxLen) (hnt : nt ≤ maxLen) (hns : ns ≤ maxLen) (hzn : zn ≤ maxLen) (hcn : cn ≤ maxLen) (hwn : wn ≤ maxLen) (hR : RdD w B dA tA sA zA cA wA nd nt ns zn cn wn dep tide sw z cl cu wd) (hB : B ≤ w.heap.size)
    (hx3 : Rd1 w B xA xL.length (fun k => xL.getD k 0)) (hx4 : xL.length ≤ maxLen) (hRS : RdS w B hA hn Xs) (hhn : hn ≤ maxLen) (hE : (begE (M.chkD (M.chkC W H nd nt ns dep tide sw) nd nt zn cn wn z cl cu wd) (chkX nd nt at_ lo hi xL) (chkS nd nt at_ hn Xs)) ≠ 0) :
    Calls Tryz.prog 24 #[.agg #[.int .i64 W, .int .i64 H, .slice dA nd dc, .slice tA nt tc, .slice sA ns sc, .slice zA zn zc, .slice cA cn cc, .slice wA wn wc], .agg #[.int .i64 at_, .slice xA xL.length xc, .int .i64 lo, .int .i64 hi], .slice hA hn hc] w fun e w' => e = .returned (.tuple #[.slice none 0 0, .int .i64 (begE (M.chkD (M.chkC W H nd nt ns dep tide sw) nd nt zn cn wn z cl cu wd) (chkX nd nt at_ lo hi xL) (chkS nd nt at_ hn Xs))]) ∧ Below w.heap.size w w' := by
  have hbY := belowAlloc2 w (.cells #[.int .i64 W, .int .i64 H, .slice dA nd dc, .slice tA nt tc, .slice sA ns sc, .slice zA zn zc, .slice cA cn cc, .slice wA wn wc] 29) (.cells #[.int .i64 at_, .slice xA xL.length xc, .int .i64 lo, .int .i64 hi] 44)
  have HO := Lib.hid (rcheckall_any (W := W) (H := H) (at_ := at_) (lo := lo) (hi := hi) (dc := dc) (tc := tc) (sc := sc) (zc := zc) (cc := cc) (wc := wc) (xc := xc) (hc := hc) hnd hnt hns hzn hcn hwn (hR.below (hbY.mono hB)) (Nat.le_trans hB hbY.size) (hx3.below (hbY.mono hB)) hx4 (hRS.below (hbY.mono hB)) hhn)
  have HBY := Lib.hid hbY
  obtain ⟨r, hr⟩ : ∃ r, r = (begE (M.chkD (M.chkC W H nd nt ns dep tide sw) nd nt zn cn wn z cl cu wd) (chkX nd nt at_ lo hi xL) (chkS nd nt at_ hn Xs)) := ⟨_, rfl⟩
  rw [← hr] at HO hE ⊢
  have hr3 : (r != 0) = true := by simpa using hE
  clear hR hnd hnt hns hzn hcn hwn hbY hr hx3 hRS
  go_enter Tryz.func24, Tryz.ntmps24
  go_wp2_with (go_at_call 58; refine HO.out.mono ?_; rintro e w1 ⟨rfl, hb⟩; have HB1 := Lib.hid (HBY.out.trans (hb.mono HBY.out.size)); clear hb)
  go_ret2
  exact ⟨rfl, HB1.out⟩

set_option maxRecDepth 100000 in
set_option maxHeartbeats 3200000 in
theorem rstruck_bad (hnd : nd ≤ maxLen) (hnt : nt ≤ maxLen) (hns : ns ≤ maxLen) (hzn : zn ≤ maxLen) (hcn : cn ≤ maxLen) (hwn : wn ≤ maxLen) (hR : RdD w B dA tA sA zA cA wA nd nt ns zn cn wn dep tide sw z cl cu wd) (hB : B ≤ w.heap.size)
    (hx3 : Rd1 w B xA xL.length (fun k => xL.getD k 0)) (hx4 : xL.length ≤ maxLen) (hRS : RdS w B hA hn Xs) (hhn : hn ≤ maxLen) (c t r : Int) (hr : r = if (begE (M.chkD (M.chkC W H nd nt ns dep tide sw) nd nt zn cn wn z cl cu wd) (chkX nd nt at_ lo hi xL) (chkS nd nt at_ hn Xs)) = 0 then (if askB nd nt at_ c t = true then 0 else 1) else (begE (M.chkD (M.chkC W H nd nt ns dep tide sw) nd nt zn cn wn z cl cu wd) (chkX nd nt at_ lo hi xL) (chkS nd nt at_ hn Xs))) (hE : r ≠ 0) :
    Calls Tryz.prog 26 #[.agg #[.int .i64 W, .int .i64 H, .slice dA nd dc, .slice tA nt tc, .slice sA ns sc, .slice zA zn zc, .slice cA cn cc, .slice wA wn wc], .agg #[.int .i64 at_, .slice xA xL.length xc, .int .i64 lo, .int .i64 hi], .slice hA hn hc, .int .i64 c, .int .i64 t] w fun e w' => e = .returned (.tuple #[.slice none 0 0, .int .i64 r]) ∧ Below w.heap.size w w' := by
  have hbY := belowAlloc2 w (.cells #[.int .i64 W, .int .i64 H, .slice dA nd dc, .slice tA nt tc, .slice sA ns sc, .slice zA zn zc, .slice cA cn cc, .slice wA wn wc] 29) (.cells #[.int .i64 at_, .slice xA xL.length xc, .int .i64 lo, .int .i64 hi] 44)
  have HO := Lib.hid (rcheckat_any (W := W) (H := H) (at_ := at_) (lo := lo) (hi := hi) (dc := dc) (tc := tc) (sc := sc) (zc := zc) (cc := cc) (wc := wc) (xc := xc) (hc := hc) hnd hnt hns hzn hcn hwn (hR.below (hbY.mono hB)) (Nat.le_trans hB hbY.size) (hx3.below (hbY.mono hB)) hx4 (hRS.below (hbY.mono hB)) hhn c t)
  have HBY := Lib.hid hbY
  rw [← hr] at HO
  have hr3 : (r != 0) = true := by simpa using hE
  clear hR hnd hnt hns hzn hcn hwn hbY hr hx3 hRS
  go_enter Tryz.func26, Tryz.ntmps26
  go_wp2_with (go_at_call 28; refine HO.out.mono ?_; rintro e w1 ⟨rfl, hb⟩; have HB1 := Lib.hid (HBY.out.trans (hb.mono HBY.out.size)); clear hb)
  go_ret2
  exact ⟨rfl, HB1.out⟩
end
theorem LfP.lst {base : Nat} {w : World} {v : Value} {l : List Nat} (h : LfP base w v l) : LstV w v (castL l) := by
  rcases h.1 with ⟨rfl, rfl⟩ | ⟨g, c, rfl, _, _, hg, hc⟩
  · exact LstV.nil_ w
  · refine ⟨_, c, by rw [castL_len], ?_⟩
    rw [castL_len]
    exact .inr ⟨g, 0, rfl, hg, fun j hj => by simp only [Nat.zero_add, castL_getD]; exact hc j hj⟩
theorem strG_at_ {d : M.Dr} {at_ lo hi : Int} {xL : List Int} {Xs : Nat → SgV} {U : Nat → Value} {c t : Int} : strG d at_ lo hi xL (fun i => (Xs i).at_ (U i)) c t = strG d at_ lo hi xL Xs c t := by
  funext l
  unfold strG leeG
  congr 1
  exact leeP_at_ (Xs := fun i => Xs (l.getD i 0)) (U := fun i => U (l.getD i 0))
theorem kp_1000 {g : List Nat → Bool} {n : Nat} (hn : n ≤ 12) : (castL (M.kp g n n)).length ≤ 1000 := by rw [castL_len]; have := M.kp_len (g := g) (n := n) n; omega
section
variable {W H : Int} {nd nt ns zn cn wn hn : Nat} {at_ lo hi : Int} {dep : Nat → Int} {tide : Nat → Nat → Int} {sw z : Nat → Int} {cl : Nat → Nat} {cu : Nat → Nat → Nat → Int} {wd : Nat → Nat → Int} {xL : List Int} {Xs : Nat → SgV}
/-- Conflict, program and reference -/
theorem conflict_both (hnd : nd ≤ maxLen) (hnt : nt ≤ maxLen) (hns : ns ≤ maxLen) (hzn : zn ≤ maxLen) (hcn : cn ≤ maxLen) (hwn : wn ≤ maxLen) (hx4 : xL.length ≤ maxLen) (hhn : hn ≤ maxLen) : ∃ (L : List Int) (r : Int), L.length ≤ 1000 ∧
    (∀ (B : Nat) (V : World) (dA tA sA zA cA wA xA hA : Option Addr) (dc tc sc zc cc wc xc hc : Nat) (U : Nat → Value), RdD V B dA tA sA zA cA wA nd nt ns zn cn wn dep tide sw z cl cu wd → B ≤ V.heap.size → Ways V → Fre V → Rd1 V B xA xL.length (fun k => xL.getD k 0) → RdS V B hA hn (fun i => (Xs i).at_ (U i)) → Calls Tryz.prog 23 #[.agg #[.int .i64 W, .int .i64 H, .slice dA nd dc, .slice tA nt tc, .slice sA ns sc, .slice zA zn zc, .slice cA cn cc, .slice wA wn wc], .agg #[.int .i64 at_, .slice xA xL.length xc, .int .i64 lo, .int .i64 hi], .slice hA hn hc] V fun e w' => (∃ v, e = .returned (.tuple #[v, .int .i64 r]) ∧ LstV w' v L) ∧ Below V.heap.size V w') ∧
    (∀ (B : Nat) (V : World) (dA tA sA zA cA wA xA hA : Option Addr) (dc tc sc zc cc wc xc hc : Nat), RdD V B dA tA sA zA cA wA nd nt ns zn cn wn dep tide sw z cl cu wd → B ≤ V.heap.size → Rd1 V B xA xL.length (fun k => xL.getD k 0) → RdS V B hA hn Xs → Calls Tryz.prog 24 #[.agg #[.int .i64 W, .int .i64 H, .slice dA nd dc, .slice tA nt tc, .slice sA ns sc, .slice zA zn zc, .slice cA cn cc, .slice wA wn wc], .agg #[.int .i64 at_, .slice xA xL.length xc, .int .i64 lo, .int .i64 hi], .slice hA hn hc] V fun e w' => (∃ v, e = .returned (.tuple #[v, .int .i64 r]) ∧ LstV w' v L) ∧ Below V.heap.size V w') := by
  by_cases hE : (begE (M.chkD (M.chkC W H nd nt ns dep tide sw) nd nt zn cn wn z cl cu wd) (chkX nd nt at_ lo hi xL) (chkS nd nt at_ hn Xs)) = 0
  · obtain ⟨h1, h2, h3⟩ := beg_ok hE
    obtain ⟨d, hd, rfl, rfl, rfl, rfl, rfl, rfl, rfl, rfl, rfl, rfl, rfl, rfl, rfl, rfl, hcl⟩ := M.chkD_form h1
    obtain ⟨⟨ha1, ha2⟩, hxl, -, hl1, hl2, hl3⟩ := chkX_bd h2
    have hnd1 := hd.s.nd1
    have hnt2 := hd.s.t2
    have hhn12 : hn ≤ 12 := by have h := h3; unfold chkS at h; simp only [Bool.and_eq_true, decide_eq_true_eq] at h; exact h.1
    obtain ⟨ta, rfl⟩ : ∃ n : Nat, at_ = (n : Int) := ⟨at_.toNat, by omega⟩
    obtain ⟨lo', rfl⟩ : ∃ n : Nat, lo = (n : Int) := ⟨lo.toNat, by omega⟩
    obtain ⟨hi', rfl⟩ : ∃ n : Nat, hi = (n : Int) := ⟨hi.toNat, by omega⟩
    cases hq : strP d (ta : Int) (lo' : Int) (hi' : Int) xL hn Xs 0 (-1)
    · refine ⟨castL (M.kp (strG d (ta : Int) (lo' : Int) (hi' : Int) xL Xs 0 (-1)) hn hn), 0, kp_1000 hhn12, fun B V dA tA sA zA cA wA xA hA dc tc sc zc cc wc xc hc U hR hB hW hF hx hS => ?_, fun B V dA tA sA zA cA wA xA hA dc tc sc zc cc wc xc hc hR hB hx hS => ?_⟩
      · refine (conflict_ok (dc := dc) (tc := tc) (sc := sc) (zc := zc) (cc := cc) (wc := wc) (xc := xc) (hc := hc) hd hcl hR hB hW hx hx4 hS hhn hF h2 (by rw [chkS_at]; exact h3)).mono fun e w' h => ?_
        rcases h with ⟨hb, ⟨h4, _⟩ | ⟨_, v, h5, h6⟩⟩
        · rw [strP_at_, hq] at h4; cases h4
        · rw [strG_at_] at h6
          exact ⟨⟨v, h5, h6.lst⟩, hb⟩
      · refine (rConflict_ok (dc := dc) (tc := tc) (sc := sc) (zc := zc) (cc := cc) (wc := wc) (xc := xc) (hc := hc) hd hcl hR hB hx hx4 hS hhn h2 h3).mono fun e w' h => ?_
        rcases h with ⟨hb, ⟨h4, _⟩ | ⟨_, v, h5, h6⟩⟩
        · rw [hq] at h4; cases h4
        · exact ⟨⟨v, h5, LstV.of_il h6⟩, hb⟩
    · refine ⟨[], 3, by simp, fun B V dA tA sA zA cA wA xA hA dc tc sc zc cc wc xc hc U hR hB hW hF hx hS => ?_, fun B V dA tA sA zA cA wA xA hA dc tc sc zc cc wc xc hc hR hB hx hS => ?_⟩
      · refine (conflict_ok (dc := dc) (tc := tc) (sc := sc) (zc := zc) (cc := cc) (wc := wc) (xc := xc) (hc := hc) hd hcl hR hB hW hx hx4 hS hhn hF h2 (by rw [chkS_at]; exact h3)).mono fun e w' h => ?_
        rcases h with ⟨hb, ⟨_, h5⟩ | ⟨h4, _⟩⟩
        · exact ⟨⟨_, h5, LstV.nil_ _⟩, hb⟩
        · rw [strP_at_, hq] at h4; cases h4
      · refine (rConflict_ok (dc := dc) (tc := tc) (sc := sc) (zc := zc) (cc := cc) (wc := wc) (xc := xc) (hc := hc) hd hcl hR hB hx hx4 hS hhn h2 h3).mono fun e w' h => ?_
        rcases h with ⟨hb, ⟨_, h5⟩ | ⟨h4, _⟩⟩
        · exact ⟨⟨_, h5, LstV.nil_ _⟩, hb⟩
        · rw [hq] at h4; cases h4
  · refine ⟨[], (begE (M.chkD (M.chkC W H nd nt ns dep tide sw) nd nt zn cn wn z cl cu wd) (chkX nd nt at_ lo hi xL) (chkS nd nt at_ hn Xs)), by simp, fun B V dA tA sA zA cA wA xA hA dc tc sc zc cc wc xc hc U hR hB hW hF hx hS => ?_, fun B V dA tA sA zA cA wA xA hA dc tc sc zc cc wc xc hc hR hB hx hS => ?_⟩
    · rw [← chkS_at (U := U)] at hE ⊢
      exact (conflict_bad (xc := xc) (hc := hc) hnd hnt hns hzn hcn hwn hR hB hW hx hx4 hS hhn hE).mono fun e w' h => ⟨⟨_, h.1, LstV.nil_ _⟩, h.2⟩
    · exact (rconflict_bad (xc := xc) (hc := hc) hnd hnt hns hzn hcn hwn hR hB hx hx4 hS hhn hE).mono fun e w' h => ⟨⟨_, h.1, LstV.nil_ _⟩, h.2⟩
/-- Struck, program and reference -/
theorem struck_both (hnd : nd ≤ maxLen) (hnt : nt ≤ maxLen) (hns : ns ≤ maxLen) (hzn : zn ≤ maxLen) (hcn : cn ≤ maxLen) (hwn : wn ≤ maxLen) (hx4 : xL.length ≤ maxLen) (hhn : hn ≤ maxLen) (c t : Int) : ∃ (L : List Int) (r : Int), L.length ≤ 1000 ∧
    (∀ (B : Nat) (V : World) (dA tA sA zA cA wA xA hA : Option Addr) (dc tc sc zc cc wc xc hc : Nat) (U : Nat → Value), RdD V B dA tA sA zA cA wA nd nt ns zn cn wn dep tide sw z cl cu wd → B ≤ V.heap.size → Ways V → Fre V → Rd1 V B xA xL.length (fun k => xL.getD k 0) → RdS V B hA hn (fun i => (Xs i).at_ (U i)) → Calls Tryz.prog 25 #[.agg #[.int .i64 W, .int .i64 H, .slice dA nd dc, .slice tA nt tc, .slice sA ns sc, .slice zA zn zc, .slice cA cn cc, .slice wA wn wc], .agg #[.int .i64 at_, .slice xA xL.length xc, .int .i64 lo, .int .i64 hi], .slice hA hn hc, .int .i64 c, .int .i64 t] V fun e w' => (∃ v, e = .returned (.tuple #[v, .int .i64 r]) ∧ LstV w' v L) ∧ Below V.heap.size V w') ∧
    (∀ (B : Nat) (V : World) (dA tA sA zA cA wA xA hA : Option Addr) (dc tc sc zc cc wc xc hc : Nat), RdD V B dA tA sA zA cA wA nd nt ns zn cn wn dep tide sw z cl cu wd → B ≤ V.heap.size → Rd1 V B xA xL.length (fun k => xL.getD k 0) → RdS V B hA hn Xs → Calls Tryz.prog 26 #[.agg #[.int .i64 W, .int .i64 H, .slice dA nd dc, .slice tA nt tc, .slice sA ns sc, .slice zA zn zc, .slice cA cn cc, .slice wA wn wc], .agg #[.int .i64 at_, .slice xA xL.length xc, .int .i64 lo, .int .i64 hi], .slice hA hn hc, .int .i64 c, .int .i64 t] V fun e w' => (∃ v, e = .returned (.tuple #[v, .int .i64 r]) ∧ LstV w' v L) ∧ Below V.heap.size V w') := by
  by_cases hE : (begE (M.chkD (M.chkC W H nd nt ns dep tide sw) nd nt zn cn wn z cl cu wd) (chkX nd nt at_ lo hi xL) (chkS nd nt at_ hn Xs)) = 0
  · obtain ⟨h1, h2, h3⟩ := beg_ok hE
    cases hk : askB nd nt at_ c t
    · refine ⟨[], 1, by simp, fun B V dA tA sA zA cA wA xA hA dc tc sc zc cc wc xc hc U hR hB hW hF hx hS => ?_, fun B V dA tA sA zA cA wA xA hA dc tc sc zc cc wc xc hc hR hB hx hS => ?_⟩
      · obtain ⟨d, hd, rfl, rfl, rfl, rfl, rfl, rfl, rfl, rfl, rfl, rfl, rfl, rfl, rfl, rfl, hcl⟩ := M.chkD_form h1
        refine (struck_ok (dc := dc) (tc := tc) (sc := sc) (zc := zc) (cc := cc) (wc := wc) (xc := xc) (hc := hc) hd hcl hR hB hW hx hx4 hS hhn c t h2 (by rw [chkS_at]; exact h3)).mono fun e w' h => ?_
        rcases h with ⟨hb, ⟨_, h5⟩ | ⟨h4, _⟩ | ⟨h4, _⟩⟩
        · exact ⟨⟨_, h5, LstV.nil_ _⟩, hb⟩
        · rw [hk] at h4; cases h4
        · rw [hk] at h4; cases h4
      · exact (rstruck_bad (xc := xc) (hc := hc) hnd hnt hns hzn hcn hwn hR hB hx hx4 hS hhn c t 1 (by rw [if_pos hE, hk]; rfl) (by omega)).mono fun e w' h => ⟨⟨_, h.1, LstV.nil_ _⟩, h.2⟩
    obtain ⟨d, hd, rfl, rfl, rfl, rfl, rfl, rfl, rfl, rfl, rfl, rfl, rfl, rfl, rfl, rfl, hcl⟩ := M.chkD_form h1
    obtain ⟨⟨ha1, ha2⟩, hxl, -, hl1, hl2, hl3⟩ := chkX_bd h2
    have hnd1 := hd.s.nd1
    have hnt2 := hd.s.t2
    have hhn12 : hn ≤ 12 := by have h := h3; unfold chkS at h; simp only [Bool.and_eq_true, decide_eq_true_eq] at h; exact h.1
    obtain ⟨ta, rfl⟩ : ∃ n : Nat, at_ = (n : Int) := ⟨at_.toNat, by omega⟩
    obtain ⟨lo', rfl⟩ : ∃ n : Nat, lo = (n : Int) := ⟨lo.toNat, by omega⟩
    obtain ⟨hi', rfl⟩ : ∃ n : Nat, hi = (n : Int) := ⟨hi.toNat, by omega⟩
    cases hq : strP d (ta : Int) (lo' : Int) (hi' : Int) xL hn Xs c t
    · refine ⟨castL (M.kp (strG d (ta : Int) (lo' : Int) (hi' : Int) xL Xs c t) hn hn), 0, kp_1000 hhn12, fun B V dA tA sA zA cA wA xA hA dc tc sc zc cc wc xc hc U hR hB hW hF hx hS => ?_, fun B V dA tA sA zA cA wA xA hA dc tc sc zc cc wc xc hc hR hB hx hS => ?_⟩
      · refine (struck_ok (dc := dc) (tc := tc) (sc := sc) (zc := zc) (cc := cc) (wc := wc) (xc := xc) (hc := hc) hd hcl hR hB hW hx hx4 hS hhn c t h2 (by rw [chkS_at]; exact h3)).mono fun e w' h => ?_
        rcases h with ⟨hb, ⟨h4, _⟩ | ⟨_, h4, _⟩ | ⟨_, _, v, h5, h6⟩⟩
        · rw [hk] at h4; cases h4
        · rw [strP_at_, hq] at h4; cases h4
        · rw [strG_at_] at h6
          exact ⟨⟨v, h5, h6.lst⟩, hb⟩
      · refine (rStruck_ok (dc := dc) (tc := tc) (sc := sc) (zc := zc) (cc := cc) (wc := wc) (xc := xc) (hc := hc) hd hcl hR hB hx hx4 hS hhn h2 h3 c t hk).mono fun e w' h => ?_
        rcases h with ⟨hb, ⟨h4, _⟩ | ⟨_, v, h5, h6⟩⟩
        · rw [hq] at h4; cases h4
        · exact ⟨⟨v, h5, LstV.of_il h6⟩, hb⟩
    · refine ⟨[], 3, by simp, fun B V dA tA sA zA cA wA xA hA dc tc sc zc cc wc xc hc U hR hB hW hF hx hS => ?_, fun B V dA tA sA zA cA wA xA hA dc tc sc zc cc wc xc hc hR hB hx hS => ?_⟩
      · refine (struck_ok (dc := dc) (tc := tc) (sc := sc) (zc := zc) (cc := cc) (wc := wc) (xc := xc) (hc := hc) hd hcl hR hB hW hx hx4 hS hhn c t h2 (by rw [chkS_at]; exact h3)).mono fun e w' h => ?_
        rcases h with ⟨hb, ⟨h4, _⟩ | ⟨_, _, h5⟩ | ⟨_, h4, _⟩⟩
        · rw [hk] at h4; cases h4
        · exact ⟨⟨_, h5, LstV.nil_ _⟩, hb⟩
        · rw [strP_at_, hq] at h4; cases h4
      · refine (rStruck_ok (dc := dc) (tc := tc) (sc := sc) (zc := zc) (cc := cc) (wc := wc) (xc := xc) (hc := hc) hd hcl hR hB hx hx4 hS hhn h2 h3 c t hk).mono fun e w' h => ?_
        rcases h with ⟨hb, ⟨_, h5⟩ | ⟨h4, _⟩⟩
        · exact ⟨⟨_, h5, LstV.nil_ _⟩, hb⟩
        · rw [hq] at h4; cases h4
  · refine ⟨[], (begE (M.chkD (M.chkC W H nd nt ns dep tide sw) nd nt zn cn wn z cl cu wd) (chkX nd nt at_ lo hi xL) (chkS nd nt at_ hn Xs)), by simp, fun B V dA tA sA zA cA wA xA hA dc tc sc zc cc wc xc hc U hR hB hW hF hx hS => ?_, fun B V dA tA sA zA cA wA xA hA dc tc sc zc cc wc xc hc hR hB hx hS => ?_⟩
    · cases h1 : M.chkD (M.chkC W H nd nt ns dep tide sw) nd nt zn cn wn z cl cu wd
      · exact (struck_bad (dc := dc) (tc := tc) (sc := sc) (zc := zc) (cc := cc) (wc := wc) (xc := xc) (hc := hc) hnd hnt hns hzn hcn hwn hR hB h1 c t).mono fun e w' h => ⟨⟨_, h.1, LstV.nil_ _⟩, h.2⟩
      · rw [h1] at hE
        obtain ⟨d, hd, rfl, rfl, rfl, rfl, rfl, rfl, rfl, rfl, rfl, rfl, rfl, rfl, rfl, rfl, hcl⟩ := M.chkD_form h1
        refine (struck_err (dc := dc) (tc := tc) (sc := sc) (zc := zc) (cc := cc) (wc := wc) (xc := xc) (hc := hc) hd hcl hR hB hW hx hx4 hS hhn c t (by
          rw [chkS_at]
          cases h2 : chkX d.s.nd d.s.nt at_ lo hi xL
          · exact .inl rfl
          · right
            cases h3 : chkS d.s.nd d.s.nt at_ hn Xs
            · rfl
            · rw [h2, h3] at hE; exact absurd rfl hE)).mono fun e w' h => ⟨⟨_, h.1.trans ?_, LstV.nil_ _⟩, h.2⟩
        revert hE
        cases chkX d.s.nd d.s.nt at_ lo hi xL <;> cases chkS d.s.nd d.s.nt at_ hn Xs <;> simp [begE]
    · exact (rstruck_bad (xc := xc) (hc := hc) hnd hnt hns hzn hcn hwn hR hB hx hx4 hS hhn c t _ (by rw [if_neg hE]) hE).mono fun e w' h => ⟨⟨_, h.1, LstV.nil_ _⟩, h.2⟩
end
end Go.Proofs.YtnbeembnnjdmdaaGreatDoor
