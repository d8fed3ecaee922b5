/- lanes.Route, where the chart, the legs and the trip are valid. -/
import Derived.Test.YtkdpmihdhiokkaaDoorK21
import Derived.Lib.SliceRun
namespace Go.Proofs.YtkdpmihdhiokkaaDoor
open Go.RowKit

theorem nil_nil (W : World) : (binOp .eql 22 (.slice none 0 0) (.slice none 0 0)).run Tryd.prog W = .ok (.bool true) W := Lib.run_eql_slice_nil W _ _ none 0 0 0 0 Tryd.underlying22
theorem some_nil (W : World) (a : Addr) (l c : Nat) : (binOp .eql 22 (.slice (some a) l c) (.slice none 0 0)).run Tryd.prog W = .ok (.bool false) W := Lib.run_eql_slice_nil W _ _ (some a) l c 0 0 Tryd.underlying22
theorem RouteV.less {s : M.Sea} {L : Nat → M.Leg} {n : Nat} {r : M.Trip} {base base' : Nat} {v : Value} {w : World} (h : RouteV s L n r base v w) (hb : base' ≤ base) : RouteV s L n r base' v w := by
  unfold RouteV at *
  split
  · rename_i hh
    rw [if_pos hh] at h
    exact h.less hb
  · rename_i hh
    rw [if_neg hh] at h
    exact h
theorem RouteV.yes {s : M.Sea} {L : Nat → M.Leg} {n : Nat} {r : M.Trip} {base : Nat} {v : Value} {w : World} (h : RouteV s L n r base v w) (hh : M.endK s L n r < s.nt - r.at_.toNat) : Own w base 3 1 v (M.endK s L n r + 1) (ints (M.routeF s L n r (M.endK s L n r))) := by
  unfold RouteV at h
  rw [if_pos hh] at h
  exact h
theorem RouteV.no {s : M.Sea} {L : Nat → M.Leg} {n : Nat} {r : M.Trip} {base : Nat} {v : Value} {w : World} (h : RouteV s L n r base v w) (hh : ¬ M.endK s L n r < s.nt - r.at_.toNat) : v = .slice none 0 0 := by
  unfold RouteV at h
  rw [if_neg hh] at h
  exact h
/-- the error of Route -/
def M.routeE (s : M.Sea) (L : Nat → M.Leg) (n : Nat) (r : M.Trip) : Int := if M.endK s L n r < s.nt - r.at_.toNat then 0 else 3
section
variable (s : M.Sea) (dA tA sA lA : Option Addr) (dc tc sc ln lc B : Nat) (L : Nat → M.Leg) (w : World)
set_option maxRecDepth 100000 in
set_option maxHeartbeats 3200000 in
theorem Route_ok (at_ lv dr fr dst : Int) (tl : Bool) (hs : s.Ok) (hw : Ways w) (hR : RdC w B dA tA sA s.nd s.nt s.nt s.dep s.tide s.sw) (hB : B ≤ w.heap.size) (hL : RdL w B lA ln L) (hln : ln ≤ 1048576) (hlo : M.legsOk s ln L = true) (hto : M.tripOk s ⟨at_, lv, dr, tl, fr, dst⟩ = true) :
    Calls Tryd.prog 14 #[.agg #[.int .i64 (s.W : Int), .int .i64 (s.H : Int), .slice dA s.nd dc, .slice tA s.nt tc, .slice sA s.nt sc], .slice lA ln lc, .agg #[.int .i64 at_, .int .i64 lv, .int .i64 dr, .bool tl, .int .i64 fr, .int .i64 dst]] w fun e w' =>
      (∃ v, e = .returned (.tuple #[v, .int .i64 (M.routeE s L ln ⟨at_, lv, dr, tl, fr, dst⟩)]) ∧ RouteV s L ln ⟨at_, lv, dr, tl, fr, dst⟩ w.heap.size v w') ∧ Below w.heap.size w w' := by
  have hok : ∀ i, i < ln → M.LegOk s (L i) := fun i hi => by
    unfold M.legsOk at hlo
    simp only [Bool.and_eq_true] at hlo
    exact M.legOk_iff.1 (M.allTo_iff.1 hlo.2 i hi)
  have HB0 := Lib.hid (belowAlloc2 w (.cells #[.int .i64 (s.W : Int), .int .i64 (s.H : Int), .slice dA s.nd dc, .slice tA s.nt tc, .slice sA s.nt sc] 25) (.cells #[.int .i64 at_, .int .i64 lv, .int .i64 dr, .bool tl, .int .i64 fr, .int .i64 dst] 28))
  have P0 := Lib.hid (Blk.new1 w (.cells #[.int .i64 (s.W : Int), .int .i64 (s.H : Int), .slice dA s.nd dc, .slice tA s.nt tc, .slice sA s.nt sc] 25) 28 #[.int .i64 at_, .int .i64 lv, .int .i64 dr, .bool tl, .int .i64 fr, .int .i64 dst])
  have C0 := Lib.hid ((Blk.new w 25 #[.int .i64 (s.W : Int), .int .i64 (s.H : Int), .slice dA s.nd dc, .slice tA s.nt tc, .slice sA s.nt sc]).alloc (.cells #[.int .i64 at_, .int .i64 lv, .int .i64 dr, .bool tl, .int .i64 fr, .int .i64 dst] 28))
  obtain ⟨Y, hY⟩ : ∃ Y, Y = (w.alloc (.cells #[.int .i64 (s.W : Int), .int .i64 (s.H : Int), .slice dA s.nd dc, .slice tA s.nt tc, .slice sA s.nt sc] 25)).alloc (.cells #[.int .i64 at_, .int .i64 lv, .int .i64 dr, .bool tl, .int .i64 fr, .int .i64 dst] 28) := ⟨_, rfl⟩
  have HYe := Lib.hid hY
  rw [← hY] at HB0 P0 C0
  have HA := Lib.hid (ask_ok s dA tA sA lA dc tc sc ln lc B L Y at_ lv dr fr dst tl hs (⟨hw.1.below (HB0.out.mono hw.2), Nat.lt_of_lt_of_le hw.2 HB0.out.size⟩) (hR.below (HB0.out.mono hB)) (Nat.le_trans hB HB0.out.size) (hL.below (HB0.out.mono hB)) hln hlo hto)
  have HRO := Lib.hid (fun W x base (ht : TrK W base x s.nd s dA tA sA lA dc tc sc ln lc) (hb : Below w.heap.size w W) => route_any s dA tA sA lA dc tc sc ln lc B base x L W at_ lv dr fr dst tl hs ht (hR.below (hb.mono hB)) (Nat.le_trans hB hb.size) (hL.below (hb.mono hB)) hln hok hto)
  have HE := Lib.hid (show M.routeE s L ln ⟨at_, lv, dr, tl, fr, dst⟩ = if M.endK s L ln ⟨at_, lv, dr, tl, fr, dst⟩ < s.nt - (M.Trip.at_ ⟨at_, lv, dr, tl, fr, dst⟩).toNat then 0 else 3 from rfl)
  obtain ⟨r, hr⟩ : ∃ r : M.Trip, r = ⟨at_, lv, dr, tl, fr, dst⟩ := ⟨_, rfl⟩
  rw [← hr] at HRO HE
  rw [← hr]
  obtain ⟨er, her⟩ : ∃ er, er = M.routeE s L ln r := ⟨_, rfl⟩
  rw [← her] at HE
  rw [← her]
  have c0 := C0.out.cell 0
  have c1 := C0.out.cell 1
  have c2 := C0.out.cell 2
  have c3 := C0.out.cell 3
  have c4 := C0.out.cell 4
  have p0 := P0.out.cell 0
  have p1 := P0.out.cell 1
  have p2 := P0.out.cell 2
  have p3 := P0.out.cell 3
  have p4 := P0.out.cell 4
  have p5 := P0.out.cell 5
  have hn0 := nil_nil
  have hn1 := some_nil
  clear hY hs hw hR hL hlo hto hok hr her
  go_enter Tryd.func14, Tryd.ntmps14
  go_upto_region 1 with fail
  rw [← HYe.out]
  clear HYe
  go_upto_region 4 with (go_at_call 37; go_must (refine HA.out.mono ?_); rintro e w1 ⟨⟨x, rfl, hx⟩, hb1⟩; have HX := Lib.hid hx; have HB1 := Lib.hid (HB0.out.trans (hb1.mono HB0.out.size)); have HBY := Lib.hid hb1; clear hx hb1)
  have q0 := (P0.out.below' HBY.out).cell 0
  have q1 := (P0.out.below' HBY.out).cell 1
  have q2 := (P0.out.below' HBY.out).cell 2
  have q3 := (P0.out.below' HBY.out).cell 3
  have q4 := (P0.out.below' HBY.out).cell 4
  have q5 := (P0.out.below' HBY.out).cell 5
  go_upto_region 5 with (go_at_call 38; go_must (refine (HRO.out _ _ _ HX.out HB1.out).mono ?_); rintro e w2 ⟨⟨v, rfl, hv⟩, hb2⟩; have HV := Lib.hid hv; have HB2 := Lib.hid (HB1.out.trans (hb2.mono HB1.out.size)); clear hv hb2)
  by_cases hh : M.endK s L ln r < s.nt - r.at_.toNat
  · have HO := Lib.hid (HV.out.yes hh)
    have HE2 := Lib.hid (show er = 0 by rw [HE.out, if_pos hh])
    obtain ⟨g, c, rfl⟩ := HO.out.nz (Nat.succ_pos _)
    obtain ⟨K, hK⟩ : ∃ K, K = M.endK s L ln r + 1 := ⟨_, rfl⟩
    rw [← hK]
    rw [← hK] at HV
    clear hh hK
    go_wp2_with fail
    go_ret2
    exact ⟨⟨_, by rw [HE2.out]; rfl, HV.out.less HB1.out.size⟩, HB2.out⟩
  · have HE2 := Lib.hid (show er = 3 by rw [HE.out, if_neg hh])
    obtain rfl := HV.out.no hh
    clear hh
    go_wp2_with fail
    go_ret2
    exact ⟨⟨_, by rw [HE2.out]; rfl, HV.out.less HB1.out.size⟩, HB2.out⟩
end
end Go.Proofs.YtkdpmihdhiokkaaDoor
