/- The examples, walked: works. -/
import Derived.Test.YtnbeembnnjdmdaaGreatDoorE11
import Derived.Test.YtnbeembnnjdmdaaGreatDoorD13
namespace Go.Proofs.YtnbeembnnjdmdaaGreatDoor
open Go.RowKit Go.Maps

set_option maxRecDepth 100000 in
set_option maxHeartbeats 6400000 in
theorem works_any (w : World) (hw : Ways w) : Calls Tryz.prog 13 #[] w fun e w' => e = .returned (.bool true) ∧ Below w.heap.size w w' := by
  have HE := Lib.hid (driftEx_any w)
  have HWY := Lib.hid hw
  clear hw
  go_enter Tryz.func13, Tryz.ntmps13
  go_upto_region 2 with (go_at_call 42; go_must (refine HE.out.mono ?_); rintro e w1 ⟨⟨dA, tA, sA, zA, cA, wA, xA, hA, A0, A1, dc, tc, sc, zc, cc, wc, xc, hc, c0, c1, rfl, hd, hx, hs⟩, hb1⟩; have HD := Lib.hid hd; have HX := Lib.hid hx; have HS := Lib.hid hs; have HB1 := Lib.hid hb1; clear hd hx hs hb1)
  have D0 := Lib.hid ((Blk.new w1 29 #[.int .i64 4, .int .i64 3, .slice dA 12 dc, .slice tA 5 tc, .slice sA 5 sc, .slice zA 12 zc, .slice cA 2 cc, .slice wA 4 wc]).alloc (.cells #[.int .i64 0, .slice xA 1 xc, .int .i64 2, .int .i64 4] 44))
  have X0 := Lib.hid (Blk.new1 w1 (.cells #[.int .i64 4, .int .i64 3, .slice dA 12 dc, .slice tA 5 tc, .slice sA 5 sc, .slice zA 12 zc, .slice cA 2 cc, .slice wA 4 wc] 29) 44 #[.int .i64 0, .slice xA 1 xc, .int .i64 2, .int .i64 4])
  have HA2 := Lib.hid (belowAlloc2 w1 (.cells #[.int .i64 4, .int .i64 3, .slice dA 12 dc, .slice tA 5 tc, .slice sA 5 sc, .slice zA 12 zc, .slice cA 2 cc, .slice wA 4 wc] 29) (.cells #[.int .i64 0, .slice xA 1 xc, .int .i64 2, .int .i64 4] 44))
  have HBX := Lib.hid (HB1.out.trans (HA2.out.mono HB1.out.size))
  generalize (w1.alloc (.cells #[.int .i64 4, .int .i64 3, .slice dA 12 dc, .slice tA 5 tc, .slice sA 5 sc, .slice zA 12 zc, .slice cA 2 cc, .slice wA 4 wc] 29)).alloc (.cells #[.int .i64 0, .slice xA 1 xc, .int .i64 2, .int .i64 4] 44) = X at D0 X0 HA2 HBX ⊢
  have HDX := Lib.hid (HD.out.below HA2.out)
  have HXX := Lib.hid (HX.out.below HA2.out)
  have HSX := Lib.hid (HS.out.below HA2.out)
  have HWX := Lib.hid (HWY.out.below HBX.out)
  have hst := dStep_ok (d := exDr) (dA := dA) (tA := tA) (sA := sA) (zA := zA) (cA := cA) (wA := wA) (cl := fun _ => 4) (dc := dc) (tc := tc) (sc := sc) (zc := zc) (cc := cc) (wc := wc) exDr_ok (fun _ _ => rfl) HDX.out HA2.out.size HWX.out 4 0 4
  have HST := Lib.hid (show Calls Tryz.prog 15 #[.agg #[.int .i64 4, .int .i64 3, .slice dA 12 dc, .slice tA 5 tc, .slice sA 5 sc, .slice zA 12 zc, .slice cA 2 cc, .slice wA 4 wc], .int .i64 4, .int .i64 0, .int .i64 4] X fun e w' => Below X.heap.size X w' ∧ ∃ v, e = .returned (.tuple #[v, .int .i64 0]) ∧ IL w' X.heap.size v [-1, 4, 5, 9, 10] from hst.mono fun e w' h => by
    obtain ⟨hb, h2⟩ := h
    rw [if_pos (by kernel_rfl)] at h2
    obtain ⟨v, e1, e2⟩ := h2
    refine ⟨hb, v, e1, ?_⟩
    rw [show Int.toNat 0 = 0 from rfl, ex_step] at e2
    exact e2)
  clear hst
  have d0 := D0.out.cell 0
  have d1 := D0.out.cell 1
  have d2 := D0.out.cell 2
  have d3 := D0.out.cell 3
  have d4 := D0.out.cell 4
  have d5 := D0.out.cell 5
  have d6 := D0.out.cell 6
  have d7 := D0.out.cell 7
  go_upto_region 3 with (go_at_call 15; go_must (refine HST.out.mono ?_); rintro e w2 ⟨hb2, v2, rfl, hi2⟩; have HB2 := Lib.hid hb2; have HI2 := Lib.hid hi2; clear hb2 hi2)
  have D2 := Lib.hid (D0.out.below' HB2.out)
  have X2 := Lib.hid (X0.out.below' HB2.out)
  have HZ2 := Lib.hid (HBX.out.trans (HB2.out.mono HBX.out.size))
  have hsk := struck_ok (d := exDr) (dA := dA) (tA := tA) (sA := sA) (zA := zA) (cA := cA) (wA := wA) (xA := xA) (hA := hA) (hn := 2) (Xs := exX A0 A1 c0 c1) (xL := [4]) (at_ := 0) (lo := 2) (hi := 4) (cl := fun _ => 4) (dc := dc) (tc := tc) (sc := sc) (zc := zc) (cc := cc) (wc := wc) (xc := xc) (hc := hc) exDr_ok (fun _ _ => rfl) (HDX.out.below (HB2.out.mono HA2.out.size)) (Nat.le_trans HA2.out.size HB2.out.size) (HWY.out.below HZ2.out) (HXX.out.below (HB2.out.mono HA2.out.size)) (by show (1 : Nat) ≤ maxLen; unfold maxLen; omega) (HSX.out.below (HB2.out.mono HA2.out.size)) (by unfold maxLen; omega) 4 1 ex_chkX (ex_chkS A0 A1 c0 c1)
  have HSK := Lib.hid (show Calls Tryz.prog 25 #[.agg #[.int .i64 4, .int .i64 3, .slice dA 12 dc, .slice tA 5 tc, .slice sA 5 sc, .slice zA 12 zc, .slice cA 2 cc, .slice wA 4 wc], .agg #[.int .i64 0, .slice xA 1 xc, .int .i64 2, .int .i64 4], .slice hA 2 hc, .int .i64 4, .int .i64 1] w2 fun e w' => Below w2.heap.size w2 w' ∧ ∃ v, e = .returned (.tuple #[v, .int .i64 0]) ∧ LfP w2.heap.size w' v [0] from hsk.mono fun e w' h => by
    obtain ⟨hb, h⟩ := h
    refine ⟨hb, ?_⟩
    rcases h with ⟨h1, _⟩ | ⟨_, h1, _⟩ | ⟨_, _, v, h1, h2⟩
    · cases h1.symm.trans ex_ask
    · cases h1.symm.trans (ex_strP A0 A1 c0 c1)
    · refine ⟨v, h1, ?_⟩
      have h3 := h2
      rw [show strG exDr 0 2 4 [4] (exX A0 A1 c0 c1) 4 1 = strG exDr 0 2 4 [4] (exX A0 A1 c0 c1) 4 1 from rfl, ex_kp A0 A1 c0 c1] at h3
      exact h3)
  clear hsk d0 d1 d2 d3 d4 d5 d6 d7
  have d0 := D2.out.cell 0
  have d1 := D2.out.cell 1
  have d2 := D2.out.cell 2
  have d3 := D2.out.cell 3
  have d4 := D2.out.cell 4
  have d5 := D2.out.cell 5
  have d6 := D2.out.cell 6
  have d7 := D2.out.cell 7
  have x0 := X2.out.cell 0
  have x1 := X2.out.cell 1
  have x2 := X2.out.cell 2
  have x3 := X2.out.cell 3
  go_upto_region 4 with (go_at_call 25; go_must (refine HSK.out.mono ?_); rintro e w3 ⟨hb3, v3, rfl, hl3⟩; have HB3 := Lib.hid hb3; have HL3 := Lib.hid hl3; clear hb3 hl3)
  have HI3 := Lib.hid (HI2.out.below HB3.out)
  obtain ⟨B2, m2, rfl⟩ := Own.form HI3.out
  obtain ⟨g3, m3, e3, hm3, hm3', hg3, hc3⟩ := HL3.out.1.resolve_left (by simp)
  subst e3
  have HC3 := Lib.hid hc3
  have HZ3 := Lib.hid (HZ2.out.trans (HB3.out.mono HZ2.out.size))
  clear d0 d1 d2 d3 d4 d5 d6 d7 x0 x1 x2 x3 hc3 hm3 hm3' HST HSK
  have hsa := sameInts_any B2 (some ⟨w3.heap.size, 0, none⟩) 5 5 m2 5 (w3.heap.size + 1) (fun i => ([-1, 4, 5, 9, 10] : List Int).getD i 0) (fun i => ([-1, 4, 5, 9, 10] : List Int).getD i 0) (w3.alloc (.cells #[.int .i64 (-1), .int .i64 4, .int .i64 5, .int .i64 9, .int .i64 10] 3)) (by unfold maxLen; omega) (by unfold maxLen; omega) (((Own.rd1' HI3.out).below (belowAlloc w3 _)).more (by omega)) (.inr ⟨w3.heap.size, 0, rfl, by omega, fun i hi => by
    rw [Nat.zero_add]
    refine ((Blk.new w3 3 #[.int .i64 (-1), .int .i64 4, .int .i64 5, .int .i64 9, .int .i64 10]).cell i).trans ?_
    obtain rfl | rfl | rfl | rfl | rfl : i = 0 ∨ i = 1 ∨ i = 2 ∨ i = 3 ∨ i = 4 := by omega
    all_goals rfl⟩)
  rw [same_self] at hsa
  have HSA := Lib.hid hsa
  have HB4 := Lib.hid (belowAlloc w3 (.cells #[.int .i64 (-1), .int .i64 4, .int .i64 5, .int .i64 9, .int .i64 10] 3))
  have HSB := Lib.hid (fun (V : World) (hb : Below w3.heap.size w3 V) => (show Calls Tryz.prog 19 #[.slice (some ⟨g3, 0, none⟩) 1 m3, .slice (some ⟨V.heap.size, 0, none⟩) 1 1] (V.alloc (.cells #[.int .i64 0] 3)) fun e w' => e = .returned (.bool (sameF 1 1 (fun _ => 0) (fun _ => 0))) ∧ Below (V.alloc (.cells #[.int .i64 0] 3)).heap.size (V.alloc (.cells #[.int .i64 0] 3)) w' from sameInts_any (some ⟨g3, 0, none⟩) (some ⟨V.heap.size, 0, none⟩) 1 1 m3 1 (V.heap.size + 1) (fun _ => 0) (fun _ => 0) _ (by unfold maxLen; omega) (by unfold maxLen; omega) (.inr ⟨g3, 0, rfl, by have := hb.size; omega, fun i hi => by
      obtain rfl : i = 0 := by omega
      refine ((belowAlloc V _).cell (p := ⟨g3, 0 + 0, none⟩) (by show g3 < V.heap.size; have := hb.size; omega)).trans ((hb.cell (p := ⟨g3, 0 + 0, none⟩) hg3).trans ?_)
      exact HC3.out 0 (by decide)⟩) (.inr ⟨V.heap.size, 0, rfl, by omega, fun i hi => by
      obtain rfl : i = 0 := by omega
      exact (Blk.new V 3 #[.int .i64 0]).cell 0⟩)))
  clear hsa
  go_wp2_with fail
  refine HSA.out.mono ?_
  rintro e w4 ⟨rfl, hb4⟩
  have HB5 := Lib.hid (HB4.out.trans (hb4.mono (by simp)))
  clear hb4
  have HSC := Lib.hid (HSB.out w4 HB5.out)
  rw [same_self] at HSC
  clear HSB HSA
  go_wp2_with fail
  refine HSC.out.mono ?_
  rintro e w5 ⟨rfl, hb5⟩
  have HB6 := Lib.hid (HB5.out.trans (((belowAlloc w4 (.cells #[.int .i64 0] 3)).trans (hb5.mono (by simp))).mono HB5.out.size))
  clear hb5
  go_wp2_with fail
  go_ret
  exact ⟨rfl, HZ3.out.trans (HB6.out.mono HZ3.out.size)⟩
end Go.Proofs.YtnbeembnnjdmdaaGreatDoor
