/- DriftNames, walked. -/
import Derived.Test.YtnbeembnnjdmdaaGreatDoorJ11
import Derived.Test.YtnbeembnnjdmdaaGreatDoorP1
import Derived.Test.YtnbeembnnjdmdaaGreatDoorDT2
import Derived.Test.YtnbeembnnjdmdaaGreatDoorCards
import Derived.SevenTiedAt
namespace Go.Proofs.YtnbeembnnjdmdaaGreatDoor
open Go.RowKit Go.Maps

section
variable {W H : Int} {dA tA sA zA cA wA xA hA : Option Addr} {nd dc nt tc ns sc zn zc cn cc wn wc xc hn hc B : Nat} {at_ lo hi : Int} {dep : Nat → Int} {tide : Nat → Nat → Int} {sw z : Nat → Int} {cl : Nat → Nat} {cu : Nat → Nat → Nat → Int} {wd : Nat → Nat → Int} {xL : List Int} {Xs : Nat → SgV} {w : World}
set_option maxRecDepth 100000 in
set_option maxHeartbeats 12800000 in
theorem driftNames_any (hnd : nd ≤ maxLen) (hnt : nt ≤ maxLen) (hns : ns ≤ maxLen) (hzn : zn ≤ maxLen) (hcn : cn ≤ maxLen) (hwn : wn ≤ maxLen) (hR : RdD w B dA tA sA zA cA wA nd nt ns zn cn wn dep tide sw z cl cu wd) (hB : B ≤ w.heap.size) (hW : Ways w)
  (hx3 : Rd1 w B xA xL.length (fun k => xL.getD k 0)) (hx4 : xL.length ≤ maxLen) (hRS : RdS w B hA hn Xs) (hhn : hn ≤ maxLen) (cq tq : Int) (hF : Fre w) :
  Calls Tryz.prog 4 #[.agg #[.int .i64 W, .int .i64 H, .slice dA nd dc, .slice tA nt tc, .slice sA ns sc, .slice zA zn zc, .slice cA cn cc, .slice wA wn wc], .agg #[.int .i64 at_, .slice xA xL.length xc, .int .i64 lo, .int .i64 hi], .agg #[.slice hA hn hc, .int .i64 cq, .int .i64 tq]] w fun e w' => e = .returned (.bool true) ∧ Below w.heap.size w w' := by
 have HB0 := Lib.hid (belowAlloc3 w (.cells #[.int .i64 W, .int .i64 H, .slice dA nd dc, .slice tA nt tc, .slice sA ns sc, .slice zA zn zc, .slice cA cn cc, .slice wA wn wc] 29) (.cells #[.int .i64 at_, .slice xA xL.length xc, .int .i64 lo, .int .i64 hi] 44) (.cells #[.slice hA hn hc, .int .i64 cq, .int .i64 tq] 47))
 have K0 := Lib.hid (((Blk.new w 29 #[.int .i64 W, .int .i64 H, .slice dA nd dc, .slice tA nt tc, .slice sA ns sc, .slice zA zn zc, .slice cA cn cc, .slice wA wn wc]).alloc (.cells #[.int .i64 at_, .slice xA xL.length xc, .int .i64 lo, .int .i64 hi] 44)).alloc (.cells #[.slice hA hn hc, .int .i64 cq, .int .i64 tq] 47))
 have X0 := Lib.hid ((Blk.new1 w (.cells #[.int .i64 W, .int .i64 H, .slice dA nd dc, .slice tA nt tc, .slice sA ns sc, .slice zA zn zc, .slice cA cn cc, .slice wA wn wc] 29) 44 #[.int .i64 at_, .slice xA xL.length xc, .int .i64 lo, .int .i64 hi]).alloc (.cells #[.slice hA hn hc, .int .i64 cq, .int .i64 tq] 47))
 have Z0 := Lib.hid (Blk.new2 w (.cells #[.int .i64 W, .int .i64 H, .slice dA nd dc, .slice tA nt tc, .slice sA ns sc, .slice zA zn zc, .slice cA cn cc, .slice wA wn wc] 29) (.cells #[.int .i64 at_, .slice xA xL.length xc, .int .i64 lo, .int .i64 hi] 44) 47 #[.slice hA hn hc, .int .i64 cq, .int .i64 tq])
 have HFA := Lib.hid (fun (V : World) (hb : Below w.heap.size w V) => rfar_any (dc := dc) (tc := tc) (sc := sc) (zc := zc) (cc := cc) (wc := wc) (W := W) (H := H) hnd hnt hns hzn hcn hwn (hR.below (hb.mono hB)) (Nat.le_trans hB hb.size))
 have HFS := Lib.hid (fun (V : World) (hb : Below w.heap.size w V) => rfarseen_any at_ lo hi xA hA xL.length xc hn hc B Xs V hx4 hhn (hRS.below (hb.mono hB)) (Nat.le_trans hB hb.size))
 have HCO' := Lib.hid (fun (V : World) (hb : Below w.heap.size w V) (ok : Bool) (hF : FarOk nd nt ns zn cn wn cl ok) => rdcopy_own (dc := dc) (tc := tc) (sc := sc) (zc := zc) (cc := cc) (wc := wc) (W := W) (H := H) hF (hR.below (hb.mono hB)) (Nat.le_trans hB hb.size))
 have HCP' := Lib.hid (fun (V : World) (hb : Below w.heap.size w V) (hn1 : xL.length ≤ 1048576) => rcopied_any (at_ := at_) (lo := lo) (hi := hi) (xc := xc) (hx3.below (hb.mono hB)) hn1 (Nat.le_trans hB hb.size))
 have HCS' := Lib.hid (fun (V : World) (hb : Below w.heap.size w V) (h1 : hn ≤ 40) (h2 : ∀ i, i < hn → (Xs i).L.length ≤ 200) => rcopyseen_any hA hn hc B Xs V (hRS.below (hb.mono hB)) (Nat.le_trans hB hb.size) (by omega) (fun i hi => Nat.le_trans (h2 i hi) (by omega)))
 have HWK := Lib.hid (fun (V : World) (hb : Below w.heap.size w V) => works_any V (hW.below hb))
 have HWY := Lib.hid (fun (V : World) (hb : Below w.heap.size w V) => And.intro (hW.below hb) (hF.below hb))
 obtain ⟨L, r, hL1, hP, hQ⟩ := conflict_both (W := W) (H := H) (at_ := at_) (lo := lo) (hi := hi) (dep := dep) (tide := tide) (sw := sw) (z := z) (cl := cl) (cu := cu) (wd := wd) (xL := xL) (hn := hn) (Xs := Xs) hnd hnt hns hzn hcn hwn hx4 hhn
 obtain ⟨M, r2, hM1, hP2, hQ2⟩ := struck_both (W := W) (H := H) (at_ := at_) (lo := lo) (hi := hi) (dep := dep) (tide := tide) (sw := sw) (z := z) (cl := cl) (cu := cu) (wd := wd) (xL := xL) (hn := hn) (Xs := Xs) hnd hnt hns hzn hcn hwn hx4 hhn cq tq
 have HP := Lib.hid hP
 have HP2 := Lib.hid hP2
 have HQ := Lib.hid (fun (V : World) (hb : Below w.heap.size w V) => hQ B V dA tA sA zA cA wA xA hA dc tc sc zc cc wc xc hc (hR.below (hb.mono hB)) (Nat.le_trans hB hb.size) (hx3.below (hb.mono hB)) (hRS.below (hb.mono hB)))
 have HQ2 := Lib.hid (fun (V : World) (hb : Below w.heap.size w V) => hQ2 B V dA tA sA zA cA wA xA hA dc tc sc zc cc wc xc hc (hR.below (hb.mono hB)) (Nat.le_trans hB hb.size) (hx3.below (hb.mono hB)) (hRS.below (hb.mono hB)))
 clear hP hP2 hQ hQ2 hR hW hx3 hRS hF
 go_enter Tryz.func4, Tryz.ntmps4
 go_upto_region 1 with fail
 generalize ((w.alloc (.cells #[.int .i64 W, .int .i64 H, .slice dA nd dc, .slice tA nt tc, .slice sA ns sc, .slice zA zn zc, .slice cA cn cc, .slice wA wn wc] 29)).alloc (.cells #[.int .i64 at_, .slice xA xL.length xc, .int .i64 lo, .int .i64 hi] 44)).alloc (.cells #[.slice hA hn hc, .int .i64 cq, .int .i64 tq] 47) = X at HB0 K0 X0 Z0 ⊢
 simp only [Nat.add_assoc, Nat.reduceAdd] at Z0 ⊢
 have HFX := Lib.hid (HFA.out X HB0.out)
 have k0 := K0.out.cell 0
 have k1 := K0.out.cell 1
 have k2 := K0.out.cell 2
 have k3 := K0.out.cell 3
 have k4 := K0.out.cell 4
 have k5 := K0.out.cell 5
 have k6 := K0.out.cell 6
 have k7 := K0.out.cell 7
 have x0 := X0.out.cell 0
 have x1 := X0.out.cell 1
 have x2 := X0.out.cell 2
 have x3 := X0.out.cell 3
 have z0 := Z0.out.cell 0
 have z1 := Z0.out.cell 1
 have z2 := Z0.out.cell 2
 go_wp2_with fail
 refine HFX.out.mono ?_
 rintro e w1 ⟨⟨q, rfl, hq⟩, hb⟩
 have HB1 := Lib.hid (HB0.out.trans (hb.mono HB0.out.size))
 have K1 := Lib.hid (K0.out.below' hb)
 have X1 := Lib.hid (X0.out.below' hb)
 have Z1 := Lib.hid (Z0.out.below' hb)
 have HFQ := Lib.hid hq
 clear k0 k1 k2 k3 k4 k5 k6 k7 x0 x1 x2 x3 z0 z1 z2
 clear hb hq HFX HFA K0 X0 Z0 HB0
 cases q
 rotate_left
 ·
  have HWX := Lib.hid (HWK.out w1 HB1.out)
  go_wp2_with fail
  refine HWX.out.mono ?_
  rintro e wz ⟨rfl, hb⟩
  have HBZ := Lib.hid (HB1.out.trans (hb.mono HB1.out.size))
  clear hb
  go_wp2_with fail
  go_ret
  exact ⟨rfl, HBZ.out⟩
 have HOK := Lib.hid (HFQ.out rfl)
 clear HFQ
 have HFY := Lib.hid (HFS.out w1 HB1.out)
 have k0 := K1.out.cell 0
 have k1 := K1.out.cell 1
 have k2 := K1.out.cell 2
 have k3 := K1.out.cell 3
 have k4 := K1.out.cell 4
 have k5 := K1.out.cell 5
 have k6 := K1.out.cell 6
 have k7 := K1.out.cell 7
 have x0 := X1.out.cell 0
 have x1 := X1.out.cell 1
 have x2 := X1.out.cell 2
 have x3 := X1.out.cell 3
 have z0 := Z1.out.cell 0
 have z1 := Z1.out.cell 1
 have z2 := Z1.out.cell 2
 go_wp2_with fail
 refine HFY.out.mono ?_
 rintro e w2 ⟨⟨q, rfl, hq⟩, hb⟩
 have HB2 := Lib.hid (HB1.out.trans (hb.mono HB1.out.size))
 have K2 := Lib.hid (K1.out.below' hb)
 have X2 := Lib.hid (X1.out.below' hb)
 have Z2 := Lib.hid (Z1.out.below' hb)
 have HFQ := Lib.hid hq
 clear k0 k1 k2 k3 k4 k5 k6 k7 x0 x1 x2 x3 z0 z1 z2
 clear hb hq HFY HFS K1 X1 Z1 HB1
 cases q
 rotate_left
 ·
  have HWX := Lib.hid (HWK.out w2 HB2.out)
  go_wp2_with fail
  refine HWX.out.mono ?_
  rintro e wz ⟨rfl, hb⟩
  have HBZ := Lib.hid (HB2.out.trans (hb.mono HB2.out.size))
  clear hb
  go_wp2_with fail
  go_ret
  exact ⟨rfl, HBZ.out⟩
 have HSK := Lib.hid (HFQ.out rfl)
 clear HFQ
 have HCO := Lib.hid (fun (V : World) (hb : Below w.heap.size w V) => HCO'.out V hb _ HOK.out)
 have HCP := Lib.hid (fun (V : World) (hb : Below w.heap.size w V) => HCP'.out V hb (Nat.le_trans HSK.out.x (by omega)))
 have HCS := Lib.hid (fun (V : World) (hb : Below w.heap.size w V) => HCS'.out V hb HSK.out.n HSK.out.l)
 have HCL := Lib.hid (show ∀ i, i < cn → cl i ≤ maxLen from fun i hi => by have := HOK.out.l i hi; unfold maxLen; omega)
 have HSL := Lib.hid (show ∀ i, i < hn → (Xs i).L.length ≤ maxLen from fun i hi => by have := HSK.out.l i hi; unfold maxLen; omega)
 clear HCO' HCP' HCS'
 go_upto_region 3 with fail
 refine wp_nopanic ?_
 refine wp_region_T 11 (fun w' => Below w2.heap.size w2 w') (by kernel_rfl) (Below.refl _ _).drew ?_
 intro hS
 refine takeK (i := 0) (v := ?_) rfl (by kernel_rfl) (.inl ⟨by kernel_rfl, ?_⟩) hS ?_
 rotate_left
 · (intro w' hw; have k0 := (K2.out.below' hw).cell 0; have k1 := (K2.out.below' hw).cell 1; have k2 := (K2.out.below' hw).cell 2; have k3 := (K2.out.below' hw).cell 3; have k4 := (K2.out.below' hw).cell 4; have k5 := (K2.out.below' hw).cell 5; have k6 := (K2.out.below' hw).cell 6; have k7 := (K2.out.below' hw).cell 7; go_simp; try with_reducible rfl)
 try simp only [put_laws]
 refine takeK (i := 2) (v := ?_) rfl (by kernel_rfl) (.inl ⟨by kernel_rfl, ?_⟩) hS ?_
 rotate_left
 · (intro w' hw; have x0 := (X2.out.below' hw).cell 0; have x1 := (X2.out.below' hw).cell 1; have x2 := (X2.out.below' hw).cell 2; have x3 := (X2.out.below' hw).cell 3; go_simp; try with_reducible rfl)
 try simp only [put_laws]
 refine takeK (i := 4) (v := ?_) rfl (by kernel_rfl) (.inl ⟨by kernel_rfl, ?_⟩) hS ?_
 rotate_left
 · (intro w' hw; go_simp; try with_reducible rfl)
 try simp only [put_laws]
 refine takeK (i := 5) (v := ?_) rfl (by kernel_rfl) (.inl ⟨by kernel_rfl, ?_⟩) hS ?_
 rotate_left
 · (intro w' hw; have z0 := (Z2.out.below' hw).cell 0; go_simp; try with_reducible rfl)
 try simp only [put_laws]
 refine wpAnyT_inv (fun listed a V => ∃ (bc bx bs b7 b8 d7 d8 ba : Bool) (vc vx vs x7 x8 x9 : Value), listed = #[true, bc, true, bx, true, true, bs, b7, b8, d7, d8, ba] ∧ a = { tmps := List.toArray (.agg #[.int .i64 W, .int .i64 H, .slice dA nd dc, .slice tA nt tc, .slice sA ns sc, .slice zA zn zc, .slice cA cn cc, .slice wA wn wc] :: .agg #[.int .i64 at_, .slice xA xL.length xc, .int .i64 lo, .int .i64 hi] :: .agg #[.slice hA hn hc, .int .i64 cq, .int .i64 tq] :: .pointer (some ⟨w.heap.size, 0, none⟩) :: .pointer (some ⟨w.heap.size + 1, 0, none⟩) :: .pointer (some ⟨w.heap.size + 2, 0, none⟩) :: .bool false :: x7 :: x8 :: x9 :: undef :: undef :: undef :: undef :: undef :: undef :: undef :: undef :: .agg #[.int .i64 W, .int .i64 H, .slice dA nd dc, .slice tA nt tc, .slice sA ns sc, .slice zA zn zc, .slice cA cn cc, .slice wA wn wc] :: .bool false :: .bool false :: .agg #[.int .i64 at_, .slice xA xL.length xc, .int .i64 lo, .int .i64 hi] :: .pointer (some ⟨w.heap.size + 2, 0, none⟩) :: .slice hA hn hc :: .bool false :: .bool false :: undef :: .agg #[.int .i64 W, .int .i64 H, .slice dA nd dc, .slice tA nt tc, .slice sA ns sc, .slice zA zn zc, .slice cA cn cc, .slice wA wn wc] :: vc :: .agg #[.int .i64 at_, .slice xA xL.length xc, .int .i64 lo, .int .i64 hi] :: vx :: .pointer (some ⟨w.heap.size + 2, 0, none⟩) :: .slice hA hn hc :: vs :: undef :: undef :: undef :: undef :: undef :: undef :: undef :: undef :: undef :: undef :: undef :: undef :: undef :: undef :: undef :: undef :: undef :: undef :: undef :: undef :: undef :: undef :: undef :: undef :: undef :: undef :: undef :: undef :: undef :: undef :: undef :: undef :: undef :: undef :: undef :: undef :: undef :: undef :: undef :: undef :: undef :: undef :: undef :: undef :: undef :: undef :: undef :: undef :: undef :: undef :: undef :: undef :: undef :: undef :: undef :: undef :: undef :: undef :: undef :: []), defers := [] } ∧ CpyI w2 W H nd nt ns zn cn wn dep tide sw z cl cu wd at_ lo hi xL hn Xs bc bx bs b7 b8 d7 d8 ba vc vx vs x7 x8 x9 V) ?_ ?_ _ _ _ _ (of_decide_eq_true (by kernel_rfl)) ?_
 rotate_left 2
 · exact ⟨false, false, false, false, false, false, false, false, undef, undef, undef, undef, undef, undef, rfl, rfl, CpyI.start hS⟩
 rotate_left
 ·
  rintro listed a V i o hlt hun hall ho ⟨bc, bx, bs, b7, b8, d7, d8, ba, vc, vx, vs, x7, x8, x9, rfl, rfl, hI⟩ K' hK'
  have hi : i = 0 ∨ i = 1 ∨ i = 2 ∨ i = 3 ∨ i = 4 ∨ i = 5 ∨ i = 6 ∨ i = 7 ∨ i = 8 ∨ i = 9 ∨ i = 10 ∨ i = 11 := by have hlt' : i < 12 := hlt; omega
  rcases hi with rfl | rfl | rfl | rfl | rfl | rfl | rfl | rfl | rfl | rfl | rfl | rfl
  · exact absurd hun (by simp)
  ·
   obtain rfl : bc = false := hun
   have ho' := Option.some.inj ho
   subst ho'
   go_simp
   refine (HCO.out V (HB2.out.trans (hI.b.mono HB2.out.size))).mono ?_
   rintro e w5 ⟨⟨dA', dc', tA', tc', sA', sc', zA', zc', cA', cc', wA', wc', rfl, R, hO⟩, hb⟩
   try simp only
   exact hK'.out _ _ (.inr (hI.b.trans (hb.mono hI.b.size))) ⟨true, bx, bs, b7, b8, d7, d8, ba, _, _, _, _, _, _, rfl, rfl, hI.callc hb ⟨dA', dc', tA', tc', sA', sc', zA', zc', cA', cc', wA', wc', R, rfl, hO⟩⟩
  · exact absurd hun (by simp)
  ·
   obtain rfl : bx = false := hun
   have ho' := Option.some.inj ho
   subst ho'
   go_simp
   refine (HCP.out V (HB2.out.trans (hI.b.mono HB2.out.size))).mono ?_
   rintro e w5 ⟨⟨A', c', rfl, hO⟩, hb⟩
   try simp only
   exact hK'.out _ _ (.inr (hI.b.trans (hb.mono hI.b.size))) ⟨bc, true, bs, b7, b8, d7, d8, ba, _, _, _, _, _, _, rfl, rfl, hI.callx hb hO⟩
  · exact absurd hun (by simp)
  · exact absurd hun (by simp)
  ·
   obtain rfl : bs = false := hun
   have ho' := Option.some.inj ho
   subst ho'
   go_simp
   refine (HCS.out V (HB2.out.trans (hI.b.mono HB2.out.size))).mono ?_
   rintro e w5 ⟨⟨v5, rfl, hO⟩, hb⟩
   try simp only
   exact hK'.out _ _ (.inr (hI.b.trans (hb.mono hI.b.size))) ⟨bc, bx, true, b7, b8, d7, d8, ba, _, _, _, _, _, _, rfl, rfl, hI.calls hb hO⟩
  ·
   obtain rfl : b7 = false := hun
   have ho' := Option.some.inj ho
   subst ho'
   go_simp
   try simp only [put_laws]
   exact hK'.out _ _ (.inr (hI.b.alloc hI.b.size _)) ⟨bc, bx, bs, true, b8, d7, d8, ba, _, _, _, _, _, _, rfl, rfl, hI.alloc7 rfl⟩
  ·
   obtain rfl : b8 = false := hun
   have ho' := Option.some.inj ho
   subst ho'
   go_simp
   try simp only [put_laws]
   exact hK'.out _ _ (.inr (hI.b.alloc hI.b.size _)) ⟨bc, bx, bs, b7, true, d7, d8, ba, _, _, _, _, _, _, rfl, rfl, hI.alloc8 rfl⟩
  ·
   obtain rfl : d7 = false := hun
   have ho' := Option.some.inj ho
   subst ho'
   have hb7 : b7 = true := hall _ (Array.mem_of_getElem? (i := 0) rfl) rfl
   have hbc : bc = true := hall _ (Array.mem_of_getElem? (i := 1) rfl) rfl
   obtain ⟨g, cs, hg, rfl, hbk, hz, -⟩ := hI.h7 hb7
   obtain rfl := hz rfl
   obtain ⟨dA', dc', tA', tc', sA', sc', zA', zc', cA', cc', wA', wc', R, rfl, hO⟩ := hI.hc hbc
   have c0 := hbk.cell 0
   have c1 := hbk.cell 1
   have c2 := hbk.cell 2
   have c3 := hbk.cell 3
   have c4 := hbk.cell 4
   have c5 := hbk.cell 5
   have c6 := hbk.cell 6
   have c7 := hbk.cell 7
   have f0 := hbk.frz 0
   have f1 := hbk.frz 1
   have f2 := hbk.frz 2
   have f3 := hbk.frz 3
   have f4 := hbk.frz 4
   have f5 := hbk.frz 5
   have f6 := hbk.frz 6
   have f7 := hbk.frz 7
   have hgl := hbk.lt
   go_simp
   try simp only [put_laws]
   have hJ := hI.store7 hbc hb7 hg hbk (gset (gset (gset (gset (gset (gset (gset (gset (World.grownBy.refl _ _)))))))) ) ((((((((hbk.set_ 0 _).set_ 1 _).set_ 2 _).set_ 3 _).set_ 4 _).set_ 5 _).set_ 6 _).set_ 7 _) rfl
   exact hK'.out _ _ (.inr hJ.b) ⟨bc, bx, bs, b7, b8, true, d8, ba, _, _, _, _, _, _, rfl, rfl, hJ⟩
  ·
   obtain rfl : d8 = false := hun
   have ho' := Option.some.inj ho
   subst ho'
   have hb8 : b8 = true := hall _ (Array.mem_of_getElem? (i := 0) rfl) rfl
   have hbx : bx = true := hall _ (Array.mem_of_getElem? (i := 1) rfl) rfl
   obtain ⟨g, cs, hg, rfl, hbk, hz, -⟩ := hI.h8 hb8
   obtain rfl := hz rfl
   obtain ⟨A', c', rfl, hO⟩ := hI.hx hbx
   have c0 := hbk.cell 0
   have c1 := hbk.cell 1
   have c2 := hbk.cell 2
   have c3 := hbk.cell 3
   have f0 := hbk.frz 0
   have f1 := hbk.frz 1
   have f2 := hbk.frz 2
   have f3 := hbk.frz 3
   have hgl := hbk.lt
   go_simp
   try simp only [put_laws]
   have hJ := hI.store8 hbx hb8 hg hbk (gset (gset (gset (gset (World.grownBy.refl _ _))))) ((((hbk.set_ 0 _).set_ 1 _).set_ 2 _).set_ 3 _) rfl
   exact hK'.out _ _ (.inr hJ.b) ⟨bc, bx, bs, b7, b8, d7, true, ba, _, _, _, _, _, _, rfl, rfl, hJ⟩
  ·
   obtain rfl : ba = false := hun
   have ho' := Option.some.inj ho
   subst ho'
   have hbs : bs = true := hall _ (Array.mem_of_getElem? (i := 0) rfl) rfl
   go_simp
   try simp only [put_laws]
   exact hK'.out _ _ (.inl rfl) ⟨bc, bx, bs, b7, b8, d7, d8, true, _, _, _, _, _, _, rfl, rfl, hI.assign hbs⟩
 rintro listed a V hr ⟨bc, bx, bs, b7, b8, d7, d8, ba, vc, vx, vs, x7, x8, x9, rfl, rfl, hI⟩
 have hall : bc = true ∧ bx = true ∧ bs = true ∧ b7 = true ∧ b8 = true ∧ d7 = true ∧ d8 = true ∧ ba = true := by
  clear hI
  cases bc <;> cases bx <;> cases bs <;> cases b7 <;> cases b8 <;> cases d7 <;> cases d8 <;> cases ba <;> first | exact ⟨rfl, rfl, rfl, rfl, rfl, rfl, rfl, rfl⟩ | exact absurd hr (of_decide_eq_false (by kernel_rfl))
 obtain ⟨rfl, rfl, rfl, rfl, rfl, rfl, rfl, rfl⟩ := hall
 refine ⟨fun x e => (by cases e), ?_⟩
 obtain ⟨dA', dc', tA', tc', sA', sc', zA', zc', cA', cc', wA', wc', R, rfl, hO⟩ := hI.hc rfl
 obtain ⟨A', c', rfl, hX⟩ := hI.hx rfl
 obtain ⟨g7, cs7, hg7, rfl, hk7, -, e7⟩ := hI.h7 rfl
 obtain ⟨g8, cs8, hg8, rfl, hk8, -, e8⟩ := hI.h8 rfl
 cases e7 rfl
 cases e8 rfl
 obtain rfl := hI.ha rfl
 have hCS := hI.hs rfl
 obtain ⟨A9, c9, rfl⟩ := hCS.form
 obtain ⟨w3, rfl⟩ : ∃ w3, w3 = V := ⟨_, rfl⟩
 have HB3 := Lib.hid (HB2.out.trans (hI.b.mono HB2.out.size))
 have K3 := Lib.hid (K2.out.below' hI.b)
 have X3 := Lib.hid (X2.out.below' hI.b)
 have C3 := Lib.hid hk7
 have Y3 := Lib.hid hk8
 have O3 := Lib.hid hO
 have I3 := Lib.hid hX
 have S3 := Lib.hid hCS
 have HBV := Lib.hid hI.b
 have Z3 := Lib.hid (Z2.out.below' hI.b)
 clear hO hX hk7 hk8 hCS hg7 hg8 e7 e8 K2 X2 Z2 HCO HCP HCS
 try clear hr
 try clear hS
 generalize w2.heap.size = b2 at O3 I3 S3
 have hB2 := HBV.out
 clear HBV hI HB2 hB2
 clear w2
 unfold maxLen at hx4 hhn
 obtain ⟨U, hU⟩ := CS.rd S3.out HSL.out
 have HPX := Lib.hid (HP.out w3.heap.size w3 dA' tA' sA' zA' cA' wA' A' A9 dc' tc' sc' zc' cc' wc' c' c9 U (O3.out.rd HCL.out) (Nat.le_refl _) (HWY.out w3 HB3.out).1 (HWY.out w3 HB3.out).2 (IL.rd I3.out) hU)
 clear hU
 have k0 := C3.out.cell 0
 have k1 := C3.out.cell 1
 have k2 := C3.out.cell 2
 have k3 := C3.out.cell 3
 have k4 := C3.out.cell 4
 have k5 := C3.out.cell 5
 have k6 := C3.out.cell 6
 have k7 := C3.out.cell 7
 have x0 := Y3.out.cell 0
 have x1 := Y3.out.cell 1
 have x2 := Y3.out.cell 2
 have x3 := Y3.out.cell 3
 have z0 := Z3.out.cell 0
 have z1 := Z3.out.cell 1
 have z2 := Z3.out.cell 2
 go_wp2_with fail
 refine HPX.out.mono ?_
 rintro e w4 ⟨⟨vA, rfl, hrw⟩, hb⟩
 obtain ⟨aA, cA, rfl, haw⟩ := hrw
 have LA4 := Lib.hid (show LstV w4 (.slice aA L.length cA) L from ⟨_, _, rfl, haw⟩)
 clear k0 k1 k2 k3 k4 k5 k6 k7 x0 x1 x2 x3 z0 z1 z2
 have HB4 := Lib.hid (HB3.out.trans (hb.mono HB3.out.size))
 have K4 := Lib.hid (K3.out.below' hb)
 have X4 := Lib.hid (X3.out.below' hb)
 have Z4 := Lib.hid (Z3.out.below' hb)
 have C4 := Lib.hid (C3.out.below' hb)
 have Y4 := Lib.hid (Y3.out.below' hb)
 have O4 := Lib.hid (O3.out.below hb)
 have I4 := Lib.hid (Own.below I3.out hb)
 have S4 := Lib.hid (S3.out.below hb)
 clear haw HPX HP
 clear hb HB3 O3 I3 S3 K3 X3 Z3 C3 Y3
 have HPX := Lib.hid (HQ.out w4 HB4.out)
 have k0 := K4.out.cell 0
 have k1 := K4.out.cell 1
 have k2 := K4.out.cell 2
 have k3 := K4.out.cell 3
 have k4 := K4.out.cell 4
 have k5 := K4.out.cell 5
 have k6 := K4.out.cell 6
 have k7 := K4.out.cell 7
 have x0 := X4.out.cell 0
 have x1 := X4.out.cell 1
 have x2 := X4.out.cell 2
 have x3 := X4.out.cell 3
 have z0 := Z4.out.cell 0
 have z1 := Z4.out.cell 1
 have z2 := Z4.out.cell 2
 go_wp2_with fail
 refine HPX.out.mono ?_
 rintro e w5 ⟨⟨vB, rfl, hrw⟩, hb⟩
 obtain ⟨aB, cB, rfl, haw⟩ := hrw
 have LB5 := Lib.hid (show LstV w5 (.slice aB L.length cB) L from ⟨_, _, rfl, haw⟩)
 have LA5 := Lib.hid (LA4.out.below hb)
 clear k0 k1 k2 k3 k4 k5 k6 k7 x0 x1 x2 x3 z0 z1 z2
 have HB5 := Lib.hid (HB4.out.trans (hb.mono HB4.out.size))
 have K5 := Lib.hid (K4.out.below' hb)
 have X5 := Lib.hid (X4.out.below' hb)
 have Z5 := Lib.hid (Z4.out.below' hb)
 have C5 := Lib.hid (C4.out.below' hb)
 have Y5 := Lib.hid (Y4.out.below' hb)
 have O5 := Lib.hid (O4.out.below hb)
 have I5 := Lib.hid (Own.below I4.out hb)
 have S5 := Lib.hid (S4.out.below hb)
 clear haw HPX HQ
 clear LA4
 clear hb HB4 O4 I4 S4 K4 X4 Z4 C4 Y4
 obtain ⟨U, hU⟩ := CS.rd S5.out HSL.out
 have HPX := Lib.hid (HP2.out w5.heap.size w5 dA' tA' sA' zA' cA' wA' A' A9 dc' tc' sc' zc' cc' wc' c' c9 U (O5.out.rd HCL.out) (Nat.le_refl _) (HWY.out w5 HB5.out).1 (HWY.out w5 HB5.out).2 (IL.rd I5.out) hU)
 clear hU
 have k0 := C5.out.cell 0
 have k1 := C5.out.cell 1
 have k2 := C5.out.cell 2
 have k3 := C5.out.cell 3
 have k4 := C5.out.cell 4
 have k5 := C5.out.cell 5
 have k6 := C5.out.cell 6
 have k7 := C5.out.cell 7
 have x0 := Y5.out.cell 0
 have x1 := Y5.out.cell 1
 have x2 := Y5.out.cell 2
 have x3 := Y5.out.cell 3
 have z0 := Z5.out.cell 0
 have z1 := Z5.out.cell 1
 have z2 := Z5.out.cell 2
 go_wp2_with fail
 refine HPX.out.mono ?_
 rintro e w6 ⟨⟨vP, rfl, hrw⟩, hb⟩
 obtain ⟨aP, cP, rfl, haw⟩ := hrw
 have LP6 := Lib.hid (show LstV w6 (.slice aP M.length cP) M from ⟨_, _, rfl, haw⟩)
 have LA6 := Lib.hid (LA5.out.below hb)
 have LB6 := Lib.hid (LB5.out.below hb)
 clear k0 k1 k2 k3 k4 k5 k6 k7 x0 x1 x2 x3 z0 z1 z2
 have HB6 := Lib.hid (HB5.out.trans (hb.mono HB5.out.size))
 have K6 := Lib.hid (K5.out.below' hb)
 have X6 := Lib.hid (X5.out.below' hb)
 have Z6 := Lib.hid (Z5.out.below' hb)
 have C6 := Lib.hid (C5.out.below' hb)
 have Y6 := Lib.hid (Y5.out.below' hb)
 have O6 := Lib.hid (O5.out.below hb)
 have I6 := Lib.hid (Own.below I5.out hb)
 have S6 := Lib.hid (S5.out.below hb)
 clear haw HPX HP2
 clear LA5
 clear LB5
 clear hb HB5 O5 I5 S5 K5 X5 Z5 C5 Y5
 have HPX := Lib.hid (HQ2.out w6 HB6.out)
 have k0 := K6.out.cell 0
 have k1 := K6.out.cell 1
 have k2 := K6.out.cell 2
 have k3 := K6.out.cell 3
 have k4 := K6.out.cell 4
 have k5 := K6.out.cell 5
 have k6 := K6.out.cell 6
 have k7 := K6.out.cell 7
 have x0 := X6.out.cell 0
 have x1 := X6.out.cell 1
 have x2 := X6.out.cell 2
 have x3 := X6.out.cell 3
 have z0 := Z6.out.cell 0
 have z1 := Z6.out.cell 1
 have z2 := Z6.out.cell 2
 go_wp2_with fail
 refine HPX.out.mono ?_
 rintro e w7 ⟨⟨vQ, rfl, hrw⟩, hb⟩
 obtain ⟨aQ, cQ, rfl, haw⟩ := hrw
 have LQ7 := Lib.hid (show LstV w7 (.slice aQ M.length cQ) M from ⟨_, _, rfl, haw⟩)
 have LA7 := Lib.hid (LA6.out.below hb)
 have LB7 := Lib.hid (LB6.out.below hb)
 have LP7 := Lib.hid (LP6.out.below hb)
 clear k0 k1 k2 k3 k4 k5 k6 k7 x0 x1 x2 x3 z0 z1 z2
 have HB7 := Lib.hid (HB6.out.trans (hb.mono HB6.out.size))
 have K7 := Lib.hid (K6.out.below' hb)
 have X7 := Lib.hid (X6.out.below' hb)
 have Z7 := Lib.hid (Z6.out.below' hb)
 have C7 := Lib.hid (C6.out.below' hb)
 have Y7 := Lib.hid (Y6.out.below' hb)
 have O7 := Lib.hid (O6.out.below hb)
 have I7 := Lib.hid (Own.below I6.out hb)
 have S7 := Lib.hid (S6.out.below hb)
 clear haw HPX HQ2
 clear LA6
 clear LB6
 clear LP6
 clear hb HB6 O6 I6 S6 K6 X6 Z6 C6 Y6
 clear O7 I7 S7 C7 Y7 K7 X7 Z7
 obtain ⟨_, _, e, hl1⟩ := LA7.out
 cases e
 obtain ⟨_, _, e, hl2⟩ := LB7.out
 cases e
 have HSM := Lib.hid (sameInts_any aA aB L.length L.length cA cB w7.heap.size (fun j => L.getD j 0) (fun j => L.getD j 0) w7 (by unfold maxLen; omega) (by unfold maxLen; omega) hl1 hl2)
 rw [same_self] at HSM
 clear hl1 hl2
 go_wp2_with fail
 refine HSM.out.mono ?_
 rintro e w8 ⟨rfl, hb⟩
 have HB8 := Lib.hid (HB7.out.trans (hb.mono HB7.out.size))
 have LP8 := Lib.hid (LP7.out.below hb)
 have LQ8 := Lib.hid (LQ7.out.below hb)
 clear hb HSM LA7 LB7 LP7 LQ7 HB7
 obtain ⟨_, _, e, hl1⟩ := LP8.out
 cases e
 obtain ⟨_, _, e, hl2⟩ := LQ8.out
 cases e
 have HSM := Lib.hid (sameInts_any aP aQ M.length M.length cP cQ w8.heap.size (fun j => M.getD j 0) (fun j => M.getD j 0) w8 (by unfold maxLen; omega) (by unfold maxLen; omega) hl1 hl2)
 rw [same_self] at HSM
 clear hl1 hl2
 go_wp2_with fail
 refine HSM.out.mono ?_
 rintro e w9 ⟨rfl, hb⟩
 have HB9 := Lib.hid (HB8.out.trans (hb.mono HB8.out.size))
 clear hb HSM LP8 LQ8 HB8
 have HWX := Lib.hid (HWK.out w9 HB9.out)
 go_wp2_with fail
 refine HWX.out.mono ?_
 rintro e wz ⟨rfl, hb⟩
 have HBZ := Lib.hid (HB9.out.trans (hb.mono HB9.out.size))
 clear hb
 go_wp2_with fail
 go_ret
 exact ⟨rfl, HBZ.out⟩
end
end Go.Proofs.YtnbeembnnjdmdaaGreatDoor
/- Proved: DriftNames answers true at every drift, drifter, sightings, cell and tick, and its arguments read as they did: the row and its tied card. Conditions: none beyond the card. -/
namespace Go.Proofs.YtnbeembnnjdmdaaGreatDoor
open Go.ChangeShapes Go.WideShapes Go.ChangeAt Go.RowKit Go.Deep Go.Joins

namespace driftNames
set_option maxRecDepth 100000 in
theorem contract (H : Type) (enc : TypeId × Value → H) (W : World) (base : Nat) (args : Array Value) (ds gs : List (DataW H)) (before : List MemPlace)
    (hval : ∀ (j : Nat) t v, Tryz.f4.params[j]? = some t → args[j]? = some v → Value.okWide Tryz.prog W .any base t v)
    (hW : DataW.Whole enc Tryz.prog Tryz.f4.params.toList Rows.driftNamesSpec.vars false W args.toList ds gs before) (hL : laidMetH Tryz.prog laidL W) :
    Calls Tryz.prog 4 args W fun e W' => ∃ v, e = .returned v ∧ Rows.driftNamesSpec.post enc Tryz.prog Tryz.f4 false true false false W args v W' := by
  have hW' := hW
  obtain ⟨p, q, hA0, hV, rfl, hfz, hnd⟩ := hW
  have hA : DataW.TrodAll enc Tryz.prog W 0 (fun _ => true) true Tryz.f4.params.toList args.toList ds p := hA0
  rw [Tryz.params4] at hA hval
  obtain ⟨v0, v1, v2, d0, d1, d2, p0, p1, p2, rfl, rfl, rfl, h0, h1, h2⟩ := trodAll_three hA
  obtain ⟨rfl, rfl⟩ := trodVars_none hV
  have hWy := ways_of_laid hL
  have hFr := free_of_laid hL
  obtain ⟨cW, cH, dA, tA, sA, zA, cA, wA, nd, dc, nt, tc, ns, sc, zn, zc, cn, cc, wn, wc, dep, tide, sw, z, cl, cu, wd, rfl, hnd, hnt, hns, hzn, hcn, hwn, hRD⟩ := open_drift (hval 0 29 v0 rfl rfl) h0
  obtain ⟨at_, lo_, hi_, xA, xL, xc, rfl, hxL, hxR⟩ := open_drifter (hval 1 44 v1 rfl rfl) h1
  obtain ⟨hA_, hn_, hc_, Xs_, sc_, st_, rfl, hhn, hRS⟩ := open_search (hval 2 47 v2 rfl rfl) h2
  refine (driftNames_any hnd hnt hns hzn hcn hwn hRD (Nat.le_refl _) hWy hxR hxL hRS hhn sc_ st_ hFr).mono fun e W' ⟨he, hbl⟩ => ⟨_, he, ?_⟩
  exact post_true rfl rfl (by
    rw [Tryz.params4]
    intro t ht
    simp at ht
    rcases ht with rfl | rfl | rfl
    · exact ⟨by kernel_rfl, of_decide_eq_true (by kernel_rfl)⟩
    · exact ⟨by kernel_rfl, of_decide_eq_true (by kernel_rfl)⟩
    · exact ⟨by kernel_rfl, of_decide_eq_true (by kernel_rfl)⟩) hW' rfl rfl rfl hbl

set_option maxRecDepth 100000 in
theorem lifted (os : Os) (started : os.Started) (H : Type) (enc : TypeId × Value → H) :
    ReturnsInHanded {} Tryz.checked os 4 .any (fun w args => (Rows.driftNamesSpec.pre enc Tryz.prog Tryz.f4 [] false w args ∧ laidMetH Tryz.prog laidL w) ∧ sizedMet enc Tryz.prog Tryz.f4 (OpenSpec.ofChange Rows.driftNamesSpec) false w args)
      (Rows.driftNamesSpec.post enc Tryz.prog Tryz.f4 false true false false) := by
  refine returnsInHanded_of_change_and (C := Tryz.checked) (X := fun w _ => laidMetH Tryz.prog laidL w) (fun _ _ _ hh h => h.of_heap hh) own started (by kernel_rfl) Tryz.func4
    (ChangeSpec.witness_shaped (enc := enc) (C := Tryz.checked) (os := os) (X := fun w _ => laidMetH Tryz.prog laidL w) false (World.doorLaid Tryz.prog 400 os) #[.agg #[.int .i64 0, .int .i64 0, .slice none 0 0, .slice none 0 0, .slice none 0 0, .slice none 0 0, .slice none 0 0, .slice none 0 0], .agg #[.int .i64 0, .slice none 0 0, .int .i64 0, .int .i64 0], .agg #[.slice none 0 0, .int .i64 0, .int .i64 0]] 8 rfl (World.shaped_of_RefB (by kernel_rfl) (by kernel_rfl)) (by kernel_rfl) (by kernel_rfl) (by kernel_rfl) (door_met os _)) ?_
  intro W base args ds gs before hval hW _ _ hL _
  exact contract H enc W base args ds gs before hval hW hL
end driftNames

theorem driftNames_holds : Rows.DriftNamesSaid :=
  OpenClaim.holds_of_wide 4 Tryz.f4 rfl rfl rfl rfl rfl rfl rfl ⟨rfl, rfl, rfl, rfl, rfl⟩ rfl rfl rfl rfl rfl (by kernel_rfl) Tryz.func4 (by kernel_rfl)
    (of_decide_eq_true (by kernel_rfl)) (by unfold Func.isWrapper; first | (rw [if_pos (by decide +kernel)]; kernel_rfl) | (rw [if_neg (by decide +kernel)]; exact ⟨rfl, rfl⟩))
    (fun os started H enc _ => driftNames.lifted os started H enc)

theorem driftNames_card : Rows.DriftNamesCardSaid :=
  Claim7.holds_tied_plain_at .later [] [.data, .data] true Rows.driftNamesCard.stood.harness false
    driftNames_holds (fun _ h => by cases h) (by kernel_rfl) (fun _ h => by cases h) driftNames_row_tie rfl ⟨rfl, rfl⟩ (by kernel_rfl) rfl
    (fun f fn hf hfn => by
      obtain rfl : f = 4 := Option.some.inj ((show Tryz.prog.funcNamed "coble/coblelaw02.DriftNames" = some 4 by kernel_rfl).symm.trans hf) |>.symm
      obtain rfl : fn = Tryz.f4 := (Option.some.inj (Tryz.func4.symm.trans hfn)).symm
      exact ⟨by kernel_rfl, fun j t ht => by
        rw [Tryz.params4] at ht
        have hm : t ∈ [29, 44, 47] := by simpa using Array.mem_of_getElem? ht
        have hall : ([29, 44, 47].all fun u => !Tryz.prog.wantsStandIn u) = true := by kernel_rfl
        exact (show Tryz.prog.wantsStandIn t = false by simpa using List.all_eq_true.1 hall t hm)⟩)
    (by kernel_rfl)
end Go.Proofs.YtnbeembnnjdmdaaGreatDoor
