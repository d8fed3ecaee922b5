/- DriftPlaces, walked. -/
import Derived.Test.YtnbeembnnjdmdaaGreatDoorJ6
namespace Go.Proofs.YtnbeembnnjdmdaaGreatDoor
open Go.RowKit Go.Maps

section
variable {W H : Int} {dA tA sA zA cA wA xA hA : Option Addr} {nd dc nt tc ns sc zn zc cn cc wn wc xc hn hc B : Nat} {at_ lo hi : Int} {dep : Nat → Int} {tide : Nat → Nat → Int} {sw z : Nat → Int} {cl : Nat → Nat} {cu : Nat → Nat → Nat → Int} {wd : Nat → Nat → Int} {xL : List Int} {Xs : Nat → SgV} {w : World}
set_option maxRecDepth 100000 in
set_option maxHeartbeats 12800000 in
theorem driftPlaces_any (hnd : nd ≤ maxLen) (hnt : nt ≤ maxLen) (hns : ns ≤ maxLen) (hzn : zn ≤ maxLen) (hcn : cn ≤ maxLen) (hwn : wn ≤ maxLen) (hR : RdD w B dA tA sA zA cA wA nd nt ns zn cn wn dep tide sw z cl cu wd) (hB : B ≤ w.heap.size) (hW : Ways w)
  (hx3 : Rd1 w B xA xL.length (fun k => xL.getD k 0)) (hx4 : xL.length ≤ maxLen) (hRS : RdS w B hA hn Xs) (hhn : hn ≤ maxLen) (hF : Fre w) :
  Calls Tryz.prog 8 #[.agg #[.int .i64 W, .int .i64 H, .slice dA nd dc, .slice tA nt tc, .slice sA ns sc, .slice zA zn zc, .slice cA cn cc, .slice wA wn wc], .agg #[.int .i64 at_, .slice xA xL.length xc, .int .i64 lo, .int .i64 hi], .slice hA hn hc] w fun e w' => e = .returned (.bool true) ∧ Below w.heap.size w w' := by
 have HB0 := Lib.hid (belowAlloc2 w (.cells #[.int .i64 W, .int .i64 H, .slice dA nd dc, .slice tA nt tc, .slice sA ns sc, .slice zA zn zc, .slice cA cn cc, .slice wA wn wc] 29) (.cells #[.int .i64 at_, .slice xA xL.length xc, .int .i64 lo, .int .i64 hi] 44))
 have K0 := Lib.hid ((Blk.new w 29 #[.int .i64 W, .int .i64 H, .slice dA nd dc, .slice tA nt tc, .slice sA ns sc, .slice zA zn zc, .slice cA cn cc, .slice wA wn wc]).alloc (.cells #[.int .i64 at_, .slice xA xL.length xc, .int .i64 lo, .int .i64 hi] 44))
 have X0 := Lib.hid (Blk.new1 w (.cells #[.int .i64 W, .int .i64 H, .slice dA nd dc, .slice tA nt tc, .slice sA ns sc, .slice zA zn zc, .slice cA cn cc, .slice wA wn wc] 29) 44 #[.int .i64 at_, .slice xA xL.length xc, .int .i64 lo, .int .i64 hi])
 have HFA := Lib.hid (fun (V : World) (hb : Below w.heap.size w V) => rfar_any (dc := dc) (tc := tc) (sc := sc) (zc := zc) (cc := cc) (wc := wc) (W := W) (H := H) hnd hnt hns hzn hcn hwn (hR.below (hb.mono hB)) (Nat.le_trans hB hb.size))
 have HFS := Lib.hid (fun (V : World) (hb : Below w.heap.size w V) => rfarseen_any at_ lo hi xA hA xL.length xc hn hc B Xs V hx4 hhn (hRS.below (hb.mono hB)) (Nat.le_trans hB hb.size))
 have HCO' := Lib.hid (fun (V : World) (hb : Below w.heap.size w V) (ok : Bool) (hF : FarOk nd nt ns zn cn wn cl ok) => rdcopy_own (dc := dc) (tc := tc) (sc := sc) (zc := zc) (cc := cc) (wc := wc) (W := W) (H := H) hF (hR.below (hb.mono hB)) (Nat.le_trans hB hb.size))
 have HCP' := Lib.hid (fun (V : World) (hb : Below w.heap.size w V) (hn1 : xL.length ≤ 1048576) => rcopied_any (at_ := at_) (lo := lo) (hi := hi) (xc := xc) (hx3.below (hb.mono hB)) hn1 (Nat.le_trans hB hb.size))
 have HCS' := Lib.hid (fun (V : World) (hb : Below w.heap.size w V) (h1 : hn ≤ 40) (h2 : ∀ i, i < hn → (Xs i).L.length ≤ 200) => rcopyseen_any hA hn hc B Xs V (hRS.below (hb.mono hB)) (Nat.le_trans hB hb.size) (by omega) (fun i hi => Nat.le_trans (h2 i hi) (by omega)))
 have HWK := Lib.hid (fun (V : World) (hb : Below w.heap.size w V) => works_any V (hW.below hb))
 have HWY := Lib.hid (fun (V : World) (hb : Below w.heap.size w V) => And.intro (hW.below hb) (hF.below hb))
 obtain ⟨n, pl, r, hn1, hpl, hP, hQ⟩ := places_both (W := W) (H := H) (at_ := at_) (lo := lo) (hi := hi) (dep := dep) (tide := tide) (sw := sw) (z := z) (cl := cl) (cu := cu) (wd := wd) (xL := xL) (hn := hn) (Xs := Xs) hnd hnt hns hzn hcn hwn hx4 hhn
 obtain ⟨L, r2, hL1, hP2, hQ2⟩ := leeways_both (W := W) (H := H) (at_ := at_) (lo := lo) (hi := hi) (dep := dep) (tide := tide) (sw := sw) (z := z) (cl := cl) (cu := cu) (wd := wd) (xL := xL) (hn := hn) (Xs := Xs) hnd hnt hns hzn hcn hwn hx4 hhn
 have HP := Lib.hid hP
 have HP2 := Lib.hid hP2
 have HQ := Lib.hid (fun (V : World) (hb : Below w.heap.size w V) => hQ B V dA tA sA zA cA wA xA hA dc tc sc zc cc wc xc hc (hR.below (hb.mono hB)) (Nat.le_trans hB hb.size) (hx3.below (hb.mono hB)) (hRS.below (hb.mono hB)))
 have HQ2 := Lib.hid (fun (V : World) (hb : Below w.heap.size w V) => hQ2 B V dA tA sA zA cA wA xA hA dc tc sc zc cc wc xc hc (hR.below (hb.mono hB)) (Nat.le_trans hB hb.size) (hx3.below (hb.mono hB)) (hRS.below (hb.mono hB)))
 have HPL := Lib.hid hpl
 clear hP hP2 hQ hQ2 hpl hR hW hx3 hRS hF
 go_enter Tryz.func8, Tryz.ntmps8
 go_upto_region 1 with fail
 generalize (w.alloc (.cells #[.int .i64 W, .int .i64 H, .slice dA nd dc, .slice tA nt tc, .slice sA ns sc, .slice zA zn zc, .slice cA cn cc, .slice wA wn wc] 29)).alloc (.cells #[.int .i64 at_, .slice xA xL.length xc, .int .i64 lo, .int .i64 hi] 44) = X at HB0 K0 X0 ⊢
 have HFX := Lib.hid (HFA.out X HB0.out)
 have k0 := K0.out.cell 0
 have k1 := K0.out.cell 1
 have k2 := K0.out.cell 2
 have k3 := K0.out.cell 3
 have k4 := K0.out.cell 4
 have k5 := K0.out.cell 5
 have k6 := K0.out.cell 6
 have k7 := K0.out.cell 7
 have x0 := X0.out.cell 0
 have x1 := X0.out.cell 1
 have x2 := X0.out.cell 2
 have x3 := X0.out.cell 3
 go_wp2_with fail
 refine HFX.out.mono ?_
 rintro e w1 ⟨⟨q, rfl, hq⟩, hb⟩
 have HB1 := Lib.hid (HB0.out.trans (hb.mono HB0.out.size))
 have K1 := Lib.hid (K0.out.below' hb)
 have X1 := Lib.hid (X0.out.below' hb)
 have HFQ := Lib.hid hq
 clear k0 k1 k2 k3 k4 k5 k6 k7 x0 x1 x2 x3
 clear hb hq HFX HFA K0 X0 HB0
 cases q
 rotate_left
 ·
  have HWX := Lib.hid (HWK.out w1 HB1.out)
  go_wp2_with fail
  refine HWX.out.mono ?_
  rintro e wz ⟨rfl, hb⟩
  have HBZ := Lib.hid (HB1.out.trans (hb.mono HB1.out.size))
  clear hb
  go_wp2_with fail
  go_ret
  exact ⟨rfl, HBZ.out⟩
 have HOK := Lib.hid (HFQ.out rfl)
 clear HFQ
 have HFY := Lib.hid (HFS.out w1 HB1.out)
 have k0 := K1.out.cell 0
 have k1 := K1.out.cell 1
 have k2 := K1.out.cell 2
 have k3 := K1.out.cell 3
 have k4 := K1.out.cell 4
 have k5 := K1.out.cell 5
 have k6 := K1.out.cell 6
 have k7 := K1.out.cell 7
 have x0 := X1.out.cell 0
 have x1 := X1.out.cell 1
 have x2 := X1.out.cell 2
 have x3 := X1.out.cell 3
 go_wp2_with fail
 refine HFY.out.mono ?_
 rintro e w2 ⟨⟨q, rfl, hq⟩, hb⟩
 have HB2 := Lib.hid (HB1.out.trans (hb.mono HB1.out.size))
 have K2 := Lib.hid (K1.out.below' hb)
 have X2 := Lib.hid (X1.out.below' hb)
 have HFQ := Lib.hid hq
 clear k0 k1 k2 k3 k4 k5 k6 k7 x0 x1 x2 x3
 clear hb hq HFY HFS K1 X1 HB1
 cases q
 rotate_left
 ·
  have HWX := Lib.hid (HWK.out w2 HB2.out)
  go_wp2_with fail
  refine HWX.out.mono ?_
  rintro e wz ⟨rfl, hb⟩
  have HBZ := Lib.hid (HB2.out.trans (hb.mono HB2.out.size))
  clear hb
  go_wp2_with fail
  go_ret
  exact ⟨rfl, HBZ.out⟩
 have HSK := Lib.hid (HFQ.out rfl)
 clear HFQ
 have HCO := Lib.hid (fun (V : World) (hb : Below w.heap.size w V) => HCO'.out V hb _ HOK.out)
 have HCP := Lib.hid (fun (V : World) (hb : Below w.heap.size w V) => HCP'.out V hb (Nat.le_trans HSK.out.x (by omega)))
 have HCS := Lib.hid (fun (V : World) (hb : Below w.heap.size w V) => HCS'.out V hb HSK.out.n HSK.out.l)
 have HCL := Lib.hid (show ∀ i, i < cn → cl i ≤ maxLen from fun i hi => by have := HOK.out.l i hi; unfold maxLen; omega)
 have HSL := Lib.hid (show ∀ i, i < hn → (Xs i).L.length ≤ maxLen from fun i hi => by have := HSK.out.l i hi; unfold maxLen; omega)
 clear HCO' HCP' HCS'
 go_upto_region 3 with fail
 refine wp_nopanic ?_
 refine wp_region_T 10 (fun w' => Below w2.heap.size w2 w') (by kernel_rfl) (Below.refl _ _).drew ?_
 intro hS
 refine takeK (i := 0) (v := ?_) rfl (by kernel_rfl) (.inl ⟨by kernel_rfl, ?_⟩) hS ?_
 rotate_left
 · (intro w' hw; have k0 := (K2.out.below' hw).cell 0; have k1 := (K2.out.below' hw).cell 1; have k2 := (K2.out.below' hw).cell 2; have k3 := (K2.out.below' hw).cell 3; have k4 := (K2.out.below' hw).cell 4; have k5 := (K2.out.below' hw).cell 5; have k6 := (K2.out.below' hw).cell 6; have k7 := (K2.out.below' hw).cell 7; go_simp; try with_reducible rfl)
 try simp only [put_laws]
 refine takeK (i := 2) (v := ?_) rfl (by kernel_rfl) (.inl ⟨by kernel_rfl, ?_⟩) hS ?_
 rotate_left
 · (intro w' hw; have x0 := (X2.out.below' hw).cell 0; have x1 := (X2.out.below' hw).cell 1; have x2 := (X2.out.below' hw).cell 2; have x3 := (X2.out.below' hw).cell 3; go_simp; try with_reducible rfl)
 try simp only [put_laws]
 refine takeK (i := 4) (v := ?_) rfl (by kernel_rfl) (.inl ⟨by kernel_rfl, ?_⟩) hS ?_
 rotate_left
 · (intro w' hw; go_simp; try with_reducible rfl)
 try simp only [put_laws]
 refine wpAnyT_inv (fun listed a V => ∃ (bc bx bs b7 b8 d7 d8 ba : Bool) (vc vx vs x7 x8 x9 : Value), listed = #[true, bc, true, bx, true, bs, b7, b8, d7, d8, ba] ∧ a = { tmps := List.toArray (.agg #[.int .i64 W, .int .i64 H, .slice dA nd dc, .slice tA nt tc, .slice sA ns sc, .slice zA zn zc, .slice cA cn cc, .slice wA wn wc] :: .agg #[.int .i64 at_, .slice xA xL.length xc, .int .i64 lo, .int .i64 hi] :: .slice hA hn hc :: .pointer (some ⟨w.heap.size, 0, none⟩) :: .pointer (some ⟨w.heap.size + 1, 0, none⟩) :: undef :: .bool false :: x7 :: x8 :: x9 :: undef :: undef :: undef :: undef :: undef :: undef :: undef :: undef :: undef :: .agg #[.int .i64 W, .int .i64 H, .slice dA nd dc, .slice tA nt tc, .slice sA ns sc, .slice zA zn zc, .slice cA cn cc, .slice wA wn wc] :: .bool false :: .bool false :: .agg #[.int .i64 at_, .slice xA xL.length xc, .int .i64 lo, .int .i64 hi] :: .slice hA hn hc :: .bool false :: .bool false :: undef :: .agg #[.int .i64 W, .int .i64 H, .slice dA nd dc, .slice tA nt tc, .slice sA ns sc, .slice zA zn zc, .slice cA cn cc, .slice wA wn wc] :: vc :: .agg #[.int .i64 at_, .slice xA xL.length xc, .int .i64 lo, .int .i64 hi] :: vx :: .slice hA hn hc :: vs :: undef :: undef :: undef :: undef :: undef :: undef :: undef :: undef :: undef :: undef :: undef :: undef :: undef :: undef :: undef :: undef :: undef :: undef :: undef :: undef :: undef :: undef :: undef :: undef :: undef :: undef :: undef :: undef :: undef :: undef :: undef :: undef :: undef :: undef :: undef :: undef :: undef :: undef :: undef :: undef :: undef :: undef :: undef :: undef :: undef :: undef :: undef :: undef :: undef :: undef :: undef :: undef :: undef :: undef :: undef :: undef :: undef :: undef :: undef :: undef :: undef :: undef :: undef :: undef :: undef :: []), defers := [] } ∧ CpyI w2 W H nd nt ns zn cn wn dep tide sw z cl cu wd at_ lo hi xL hn Xs bc bx bs b7 b8 d7 d8 ba vc vx vs x7 x8 x9 V) ?_ ?_ _ _ _ _ (of_decide_eq_true (by kernel_rfl)) ?_
 rotate_left 2
 · exact ⟨false, false, false, false, false, false, false, false, undef, undef, undef, undef, undef, undef, rfl, rfl, CpyI.start hS⟩
 rotate_left
 ·
  rintro listed a V i o hlt hun hall ho ⟨bc, bx, bs, b7, b8, d7, d8, ba, vc, vx, vs, x7, x8, x9, rfl, rfl, hI⟩ K' hK'
  have hi : i = 0 ∨ i = 1 ∨ i = 2 ∨ i = 3 ∨ i = 4 ∨ i = 5 ∨ i = 6 ∨ i = 7 ∨ i = 8 ∨ i = 9 ∨ i = 10 := by have hlt' : i < 11 := hlt; omega
  rcases hi with rfl | rfl | rfl | rfl | rfl | rfl | rfl | rfl | rfl | rfl | rfl
  · exact absurd hun (by simp)
  ·
   obtain rfl : bc = false := hun
   have ho' := Option.some.inj ho
   subst ho'
   go_simp
   refine (HCO.out V (HB2.out.trans (hI.b.mono HB2.out.size))).mono ?_
   rintro e w5 ⟨⟨dA', dc', tA', tc', sA', sc', zA', zc', cA', cc', wA', wc', rfl, R, hO⟩, hb⟩
   try simp only
   exact hK'.out _ _ (.inr (hI.b.trans (hb.mono hI.b.size))) ⟨true, bx, bs, b7, b8, d7, d8, ba, _, _, _, _, _, _, rfl, rfl, hI.callc hb ⟨dA', dc', tA', tc', sA', sc', zA', zc', cA', cc', wA', wc', R, rfl, hO⟩⟩
  · exact absurd hun (by simp)
  ·
   obtain rfl : bx = false := hun
   have ho' := Option.some.inj ho
   subst ho'
   go_simp
   refine (HCP.out V (HB2.out.trans (hI.b.mono HB2.out.size))).mono ?_
   rintro e w5 ⟨⟨A', c', rfl, hO⟩, hb⟩
   try simp only
   exact hK'.out _ _ (.inr (hI.b.trans (hb.mono hI.b.size))) ⟨bc, true, bs, b7, b8, d7, d8, ba, _, _, _, _, _, _, rfl, rfl, hI.callx hb hO⟩
  · exact absurd hun (by simp)
  ·
   obtain rfl : bs = false := hun
   have ho' := Option.some.inj ho
   subst ho'
   go_simp
   refine (HCS.out V (HB2.out.trans (hI.b.mono HB2.out.size))).mono ?_
   rintro e w5 ⟨⟨v5, rfl, hO⟩, hb⟩
   try simp only
   exact hK'.out _ _ (.inr (hI.b.trans (hb.mono hI.b.size))) ⟨bc, bx, true, b7, b8, d7, d8, ba, _, _, _, _, _, _, rfl, rfl, hI.calls hb hO⟩
  ·
   obtain rfl : b7 = false := hun
   have ho' := Option.some.inj ho
   subst ho'
   go_simp
   try simp only [put_laws]
   exact hK'.out _ _ (.inr (hI.b.alloc hI.b.size _)) ⟨bc, bx, bs, true, b8, d7, d8, ba, _, _, _, _, _, _, rfl, rfl, hI.alloc7 rfl⟩
  ·
   obtain rfl : b8 = false := hun
   have ho' := Option.some.inj ho
   subst ho'
   go_simp
   try simp only [put_laws]
   exact hK'.out _ _ (.inr (hI.b.alloc hI.b.size _)) ⟨bc, bx, bs, b7, true, d7, d8, ba, _, _, _, _, _, _, rfl, rfl, hI.alloc8 rfl⟩
  ·
   obtain rfl : d7 = false := hun
   have ho' := Option.some.inj ho
   subst ho'
   have hb7 : b7 = true := hall _ (Array.mem_of_getElem? (i := 0) rfl) rfl
   have hbc : bc = true := hall _ (Array.mem_of_getElem? (i := 1) rfl) rfl
   obtain ⟨g, cs, hg, rfl, hbk, hz, -⟩ := hI.h7 hb7
   obtain rfl := hz rfl
   obtain ⟨dA', dc', tA', tc', sA', sc', zA', zc', cA', cc', wA', wc', R, rfl, hO⟩ := hI.hc hbc
   have c0 := hbk.cell 0
   have c1 := hbk.cell 1
   have c2 := hbk.cell 2
   have c3 := hbk.cell 3
   have c4 := hbk.cell 4
   have c5 := hbk.cell 5
   have c6 := hbk.cell 6
   have c7 := hbk.cell 7
   have f0 := hbk.frz 0
   have f1 := hbk.frz 1
   have f2 := hbk.frz 2
   have f3 := hbk.frz 3
   have f4 := hbk.frz 4
   have f5 := hbk.frz 5
   have f6 := hbk.frz 6
   have f7 := hbk.frz 7
   have hgl := hbk.lt
   go_simp
   try simp only [put_laws]
   have hJ := hI.store7 hbc hb7 hg hbk (gset (gset (gset (gset (gset (gset (gset (gset (World.grownBy.refl _ _)))))))) ) ((((((((hbk.set_ 0 _).set_ 1 _).set_ 2 _).set_ 3 _).set_ 4 _).set_ 5 _).set_ 6 _).set_ 7 _) rfl
   exact hK'.out _ _ (.inr hJ.b) ⟨bc, bx, bs, b7, b8, true, d8, ba, _, _, _, _, _, _, rfl, rfl, hJ⟩
  ·
   obtain rfl : d8 = false := hun
   have ho' := Option.some.inj ho
   subst ho'
   have hb8 : b8 = true := hall _ (Array.mem_of_getElem? (i := 0) rfl) rfl
   have hbx : bx = true := hall _ (Array.mem_of_getElem? (i := 1) rfl) rfl
   obtain ⟨g, cs, hg, rfl, hbk, hz, -⟩ := hI.h8 hb8
   obtain rfl := hz rfl
   obtain ⟨A', c', rfl, hO⟩ := hI.hx hbx
   have c0 := hbk.cell 0
   have c1 := hbk.cell 1
   have c2 := hbk.cell 2
   have c3 := hbk.cell 3
   have f0 := hbk.frz 0
   have f1 := hbk.frz 1
   have f2 := hbk.frz 2
   have f3 := hbk.frz 3
   have hgl := hbk.lt
   go_simp
   try simp only [put_laws]
   have hJ := hI.store8 hbx hb8 hg hbk (gset (gset (gset (gset (World.grownBy.refl _ _))))) ((((hbk.set_ 0 _).set_ 1 _).set_ 2 _).set_ 3 _) rfl
   exact hK'.out _ _ (.inr hJ.b) ⟨bc, bx, bs, b7, b8, d7, true, ba, _, _, _, _, _, _, rfl, rfl, hJ⟩
  ·
   obtain rfl : ba = false := hun
   have ho' := Option.some.inj ho
   subst ho'
   have hbs : bs = true := hall _ (Array.mem_of_getElem? (i := 0) rfl) rfl
   go_simp
   try simp only [put_laws]
   exact hK'.out _ _ (.inl rfl) ⟨bc, bx, bs, b7, b8, d7, d8, true, _, _, _, _, _, _, rfl, rfl, hI.assign hbs⟩
 rintro listed a V hr ⟨bc, bx, bs, b7, b8, d7, d8, ba, vc, vx, vs, x7, x8, x9, rfl, rfl, hI⟩
 have hall : bc = true ∧ bx = true ∧ bs = true ∧ b7 = true ∧ b8 = true ∧ d7 = true ∧ d8 = true ∧ ba = true := by
  clear hI
  cases bc <;> cases bx <;> cases bs <;> cases b7 <;> cases b8 <;> cases d7 <;> cases d8 <;> cases ba <;> first | exact ⟨rfl, rfl, rfl, rfl, rfl, rfl, rfl, rfl⟩ | exact absurd hr (of_decide_eq_false (by kernel_rfl))
 obtain ⟨rfl, rfl, rfl, rfl, rfl, rfl, rfl, rfl⟩ := hall
 refine ⟨fun x e => (by cases e), ?_⟩
 obtain ⟨dA', dc', tA', tc', sA', sc', zA', zc', cA', cc', wA', wc', R, rfl, hO⟩ := hI.hc rfl
 obtain ⟨A', c', rfl, hX⟩ := hI.hx rfl
 obtain ⟨g7, cs7, hg7, rfl, hk7, -, e7⟩ := hI.h7 rfl
 obtain ⟨g8, cs8, hg8, rfl, hk8, -, e8⟩ := hI.h8 rfl
 cases e7 rfl
 cases e8 rfl
 obtain rfl := hI.ha rfl
 have hCS := hI.hs rfl
 obtain ⟨A9, c9, rfl⟩ := hCS.form
 obtain ⟨w3, rfl⟩ : ∃ w3, w3 = V := ⟨_, rfl⟩
 have HB3 := Lib.hid (HB2.out.trans (hI.b.mono HB2.out.size))
 have K3 := Lib.hid (K2.out.below' hI.b)
 have X3 := Lib.hid (X2.out.below' hI.b)
 have C3 := Lib.hid hk7
 have Y3 := Lib.hid hk8
 have O3 := Lib.hid hO
 have I3 := Lib.hid hX
 have S3 := Lib.hid hCS
 have HBV := Lib.hid hI.b
 clear hO hX hk7 hk8 hCS hg7 hg8 hr hS e7 e8 K2 X2 HCO HCP HCS
 generalize w2.heap.size = b2 at O3 I3 S3
 have hB2 := HBV.out
 clear HBV hI HB2 hB2
 clear w2
 unfold maxLen at hx4 hhn
 obtain ⟨U, hU⟩ := CS.rd S3.out HSL.out
 have HPX := Lib.hid (HP.out w3.heap.size w3 dA' tA' sA' zA' cA' wA' A' A9 dc' tc' sc' zc' cc' wc' c' c9 U (O3.out.rd HCL.out) (Nat.le_refl _) (HWY.out w3 HB3.out).1 (HWY.out w3 HB3.out).2 (IL.rd I3.out) hU)
 clear hU
 have k0 := C3.out.cell 0
 have k1 := C3.out.cell 1
 have k2 := C3.out.cell 2
 have k3 := C3.out.cell 3
 have k4 := C3.out.cell 4
 have k5 := C3.out.cell 5
 have k6 := C3.out.cell 6
 have k7 := C3.out.cell 7
 have x0 := Y3.out.cell 0
 have x1 := Y3.out.cell 1
 have x2 := Y3.out.cell 2
 have x3 := Y3.out.cell 3
 go_wp2_with fail
 refine HPX.out.mono ?_
 rintro e w4 ⟨⟨vA, rfl, hrw⟩, hb⟩
 obtain ⟨aA, ac, rfl, haw⟩ := hrw
 have RA := Lib.hid (show RwL w4 (.slice aA n ac) n pl from ⟨_, _, rfl, haw⟩)
 clear k0 k1 k2 k3 k4 k5 k6 k7 x0 x1 x2 x3
 have HB4 := Lib.hid (HB3.out.trans (hb.mono HB3.out.size))
 have K4 := Lib.hid (K3.out.below' hb)
 have X4 := Lib.hid (X3.out.below' hb)
 have C4 := Lib.hid (C3.out.below' hb)
 have Y4 := Lib.hid (Y3.out.below' hb)
 have O4 := Lib.hid (O3.out.below hb)
 have I4 := Lib.hid (Own.below I3.out hb)
 have S4 := Lib.hid (S3.out.below hb)
 clear haw HPX HP
 clear hb HB3 K3 X3 C3 Y3 O3 I3 S3
 have HQX := Lib.hid (HQ.out w4 HB4.out)
 have k0 := K4.out.cell 0
 have k1 := K4.out.cell 1
 have k2 := K4.out.cell 2
 have k3 := K4.out.cell 3
 have k4 := K4.out.cell 4
 have k5 := K4.out.cell 5
 have k6 := K4.out.cell 6
 have k7 := K4.out.cell 7
 have x0 := X4.out.cell 0
 have x1 := X4.out.cell 1
 have x2 := X4.out.cell 2
 have x3 := X4.out.cell 3
 go_wp2_with fail
 refine HQX.out.mono ?_
 rintro e w5 ⟨⟨vB, rfl, hrw⟩, hb⟩
 obtain ⟨bA, bc, rfl, hbw⟩ := hrw
 have RB := Lib.hid (show RwL w5 (.slice bA n bc) n pl from ⟨_, _, rfl, hbw⟩)
 have RA5 := Lib.hid (RA.out.below hb)
 clear k0 k1 k2 k3 k4 k5 k6 k7 x0 x1 x2 x3
 have HB5 := Lib.hid (HB4.out.trans (hb.mono HB4.out.size))
 have K5 := Lib.hid (K4.out.below' hb)
 have X5 := Lib.hid (X4.out.below' hb)
 have C5 := Lib.hid (C4.out.below' hb)
 have Y5 := Lib.hid (Y4.out.below' hb)
 have O5 := Lib.hid (O4.out.below hb)
 have I5 := Lib.hid (Own.below I4.out hb)
 have S5 := Lib.hid (S4.out.below hb)
 clear hbw HQX HQ RA
 clear hb HB4 K4 X4 C4 Y4 O4 I4 S4
 have HI5 := Lib.hid (show Below w.heap.size w w5 ∧ Blk w5 w.heap.size 29 #[.int .i64 W, .int .i64 H, .slice dA nd dc, .slice tA nt tc, .slice sA ns sc, .slice zA zn zc, .slice cA cn cc, .slice wA wn wc] ∧ Blk w5 (w.heap.size + 1) 44 #[.int .i64 at_, .slice xA xL.length xc, .int .i64 lo, .int .i64 hi] ∧ Blk w5 g7 29 #[.int .i64 W, .int .i64 H, .slice dA' nd dc', .slice tA' nt tc', .slice sA' ns sc', .slice zA' zn zc', .slice cA' cn cc', .slice wA' wn wc'] ∧ Blk w5 g8 44 #[.int .i64 at_, .slice A' xL.length c', .int .i64 lo, .int .i64 hi] ∧ OwnD w5 b2 dA' dc' tA' tc' sA' sc' zA' zc' cA' cc' wA' wc' nd nt ns zn cn wn dep tide sw z cl cu wd R ∧ IL w5 b2 (.slice A' xL.length c') xL ∧ CS w5 b2 (.slice A9 hn c9) hn Xs ∧ RwL w5 (.slice aA n ac) n pl ∧ RwL w5 (.slice bA n bc) n pl from ⟨HB5.out, K5.out, X5.out, C5.out, Y5.out, O5.out, I5.out, S5.out, RA5.out, RB.out⟩)
 clear HB5 K5 X5 C5 Y5 O5 I5 S5 RA5 RB
 go_wp2_with fail
 go_loopw [14] (fun i wr => ∃ k : Nat, k ≤ n ∧ i = .int .i64 (k : Int) ∧ Hid (Below w.heap.size w wr ∧ Blk wr w.heap.size 29 #[.int .i64 W, .int .i64 H, .slice dA nd dc, .slice tA nt tc, .slice sA ns sc, .slice zA zn zc, .slice cA cn cc, .slice wA wn wc] ∧ Blk wr (w.heap.size + 1) 44 #[.int .i64 at_, .slice xA xL.length xc, .int .i64 lo, .int .i64 hi] ∧ Blk wr g7 29 #[.int .i64 W, .int .i64 H, .slice dA' nd dc', .slice tA' nt tc', .slice sA' ns sc', .slice zA' zn zc', .slice cA' cn cc', .slice wA' wn wc'] ∧ Blk wr g8 44 #[.int .i64 at_, .slice A' xL.length c', .int .i64 lo, .int .i64 hi] ∧ OwnD wr b2 dA' dc' tA' tc' sA' sc' zA' zc' cA' cc' wA' wc' nd nt ns zn cn wn dep tide sw z cl cu wd R ∧ IL wr b2 (.slice A' xL.length c') xL ∧ CS wr b2 (.slice A9 hn c9) hn Xs ∧ RwL wr (.slice aA n ac) n pl ∧ RwL wr (.slice bA n bc) n pl)) (fun i _ => n - (intOf i).toNat)
 case atStart => exact ⟨0, Nat.zero_le _, rfl, HI5⟩
 case round =>
  obtain ⟨k, hk, rfl, HT⟩ := hrel
  clear HI5
  by_cases hlt : k < n
  ·
   have g1 : decide (k < n) = true := decide_eq_true hlt
   have hpk := HPL.out k
   have gi : (k : Int) < (n : Int) := by omega
   obtain ⟨_, _, e, hA0⟩ := HT.out.2.2.2.2.2.2.2.2.1
   cases e
   obtain ⟨_, _, e, hB0⟩ := HT.out.2.2.2.2.2.2.2.2.2
   cases e
   rcases hA0 with h0 | ⟨owA, rfl, hlA, hrA⟩
   · omega
   rcases hB0 with h0 | ⟨owB, rfl, hlB, hrB⟩
   · omega
   obtain ⟨rA, rc, c0, y0⟩ := hrA k hlt
   obtain ⟨rB, rcb, c1, y1⟩ := hrB k hlt
   have HYA := Lib.hid (show Rd1 wr.drew wr.drew.heap.size rA (pl k).length (fun j => (pl k).getD j 0) from y0)
   have HYB := Lib.hid (show Rd1 wr.drew wr.drew.heap.size rB (pl k).length (fun j => (pl k).getD j 0) from y1)
   have HLT := Lib.hid (show owA < wr.drew.heap.size ∧ owB < wr.drew.heap.size from ⟨hlA, hlB⟩)
   have HC := Lib.hid (And.intro c0 c1)
   clear hrA hrB y0 y1 hlA hlB
   go_upto_region 11 with fail
   refine wp_nopanic ?_
   refine wp_region_T 9 (fun Z2 => Z2.cell? ⟨owA, k, none⟩ = some (.slice rA (pl k).length rc) ∧ Z2.cell? ⟨owB, k, none⟩ = some (.slice rB (pl k).length rcb)) (by kernel_rfl) HC.out ?_
   clear c0 c1
   intro hS
   refine takeK (i := 0) (v := ?_) rfl (by kernel_rfl) (.inl ⟨by kernel_rfl, ?_⟩) hS ?_
   rotate_left
   · (intro w' hw; go_simp; try with_reducible rfl)
   try simp only [put_laws]
   refine takeK (i := 1) (v := ?_) rfl (by kernel_rfl) (.inl ⟨by kernel_rfl, ?_⟩) hS ?_
   rotate_left
   · (intro w' hw; go_simp; try with_reducible rfl)
   try simp only [put_laws]
   refine takeK (i := 2) (v := ?_) rfl (by kernel_rfl) (.inl ⟨by kernel_rfl, ?_⟩) hS ?_
   rotate_left
   · (intro w' hw; go_simp; try with_reducible rfl)
   try simp only [put_laws]
   refine takeK (i := 3) (v := ?_) rfl (by kernel_rfl) (.inl ⟨by kernel_rfl, ?_⟩) hS ?_
   rotate_left
   · (intro w' hw; obtain ⟨h1, h2⟩ := hw; go_simp; try with_reducible rfl)
   try simp only [put_laws]
   refine takeK (i := 4) (v := ?_) rfl (by kernel_rfl) (.inl ⟨by kernel_rfl, ?_⟩) hS ?_
   rotate_left
   · (intro w' hw; go_simp; try with_reducible rfl)
   try simp only [put_laws]
   refine takeK (i := 5) (v := ?_) rfl (by kernel_rfl) (.inl ⟨by kernel_rfl, ?_⟩) hS ?_
   rotate_left
   · (intro w' hw; go_simp; try with_reducible rfl)
   try simp only [put_laws]
   refine takeK (i := 6) (v := ?_) rfl (by kernel_rfl) (.inl ⟨by kernel_rfl, ?_⟩) hS ?_
   rotate_left
   · (intro w' hw; go_simp; try with_reducible rfl)
   try simp only [put_laws]
   refine takeK (i := 7) (v := ?_) rfl (by kernel_rfl) (.inl ⟨by kernel_rfl, ?_⟩) hS ?_
   rotate_left
   · (intro w' hw; obtain ⟨h1, h2⟩ := hw; go_simp; try with_reducible rfl)
   try simp only [put_laws]
   refine wpAnyT_one (i := 8) (by kernel_rfl) rfl ?_
   intro K' hK'
   go_simp
   refine (sameInts_any rA rB (pl k).length (pl k).length rc rcb wr.drew.heap.size (fun j => (pl k).getD j 0) (fun j => (pl k).getD j 0) wr.drew (by unfold maxLen; omega) (by unfold maxLen; omega) HYA.out HYB.out).mono ?_
   rintro e w6 ⟨rfl, hb⟩
   rw [same_self]
   have HB6 := Lib.hid hb
   clear hb
   refine hK'.out _ _ (.inr ⟨(HB6.out.cell HLT.out.1).trans hS.1, (HB6.out.cell HLT.out.2).trans hS.2⟩) ?_
   clear hK' K'
   try simp only [put_laws]
   refine wpAnyT_one (i := 9) (by kernel_rfl) rfl ?_
   intro K' hK'
   go_simp
   refine hK'.out _ _ (.inl rfl) ?_
   clear hK' K'
   try simp only [put_laws]
   refine wpAnyT_done (by kernel_rfl) ?_ _
   refine ⟨fun x e => (by cases e), ?_⟩
   have HD6 := Lib.hid (show Below wr.heap.size wr w6 from (Below.refl _ wr).drew.trans (HB6.out.mono (Nat.le_refl _)))
   have hIV := (show Hid (Below w.heap.size w w6 ∧ Blk w6 w.heap.size 29 #[.int .i64 W, .int .i64 H, .slice dA nd dc, .slice tA nt tc, .slice sA ns sc, .slice zA zn zc, .slice cA cn cc, .slice wA wn wc] ∧ Blk w6 (w.heap.size + 1) 44 #[.int .i64 at_, .slice xA xL.length xc, .int .i64 lo, .int .i64 hi] ∧ Blk w6 g7 29 #[.int .i64 W, .int .i64 H, .slice dA' nd dc', .slice tA' nt tc', .slice sA' ns sc', .slice zA' zn zc', .slice cA' cn cc', .slice wA' wn wc'] ∧ Blk w6 g8 44 #[.int .i64 at_, .slice A' xL.length c', .int .i64 lo, .int .i64 hi] ∧ OwnD w6 b2 dA' dc' tA' tc' sA' sc' zA' zc' cA' cc' wA' wc' nd nt ns zn cn wn dep tide sw z cl cu wd R ∧ IL w6 b2 (.slice A' xL.length c') xL ∧ CS w6 b2 (.slice A9 hn c9) hn Xs ∧ RwL w6 (.slice (some ⟨owA, 0, none⟩) n ac) n pl ∧ RwL w6 (.slice (some ⟨owB, 0, none⟩) n bc) n pl) from Lib.hid ⟨(HT.out.1).trans ((HD6.out).mono (HT.out.1).size), (HT.out.2.1).below' HD6.out, (HT.out.2.2.1).below' HD6.out, (HT.out.2.2.2.1).below' HD6.out, (HT.out.2.2.2.2.1).below' HD6.out, (HT.out.2.2.2.2.2.1).below HD6.out, Own.below (HT.out.2.2.2.2.2.2.1) HD6.out, (HT.out.2.2.2.2.2.2.2.1).below HD6.out, (HT.out.2.2.2.2.2.2.2.2.1).below HD6.out, (HT.out.2.2.2.2.2.2.2.2.2).below HD6.out⟩)
   clear HT HC HYA HYB HLT HB6 HD6 hS
   go_wp2_with fail
   go_roundw
   case rel => exact ⟨k + 1, by omega, by go_num, hIV⟩
   case measure => simp [intOf]; omega
  ·
   obtain rfl : k = n := by omega
   have g1 : decide (k < k) = false := decide_eq_false (Nat.lt_irrefl _)
   have HBr := Lib.hid HT.out.1
   have Kr := Lib.hid HT.out.2.1
   have Xr := Lib.hid HT.out.2.2.1
   have Cr := Lib.hid HT.out.2.2.2.1
   have Yr := Lib.hid HT.out.2.2.2.2.1
   have Or := Lib.hid HT.out.2.2.2.2.2.1
   have Ir := Lib.hid HT.out.2.2.2.2.2.2.1
   have Sr := Lib.hid HT.out.2.2.2.2.2.2.2.1
   clear HT
   obtain ⟨U, hU⟩ := CS.rd Sr.out HSL.out
   have HPX := Lib.hid (HP2.out wr.heap.size wr dA' tA' sA' zA' cA' wA' A' A9 dc' tc' sc' zc' cc' wc' c' c9 U (Or.out.rd HCL.out) (Nat.le_refl _) (HWY.out wr HBr.out).1 (HWY.out wr HBr.out).2 (IL.rd Ir.out) hU)
   clear hU
   have k0 := Cr.out.cell 0
   have k1 := Cr.out.cell 1
   have k2 := Cr.out.cell 2
   have k3 := Cr.out.cell 3
   have k4 := Cr.out.cell 4
   have k5 := Cr.out.cell 5
   have k6 := Cr.out.cell 6
   have k7 := Cr.out.cell 7
   have x0 := Yr.out.cell 0
   have x1 := Yr.out.cell 1
   have x2 := Yr.out.cell 2
   have x3 := Yr.out.cell 3
   go_wp2_with fail
   refine HPX.out.mono ?_
   rintro e w6 ⟨⟨vC, rfl, hrw⟩, hb⟩
   obtain ⟨lA, lc, rfl, hlw⟩ := hrw
   have LA := Lib.hid (show LstV w6 (.slice lA L.length lc) L from ⟨_, _, rfl, hlw⟩)
   clear k0 k1 k2 k3 k4 k5 k6 k7 x0 x1 x2 x3
   have HB6 := Lib.hid (HBr.out.trans (hb.mono HBr.out.size))
   have K6 := Lib.hid (Kr.out.below' hb)
   have X6 := Lib.hid (Xr.out.below' hb)
   have C6 := Lib.hid (Cr.out.below' hb)
   have Y6 := Lib.hid (Yr.out.below' hb)
   have O6 := Lib.hid (Or.out.below hb)
   have I6 := Lib.hid (Own.below Ir.out hb)
   have S6 := Lib.hid (Sr.out.below hb)
   clear hlw HPX HP2
   clear hb HBr Kr Xr Cr Yr Or Ir Sr
   have HQX := Lib.hid (HQ2.out w6 HB6.out)
   have k0 := K6.out.cell 0
   have k1 := K6.out.cell 1
   have k2 := K6.out.cell 2
   have k3 := K6.out.cell 3
   have k4 := K6.out.cell 4
   have k5 := K6.out.cell 5
   have k6 := K6.out.cell 6
   have k7 := K6.out.cell 7
   have x0 := X6.out.cell 0
   have x1 := X6.out.cell 1
   have x2 := X6.out.cell 2
   have x3 := X6.out.cell 3
   go_wp2_with fail
   refine HQX.out.mono ?_
   rintro e w7 ⟨⟨vD, rfl, hrw⟩, hb⟩
   obtain ⟨mA, mc, rfl, hmw⟩ := hrw
   have LA7 := Lib.hid (LA.out.below hb)
   clear k0 k1 k2 k3 k4 k5 k6 k7 x0 x1 x2 x3
   have HB7 := Lib.hid (HB6.out.trans (hb.mono HB6.out.size))
   clear hb HQX HQ2 K6 X6 C6 Y6 O6 I6 S6 LA HB6
   obtain ⟨_, _, e, hlw⟩ := LA7.out
   cases e
   have HSM := Lib.hid (sameInts_any lA mA L.length L.length lc mc w7.heap.size (fun j => L.getD j 0) (fun j => L.getD j 0) w7 (by unfold maxLen; omega) (by unfold maxLen; omega) hlw hmw)
   rw [same_self] at HSM
   clear hlw hmw LA7
   go_wp2_with fail
   refine HSM.out.mono ?_
   rintro e w8 ⟨rfl, hb⟩
   have HB8 := Lib.hid (HB7.out.trans (hb.mono HB7.out.size))
   clear hb HSM
   have HWX := Lib.hid (HWK.out w8 HB8.out)
   go_wp2_with fail
   refine HWX.out.mono ?_
   rintro e wz ⟨rfl, hb⟩
   have HBZ := Lib.hid (HB8.out.trans (hb.mono HB8.out.size))
   clear hb
   go_wp2_with fail
   go_ret
   exact ⟨rfl, HBZ.out⟩
end
end Go.Proofs.YtnbeembnnjdmdaaGreatDoor
