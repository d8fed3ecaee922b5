/- DriftLives, walked. -/
import Derived.Test.YtnbeembnnjdmdaaGreatDoorJ13
namespace Go.Proofs.YtnbeembnnjdmdaaGreatDoor
open Go.RowKit Go.Maps

section
variable {W H s0 s1 : Int} {dA tA sA zA cA wA xA hA bA : Option Addr} {nd dc nt tc ns sc zn zc cn cc wn wc xc hn hc bn bc B : Nat} {at_ lo hi : Int} {dep : Nat → Int} {tide : Nat → Nat → Int} {sw z : Nat → Int} {cl : Nat → Nat} {cu : Nat → Nat → Nat → Int} {wd : Nat → Nat → Int} {xL : List Int} {Xs : Nat → SgV} {cs : Nat → Nat → Int} {w : World}
set_option maxRecDepth 100000 in
set_option maxHeartbeats 12800000 in
theorem driftLives_any (hnd : nd ≤ maxLen) (hnt : nt ≤ maxLen) (hns : ns ≤ maxLen) (hzn : zn ≤ maxLen) (hcn : cn ≤ maxLen) (hwn : wn ≤ maxLen) (hR : RdD w B dA tA sA zA cA wA nd nt ns zn cn wn dep tide sw z cl cu wd) (hB : B ≤ w.heap.size) (hW : Ways w)
  (hx3 : Rd1 w B xA xL.length (fun k => xL.getD k 0)) (hx4 : xL.length ≤ maxLen) (hRS : RdS w B hA hn Xs) (hhn : hn ≤ maxLen) (hb : Rd w B bA 2 bn cs) (hbm : bn ≤ maxLen) (hF : Fre w) :
  Calls Tryz.prog 11 #[.agg #[.int .i64 W, .int .i64 H, .slice dA nd dc, .slice tA nt tc, .slice sA ns sc, .slice zA zn zc, .slice cA cn cc, .slice wA wn wc], .agg #[.int .i64 at_, .slice xA xL.length xc, .int .i64 lo, .int .i64 hi], .agg #[.slice hA hn hc, .slice bA bn bc, .int .i64 s0, .int .i64 s1]] w fun e w' => e = .returned (.bool true) ∧ Below w.heap.size w w' := by
 have HB0 := Lib.hid (belowAlloc3 w (.cells #[.int .i64 W, .int .i64 H, .slice dA nd dc, .slice tA nt tc, .slice sA ns sc, .slice zA zn zc, .slice cA cn cc, .slice wA wn wc] 29) (.cells #[.int .i64 at_, .slice xA xL.length xc, .int .i64 lo, .int .i64 hi] 44) (.cells #[.slice hA hn hc, .slice bA bn bc, .int .i64 s0, .int .i64 s1] 82))
 have K0 := Lib.hid (((Blk.new w 29 #[.int .i64 W, .int .i64 H, .slice dA nd dc, .slice tA nt tc, .slice sA ns sc, .slice zA zn zc, .slice cA cn cc, .slice wA wn wc]).alloc (.cells #[.int .i64 at_, .slice xA xL.length xc, .int .i64 lo, .int .i64 hi] 44)).alloc (.cells #[.slice hA hn hc, .slice bA bn bc, .int .i64 s0, .int .i64 s1] 82))
 have X0 := Lib.hid ((Blk.new1 w (.cells #[.int .i64 W, .int .i64 H, .slice dA nd dc, .slice tA nt tc, .slice sA ns sc, .slice zA zn zc, .slice cA cn cc, .slice wA wn wc] 29) 44 #[.int .i64 at_, .slice xA xL.length xc, .int .i64 lo, .int .i64 hi]).alloc (.cells #[.slice hA hn hc, .slice bA bn bc, .int .i64 s0, .int .i64 s1] 82))
 have Z0 := Lib.hid (Blk.new2 w (.cells #[.int .i64 W, .int .i64 H, .slice dA nd dc, .slice tA nt tc, .slice sA ns sc, .slice zA zn zc, .slice cA cn cc, .slice wA wn wc] 29) (.cells #[.int .i64 at_, .slice xA xL.length xc, .int .i64 lo, .int .i64 hi] 44) 82 #[.slice hA hn hc, .slice bA bn bc, .int .i64 s0, .int .i64 s1])
 have HFA := Lib.hid (fun (V : World) (hb : Below w.heap.size w V) => rfar_any (dc := dc) (tc := tc) (sc := sc) (zc := zc) (cc := cc) (wc := wc) (W := W) (H := H) hnd hnt hns hzn hcn hwn (hR.below (hb.mono hB)) (Nat.le_trans hB hb.size))
 have HFS := Lib.hid (fun (V : World) (hb : Below w.heap.size w V) => rfarseen_any at_ lo hi xA hA xL.length xc hn hc B Xs V hx4 hhn (hRS.below (hb.mono hB)) (Nat.le_trans hB hb.size))
 have HCO' := Lib.hid (fun (V : World) (hb : Below w.heap.size w V) (ok : Bool) (hF : FarOk nd nt ns zn cn wn cl ok) => rdcopy_own (dc := dc) (tc := tc) (sc := sc) (zc := zc) (cc := cc) (wc := wc) (W := W) (H := H) hF (hR.below (hb.mono hB)) (Nat.le_trans hB hb.size))
 have HCP' := Lib.hid (fun (V : World) (hb : Below w.heap.size w V) (hn1 : xL.length ≤ 1048576) => rcopied_any (at_ := at_) (lo := lo) (hi := hi) (xc := xc) (hx3.below (hb.mono hB)) hn1 (Nat.le_trans hB hb.size))
 have HCS' := Lib.hid (fun (V : World) (hb : Below w.heap.size w V) (h1 : hn ≤ 40) (h2 : ∀ i, i < hn → (Xs i).L.length ≤ 200) => rcopyseen_any hA hn hc B Xs V (hRS.below (hb.mono hB)) (Nat.le_trans hB hb.size) (by omega) (fun i hi => Nat.le_trans (h2 i hi) (by omega)))
 have HWK := Lib.hid (fun (V : World) (hb : Below w.heap.size w V) => works_any V (hW.below hb))
 have HWY := Lib.hid (fun (V : World) (hb : Below w.heap.size w V) => And.intro (hW.below hb) (hF.below hb))
 have HBR := Lib.hid (fun (V : World) (hV : Below w.heap.size w V) => (hb.v).below (hV.mono hB))
 obtain ⟨ra, rm, re, hP, hQ⟩ := alive_both (W := W) (H := H) (at_ := at_) (lo := lo) (hi := hi) (dep := dep) (tide := tide) (sw := sw) (z := z) (cl := cl) (cu := cu) (wd := wd) (xL := xL) (hn := hn) (Xs := Xs) (cs := cs) (s0 := s0) (s1 := s1) hnd hnt hns hzn hcn hwn hx4 hhn hbm
 have HP := Lib.hid hP
 have HQ := Lib.hid (fun (V : World) (hV : Below w.heap.size w V) => hQ B V dA tA sA zA cA wA xA hA bA dc tc sc zc cc wc xc hc bc (hR.below (hV.mono hB)) (Nat.le_trans hB hV.size) (hx3.below (hV.mono hB)) (hRS.below (hV.mono hB)) (hb.below (hV.mono hB)))
 obtain ⟨i1, li, lz0, lz1, lz2⟩ := info_parts span_info
 have MJ := Lib.hid (And.intro li (And.intro lz0 (And.intro lz1 lz2)))
 clear hP hQ hR hW hx3 hRS hF hb li lz0 lz1 lz2
 go_enter Tryz.func11, Tryz.ntmps11
 go_upto_region 1 with fail
 generalize ((w.alloc (.cells #[.int .i64 W, .int .i64 H, .slice dA nd dc, .slice tA nt tc, .slice sA ns sc, .slice zA zn zc, .slice cA cn cc, .slice wA wn wc] 29)).alloc (.cells #[.int .i64 at_, .slice xA xL.length xc, .int .i64 lo, .int .i64 hi] 44)).alloc (.cells #[.slice hA hn hc, .slice bA bn bc, .int .i64 s0, .int .i64 s1] 82) = X at HB0 K0 X0 Z0 ⊢
 simp only [Nat.add_assoc, Nat.reduceAdd] at Z0 ⊢
 have HFX := Lib.hid (HFA.out X HB0.out)
 obtain ⟨k0, k1, k2, k3, k4, k5, k6, k7⟩ := K0.out.c8
 obtain ⟨x0, x1, x2, x3⟩ := X0.out.c4
 obtain ⟨z0, z1, z2, z3⟩ := Z0.out.c4
 go_wp2_with fail
 refine HFX.out.mono ?_
 rintro e w1 ⟨⟨q, rfl, hq⟩, hb⟩
 have HB1 := Lib.hid (HB0.out.trans (hb.mono HB0.out.size))
 have K1 := Lib.hid (K0.out.below' hb)
 have X1 := Lib.hid (X0.out.below' hb)
 have Z1 := Lib.hid (Z0.out.below' hb)
 have HFQ := Lib.hid hq
 clear k0 k1 k2 k3 k4 k5 k6 k7 x0 x1 x2 x3 z0 z1 z2 z3
 clear hb hq HFX HFA K0 X0 Z0 HB0
 cases q
 rotate_left
 ·
  have HWX := Lib.hid (HWK.out w1 HB1.out)
  go_wp2_with fail
  refine HWX.out.mono ?_
  rintro e wz ⟨rfl, hb⟩
  have HBZ := Lib.hid (HB1.out.trans (hb.mono HB1.out.size))
  clear hb
  go_wp2_with fail
  go_ret
  exact ⟨rfl, HBZ.out⟩
 have HOK := Lib.hid (HFQ.out rfl)
 clear HFQ
 have HFY := Lib.hid (HFS.out w1 HB1.out)
 obtain ⟨k0, k1, k2, k3, k4, k5, k6, k7⟩ := K1.out.c8
 obtain ⟨x0, x1, x2, x3⟩ := X1.out.c4
 obtain ⟨z0, z1, z2, z3⟩ := Z1.out.c4
 go_wp2_with fail
 refine HFY.out.mono ?_
 rintro e w2 ⟨⟨q, rfl, hq⟩, hb⟩
 have HB2 := Lib.hid (HB1.out.trans (hb.mono HB1.out.size))
 have K2 := Lib.hid (K1.out.below' hb)
 have X2 := Lib.hid (X1.out.below' hb)
 have Z2 := Lib.hid (Z1.out.below' hb)
 have HFQ := Lib.hid hq
 clear k0 k1 k2 k3 k4 k5 k6 k7 x0 x1 x2 x3 z0 z1 z2 z3
 clear hb hq HFY HFS K1 X1 Z1 HB1
 cases q
 rotate_left
 ·
  have HWX := Lib.hid (HWK.out w2 HB2.out)
  go_wp2_with fail
  refine HWX.out.mono ?_
  rintro e wz ⟨rfl, hb⟩
  have HBZ := Lib.hid (HB2.out.trans (hb.mono HB2.out.size))
  clear hb
  go_wp2_with fail
  go_ret
  exact ⟨rfl, HBZ.out⟩
 have HSK := Lib.hid (HFQ.out rfl)
 clear HFQ
 by_cases h20 : 20 < bn
 ·
  have g1 : decide (20 < bn) = true := decide_eq_true h20
  have g1' : decide ((20 : Int) < (bn : Int)) = true := decide_eq_true (by omega)
  have z1 := Z2.out.cell 1
  have HWX := Lib.hid (HWK.out w2 HB2.out)
  go_wp2_with fail
  refine HWX.out.mono ?_
  rintro e wz ⟨rfl, hb⟩
  have HBZ := Lib.hid (HB2.out.trans (hb.mono HB2.out.size))
  clear hb
  go_wp2_with fail
  go_ret
  exact ⟨rfl, HBZ.out⟩
 ·
  have g1 : decide (20 < bn) = false := decide_eq_false h20
  have g1' : decide ((20 : Int) < (bn : Int)) = false := decide_eq_false (by omega)
  have HCO := Lib.hid (fun (V : World) (hb : Below w.heap.size w V) => HCO'.out V hb _ HOK.out)
  have HCP := Lib.hid (fun (V : World) (hb : Below w.heap.size w V) => HCP'.out V hb (Nat.le_trans HSK.out.x (by omega)))
  have HCS := Lib.hid (fun (V : World) (hb : Below w.heap.size w V) => HCS'.out V hb HSK.out.n HSK.out.l)
  have HCL := Lib.hid (show ∀ i, i < cn → cl i ≤ maxLen from fun i hi => by have := HOK.out.l i hi; unfold maxLen; omega)
  have HSL := Lib.hid (show ∀ i, i < hn → (Xs i).L.length ≤ maxLen from fun i hi => by have := HSK.out.l i hi; unfold maxLen; omega)
  clear HCO' HCP' HCS'
  have z1 := Z2.out.cell 1
  go_upto_region 3 with fail
  have z2 := Z2.out.cell 2
  have z3 := Z2.out.cell 3
  go_upto_region 4 with fail
  have Y3 := Lib.hid (Blk.new w2 73 #[.slice bA bn bc, .int .i64 s0, .int .i64 s1])
  have HBB := Lib.hid (belowAlloc w2 (.cells #[.slice bA bn bc, .int .i64 s0, .int .i64 s1] 73))
  generalize w2.alloc (.cells #[.slice bA bn bc, .int .i64 s0, .int .i64 s1] 73) = w3 at Y3 HBB ⊢
  have HB3 := Lib.hid (HB2.out.trans (HBB.out.mono HB2.out.size))
  have K3 := Lib.hid (K2.out.below' HBB.out)
  have X3 := Lib.hid (X2.out.below' HBB.out)
  have Z3 := Lib.hid (Z2.out.below' HBB.out)
  have HG7 := Lib.hid (show w.heap.size ≤ w2.heap.size from HB2.out.size)
  have HGZ := Lib.hid (show w.heap.size + 2 < w2.heap.size from Z2.out.lt)
  generalize w2.heap.size = g7 at Y3 HG7 HGZ ⊢
  clear z1 z2 z3 HBB HB2 K2 X2 Z2
  clear w2
  have z1 := (Z3.out.alloc (.cells #[] 42)).cell 1
  have HE3 := Lib.hid (Blk.new w3 42 #[])
  have HR3 := Lib.hid ((HBR.out w3 HB3.out).below ((belowAlloc w3 (.cells #[] 42)).mono (Nat.le_trans hB HB3.out.size)))
  go_wp2_with (at_builtin; go_must (refine wpList_copy rfl (.tmp 32) (.tmp 35) 23 rfl 42 i1 _ 2 16 Tryz.underlying23 MJ.out.1 MJ.out.2.1 MJ.out.2.2.1 MJ.out.2.2.2 rfl (by decide) (by decide) rfl HE3.out (fun _ _ => rfl) rfl HR3.out (by omega) ?_); intro bA' bc' w4 hO4 hB4; have HO4 := Lib.hid hO4; have Y4 := Lib.hid ((Y3.out.alloc (.cells #[] 42)).below' hB4); have HD4 := Lib.hid (show Below w3.heap.size w3 w4 from (belowAlloc w3 _).trans (hB4.mono (by simp))); clear hO4 hB4 z1; have y0 := Y4.out.cell 0; have fy := Y4.out.frz 0; have hy := Y4.out.lt)
  have HB4 := Lib.hid (HB3.out.trans (HD4.out.mono HB3.out.size))
  have K4 := Lib.hid (K3.out.below' HD4.out)
  have X4 := Lib.hid (X3.out.below' HD4.out)
  have Z4 := Lib.hid (Z3.out.below' HD4.out)
  have HB5 := Lib.hid (HB4.out.setCell (p := ⟨g7, 0, none⟩) HG7.out (.slice bA' bn bc'))
  have HN := Lib.hid (show w.heap.size + 2 < g7 from HGZ.out)
  have K5 := Lib.hid (K4.out.far (p := ⟨g7, 0, none⟩) (fun e => by have := HN.out; simp at e; omega) (.slice bA' bn bc'))
  have X5 := Lib.hid (X4.out.far (p := ⟨g7, 0, none⟩) (fun e => by have := HN.out; simp at e; omega) (.slice bA' bn bc'))
  have Z5 := Lib.hid (Z4.out.far (p := ⟨g7, 0, none⟩) (fun e => by have := HN.out; simp at e; omega) (.slice bA' bn bc'))
  have Y5 := Lib.hid (Y4.out.set_ 0 (.slice bA' bn bc'))
  have O5 := Lib.hid (HO4.out.setCell (p := ⟨g7, 0, none⟩) (Own.ne_blk HO4.out Y4.out (by decide)) (.slice bA' bn bc'))
  generalize w4.setCell ⟨g7, 0, none⟩ (.slice bA' bn bc') = w5 at HB5 K5 X5 Z5 Y5 O5 ⊢
  clear y0 fy hy HO4 Y4 HD4 HB4 K4 X4 Z4 HB3 K3 X3 Z3 Y3 HE3 HR3
  clear w4
  generalize w3.heap.size = b3 at O5
  clear w3
  go_upto_region 5 with fail
  refine wp_nopanic ?_
  refine wp_region_T 15 (fun w' => Below w5.heap.size w5 w') (by kernel_rfl) (Below.refl _ _).drew ?_
  intro hS
  refine takeK (i := 0) (v := ?_) rfl (by kernel_rfl) (.inl ⟨by kernel_rfl, ?_⟩) hS ?_
  rotate_left
  · (intro w' hw; obtain ⟨k0, k1, k2, k3, k4, k5, k6, k7⟩ := (K5.out.below' hw).c8; go_simp; try with_reducible rfl)
  try simp only [put_laws]
  refine takeK (i := 2) (v := ?_) rfl (by kernel_rfl) (.inl ⟨by kernel_rfl, ?_⟩) hS ?_
  rotate_left
  · (intro w' hw; obtain ⟨x0, x1, x2, x3⟩ := (X5.out.below' hw).c4; go_simp; try with_reducible rfl)
  try simp only [put_laws]
  refine takeK (i := 4) (v := ?_) rfl (by kernel_rfl) (.inl ⟨by kernel_rfl, ?_⟩) hS ?_
  rotate_left
  · (intro w' hw; go_simp; try with_reducible rfl)
  try simp only [put_laws]
  refine takeK (i := 5) (v := ?_) rfl (by kernel_rfl) (.inl ⟨by kernel_rfl, ?_⟩) hS ?_
  rotate_left
  · (intro w' hw; have z0 := (Z5.out.below' hw).cell 0; go_simp; try with_reducible rfl)
  try simp only [put_laws]
  refine takeK (i := 7) (v := ?_) rfl (by kernel_rfl) (.inl ⟨by kernel_rfl, ?_⟩) hS ?_
  rotate_left
  · (intro w' hw; obtain ⟨y0, y1, y2⟩ := (Y5.out.below' hw).c3; go_simp; try with_reducible rfl)
  try simp only [put_laws]
  refine wpAnyT_one (i := 1) (by kernel_rfl) rfl ?_
  intro K' hK'
  go_simp
  refine (HCO.out w5.drew HB5.out.drew).mono ?_
  rintro e w6 ⟨⟨dA', dc', tA', tc', sA', sc', zA', zc', cA', cc', wA', wc', rfl, R, hO⟩, hb⟩
  have HB6 := Lib.hid (show Below w5.heap.size w5 w6 from (Below.refl _ w5).drew.trans (hb.mono (Nat.le_refl _)))
  have O6 := Lib.hid hO
  clear hO hb
  refine hK'.out _ _ (.inr HB6.out) ?_
  clear hS
  have hS := HB6.out
  clear hK' K'
  try simp only [put_laws]
  refine wpAnyT_one (i := 3) (by kernel_rfl) rfl ?_
  intro K' hK'
  go_simp
  refine (HCP.out w6 (HB5.out.trans (HB6.out.mono HB5.out.size))).mono ?_
  rintro e w7 ⟨⟨A', c', rfl, hI⟩, hb⟩
  have HB7 := Lib.hid (show Below w5.heap.size w5 w7 from HB6.out.trans (hb.mono HB6.out.size))
  have O7 := Lib.hid (O6.out.below hb)
  have I7 := Lib.hid hI
  clear hI hb O6
  refine hK'.out _ _ (.inr HB7.out) ?_
  clear hS
  have hS := HB7.out
  clear hK' K'
  try simp only [put_laws]
  refine wpAnyT_one (i := 6) (by kernel_rfl) rfl ?_
  intro K' hK'
  go_simp
  refine (HCS.out w7 (HB5.out.trans (HB7.out.mono HB5.out.size))).mono ?_
  rintro e w8 ⟨⟨v8, rfl, hS8⟩, hb⟩
  obtain ⟨A9, c9, rfl⟩ := hS8.form
  have HB8 := Lib.hid (show Below w5.heap.size w5 w8 from HB7.out.trans (hb.mono HB7.out.size))
  have O8 := Lib.hid (O7.out.below hb)
  have I8 := Lib.hid (Own.below I7.out hb)
  have S8 := Lib.hid hS8
  clear hS8 hb O7 I7
  refine hK'.out _ _ (.inr HB8.out) ?_
  clear hS
  have hS := HB8.out
  clear hK' K'
  try simp only [put_laws]
  refine wpAnyT_one (i := 8) (by kernel_rfl) rfl ?_
  intro K' hK'
  go_simp
  obtain ⟨U, hU⟩ := CS.rd S8.out HSL.out
  refine (HP.out w8.heap.size w8 dA' tA' sA' zA' cA' wA' A' A9 bA' dc' tc' sc' zc' cc' wc' c' c9 bc' U (O8.out.rd HCL.out) (Nat.le_refl _) (HWY.out w8 (HB5.out.trans (HB8.out.mono HB5.out.size))).1 (HWY.out w8 (HB5.out.trans (HB8.out.mono HB5.out.size))).2 (IL.rd I8.out) hU (Own.rdI (O5.out.below HB8.out))).mono ?_
  rintro e w9 ⟨rfl, hb⟩
  have HB9 := Lib.hid (show Below w5.heap.size w5 w9 from HB8.out.trans (hb.mono HB8.out.size))
  clear hb hU
  refine hK'.out _ _ (.inr HB9.out) ?_
  clear hS
  have hS := HB9.out
  clear hK' K'
  try simp only [put_laws]
  refine takeK (i := 9) (v := ?_) rfl (by kernel_rfl) (.inl ⟨by kernel_rfl, ?_⟩) hS ?_
  rotate_left
  · (intro w' hw; go_simp; try with_reducible rfl)
  try simp only [put_laws]
  refine takeK (i := 10) (v := ?_) rfl (by kernel_rfl) (.inl ⟨by kernel_rfl, ?_⟩) hS ?_
  rotate_left
  · (intro w' hw; go_simp; try with_reducible rfl)
  try simp only [put_laws]
  refine takeK (i := 11) (v := ?_) rfl (by kernel_rfl) (.inl ⟨by kernel_rfl, ?_⟩) hS ?_
  rotate_left
  · (intro w' hw; go_simp; try with_reducible rfl)
  try simp only [put_laws]
  refine takeK (i := 12) (v := ?_) rfl (by kernel_rfl) (.inl ⟨by kernel_rfl, ?_⟩) hS ?_
  rotate_left
  · (intro w' hw; go_simp; try with_reducible rfl)
  try simp only [put_laws]
  refine wpAnyT_one (i := 13) (by kernel_rfl) rfl ?_
  intro K' hK'
  go_simp
  refine hK'.out _ _ (.inr hS) ?_
  clear hK' K'
  try simp only [put_laws]
  refine wpAnyT_one (i := 14) (by kernel_rfl) rfl ?_
  intro K' hK'
  go_simp
  refine hK'.out _ _ (.inr hS) ?_
  clear hK' K'
  try simp only [put_laws]
  refine wpAnyT_one (i := 15) (by kernel_rfl) rfl ?_
  intro K' hK'
  go_simp
  refine hK'.out _ _ (.inr hS) ?_
  clear hK' K'
  try simp only [put_laws]
  refine wpAnyT_done (by kernel_rfl) ?_ _
  refine ⟨fun x e => (by cases e), ?_⟩
  have HBa := Lib.hid (HB5.out.trans (HB9.out.mono HB5.out.size))
  have Ka := Lib.hid (K5.out.below' HB9.out)
  have Xa := Lib.hid (X5.out.below' HB9.out)
  have Za := Lib.hid (Z5.out.below' HB9.out)
  clear hS HB9 HB8 HB7 HB6 HB5 K5 X5 Z5 Y5 O5 O8 I8 S8
  have HQX := Lib.hid (HQ.out w9 HBa.out)
  obtain ⟨k0, k1, k2, k3, k4, k5, k6, k7⟩ := Ka.out.c8
  obtain ⟨x0, x1, x2, x3⟩ := Xa.out.c4
  obtain ⟨z0, z1, z2, z3⟩ := Za.out.c4
  go_wp2_with fail
  refine HQX.out.mono ?_
  rintro e wb ⟨rfl, hb⟩
  have HBb := Lib.hid (HBa.out.trans (hb.mono HBa.out.size))
  clear k0 k1 k2 k3 k4 k5 k6 k7 x0 x1 x2 x3 z0 z1 z2 z3
  clear hb HQX HQ HBa Ka Xa Za
  have HWX := Lib.hid (HWK.out wb HBb.out)
  go_wp2_with fail
  refine HWX.out.mono ?_
  rintro e wz ⟨rfl, hb⟩
  have HBZ := Lib.hid (HBb.out.trans (hb.mono HBb.out.size))
  clear hb
  go_wp2_with fail
  go_ret
  exact ⟨rfl, HBZ.out⟩
end
end Go.Proofs.YtnbeembnnjdmdaaGreatDoor
