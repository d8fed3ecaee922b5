/- drift: begin, of a drift that is not valid. -/
import Derived.Test.YtnbeembnnjdmdaaGreatDoorD30
namespace Go.Proofs.YtnbeembnnjdmdaaGreatDoor
open Go.RowKit Go.Maps

section
variable {W H : Int} {dA tA sA zA cA wA xA hA : Option Addr} {nd dc nt tc ns sc zn zc cn cc wn wc xn xc hn hc B : Nat} {at_ lo hi : Int} {dep : Nat → Int} {tide : Nat → Nat → Int} {sw z : Nat → Int} {cl : Nat → Nat} {cu : Nat → Nat → Nat → Int} {wd : Nat → Nat → Int} {w : World}
set_option maxRecDepth 100000 in
set_option maxHeartbeats 3200000 in
theorem begin_bad (hnd : nd ≤ maxLen) (hnt : nt ≤ maxLen) (hns : ns ≤ maxLen) (hzn : zn ≤ maxLen) (hcn : cn ≤ maxLen) (hwn : wn ≤ maxLen) (hR : RdD w B dA tA sA zA cA wA nd nt ns zn cn wn dep tide sw z cl cu wd) (hB : B ≤ w.heap.size)
  (hE : M.chkD (M.chkC W H nd nt ns dep tide sw) nd nt zn cn wn z cl cu wd = false) :
  Calls Tryz.prog 55 #[.agg #[.int .i64 W, .int .i64 H, .slice dA nd dc, .slice tA nt tc, .slice sA ns sc, .slice zA zn zc, .slice cA cn cc, .slice wA wn wc], .agg #[.int .i64 at_, .slice xA xn xc, .int .i64 lo, .int .i64 hi], .slice hA hn hc] w fun e w' =>
   e = .returned (.tuple #[.agg #[.pointer none, .int .i64 0, .slice none 0 0, .int .i64 0, .int .i64 0, .slice none 0 0], .int .i64 20]) ∧ Below w.heap.size w w' := by
 have hbY := belowAlloc3 w (.cells #[.int .i64 W, .int .i64 H, .slice dA nd dc, .slice tA nt tc, .slice sA ns sc, .slice zA zn zc, .slice cA cn cc, .slice wA wn wc] 29) (.cells #[.int .i64 at_, .slice xA xn xc, .int .i64 lo, .int .i64 hi] 44) (.cells #[.pointer none, .int .i64 0, .slice none 0 0, .int .i64 0, .int .i64 0, .slice none 0 0] 105)
 have HO := Lib.hid (dopen_any W H dA tA sA zA cA wA nd dc nt tc ns sc zn zc cn cc wn wc B dep tide sw z cl cu wd (((w.alloc (.cells #[.int .i64 W, .int .i64 H, .slice dA nd dc, .slice tA nt tc, .slice sA ns sc, .slice zA zn zc, .slice cA cn cc, .slice wA wn wc] 29)).alloc (.cells #[.int .i64 at_, .slice xA xn xc, .int .i64 lo, .int .i64 hi] 44)).alloc (.cells #[.pointer none, .int .i64 0, .slice none 0 0, .int .i64 0, .int .i64 0, .slice none 0 0] 105)) hnd hnt hns hzn hcn hwn (hR.below (hbY.mono hB)) (Nat.le_trans hB hbY.size))
 rw [hE] at HO
 have HBY := Lib.hid hbY
 have K2 := Lib.hid (Blk.new2 w (.cells #[.int .i64 W, .int .i64 H, .slice dA nd dc, .slice tA nt tc, .slice sA ns sc, .slice zA zn zc, .slice cA cn cc, .slice wA wn wc] 29) (.cells #[.int .i64 at_, .slice xA xn xc, .int .i64 lo, .int .i64 hi] 44) 105 #[.pointer none, .int .i64 0, .slice none 0 0, .int .i64 0, .int .i64 0, .slice none 0 0])
 clear hR hnd hnt hns hzn hcn hwn hE hbY
 go_enter Tryz.func55, Tryz.ntmps55
 go_upto_region 3 with (go_at_call 43; refine HO.out.mono ?_; rintro e w1 ⟨hb, h⟩; rw [if_neg (by simp)] at h; subst h; have HB1 := Lib.hid hb; clear hb)
 have HB2 := Lib.hid (HB1.out.alloc HB1.out.size (.cells #[.pointer none] 87))
 have G2 := Lib.hid (K2.out.below' HB2.out)
 have HBW := Lib.hid (HBY.out.trans (HB2.out.mono HBY.out.size))
 clear HO HB1 HB2 K2 HBY
 generalize w1.alloc (.cells #[.pointer none] 87) = Z at *
 have z0 := G2.out.frz 0
 have z1 := G2.out.frz 1
 have z2 := G2.out.frz 2
 have z3 := G2.out.frz 3
 have z4 := G2.out.frz 4
 have z5 := G2.out.frz 5
 obtain ⟨y0, y1, y2, y3⟩ := G2.out.c4
 have y4 := G2.out.cell 4
 have y5 := G2.out.cell 5
 go_wp2_with fail
 refine bodyPost_ret (results_cell_row1 rfl _ _ (w.heap.size + 1 + 1) 105 #[.pointer none, .int .i64 0, .slice none 0 0, .int .i64 0, .int .i64 0, .slice none 0 0] (0, 0) _ rfl ((((((G2.out.set_ 0 _).set_ 1 _).set_ 2 _).set_ 3 _).set_ 4 _).set_ 5 _) Tryz.underlying105 rfl chase_size) rfl ⟨rfl, ?_⟩
 exact below_setc (below_setc (below_setc (below_setc (below_setc (below_setc HBW.out (by omega)) (by omega)) (by omega)) (by omega)) (by omega)) (by omega)
end
end Go.Proofs.YtnbeembnnjdmdaaGreatDoor
/- drift: Struck, of a drift that is not valid. -/
namespace Go.Proofs.YtnbeembnnjdmdaaGreatDoor
open Go.RowKit Go.Maps

section
variable {W H : Int} {dA tA sA zA cA wA xA hA : Option Addr} {nd dc nt tc ns sc zn zc cn cc wn wc xn xc hn hc B : Nat} {at_ lo hi : Int} {dep : Nat → Int} {tide : Nat → Nat → Int} {sw z : Nat → Int} {cl : Nat → Nat} {cu : Nat → Nat → Nat → Int} {wd : Nat → Nat → Int} {w : World}
end
end Go.Proofs.YtnbeembnnjdmdaaGreatDoor
/- drift: Struck of a valid drift, where an argument is not valid. -/
namespace Go.Proofs.YtnbeembnnjdmdaaGreatDoor
open Go.RowKit Go.Maps

section
variable {d : M.Dr} {zA cA wA dA tA sA xA hA : Option Addr} {cl : Nat → Nat} {B dc tc sc zc cc wc xc hn hc : Nat} {at_ lo hi : Int} {xL : List Int} {Xs : Nat → SgV} {w : World}
end
end Go.Proofs.YtnbeembnnjdmdaaGreatDoor
/- drift: Struck of a valid drift, drifter and sightings. -/
namespace Go.Proofs.YtnbeembnnjdmdaaGreatDoor
open Go.RowKit Go.Maps

def askB (nd nt : Nat) (at_ c t : Int) : Bool := (decide (c = -1) || M.inB 0 ((nd : Int) - 1) c) && M.inB at_ ((nt : Int) - 1) t
def strG (d : M.Dr) (at_ lo hi : Int) (xL : List Int) (Xs : Nat → SgV) (c t : Int) : List Nat → Bool := leeG d at_.toNat (d.s.nt - at_.toNat) xL Xs lo hi t c
def strP (d : M.Dr) (at_ lo hi : Int) (xL : List Int) (hn : Nat) (Xs : Nat → SgV) (c t : Int) : Bool := M.spanTo lo hi (leeP d at_.toNat (d.s.nt - at_.toNat) hn xL Xs t c)
theorem asc_bd {nd : Nat} {xL : List Int} (h : M.ascF nd xL.length (fun k => xL.getD k 0) = true) : xL.Pairwise (· < ·) ∧ (∀ x, x ∈ xL → 0 ≤ x ∧ x < nd) := by
 unfold M.ascF at h
 rw [Bool.and_eq_true] at h
 refine ⟨M.asc_pw (_nd := nd) h.1, fun x hx => ?_⟩
 obtain ⟨i, hi, rfl⟩ := List.getElem_of_mem hx
 have h2 : 0 ≤ xL.getD i 0 ∧ xL.getD i 0 ≤ (nd : Int) - 1 := M.inB_iff.1 (M.allTo_iff.1 h.2 i hi)
 rw [List.getD_eq_getElem?_getD, List.getElem?_eq_getElem hi, Option.getD_some] at h2
 omega
theorem chkX_bd {nd nt : Nat} {at_ lo hi : Int} {xL : List Int} (h : chkX nd nt at_ lo hi xL = true) : (0 ≤ at_ ∧ at_ ≤ (nt : Int) - 1) ∧ 0 < xL.length ∧ (xL.Pairwise (· < ·) ∧ (∀ x, x ∈ xL → 0 ≤ x ∧ x < nd)) ∧ 0 ≤ lo ∧ lo ≤ hi ∧ hi ≤ 8 := by
 unfold chkX at h
 simp only [Bool.and_eq_true, decide_eq_true_eq] at h
 obtain ⟨⟨⟨h1, h2⟩, h3⟩, ⟨h4, h5⟩, h6⟩ := h
 refine ⟨M.inB_iff.1 h1, ?_, asc_bd h3, h4, h5, h6⟩
 simp at h2
 exact List.length_pos_iff.2 h2
theorem LfP.less {base base' : Nat} {w : World} {v : Value} {l : List Nat} (h : LfP base w v l) (hb : base' ≤ base) : LfP base' w v l := ⟨h.1, fun g e => Nat.le_trans hb (h.2 g e)⟩
-- BEGIN
section
variable {d : M.Dr} {zA cA wA dA tA sA xA hA : Option Addr} {cl : Nat → Nat} {B dc tc sc zc cc wc xc hn hc : Nat} {at_ lo hi : Int} {xL : List Int} {Xs : Nat → SgV} {w : World}
set_option maxRecDepth 100000 in
set_option maxHeartbeats 3200000 in
theorem struck_ok (hd : d.Ok) (hcl : ∀ i, i < d.nz → cl i + 1 = d.s.nt) (hR : RdD w B dA tA sA zA cA wA d.s.nd d.s.nt d.s.nt d.s.nd d.nz (d.s.nt - 1) d.s.dep d.s.tide d.s.sw d.z cl d.cu d.wd) (hB : B ≤ w.heap.size) (hW : Ways w)
  (hx3 : Rd1 w B xA xL.length (fun k => xL.getD k 0)) (hx4 : xL.length ≤ maxLen) (hRS : RdS w B hA hn Xs) (hhn : hn ≤ maxLen) (c t : Int) (hX : chkX d.s.nd d.s.nt at_ lo hi xL = true) (hS : chkS d.s.nd d.s.nt at_ hn Xs = true) :
  Calls Tryz.prog 25 #[.agg #[.int .i64 (d.s.W : Int), .int .i64 (d.s.H : Int), .slice dA d.s.nd dc, .slice tA d.s.nt tc, .slice sA d.s.nt sc, .slice zA d.s.nd zc, .slice cA d.nz cc, .slice wA (d.s.nt - 1) wc], .agg #[.int .i64 at_, .slice xA xL.length xc, .int .i64 lo, .int .i64 hi], .slice hA hn hc, .int .i64 c, .int .i64 t] w fun e w' => Below w.heap.size w w' ∧
   ((askB d.s.nd d.s.nt at_ c t = false ∧ e = .returned (.tuple #[.slice none 0 0, .int .i64 1])) ∨
    (askB d.s.nd d.s.nt at_ c t = true ∧ strP d at_ lo hi xL hn Xs c t = true ∧ e = .returned (.tuple #[.slice none 0 0, .int .i64 3])) ∨
    (askB d.s.nd d.s.nt at_ c t = true ∧ strP d at_ lo hi xL hn Xs c t = false ∧ ∃ v, e = .returned (.tuple #[v, .int .i64 0]) ∧ LfP w.heap.size w' v (M.kp (strG d at_ lo hi xL Xs c t) hn hn))) := by
 obtain ⟨⟨ha1, ha2⟩, hxl, ⟨hx1, hx2⟩, hl1, hl2, hl3⟩ := chkX_bd hX
 obtain ⟨ta, rfl⟩ : ∃ n : Nat, at_ = (n : Int) := ⟨at_.toNat, by omega⟩
 have hhn12 : hn ≤ 12 := by unfold chkS at hS; simp only [Bool.and_eq_true, decide_eq_true_eq] at hS; exact hS.1
 have h60 := hd.s.t2
 have h1n := hd.s.t1
 have hnd := hd.s.nd1
 have hxm : xL.length ≤ 1048576 := by have := M.asc_len hx1 (fun x hx => ⟨by have := hx2 x hx; omega, (hx2 x hx).2⟩); omega
 unfold strP strG
 rw [Int.toNat_natCast]
 obtain ⟨m, hm⟩ : ∃ m, m = d.s.nt - ta := ⟨_, rfl⟩
 rw [← hm]
 have hm1 : ta + m = d.s.nt := by omega
 have hm2 : 1 ≤ m := by omega
 have hbY := belowAlloc2 w (.cells #[.int .i64 (d.s.W : Int), .int .i64 (d.s.H : Int), .slice dA d.s.nd dc, .slice tA d.s.nt tc, .slice sA d.s.nt sc, .slice zA d.s.nd zc, .slice cA d.nz cc, .slice wA (d.s.nt - 1) wc] 29) (.cells #[.int .i64 (ta : Int), .slice xA xL.length xc, .int .i64 lo, .int .i64 hi] 44)
 have hO := begin_ok (at_ := (ta : Int)) (lo := lo) (hi := hi) (xc := xc) (hc := hc) (dc := dc) (tc := tc) (sc := sc) (zc := zc) (cc := cc) (wc := wc) hd hcl (hR.below (hbY.mono hB)) (Nat.le_trans hB hbY.size) (hW.below hbY) (hx3.below (hbY.mono hB)) hx4 (hRS.below (hbY.mono hB)) hhn
 have HO := Lib.hid (hO.mono (R' := fun e w' => ∃ B2 P m1 m2, w.heap.size ≤ B2 ∧ Below w.heap.size w w' ∧ e = .returned (.tuple #[.agg #[.pointer (some ⟨P, 0, none⟩), .int .i64 (ta : Int), .slice xA xL.length xc, .int .i64 lo, .int .i64 hi, .slice hA hn hc], .int .i64 0]) ∧ SeaM d zA cA wA dA tA sA cl B2 P m1 m2 #[.int .i64 (d.s.W : Int), .int .i64 (d.s.H : Int), .slice dA d.s.nd dc, .slice tA d.s.nt tc, .slice sA d.s.nt sc, .slice zA d.s.nd zc, .slice cA d.nz cc, .slice wA (d.s.nt - 1) wc, .map (some m1), .map (some m2)] (own3 P m1 m2) w') fun e w' h => by
  obtain ⟨hb, h⟩ := h
  rcases h with ⟨h1, h2⟩ | ⟨h1, h2, h3⟩ | ⟨h1, h2, B2, P, m1, m2, h3, h4, h5⟩
  · rw [hX] at h1; cases h1
  · rw [hS] at h2; cases h2
  · exact ⟨B2, P, m1, m2, Nat.le_trans hbY.size h3, hbY.trans (hb.mono hbY.size), h4, h5⟩)
 have HPO := Lib.hid (fun (B2 P m1 m2 : Nat) (V : World) (hMV : SeaT d zA cA wA dA tA sA cl B2 P m1 m2 dc tc sc zc cc wc V) (hbV : Below w.heap.size w V) => possible_any (hc := hc) (xc := xc) (fc := c) (ft := t) (fl := 0) hd hhn hx1 hx2 hxm hm1 hm2 hl1 hl3 hl2 hMV (hRS.below (hbV.mono hB)) (hx3.below (hbV.mono hB)) (Nat.le_trans hB hbV.size))
 have HNE := Lib.hid (fun (B2 P m1 m2 : Nat) (V : World) (hMV : SeaT d zA cA wA dA tA sA cl B2 P m1 m2 dc tc sc zc cc wc V) (hbV : Below w.heap.size w V) => needed_any (hc := hc) (xc := xc) (fc := c) (ft := t) (fl := 0) hd hhn12 hx1 hx2 hxm hm1 hm2 hl1 hl3 hl2 hMV (hRS.below (hbV.mono hB)) (hx3.below (hbV.mono hB)) (Nat.le_trans hB hbV.size))
 obtain ⟨qp, hqp⟩ : ∃ q, M.spanTo lo hi (leeP d ta m hn xL Xs t c) = q := ⟨_, rfl⟩
 obtain ⟨kl, hkl⟩ : ∃ q, M.kp (leeG d ta m xL Xs lo hi t c) hn hn = q := ⟨_, rfl⟩
 obtain ⟨qa, hqa⟩ : ∃ q, askB d.s.nd d.s.nt (ta : Int) c t = q := ⟨_, rfl⟩
 have HAS := Lib.hid (fun (P : Nat) (V : World) (h2 : V.cell? ⟨P, 2, none⟩ = some (.slice dA d.s.nd dc)) (h3 : V.cell? ⟨P, 3, none⟩ = some (.slice tA d.s.nt tc)) => asked_any (P := P) (ta := ta) (xA := xA) (xc := xc) (xL := xL) (lo := lo) (hi := hi) (hA := hA) (hn := hn) (hc := hc) c t V h2 h3 (by unfold maxLen; omega) (by unfold maxLen; omega))
 unfold askB at hqa
 rw [hqa] at HAS
 rw [hqp] at HPO
 rw [hkl] at HNE
 rw [hqp, hkl, show askB d.s.nd d.s.nt (ta : Int) c t = qa from hqa]
 clear hO hbY hqp hkl hqa hR hd hcl hW hx3 hRS hx1 hx2 hX hS hm hm1
 go_enter Tryz.func25, Tryz.ntmps25
 go_upto_region 2 with (go_at_call 55; refine HO.out.mono ?_; rintro e w1 ⟨B2, P, m1, m2, hB2, hb, rfl, hM⟩; have HB1 := Lib.hid hb; have HM1 := Lib.hid hM; have HB2 := Lib.hid hB2; clear hb hM hB2)
 have K1 := Lib.hid (Blk.new w1 105 #[.pointer (some ⟨P, 0, none⟩), .int .i64 (ta : Int), .slice xA xL.length xc, .int .i64 lo, .int .i64 hi, .slice hA hn hc])
 have HM2 := Lib.hid (HM1.out.alloc (.cells #[.pointer (some ⟨P, 0, none⟩), .int .i64 (ta : Int), .slice xA xL.length xc, .int .i64 lo, .int .i64 hi, .slice hA hn hc] 105))
 have HBX := Lib.hid (HB1.out.alloc HB1.out.size (.cells #[.pointer (some ⟨P, 0, none⟩), .int .i64 (ta : Int), .slice xA xL.length xc, .int .i64 lo, .int .i64 hi, .slice hA hn hc] 105))
 have HSX := Lib.hid HB1.out.size
 generalize hYe : w1.alloc (.cells #[.pointer (some ⟨P, 0, none⟩), .int .i64 (ta : Int), .slice xA xL.length xc, .int .i64 lo, .int .i64 hi, .slice hA hn hc] 105) = Y at K1 HM2 HBX ⊢
 clear hYe HM1 HB1
 generalize w1.heap.size = S at K1 HSX ⊢
 obtain ⟨k0, k1, k2, k3⟩ := K1.out.c4
 have k4 := K1.out.cell 4
 have k5 := K1.out.cell 5
 have HBW := Lib.hid (And.intro HM2.out.b.2.1 HM2.out.b.2.2.1)
 cases qa
 ·
  go_wp2_with (go_at_call 62; go_must (refine (HAS.out P Y (HM2.out.box.cell 2) (HM2.out.box.cell 3)).mono ?_); rintro e w2 ⟨rfl, hb⟩; have HB3 := Lib.hid hb; clear hb)
  go_ret2
  exact ⟨HBX.out.trans (HB3.out.mono HBX.out.size), rfl⟩
 ·
  go_upto_region 7 with (go_at_call 62; go_must (refine (HAS.out P Y (HM2.out.box.cell 2) (HM2.out.box.cell 3)).mono ?_); rintro e w2 ⟨rfl, hb⟩; have HB3 := Lib.hid hb; clear hb)
  have HMZ := Lib.hid ((HM2.out.below HB3.out).alloc (.cells #[.int .i64 c, .int .i64 t, .int .i64 0] 96)).canon
  have KZ := Lib.hid ((K1.out.below' HB3.out).alloc (.cells #[.int .i64 c, .int .i64 t, .int .i64 0] 96))
  have JZ := Lib.hid (Blk.new w2 96 #[.int .i64 c, .int .i64 t, .int .i64 0])
  have HBZ := Lib.hid ((HBX.out.trans (HB3.out.mono HBX.out.size)).alloc (HBX.out.trans (HB3.out.mono HBX.out.size)).size (.cells #[.int .i64 c, .int .i64 t, .int .i64 0] 96))
  generalize hZe : w2.alloc (.cells #[.int .i64 c, .int .i64 t, .int .i64 0] 96) = Z at HMZ KZ JZ HBZ ⊢
  clear hZe k0 k1 k2 k3 k4 k5 HM2 K1 HBX HAS
  generalize w2.heap.size = S2 at JZ ⊢
  have HPZ := Lib.hid (HPO.out B2 P m1 m2 Z HMZ.out HBZ.out)
  obtain ⟨k0, k1, k2, k3⟩ := KZ.out.c4
  have k4 := KZ.out.cell 4
  have k5 := KZ.out.cell 5
  obtain ⟨j0, j1, j2⟩ := JZ.out.c3
  have HBV := Lib.hid (fun (V : World) (h : Mv m1 m2 Z V) => (show Below w.heap.size w V from HBZ.out.trans (h.below (Nat.le_trans HB2.out HBW.out.1) (Nat.le_trans HB2.out HBW.out.2) HBZ.out.size)))
  cases qp
  ·
   go_upto_region 9 with (go_at_call 56; go_must (refine HPZ.out.mono ?_); rintro e w3 ⟨rfl, hab⟩; have HAB := Lib.hid hab; clear hab)
   have HM3 := Lib.hid (HAB.out.2 HMZ.out).1
   have K3 := Lib.hid (KZ.out.mv HAB.out.1 HMZ.out.map1 HMZ.out.map2)
   have J3 := Lib.hid (JZ.out.mv HAB.out.1 HMZ.out.map1 HMZ.out.map2)
   have HB4 := Lib.hid (HBV.out w3 HAB.out.1)
   have HN3 := Lib.hid (HNE.out B2 P m1 m2 w3 HM3.out HB4.out)
   clear k0 k1 k2 k3 k4 k5 j0 j1 j2
   obtain ⟨k0, k1, k2, k3⟩ := K3.out.c4
   have k4 := K3.out.cell 4
   have k5 := K3.out.cell 5
   obtain ⟨j0, j1, j2⟩ := J3.out.c3
   go_wp2_with (go_at_call 57; go_must (refine HN3.out.mono ?_); rintro e w4 ⟨v, rfl, hl, hab⟩; have HL := Lib.hid hl; have HAB4 := Lib.hid hab; clear hl hab)
   go_ret2
   exact ⟨HBV.out w4 (HAB.out.1.trans HAB4.out.1), v, rfl, HL.out.less HB4.out.size⟩
  ·
   go_wp2_with (go_at_call 56; go_must (refine HPZ.out.mono ?_); rintro e w3 ⟨rfl, hab⟩; have HAB := Lib.hid hab; clear hab)
   go_ret2
   exact ⟨HBV.out w3 HAB.out.1, rfl⟩
end
end Go.Proofs.YtnbeembnnjdmdaaGreatDoor
/- drift: Conflict of a valid drift, drifter and sightings. -/
namespace Go.Proofs.YtnbeembnnjdmdaaGreatDoor
open Go.RowKit Go.Maps
def leeL (d : M.Dr) (at_ lo hi : Int) (xL : List Int) (hn : Nat) (Xs : Nat → SgV) : List Int := M.spanL lo hi (leeP d at_.toNat (d.s.nt - at_.toNat) hn xL Xs (-1) 0)
structure Fre (W : World) : Prop where
 c0 : W.cell? ⟨0, 0, none⟩ = some (.int .i64 0)
 c1 : W.cell? ⟨0, 1, none⟩ = some (.int .i64 (-1))
 c2 : W.cell? ⟨0, 2, none⟩ = some (.int .i64 0)
theorem Fre.below {W W' : World} (h : Fre W) (hb : Below W.heap.size W W') : Fre W' := by
 have hl := World.block_lt_of_cell? W _ h.c0
 exact ⟨(hb.cell (p := ⟨0, 0, none⟩) hl).trans h.c0, (hb.cell (p := ⟨0, 1, none⟩) hl).trans h.c1, (hb.cell (p := ⟨0, 2, none⟩) hl).trans h.c2⟩
section
variable {d : M.Dr} {zA cA wA dA tA sA xA hA : Option Addr} {cl : Nat → Nat} {B dc tc sc zc cc wc xc hn hc : Nat} {at_ lo hi : Int} {xL : List Int} {Xs : Nat → SgV} {w : World}
end
end Go.Proofs.YtnbeembnnjdmdaaGreatDoor
