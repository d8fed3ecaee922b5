/- DriftWithin, walked. -/
import Derived.Test.YtnbeembnnjdmdaaGreatDoorH4
import Derived.Test.YtnbeembnnjdmdaaGreatDoorG12
import Derived.Test.YtnbeembnnjdmdaaGreatDoorG4
import Derived.Test.YtnbeembnnjdmdaaGreatDoorG5
import Derived.Test.YtnbeembnnjdmdaaGreatDoorG1
import Derived.Test.YtnbeembnnjdmdaaGreatDoorE12
namespace Go.Proofs.YtnbeembnnjdmdaaGreatDoor
open Go.RowKit Go.Maps

theorem leeL_nil {d : M.Dr} {at_ lo hi : Int} {xL : List Int} {hn : Nat} {Xs : Nat → SgV} : leeL d at_ lo hi xL hn Xs = [] ↔ strP d at_ lo hi xL hn Xs 0 (-1) = false := by
  unfold leeL strP
  constructor
  · intro h
    cases hs : M.spanTo lo hi (leeP d at_.toNat (d.s.nt - at_.toNat) hn xL Xs (-1) 0)
    · rfl
    · obtain ⟨x, h1, h2, h3⟩ := M.spanTo_iff.1 hs
      have h4 := M.mem_spanL.2 ⟨⟨h1, h2⟩, h3⟩
      rw [h] at h4
      cases h4
  · intro h
    refine List.eq_nil_iff_forall_not_mem.2 fun x hx => ?_
    obtain ⟨⟨h1, h2⟩, h3⟩ := M.mem_spanL.1 hx
    rw [M.spanTo_iff.2 ⟨x, h1, h2, h3⟩] at h
    cases h
/-- rows of ints that can be read -/
structure Rws (W : World) (ow m : Nat) (U : Nat → Value) (pl : Nat → List Int) : Prop where
  lt : ow < W.heap.size
  c : ∀ k, k < m → W.cell? ⟨ow, k, none⟩ = some (U k)
  r : ∀ k, k < m → ∃ A c, U k = .slice A (pl k).length c ∧ Rd1 W W.heap.size A (pl k).length (fun j => (pl k).getD j 0)
theorem Rws.below {W W' : World} {ow m : Nat} {U : Nat → Value} {pl : Nat → List Int} (h : Rws W ow m U pl) (hb : Below W.heap.size W W') : Rws W' ow m U pl :=
  ⟨Nat.lt_of_lt_of_le h.lt hb.size, fun k hk => (hb.cell (p := ⟨ow, k, none⟩) h.lt).trans (h.c k hk), fun k hk => by
    obtain ⟨A, c, e, hr⟩ := h.r k hk
    exact ⟨A, c, e, (hr.below hb).more hb.size⟩⟩
section
variable {d : M.Dr} {zA cA wA dA tA sA xA hA : Option Addr} {cl : Nat → Nat} {B dc tc sc zc cc wc xc hn hc ta : Nat} {lo hi : Int} {xL : List Int} {Xs : Nat → SgV} {w : World}
theorem plcs_rows (hd : d.Ok) (hcl : ∀ i, i < d.nz → cl i + 1 = d.s.nt) (hR : RdD w B dA tA sA zA cA wA d.s.nd d.s.nt d.s.nt d.s.nd d.nz (d.s.nt - 1) d.s.dep d.s.tide d.s.sw d.z cl d.cu d.wd) (hB : B ≤ w.heap.size) (hW : Ways w)
    (hx3 : Rd1 w B xA xL.length (fun k => xL.getD k 0)) (hx4 : xL.length ≤ maxLen) (hRS : RdS w B hA hn Xs) (hhn : hn ≤ maxLen) (hF : Fre w) (hX : chkX d.s.nd d.s.nt (ta : Int) lo hi xL = true) (hS : chkS d.s.nd d.s.nt (ta : Int) hn Xs = true) :
    Calls Tryz.prog 31 #[.agg #[.int .i64 (d.s.W : Int), .int .i64 (d.s.H : Int), .slice dA d.s.nd dc, .slice tA d.s.nt tc, .slice sA d.s.nt sc, .slice zA d.s.nd zc, .slice cA d.nz cc, .slice wA (d.s.nt - 1) wc], .agg #[.int .i64 (ta : Int), .slice xA xL.length xc, .int .i64 lo, .int .i64 hi], .slice hA hn hc] w fun e w' => Below w.heap.size w w' ∧ ((strP d (ta : Int) lo hi xL hn Xs 0 (-1) = false ∧ e = .returned (.tuple #[.slice none 0 0, .int .i64 3])) ∨
      (strP d (ta : Int) lo hi xL hn Xs 0 (-1) = true ∧ ∃ ow U, e = .returned (.tuple #[.slice (some ⟨ow, 0, none⟩) (d.s.nt - ta) (d.s.nt - ta), .int .i64 0]) ∧ Rws w' ow (d.s.nt - ta) U (plcL d ta (d.s.nt - ta) hn xL Xs lo hi))) :=
  (places_ok (dc := dc) (tc := tc) (sc := sc) (zc := zc) (cc := cc) (wc := wc) (xc := xc) (hc := hc) hd hcl hR hB hW hx3 hx4 hRS hhn hF hX hS).mono fun e w' h => ⟨h.1, h.2.imp (fun ⟨h1, h2⟩ => ⟨leeL_nil.1 h1, h2⟩) fun ⟨h1, ow, U, h2, h3, h4⟩ => ⟨by
    cases hq : strP d (ta : Int) lo hi xL hn Xs 0 (-1)
    · exact absurd (leeL_nil.2 hq) h1
    · rfl, ow, U, h2, (Own.block (g := ow) h3 rfl).2, fun k hk => Own.cell1 h3 hk, fun k hk => by
      have h5 := h4 k hk
      obtain ⟨A, c, e⟩ := Own.form h5
      refine ⟨A, c, e, ?_⟩
      rw [e] at h5
      exact IL.rd h5⟩⟩
theorem lees_list (hd : d.Ok) (hcl : ∀ i, i < d.nz → cl i + 1 = d.s.nt) (hR : RdD w B dA tA sA zA cA wA d.s.nd d.s.nt d.s.nt d.s.nd d.nz (d.s.nt - 1) d.s.dep d.s.tide d.s.sw d.z cl d.cu d.wd) (hB : B ≤ w.heap.size) (hW : Ways w)
    (hx3 : Rd1 w B xA xL.length (fun k => xL.getD k 0)) (hx4 : xL.length ≤ maxLen) (hRS : RdS w B hA hn Xs) (hhn : hn ≤ maxLen) (hF : Fre w) (hX : chkX d.s.nd d.s.nt (ta : Int) lo hi xL = true) (hS : chkS d.s.nd d.s.nt (ta : Int) hn Xs = true) :
    Calls Tryz.prog 32 #[.agg #[.int .i64 (d.s.W : Int), .int .i64 (d.s.H : Int), .slice dA d.s.nd dc, .slice tA d.s.nt tc, .slice sA d.s.nt sc, .slice zA d.s.nd zc, .slice cA d.nz cc, .slice wA (d.s.nt - 1) wc], .agg #[.int .i64 (ta : Int), .slice xA xL.length xc, .int .i64 lo, .int .i64 hi], .slice hA hn hc] w fun e w' => Below w.heap.size w w' ∧ ((strP d (ta : Int) lo hi xL hn Xs 0 (-1) = false ∧ e = .returned (.tuple #[.slice none 0 0, .int .i64 3])) ∨
      (strP d (ta : Int) lo hi xL hn Xs 0 (-1) = true ∧ ∃ A c, e = .returned (.tuple #[.slice A (leeL d (ta : Int) lo hi xL hn Xs).length c, .int .i64 0]) ∧ Rd1 w' w'.heap.size A (leeL d (ta : Int) lo hi xL hn Xs).length (fun j => (leeL d (ta : Int) lo hi xL hn Xs).getD j 0))) :=
  (leeways_ok (dc := dc) (tc := tc) (sc := sc) (zc := zc) (cc := cc) (wc := wc) (xc := xc) (hc := hc) hd hcl hR hB hW hx3 hx4 hRS hhn hF hX hS).mono fun e w' h => ⟨h.1, h.2.imp (fun ⟨h1, h2⟩ => ⟨leeL_nil.1 h1, h2⟩) fun ⟨h1, v, h2, h3⟩ => ⟨by
    cases hq : strP d (ta : Int) lo hi xL hn Xs 0 (-1)
    · exact absurd (leeL_nil.2 hq) h1
    · rfl, by
      obtain ⟨A, c, e⟩ := Own.form h3
      subst e
      exact ⟨A, c, h2, IL.rd h3⟩⟩⟩
end
section
variable {W H : Int} {dA tA sA zA cA wA xA hA pA : Option Addr} {nd dc nt tc ns sc zn zc cn cc wn wc xc hn hc pn pc B : Nat} {at_ lo hi lw : Int} {pf : Nat → Int} {dep : Nat → Int} {tide : Nat → Nat → Int} {sw z : Nat → Int} {cl : Nat → Nat} {cu : Nat → Nat → Nat → Int} {wd : Nat → Nat → Int} {xL : List Int} {Xs : Nat → SgV} {w : World}
set_option maxRecDepth 100000 in
set_option maxHeartbeats 12800000 in
theorem driftWithin_any (hnd : nd ≤ maxLen) (hnt : nt ≤ maxLen) (hns : ns ≤ maxLen) (hzn : zn ≤ maxLen) (hcn : cn ≤ maxLen) (hwn : wn ≤ maxLen) (hR : RdD w B dA tA sA zA cA wA nd nt ns zn cn wn dep tide sw z cl cu wd) (hB : B ≤ w.heap.size) (hW : Ways w)
    (hx3 : Rd1 w B xA xL.length (fun k => xL.getD k 0)) (hx4 : xL.length ≤ maxLen) (hRS : RdS w B hA hn Xs) (hhn : hn ≤ maxLen) (hP : Rd1 w B pA pn pf) (hpn : pn ≤ maxLen) (hF : Fre w) :
    Calls Tryz.prog 6 #[.agg #[.int .i64 W, .int .i64 H, .slice dA nd dc, .slice tA nt tc, .slice sA ns sc, .slice zA zn zc, .slice cA cn cc, .slice wA wn wc], .agg #[.int .i64 at_, .slice xA xL.length xc, .int .i64 lo, .int .i64 hi], .agg #[.slice hA hn hc, .int .i64 lw, .slice pA pn pc]] w fun e w' => e = .returned (.bool true) ∧ Below w.heap.size w w' := by
  have HB0 := Lib.hid (belowAlloc3 w (.cells #[.int .i64 W, .int .i64 H, .slice dA nd dc, .slice tA nt tc, .slice sA ns sc, .slice zA zn zc, .slice cA cn cc, .slice wA wn wc] 29) (.cells #[.int .i64 at_, .slice xA xL.length xc, .int .i64 lo, .int .i64 hi] 44) (.cells #[.slice hA hn hc, .int .i64 lw, .slice pA pn pc] 61))
  have K0 := Lib.hid (((Blk.new w 29 #[.int .i64 W, .int .i64 H, .slice dA nd dc, .slice tA nt tc, .slice sA ns sc, .slice zA zn zc, .slice cA cn cc, .slice wA wn wc]).alloc (.cells #[.int .i64 at_, .slice xA xL.length xc, .int .i64 lo, .int .i64 hi] 44)).alloc (.cells #[.slice hA hn hc, .int .i64 lw, .slice pA pn pc] 61))
  have X0 := Lib.hid ((Blk.new1 w (.cells #[.int .i64 W, .int .i64 H, .slice dA nd dc, .slice tA nt tc, .slice sA ns sc, .slice zA zn zc, .slice cA cn cc, .slice wA wn wc] 29) 44 #[.int .i64 at_, .slice xA xL.length xc, .int .i64 lo, .int .i64 hi]).alloc (.cells #[.slice hA hn hc, .int .i64 lw, .slice pA pn pc] 61))
  have Y0 := Lib.hid (Blk.new2 w (.cells #[.int .i64 W, .int .i64 H, .slice dA nd dc, .slice tA nt tc, .slice sA ns sc, .slice zA zn zc, .slice cA cn cc, .slice wA wn wc] 29) (.cells #[.int .i64 at_, .slice xA xL.length xc, .int .i64 lo, .int .i64 hi] 44) 61 #[.slice hA hn hc, .int .i64 lw, .slice pA pn pc])
  have HVA := Lib.hid (fun (V : World) (hb : Below w.heap.size w V) => valid_any (dc := dc) (tc := tc) (sc := sc) (zc := zc) (cc := cc) (wc := wc) (xc := xc) (hc := hc) (W := W) (H := H) (at_ := at_) (lo := lo) (hi := hi) hnd hnt hns hzn hcn hwn (hR.below (hb.mono hB)) (Nat.le_trans hB hb.size) (hx3.below (hb.mono hB)) hx4 (hRS.below (hb.mono hB)) hhn)
  have HWK := Lib.hid (fun (V : World) (hb : Below w.heap.size w V) => works_any V (hW.below hb))
  have HWY := Lib.hid (fun (V : World) (hb : Below w.heap.size w V) => hW.below hb)
  have HRR := Lib.hid (fun (V : World) (hb : Below w.heap.size w V) => hR.below (hb.mono hB))
  have HRX := Lib.hid (fun (V : World) (hb : Below w.heap.size w V) => hx3.below (hb.mono hB))
  have HRH := Lib.hid (fun (V : World) (hb : Below w.heap.size w V) => hRS.below (hb.mono hB))
  have HFR := Lib.hid (fun (V : World) (hb : Below w.heap.size w V) => hF.below hb)
  have HRP := Lib.hid (fun (V : World) (hb : Below w.heap.size w V) => hP.below (hb.mono hB))
  clear hR hW hx3 hRS hF hP
  go_enter Tryz.func6, Tryz.ntmps6
  go_upto_region 1 with fail
  generalize ((w.alloc (.cells #[.int .i64 W, .int .i64 H, .slice dA nd dc, .slice tA nt tc, .slice sA ns sc, .slice zA zn zc, .slice cA cn cc, .slice wA wn wc] 29)).alloc (.cells #[.int .i64 at_, .slice xA xL.length xc, .int .i64 lo, .int .i64 hi] 44)).alloc (.cells #[.slice hA hn hc, .int .i64 lw, .slice pA pn pc] 61) = X at HB0 K0 X0 Y0 ⊢
  simp only [Nat.add_assoc, Nat.reduceAdd] at Y0 ⊢
  have HFX := Lib.hid (HVA.out X HB0.out)
  have k0 := K0.out.cell 0
  have k1 := K0.out.cell 1
  have k2 := K0.out.cell 2
  have k3 := K0.out.cell 3
  have k4 := K0.out.cell 4
  have k5 := K0.out.cell 5
  have k6 := K0.out.cell 6
  have k7 := K0.out.cell 7
  have x0 := X0.out.cell 0
  have x1 := X0.out.cell 1
  have x2 := X0.out.cell 2
  have x3 := X0.out.cell 3
  have y0 := Y0.out.cell 0
  have y1 := Y0.out.cell 1
  have y2 := Y0.out.cell 2
  go_wp2_with fail
  refine HFX.out.mono ?_
  rintro e w1 ⟨⟨q, rfl, hq⟩, hb⟩
  have HB1 := Lib.hid (HB0.out.trans (hb.mono HB0.out.size))
  have K1 := Lib.hid (K0.out.below' hb)
  have X1 := Lib.hid (X0.out.below' hb)
  have Y1 := Lib.hid (Y0.out.below' hb)
  have HQ := Lib.hid hq
  clear hq HFX HVA
  clear k0 k1 k2 k3 k4 k5 k6 k7 x0 x1 x2 x3 y0 y1 y2
  clear hb
  cases q
  · clear K1 X1 Y1
    have HWX := Lib.hid (HWK.out w1 HB1.out)
    go_wp2_with fail
    refine HWX.out.mono ?_
    rintro e wz ⟨rfl, hb⟩
    have HBZ := Lib.hid (HB1.out.trans (hb.mono HB1.out.size))
    clear hb
    go_wp2_with fail
    go_ret
    exact ⟨rfl, HBZ.out⟩
  obtain ⟨hok, hxo, hso, hfar, hfars, h6⟩ := HQ.out rfl
  obtain ⟨d, hd, rfl, rfl, rfl, rfl, rfl, rfl, rfl, rfl, rfl, rfl, rfl, rfl, rfl, rfl, hcl⟩ := M.chkD_form hok
  have h60 := hd.s.t2
  have h1n := hd.s.t1
  have hnd2 := hd.s.nd1
  obtain ⟨⟨ha1, ha2⟩, hxl, ⟨hx1, hx2⟩, hl1, hl2, hl3⟩ := chkX_bd hxo
  obtain ⟨ta, rfl⟩ : ∃ n : Nat, at_ = (n : Int) := ⟨at_.toNat, by omega⟩
  have HVL := Lib.hid (And.intro hd (And.intro hcl (And.intro hxo hso)))
  clear hok hxo hso hfar hfars HQ hxl hx1 hx2
  have HPC := Lib.hid (fun (V : World) (hb : Below w.heap.size w V) => plcs_rows (dc := dc) (tc := tc) (sc := sc) (zc := zc) (cc := cc) (wc := wc) (xc := xc) (hc := hc) (HVL.out.1) (HVL.out.2.1) (HRR.out _ hb) (Nat.le_trans hB hb.size) (HWY.out _ hb) (HRX.out _ hb) hx4 (HRH.out _ hb) hhn (HFR.out _ hb) HVL.out.2.2.1 HVL.out.2.2.2)
  have HLC := Lib.hid (fun (V : World) (hb : Below w.heap.size w V) => lees_list (dc := dc) (tc := tc) (sc := sc) (zc := zc) (cc := cc) (wc := wc) (xc := xc) (hc := hc) (HVL.out.1) (HVL.out.2.1) (HRR.out _ hb) (Nat.le_trans hB hb.size) (HWY.out _ hb) (HRX.out _ hb) hx4 (HRH.out _ hb) hhn (HFR.out _ hb) HVL.out.2.2.1 HVL.out.2.2.2)
  have HPP := Lib.hid (fun (V : World) (hb : Below w.heap.size w V) => possible_past (dc := dc) (tc := tc) (sc := sc) (zc := zc) (cc := cc) (wc := wc) (xc := xc) (hc := hc) (pc := pc) (lw := lw) (lo := lo) (hi := hi) HVL.out.1 HVL.out.2.1 (HRR.out _ hb) (Nat.le_trans hB hb.size) (HRX.out _ hb) hx4 (HRH.out _ hb) hhn ta (by omega) hl1 hl3 (HRP.out _ hb) hpn)
  have HIS := Lib.hid (his_in (d := d) (at_ := (ta : Int)) (lo := lo) (hi := hi) (lw := lw) (xL := xL) (hn := hn) (n := pn) (Xs := Xs) (f := pf) (show 1 ≤ d.s.nt - ta by omega))
  obtain ⟨m, hm⟩ : ∃ m, m = d.s.nt - ta := ⟨_, rfl⟩
  have HM1 := Lib.hid (show ta + m = d.s.nt by omega)
  rw [Int.toNat_natCast, ← hm] at HIS
  obtain ⟨pl, hpl⟩ : ∃ f, f = plcL d ta m hn xL Xs lo hi := ⟨_, rfl⟩
  obtain ⟨LL, hLL⟩ : ∃ f, f = leeL d (ta : Int) lo hi xL hn Xs := ⟨_, rfl⟩
  have HPN := Lib.hid (show ∀ k, (pl k).length ≤ maxLen from fun k => by rw [hpl]; have := M.listB_len d.s.nd (plcB d ta m hn xL Xs lo hi k); show (M.listB _ _).length ≤ _; unfold maxLen; omega)
  have HLN := Lib.hid (show LL.length ≤ maxLen from by rw [hLL]; unfold leeL; have := M.spanL_len (lo := lo) (hi := hi) (p := leeP d (ta : Int).toNat (d.s.nt - (ta : Int).toNat) hn xL Xs (-1) 0); unfold maxLen; omega)
  have HLE := Lib.hid (show strP d (ta : Int) lo hi xL hn Xs 0 (-1) = false → LL = [] from fun h => by rw [hLL]; exact leeL_nil.2 h)
  rw [← hm, ← hpl] at HPC
  rw [← hLL] at HLC
  rw [← hpl, ← hLL] at HIS
  rw [← hm] at HPP
  obtain ⟨hb9, hhb⟩ : ∃ q, q = M.hisB d ta m lo hi xL (fun i => (Xs i).sg) hn lw pn pf := ⟨_, rfl⟩
  rw [← hhb] at HIS HPP
  clear hm hpl hLL hhb hd hcl
  have k0 := K1.out.cell 0
  have k1 := K1.out.cell 1
  have k2 := K1.out.cell 2
  have k3 := K1.out.cell 3
  have k4 := K1.out.cell 4
  have k5 := K1.out.cell 5
  have k6 := K1.out.cell 6
  have k7 := K1.out.cell 7
  have x0 := X1.out.cell 0
  have x1 := X1.out.cell 1
  have x2 := X1.out.cell 2
  have x3 := X1.out.cell 3
  have y0 := Y1.out.cell 0
  have y1 := Y1.out.cell 1
  have y2 := Y1.out.cell 2
  cases hqp : strP d (ta : Int) lo hi xL hn Xs 0 (-1)
  · have HSX := Lib.hid (show Calls Tryz.prog 31 #[.agg #[.int .i64 (d.s.W : Int), .int .i64 (d.s.H : Int), .slice dA d.s.nd dc, .slice tA d.s.nt tc, .slice sA d.s.nt sc, .slice zA d.s.nd zc, .slice cA d.nz cc, .slice wA (d.s.nt - 1) wc], .agg #[.int .i64 (ta : Int), .slice xA xL.length xc, .int .i64 lo, .int .i64 hi], .slice hA hn hc] w1 fun e w' => e = .returned (.tuple #[.slice none 0 0, .int .i64 3]) ∧ Below w1.heap.size w1 w' from (HPC.out w1 HB1.out).mono fun e w' h => by
      obtain ⟨hb, h⟩ := h
      rcases h with ⟨_, h1⟩ | ⟨h1, _⟩
      · exact ⟨h1, hb⟩
      · rw [hqp] at h1; cases h1)
    have HHX := Lib.hid (fun (V : World) (hb0 : Below w.heap.size w V) => (show Calls Tryz.prog 32 #[.agg #[.int .i64 (d.s.W : Int), .int .i64 (d.s.H : Int), .slice dA d.s.nd dc, .slice tA d.s.nt tc, .slice sA d.s.nt sc, .slice zA d.s.nd zc, .slice cA d.nz cc, .slice wA (d.s.nt - 1) wc], .agg #[.int .i64 (ta : Int), .slice xA xL.length xc, .int .i64 lo, .int .i64 hi], .slice hA hn hc] V fun e w' => e = .returned (.tuple #[.slice none 0 0, .int .i64 3]) ∧ Below V.heap.size V w' from (HLC.out V hb0).mono fun e w' h => by
      obtain ⟨hb, h⟩ := h
      rcases h with ⟨_, h1⟩ | ⟨h1, _⟩
      · exact ⟨h1, hb⟩
      · rw [hqp] at h1; cases h1))
    have h9f : hb9 = false := by
      cases hb9
      · rfl
      · have h1 := (HIS.out rfl).2.1
        rw [HLE.out hqp] at h1; cases h1
    subst h9f
    clear hqp HPC HLC
    go_wp2_with fail
    refine HSX.out.mono ?_
    rintro e w3 ⟨rfl, hb⟩
    have HB3 := Lib.hid (HB1.out.trans (hb.mono HB1.out.size))
    have K3 := Lib.hid (K1.out.below' hb)
    have X3 := Lib.hid (X1.out.below' hb)
    have Y3 := Lib.hid (Y1.out.below' hb)
    clear HSX
    clear k0 k1 k2 k3 k4 k5 k6 k7 x0 x1 x2 x3 y0 y1 y2
    clear hb
    have k0 := K3.out.cell 0
    have k1 := K3.out.cell 1
    have k2 := K3.out.cell 2
    have k3 := K3.out.cell 3
    have k4 := K3.out.cell 4
    have k5 := K3.out.cell 5
    have k6 := K3.out.cell 6
    have k7 := K3.out.cell 7
    have x0 := X3.out.cell 0
    have x1 := X3.out.cell 1
    have x2 := X3.out.cell 2
    have x3 := X3.out.cell 3
    have y0 := Y3.out.cell 0
    have y1 := Y3.out.cell 1
    have y2 := Y3.out.cell 2
    have HHY := Lib.hid (HHX.out w3 HB3.out)
    go_wp2_with fail
    refine HHY.out.mono ?_
    rintro e w4 ⟨rfl, hb⟩
    have HB4 := Lib.hid (HB3.out.trans (hb.mono HB3.out.size))
    have K4 := Lib.hid (K3.out.below' hb)
    have X4 := Lib.hid (X3.out.below' hb)
    have Y4 := Lib.hid (Y3.out.below' hb)
    clear HHY HHX
    clear k0 k1 k2 k3 k4 k5 k6 k7 x0 x1 x2 x3 y0 y1 y2
    clear hb
    have k0 := K4.out.cell 0
    have k1 := K4.out.cell 1
    have k2 := K4.out.cell 2
    have k3 := K4.out.cell 3
    have k4 := K4.out.cell 4
    have k5 := K4.out.cell 5
    have k6 := K4.out.cell 6
    have k7 := K4.out.cell 7
    have x0 := X4.out.cell 0
    have x1 := X4.out.cell 1
    have x2 := X4.out.cell 2
    have x3 := X4.out.cell 3
    have y0 := Y4.out.cell 0
    have y1 := Y4.out.cell 1
    have y2 := Y4.out.cell 2
    have HPQ := Lib.hid (HPP.out w4 HB4.out)
    go_wp2_with fail
    refine HPQ.out.mono ?_
    rintro e w5 ⟨rfl, hb⟩
    have HB5 := Lib.hid (HB4.out.trans (hb.mono HB4.out.size))
    have K5 := Lib.hid (K4.out.below' hb)
    have X5 := Lib.hid (X4.out.below' hb)
    have Y5 := Lib.hid (Y4.out.below' hb)
    clear HPQ HPP
    clear k0 k1 k2 k3 k4 k5 k6 k7 x0 x1 x2 x3 y0 y1 y2
    clear hb
    have HWX := Lib.hid (HWK.out w5 HB5.out)
    go_wp2_with fail
    refine HWX.out.mono ?_
    rintro e wz ⟨rfl, hb⟩
    have HBZ := Lib.hid (HB5.out.trans (hb.mono HB5.out.size))
    clear hb
    go_wp2_with fail
    go_ret
    exact ⟨rfl, HBZ.out⟩
  · have HSX := Lib.hid (show Calls Tryz.prog 31 #[.agg #[.int .i64 (d.s.W : Int), .int .i64 (d.s.H : Int), .slice dA d.s.nd dc, .slice tA d.s.nt tc, .slice sA d.s.nt sc, .slice zA d.s.nd zc, .slice cA d.nz cc, .slice wA (d.s.nt - 1) wc], .agg #[.int .i64 (ta : Int), .slice xA xL.length xc, .int .i64 lo, .int .i64 hi], .slice hA hn hc] w1 fun e w' => (∃ ow U, e = .returned (.tuple #[.slice (some ⟨ow, 0, none⟩) m m, .int .i64 0]) ∧ Rws w' ow m U pl) ∧ Below w1.heap.size w1 w' from (HPC.out w1 HB1.out).mono fun e w' h => by
      obtain ⟨hb, h⟩ := h
      rcases h with ⟨h1, _⟩ | ⟨_, h1⟩
      · rw [hqp] at h1; cases h1
      · exact ⟨h1, hb⟩)
    have HHX := Lib.hid (fun (V : World) (hb0 : Below w.heap.size w V) => (show Calls Tryz.prog 32 #[.agg #[.int .i64 (d.s.W : Int), .int .i64 (d.s.H : Int), .slice dA d.s.nd dc, .slice tA d.s.nt tc, .slice sA d.s.nt sc, .slice zA d.s.nd zc, .slice cA d.nz cc, .slice wA (d.s.nt - 1) wc], .agg #[.int .i64 (ta : Int), .slice xA xL.length xc, .int .i64 lo, .int .i64 hi], .slice hA hn hc] V fun e w' => (∃ A c, e = .returned (.tuple #[.slice A LL.length c, .int .i64 0]) ∧ Rd1 w' w'.heap.size A LL.length (fun j => LL.getD j 0)) ∧ Below V.heap.size V w' from (HLC.out V hb0).mono fun e w' h => by
      obtain ⟨hb, h⟩ := h
      rcases h with ⟨h1, _⟩ | ⟨_, h1⟩
      · rw [hqp] at h1; cases h1
      · exact ⟨h1, hb⟩))
    clear hqp HPC HLC HLE
    go_wp2_with fail
    refine HSX.out.mono ?_
    rintro e w3 ⟨⟨ow, U, rfl, hrw⟩, hb⟩
    have HB3 := Lib.hid (HB1.out.trans (hb.mono HB1.out.size))
    have K3 := Lib.hid (K1.out.below' hb)
    have X3 := Lib.hid (X1.out.below' hb)
    have Y3 := Lib.hid (Y1.out.below' hb)
    have HRW3 := Lib.hid hrw
    clear HSX hrw
    clear k0 k1 k2 k3 k4 k5 k6 k7 x0 x1 x2 x3 y0 y1 y2
    clear hb
    have k0 := K3.out.cell 0
    have k1 := K3.out.cell 1
    have k2 := K3.out.cell 2
    have k3 := K3.out.cell 3
    have k4 := K3.out.cell 4
    have k5 := K3.out.cell 5
    have k6 := K3.out.cell 6
    have k7 := K3.out.cell 7
    have x0 := X3.out.cell 0
    have x1 := X3.out.cell 1
    have x2 := X3.out.cell 2
    have x3 := X3.out.cell 3
    have y0 := Y3.out.cell 0
    have y1 := Y3.out.cell 1
    have y2 := Y3.out.cell 2
    have HHY := Lib.hid (HHX.out w3 HB3.out)
    go_wp2_with fail
    refine HHY.out.mono ?_
    rintro e w4 ⟨⟨lA, lc, rfl, hr⟩, hb⟩
    have HB4 := Lib.hid (HB3.out.trans (hb.mono HB3.out.size))
    have K4 := Lib.hid (K3.out.below' hb)
    have X4 := Lib.hid (X3.out.below' hb)
    have Y4 := Lib.hid (Y3.out.below' hb)
    have HL4 := Lib.hid hr
    have HRW4 := Lib.hid (HRW3.out.below hb)
    clear HHY HHX hr HRW3
    clear k0 k1 k2 k3 k4 k5 k6 k7 x0 x1 x2 x3 y0 y1 y2
    clear hb
    have k0 := K4.out.cell 0
    have k1 := K4.out.cell 1
    have k2 := K4.out.cell 2
    have k3 := K4.out.cell 3
    have k4 := K4.out.cell 4
    have k5 := K4.out.cell 5
    have k6 := K4.out.cell 6
    have k7 := K4.out.cell 7
    have x0 := X4.out.cell 0
    have x1 := X4.out.cell 1
    have x2 := X4.out.cell 2
    have x3 := X4.out.cell 3
    have y0 := Y4.out.cell 0
    have y1 := Y4.out.cell 1
    have y2 := Y4.out.cell 2
    have HPQ := Lib.hid (HPP.out w4 HB4.out)
    have hnm : (d.s.nt : Int) - (ta : Int) = (m : Int) := by have := HM1.out; omega
    go_wp2_with fail
    refine HPQ.out.mono ?_
    rintro e w5 ⟨rfl, hb⟩
    have HB5 := Lib.hid (HB4.out.trans (hb.mono HB4.out.size))
    have K5 := Lib.hid (K4.out.below' hb)
    have X5 := Lib.hid (X4.out.below' hb)
    have Y5 := Lib.hid (Y4.out.below' hb)
    have HL5 := Lib.hid ((HL4.out.below hb).more hb.size)
    have HRW5 := Lib.hid (HRW4.out.below hb)
    clear HPQ HPP HL4 HRW4
    clear k0 k1 k2 k3 k4 k5 k6 k7 x0 x1 x2 x3 y0 y1 y2
    clear hb
    cases hb9
    · clear K5 X5 Y5
      have HWX := Lib.hid (HWK.out w5 HB5.out)
      go_wp2_with fail
      refine HWX.out.mono ?_
      rintro e wz ⟨rfl, hb⟩
      have HBZ := Lib.hid (HB5.out.trans (hb.mono HB5.out.size))
      clear hb
      go_wp2_with fail
      go_ret
      exact ⟨rfl, HBZ.out⟩
    obtain ⟨hpm, hlw, hin⟩ := HIS.out rfl
    have hpm := hpm.symm
    subst hpm
    have HIN := Lib.hid hin
    have HIX := Lib.hid (show Calls Tryz.prog 34 #[.slice lA LL.length lc, .int .i64 lw] w5 fun e w' => e = .returned (.bool true) ∧ Below w5.heap.size w5 w' from (rin_list lA LL.length lc w5.heap.size (fun j => LL.getD j 0) lw w5 HLN.out HL5.out).mono fun e w' h => by
      rw [anyTo_mem, decide_eq_true hlw] at h
      exact h)
    have HPV := Lib.hid (HRP.out w5 HB5.out)
    clear hin hlw HIS HL5 HLN
    have k0 := K5.out.cell 0
    have k1 := K5.out.cell 1
    have k2 := K5.out.cell 2
    have k3 := K5.out.cell 3
    have k4 := K5.out.cell 4
    have k5 := K5.out.cell 5
    have k6 := K5.out.cell 6
    have k7 := K5.out.cell 7
    have x0 := X5.out.cell 0
    have x1 := X5.out.cell 1
    have x2 := X5.out.cell 2
    have x3 := X5.out.cell 3
    have y0 := Y5.out.cell 0
    have y1 := Y5.out.cell 1
    have y2 := Y5.out.cell 2
    go_wp2_with fail
    refine HIX.out.mono ?_
    rintro e w6 ⟨rfl, hb⟩
    have HB6 := Lib.hid (HB5.out.trans (hb.mono HB5.out.size))
    have K6 := Lib.hid (K5.out.below' hb)
    have X6 := Lib.hid (X5.out.below' hb)
    have Y6 := Lib.hid (Y5.out.below' hb)
    have HRW6 := Lib.hid (HRW5.out.below hb)
    clear k0 k1 k2 k3 k4 k5 k6 k7 x0 x1 x2 x3 y0 y1 y2 hb HIX HRW5 K5 X5 Y5 HB5
    go_wp2_with fail
    go_loopw [11] (fun i wr => ∃ k : Nat, k ≤ m ∧ i = .int .i64 (k : Int) ∧ Hid (Below w.heap.size w wr ∧ Blk wr w.heap.size 29 #[.int .i64 (d.s.W : Int), .int .i64 (d.s.H : Int), .slice dA d.s.nd dc, .slice tA d.s.nt tc, .slice sA d.s.nt sc, .slice zA d.s.nd zc, .slice cA d.nz cc, .slice wA (d.s.nt - 1) wc] ∧ Blk wr (w.heap.size + 1) 44 #[.int .i64 (ta : Int), .slice xA xL.length xc, .int .i64 lo, .int .i64 hi] ∧ Blk wr (w.heap.size + 2) 61 #[.slice hA hn hc, .int .i64 lw, .slice pA m pc] ∧ Rws wr ow m U pl)) (fun i _ => m - (intOf i).toNat)
    case atStart => exact ⟨0, Nat.zero_le _, rfl, Lib.hid ⟨HB6.out, K6.out, X6.out, Y6.out, HRW6.out⟩⟩
    case round =>
      obtain ⟨k, hk, rfl, HS⟩ := hrel
      have HBr := Lib.hid HS.out.1
      clear HB6 K6 X6 Y6 HRW6
      by_cases hlt : k < m
      · have g1 : decide (k < m) = true := decide_eq_true hlt
        have hrk := HS.out.2.2.2.2.r k hlt
        obtain ⟨yA, yc, hy, hyr⟩ := hrk
        have c0 : wr.cell? ⟨ow, k, none⟩ = some (.slice yA (pl k).length yc) := by rw [← hy]; exact HS.out.2.2.2.2.c k hlt
        have hPV := HRP.out wr HBr.out
        rcases hPV with h0 | ⟨pb, po, rfl, hpb, hpc⟩
        · omega
        have c2 := hpc k hlt
        have c1 := HS.out.2.2.2.1.cell 2
        have HYD := Lib.hid (show Rd1 wr.drew wr.drew.heap.size yA (pl k).length (fun j => (pl k).getD j 0) from hyr)
        have HLT := Lib.hid (show ow < wr.drew.heap.size ∧ w.heap.size + 2 < wr.drew.heap.size ∧ pb < wr.drew.heap.size from ⟨HS.out.2.2.2.2.lt, HS.out.2.2.2.1.lt, by have := HBr.out.size; show pb < wr.heap.size; omega⟩)
        have HC := Lib.hid (And.intro c0 (And.intro c1 c2))
        clear hy hyr hpc
        go_wp2_with fail
        refine wp_nopanic ?_
        refine wp_region_T 10 (fun Z2 => Z2.cell? ⟨ow, k, none⟩ = some (.slice yA (pl k).length yc) ∧ Z2.cell? ⟨w.heap.size + 2, 2, none⟩ = some (.slice (some ⟨pb, po, none⟩) m pc) ∧ Z2.cell? ⟨pb, po + k, none⟩ = some (.int .i64 (pf k))) (by kernel_rfl) HC.out ?_
        clear c0 c1 c2
        intro hS
        refine wpAnyT_take (i := 0) (v := ?_) rfl (by kernel_rfl) (by kernel_rfl) (by kernel_rfl) (by kernel_rfl) (by kernel_rfl) (fun _ _ _ h => absurd rfl (h.1 _)) (.inl ⟨by kernel_rfl, ?_⟩) hS ?_
        rotate_left
        · (intro w' hw; obtain ⟨h1, h2, h3⟩ := hw; go_simp; try with_reducible rfl)
        try simp only [put_laws]
        refine wpAnyT_take (i := 1) (v := ?_) rfl (by kernel_rfl) (by kernel_rfl) (by kernel_rfl) (by kernel_rfl) (by kernel_rfl) (fun _ _ _ h => absurd rfl (h.1 _)) (.inl ⟨by kernel_rfl, ?_⟩) hS ?_
        rotate_left
        · (intro w' hw; obtain ⟨h1, h2, h3⟩ := hw; go_simp; try with_reducible rfl)
        try simp only [put_laws]
        refine wpAnyT_take (i := 2) (v := ?_) rfl (by kernel_rfl) (by kernel_rfl) (by kernel_rfl) (by kernel_rfl) (by kernel_rfl) (fun _ _ _ h => absurd rfl (h.1 _)) (.inl ⟨by kernel_rfl, ?_⟩) hS ?_
        rotate_left
        · (intro w' hw; obtain ⟨h1, h2, h3⟩ := hw; go_simp; try with_reducible rfl)
        try simp only [put_laws]
        refine wpAnyT_take (i := 3) (v := ?_) rfl (by kernel_rfl) (by kernel_rfl) (by kernel_rfl) (by kernel_rfl) (by kernel_rfl) (fun _ _ _ h => absurd rfl (h.1 _)) (.inl ⟨by kernel_rfl, ?_⟩) hS ?_
        rotate_left
        · (intro w' hw; obtain ⟨h1, h2, h3⟩ := hw; go_simp; try with_reducible rfl)
        try simp only [put_laws]
        refine wpAnyT_take (i := 4) (v := ?_) rfl (by kernel_rfl) (by kernel_rfl) (by kernel_rfl) (by kernel_rfl) (by kernel_rfl) (fun _ _ _ h => absurd rfl (h.1 _)) (.inl ⟨by kernel_rfl, ?_⟩) hS ?_
        rotate_left
        · (intro w' hw; obtain ⟨h1, h2, h3⟩ := hw; go_simp; try with_reducible rfl)
        try simp only [put_laws]
        refine wpAnyT_take (i := 5) (v := ?_) rfl (by kernel_rfl) (by kernel_rfl) (by kernel_rfl) (by kernel_rfl) (by kernel_rfl) (fun _ _ _ h => absurd rfl (h.1 _)) (.inl ⟨by kernel_rfl, ?_⟩) hS ?_
        rotate_left
        · (intro w' hw; obtain ⟨h1, h2, h3⟩ := hw; go_simp; try with_reducible rfl)
        try simp only [put_laws]
        refine wpAnyT_take (i := 6) (v := ?_) rfl (by kernel_rfl) (by kernel_rfl) (by kernel_rfl) (by kernel_rfl) (by kernel_rfl) (fun _ _ _ h => absurd rfl (h.1 _)) (.inl ⟨by kernel_rfl, ?_⟩) hS ?_
        rotate_left
        · (intro w' hw; obtain ⟨h1, h2, h3⟩ := hw; go_simp; try with_reducible rfl)
        try simp only [put_laws]
        refine wpAnyT_take (i := 7) (v := ?_) rfl (by kernel_rfl) (by kernel_rfl) (by kernel_rfl) (by kernel_rfl) (by kernel_rfl) (fun _ _ _ h => absurd rfl (h.1 _)) (.inl ⟨by kernel_rfl, ?_⟩) hS ?_
        rotate_left
        · (intro w' hw; obtain ⟨h1, h2, h3⟩ := hw; go_simp; try with_reducible rfl)
        try simp only [put_laws]
        refine wpAnyT_take (i := 8) (v := ?_) rfl (by kernel_rfl) (by kernel_rfl) (by kernel_rfl) (by kernel_rfl) (by kernel_rfl) (fun _ _ _ h => absurd rfl (h.1 _)) (.inl ⟨by kernel_rfl, ?_⟩) hS ?_
        rotate_left
        · (intro w' hw; obtain ⟨h1, h2, h3⟩ := hw; go_simp; try with_reducible rfl)
        try simp only [put_laws]
        refine wpAnyT_one (i := 9) (by kernel_rfl) rfl ?_
        intro K' hK'
        go_simp
        refine (rin_list yA (pl k).length yc wr.drew.heap.size (fun j => (pl k).getD j 0) (pf k) wr.drew (HPN.out k) HYD.out).mono ?_
        rintro e w6 ⟨rfl, hb⟩
        rw [anyTo_mem, decide_eq_true (HIN.out k hlt)]
        have HB6 := Lib.hid hb
        clear hb
        refine hK'.out _ _ (.inr ⟨(HB6.out.cell HLT.out.1).trans hS.1, (HB6.out.cell HLT.out.2.1).trans hS.2.1, (HB6.out.cell HLT.out.2.2).trans hS.2.2⟩) ?_
        clear hK' K'
        try simp only [put_laws]
        refine wpAnyT_one (i := 10) (by kernel_rfl) rfl ?_
        intro K' hK'
        go_simp
        refine hK'.out _ _ (.inl rfl) ?_
        clear hK' K'
        try simp only [put_laws]
        refine wpAnyT_done (by kernel_rfl) ?_ _
        refine ⟨fun x e => (by cases e), ?_⟩
        have HD6 := Lib.hid (show Below wr.heap.size wr w6 from (Below.refl _ wr).drew.trans (HB6.out.mono (Nat.le_refl _)))
        have hIV := (show Hid (Below w.heap.size w w6 ∧ Blk w6 w.heap.size 29 #[.int .i64 (d.s.W : Int), .int .i64 (d.s.H : Int), .slice dA d.s.nd dc, .slice tA d.s.nt tc, .slice sA d.s.nt sc, .slice zA d.s.nd zc, .slice cA d.nz cc, .slice wA (d.s.nt - 1) wc] ∧ Blk w6 (w.heap.size + 1) 44 #[.int .i64 (ta : Int), .slice xA xL.length xc, .int .i64 lo, .int .i64 hi] ∧ Blk w6 (w.heap.size + 2) 61 #[.slice hA hn hc, .int .i64 lw, .slice (some ⟨pb, po, none⟩) m pc] ∧ Rws w6 ow m U pl) from Lib.hid ⟨HBr.out.trans (HD6.out.mono HBr.out.size), HS.out.2.1.below' HD6.out, HS.out.2.2.1.below' HD6.out, HS.out.2.2.2.1.below' HD6.out, HS.out.2.2.2.2.below HD6.out⟩)
        clear HS HC HYD HLT HB6 HD6 hS
        go_wp2_with fail
        go_roundw
        case rel => exact ⟨k + 1, by omega, by go_num, hIV⟩
        case measure => simp [intOf]; omega
      · have hkm : k = m := by omega
        subst hkm
        have g1 : decide (k < k) = false := decide_eq_false (Nat.lt_irrefl _)
        have HWX := Lib.hid (HWK.out wr HBr.out)
        go_wp2_with fail
        refine HWX.out.mono ?_
        rintro e wz ⟨rfl, hb⟩
        have HBZ := Lib.hid (HBr.out.trans (hb.mono HBr.out.size))
        clear hb
        go_wp2_with fail
        go_ret
        exact ⟨rfl, HBZ.out⟩
end
end Go.Proofs.YtnbeembnnjdmdaaGreatDoor
