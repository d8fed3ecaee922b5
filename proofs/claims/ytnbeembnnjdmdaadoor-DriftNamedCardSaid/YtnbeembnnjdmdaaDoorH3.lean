/- DriftNamed, walked. -/
import Derived.Test.YtnbeembnnjdmdaaDoorG1
import Derived.Test.YtnbeembnnjdmdaaDoorG4
import Derived.Test.YtnbeembnnjdmdaaDoorG9
import Derived.Test.YtnbeembnnjdmdaaDoorG12
import Derived.Test.YtnbeembnnjdmdaaDoorLaH
import Derived.Test.YtnbeembnnjdmdaaDoorE12
namespace Go.Proofs.YtnbeembnnjdmdaaDoor
open Go.RowKit Go.Maps

theorem LfP.rd {base : Nat} {w : World} {v : Value} {l : List Nat} (h : LfP base w v l) : ∃ A c, v = .slice A l.length c ∧ Rd1 w w.heap.size A l.length (fun j => ((l.getD j 0 : Nat) : Int)) := by
  rcases h.1 with ⟨rfl, rfl⟩ | ⟨g, c, rfl, _, _, hg, hc⟩
  · exact ⟨none, 0, rfl, .inl rfl⟩
  · exact ⟨_, c, rfl, .inr ⟨g, 0, rfl, hg, fun j hj => by rw [Nat.zero_add]; exact hc j hj⟩⟩
theorem chkS_some {nd nt hn : Nat} {at_ : Int} {Xs : Nat → SgV} (h : chkS nd nt at_ hn Xs = true) {l : List Nat} (hl : ∀ x, x ∈ l → x < hn) (hn2 : l.length ≤ 12) : chkS nd nt at_ l.length (fun i => Xs (l.getD i 0)) = true := by
  unfold chkS at *
  rw [Bool.and_eq_true, M.allTo_iff] at *
  refine ⟨decide_eq_true hn2, fun i hi => h.2 _ (hl _ ?_)⟩
  rw [List.getD_eq_getElem?_getD, List.getElem?_eq_getElem hi, Option.getD_some]
  exact List.getElem_mem hi
theorem leeL_nil {d : M.Dr} {at_ lo hi : Int} {xL : List Int} {hn : Nat} {Xs : Nat → SgV} : leeL d at_ lo hi xL hn Xs = [] ↔ strP d at_ lo hi xL hn Xs 0 (-1) = false := by
  unfold leeL strP
  constructor
  · intro h
    cases hs : M.spanTo lo hi (leeP d at_.toNat (d.s.nt - at_.toNat) hn xL Xs (-1) 0)
    · rfl
    · obtain ⟨x, h1, h2, h3⟩ := M.spanTo_iff.1 hs
      have h4 := M.mem_spanL.2 ⟨⟨h1, h2⟩, h3⟩
      rw [h] at h4
      cases h4
  · intro h
    refine List.eq_nil_iff_forall_not_mem.2 fun x hx => ?_
    obtain ⟨⟨h1, h2⟩, h3⟩ := M.mem_spanL.1 hx
    rw [M.spanTo_iff.2 ⟨x, h1, h2, h3⟩] at h
    cases h
/-- what Places answers: nothing, or rows -/
def PlcE (d : M.Dr) (at_ lo hi : Int) (xL : List Int) (hn : Nat) (Xs : Nat → SgV) (w : World) (e : Ending) (w' : World) : Prop :=
  Below w.heap.size w w' ∧ ((strP d at_ lo hi xL hn Xs 0 (-1) = false ∧ e = .returned (.tuple #[.slice none 0 0, .int .i64 3])) ∨ (strP d at_ lo hi xL hn Xs 0 (-1) = true ∧ ∃ v, e = .returned (.tuple #[v, .int .i64 0])))
section
variable {d : M.Dr} {zA cA wA dA tA sA xA hA : Option Addr} {cl : Nat → Nat} {B dc tc sc zc cc wc xc hn hc : Nat} {at_ lo hi : Int} {xL : List Int} {Xs : Nat → SgV} {w : World}
theorem plcs_ok (hd : d.Ok) (hcl : ∀ i, i < d.nz → cl i + 1 = d.s.nt) (hR : RdD w B dA tA sA zA cA wA d.s.nd d.s.nt d.s.nt d.s.nd d.nz (d.s.nt - 1) d.s.dep d.s.tide d.s.sw d.z cl d.cu d.wd) (hB : B ≤ w.heap.size) (hW : Ways w)
    (hx3 : Rd1 w B xA xL.length (fun k => xL.getD k 0)) (hx4 : xL.length ≤ maxLen) (hRS : RdS w B hA hn Xs) (hhn : hn ≤ maxLen) (hF : Fre w) (hX : chkX d.s.nd d.s.nt at_ lo hi xL = true) (hS : chkS d.s.nd d.s.nt at_ hn Xs = true) :
    Calls Tryd.prog 10 #[.agg #[.int .i64 (d.s.W : Int), .int .i64 (d.s.H : Int), .slice dA d.s.nd dc, .slice tA d.s.nt tc, .slice sA d.s.nt sc, .slice zA d.s.nd zc, .slice cA d.nz cc, .slice wA (d.s.nt - 1) wc], .agg #[.int .i64 at_, .slice xA xL.length xc, .int .i64 lo, .int .i64 hi], .slice hA hn hc] w fun e w' => PlcE d at_ lo hi xL hn Xs w e w' :=
  (places_ok (dc := dc) (tc := tc) (sc := sc) (zc := zc) (cc := cc) (wc := wc) (xc := xc) (hc := hc) hd hcl hR hB hW hx3 hx4 hRS hhn hF hX hS).mono fun e w' h => ⟨h.1, h.2.imp (fun ⟨h1, h2⟩ => ⟨leeL_nil.1 h1, h2⟩) fun ⟨h1, ow, U, h2, _⟩ => ⟨by
    cases hq : strP d at_ lo hi xL hn Xs 0 (-1)
    · exact absurd (leeL_nil.2 hq) h1
    · rfl, _, h2⟩⟩
end
section
variable {W H : Int} {dA tA sA zA cA wA xA hA : Option Addr} {nd dc nt tc ns sc zn zc cn cc wn wc xc hn hc B : Nat} {at_ lo hi : Int} {dep : Nat → Int} {tide : Nat → Nat → Int} {sw z : Nat → Int} {cl : Nat → Nat} {cu : Nat → Nat → Nat → Int} {wd : Nat → Nat → Int} {xL : List Int} {Xs : Nat → SgV} {w : World}
set_option maxRecDepth 100000 in
set_option maxHeartbeats 12800000 in
theorem driftNamed_any (hnd : nd ≤ maxLen) (hnt : nt ≤ maxLen) (hns : ns ≤ maxLen) (hzn : zn ≤ maxLen) (hcn : cn ≤ maxLen) (hwn : wn ≤ maxLen) (hR : RdD w B dA tA sA zA cA wA nd nt ns zn cn wn dep tide sw z cl cu wd) (hB : B ≤ w.heap.size) (hW : Ways w) (hF : Fre w)
    (hx3 : Rd1 w B xA xL.length (fun k => xL.getD k 0)) (hx4 : xL.length ≤ maxLen) (hRS : RdS w B hA hn Xs) (hhn : hn ≤ maxLen) :
    Calls Tryd.prog 4 #[.agg #[.int .i64 W, .int .i64 H, .slice dA nd dc, .slice tA nt tc, .slice sA ns sc, .slice zA zn zc, .slice cA cn cc, .slice wA wn wc], .agg #[.int .i64 at_, .slice xA xL.length xc, .int .i64 lo, .int .i64 hi], .slice hA hn hc] w fun e w' => e = .returned (.bool true) ∧ Below w.heap.size w w' := by
  have HB0 := Lib.hid (belowAlloc2 w (.cells #[.int .i64 W, .int .i64 H, .slice dA nd dc, .slice tA nt tc, .slice sA ns sc, .slice zA zn zc, .slice cA cn cc, .slice wA wn wc] 29) (.cells #[.int .i64 at_, .slice xA xL.length xc, .int .i64 lo, .int .i64 hi] 33))
  have K0 := Lib.hid ((Blk.new w 29 #[.int .i64 W, .int .i64 H, .slice dA nd dc, .slice tA nt tc, .slice sA ns sc, .slice zA zn zc, .slice cA cn cc, .slice wA wn wc]).alloc (.cells #[.int .i64 at_, .slice xA xL.length xc, .int .i64 lo, .int .i64 hi] 33))
  have X0 := Lib.hid (Blk.new1 w (.cells #[.int .i64 W, .int .i64 H, .slice dA nd dc, .slice tA nt tc, .slice sA ns sc, .slice zA zn zc, .slice cA cn cc, .slice wA wn wc] 29) 33 #[.int .i64 at_, .slice xA xL.length xc, .int .i64 lo, .int .i64 hi])
  have HVA := Lib.hid (fun (V : World) (hb : Below w.heap.size w V) => valid_any (dc := dc) (tc := tc) (sc := sc) (zc := zc) (cc := cc) (wc := wc) (xc := xc) (hc := hc) (W := W) (H := H) (at_ := at_) (lo := lo) (hi := hi) hnd hnt hns hzn hcn hwn (hR.below (hb.mono hB)) (Nat.le_trans hB hb.size) (hx3.below (hb.mono hB)) hx4 (hRS.below (hb.mono hB)) hhn)
  have HWK := Lib.hid (fun (V : World) (hb : Below w.heap.size w V) => works_any V (hW.below hb))
  have HWY := Lib.hid (fun (V : World) (hb : Below w.heap.size w V) => hW.below hb)
  have HRR := Lib.hid (fun (V : World) (hb : Below w.heap.size w V) => hR.below (hb.mono hB))
  have HRX := Lib.hid (fun (V : World) (hb : Below w.heap.size w V) => hx3.below (hb.mono hB))
  have HRH := Lib.hid (fun (V : World) (hb : Below w.heap.size w V) => hRS.below (hb.mono hB))
  have HFR := Lib.hid (fun (V : World) (hb : Below w.heap.size w V) => hF.below hb)
  clear hR hW hx3 hRS hF
  go_enter Tryd.func4, Tryd.ntmps4
  go_upto_region 1 with fail
  generalize (w.alloc (.cells #[.int .i64 W, .int .i64 H, .slice dA nd dc, .slice tA nt tc, .slice sA ns sc, .slice zA zn zc, .slice cA cn cc, .slice wA wn wc] 29)).alloc (.cells #[.int .i64 at_, .slice xA xL.length xc, .int .i64 lo, .int .i64 hi] 33) = X at HB0 K0 X0 ⊢
  have HFX := Lib.hid (HVA.out X HB0.out)
  have k0 := K0.out.cell 0
  have k1 := K0.out.cell 1
  have k2 := K0.out.cell 2
  have k3 := K0.out.cell 3
  have k4 := K0.out.cell 4
  have k5 := K0.out.cell 5
  have k6 := K0.out.cell 6
  have k7 := K0.out.cell 7
  have x0 := X0.out.cell 0
  have x1 := X0.out.cell 1
  have x2 := X0.out.cell 2
  have x3 := X0.out.cell 3
  go_wp2_with fail
  refine HFX.out.mono ?_
  rintro e w1 ⟨⟨q, rfl, hq⟩, hb⟩
  have HB1 := Lib.hid (HB0.out.trans (hb.mono HB0.out.size))
  have K1 := Lib.hid (K0.out.below' hb)
  have X1 := Lib.hid (X0.out.below' hb)
  have HQ := Lib.hid hq
  clear hq HFX HVA
  clear k0 k1 k2 k3 k4 k5 k6 k7 x0 x1 x2 x3
  clear hb
  cases q
  · clear K1 X1
    have HWX := Lib.hid (HWK.out w1 HB1.out)
    go_wp2_with fail
    refine HWX.out.mono ?_
    rintro e wz ⟨rfl, hb⟩
    have HBZ := Lib.hid (HB1.out.trans (hb.mono HB1.out.size))
    clear hb
    go_wp2_with fail
    go_ret
    exact ⟨rfl, HBZ.out⟩
  obtain ⟨hok, hxo, hso, hfar, hfars, h6⟩ := HQ.out rfl
  obtain ⟨d, hd, rfl, rfl, rfl, rfl, rfl, rfl, rfl, rfl, rfl, rfl, rfl, rfl, rfl, rfl, hcl⟩ := M.chkD_form hok
  have h60 := hd.s.t2
  have h1n := hd.s.t1
  have hnd2 := hd.s.nd1
  have HVL := Lib.hid (And.intro hd (And.intro hcl (And.intro hxo hso)))
  clear hok hxo hso hfar hfars hd hcl HQ
  have HCF := Lib.hid (fun (V : World) (hb : Below w.heap.size w V) => conflict_ok (dc := dc) (tc := tc) (sc := sc) (zc := zc) (cc := cc) (wc := wc) (xc := xc) (hc := hc) (HVL.out.1) (HVL.out.2.1) (HRR.out _ hb) (Nat.le_trans hB hb.size) (HWY.out _ hb) (HRX.out _ hb) hx4 (HRH.out _ hb) hhn (HFR.out _ hb) HVL.out.2.2.1 HVL.out.2.2.2)
  have HPC := Lib.hid (fun (V : World) (hb : Below w.heap.size w V) => plcs_ok (dc := dc) (tc := tc) (sc := sc) (zc := zc) (cc := cc) (wc := wc) (xc := xc) (hc := hc) (HVL.out.1) (HVL.out.2.1) (HRR.out _ hb) (Nat.le_trans hB hb.size) (HWY.out _ hb) (HRX.out _ hb) hx4 (HRH.out _ hb) hhn (HFR.out _ hb) HVL.out.2.2.1 HVL.out.2.2.2)
  have k0 := K1.out.cell 0
  have k1 := K1.out.cell 1
  have k2 := K1.out.cell 2
  have k3 := K1.out.cell 3
  have k4 := K1.out.cell 4
  have k5 := K1.out.cell 5
  have k6 := K1.out.cell 6
  have k7 := K1.out.cell 7
  have x0 := X1.out.cell 0
  have x1 := X1.out.cell 1
  have x2 := X1.out.cell 2
  have x3 := X1.out.cell 3
  cases hqp : strP d at_ lo hi xL hn Xs 0 (-1)
  rotate_left
  · have HSX := Lib.hid (show Calls Tryd.prog 11 #[.agg #[.int .i64 (d.s.W : Int), .int .i64 (d.s.H : Int), .slice dA d.s.nd dc, .slice tA d.s.nt tc, .slice sA d.s.nt sc, .slice zA d.s.nd zc, .slice cA d.nz cc, .slice wA (d.s.nt - 1) wc], .agg #[.int .i64 at_, .slice xA xL.length xc, .int .i64 lo, .int .i64 hi], .slice hA hn hc] w1 fun e w' => e = .returned (.tuple #[.slice none 0 0, .int .i64 3]) ∧ Below w1.heap.size w1 w' from (HCF.out w1 HB1.out).mono fun e w' h => by
      obtain ⟨hb, h⟩ := h
      rcases h with ⟨_, h1⟩ | ⟨h1, _⟩
      · exact ⟨h1, hb⟩
      · rw [hqp] at h1; cases h1)
    have HHX := Lib.hid (fun (V : World) (hb0 : Below w.heap.size w V) => (show Calls Tryd.prog 10 #[.agg #[.int .i64 (d.s.W : Int), .int .i64 (d.s.H : Int), .slice dA d.s.nd dc, .slice tA d.s.nt tc, .slice sA d.s.nt sc, .slice zA d.s.nd zc, .slice cA d.nz cc, .slice wA (d.s.nt - 1) wc], .agg #[.int .i64 at_, .slice xA xL.length xc, .int .i64 lo, .int .i64 hi], .slice hA hn hc] V fun e w' => (∃ v, e = .returned (.tuple #[v, .int .i64 0])) ∧ Below V.heap.size V w' from (HPC.out V hb0).mono fun e w' h => by
      obtain ⟨hb, h⟩ := h
      rcases h with ⟨h1, _⟩ | ⟨_, h1⟩
      · rw [hqp] at h1; cases h1
      · exact ⟨h1, hb⟩))
    clear hqp HCF HPC
    go_wp2_with fail
    refine HSX.out.mono ?_
    rintro e w3 ⟨rfl, hb⟩
    have HB3 := Lib.hid (HB1.out.trans (hb.mono HB1.out.size))
    have K3 := Lib.hid (K1.out.below' hb)
    have X3 := Lib.hid (X1.out.below' hb)
    clear HSX
    clear k0 k1 k2 k3 k4 k5 k6 k7 x0 x1 x2 x3
    clear hb
    have k0 := K3.out.cell 0
    have k1 := K3.out.cell 1
    have k2 := K3.out.cell 2
    have k3 := K3.out.cell 3
    have k4 := K3.out.cell 4
    have k5 := K3.out.cell 5
    have k6 := K3.out.cell 6
    have k7 := K3.out.cell 7
    have x0 := X3.out.cell 0
    have x1 := X3.out.cell 1
    have x2 := X3.out.cell 2
    have x3 := X3.out.cell 3
    have HHY := Lib.hid (HHX.out w3 HB3.out)
    go_wp2_with fail
    refine HHY.out.mono ?_
    rintro e w4 ⟨⟨vh, rfl⟩, hb⟩
    have HB4 := Lib.hid (HB3.out.trans (hb.mono HB3.out.size))
    have K4 := Lib.hid (K3.out.below' hb)
    have X4 := Lib.hid (X3.out.below' hb)
    clear HHY HHX
    clear k0 k1 k2 k3 k4 k5 k6 k7 x0 x1 x2 x3
    clear hb
    go_wp2_with fail
    go_loopw [11] (fun i wr => i = .int .i64 (-1) ∧ wr = w4) (fun _ _ => 0)
    case atStart => exact ⟨rfl, rfl⟩
    case round =>
      obtain ⟨rfl, hwr⟩ := hrel
      obtain rfl := hwr
      have HWX := Lib.hid (HWK.out wr HB4.out)
      go_wp2_with fail
      refine HWX.out.mono ?_
      rintro e wz ⟨rfl, hb⟩
      have HBZ := Lib.hid (HB4.out.trans (hb.mono HB4.out.size))
      clear hb
      go_wp2_with fail
      go_ret
      exact ⟨rfl, HBZ.out⟩
  · obtain ⟨kl, hkl⟩ : ∃ kl, kl = M.kp (strG d at_ lo hi xL Xs 0 (-1)) hn hn := ⟨_, rfl⟩
    have HSX := Lib.hid (show Calls Tryd.prog 11 #[.agg #[.int .i64 (d.s.W : Int), .int .i64 (d.s.H : Int), .slice dA d.s.nd dc, .slice tA d.s.nt tc, .slice sA d.s.nt sc, .slice zA d.s.nd zc, .slice cA d.nz cc, .slice wA (d.s.nt - 1) wc], .agg #[.int .i64 at_, .slice xA xL.length xc, .int .i64 lo, .int .i64 hi], .slice hA hn hc] w1 fun e w' => (∃ lA lc, e = .returned (.tuple #[.slice lA kl.length lc, .int .i64 0]) ∧ Rd1 w' w'.heap.size lA kl.length (fun j => ((kl.getD j 0 : Nat) : Int))) ∧ Below w1.heap.size w1 w' from (HCF.out w1 HB1.out).mono fun e w' h => by
      obtain ⟨hb, h⟩ := h
      rcases h with ⟨h1, _⟩ | ⟨_, v, h1, h2⟩
      · rw [hqp] at h1; cases h1
      · obtain ⟨lA, lc, rfl, hr⟩ := h2.rd
        rw [← hkl] at h1 hr
        exact ⟨⟨lA, lc, h1, hr⟩, hb⟩)
    have HHX := Lib.hid (fun (V : World) (hb0 : Below w.heap.size w V) => (show Calls Tryd.prog 10 #[.agg #[.int .i64 (d.s.W : Int), .int .i64 (d.s.H : Int), .slice dA d.s.nd dc, .slice tA d.s.nt tc, .slice sA d.s.nt sc, .slice zA d.s.nd zc, .slice cA d.nz cc, .slice wA (d.s.nt - 1) wc], .agg #[.int .i64 at_, .slice xA xL.length xc, .int .i64 lo, .int .i64 hi], .slice hA hn hc] V fun e w' => e = .returned (.tuple #[.slice none 0 0, .int .i64 3]) ∧ Below V.heap.size V w' from (HPC.out V hb0).mono fun e w' h => by
      obtain ⟨hb, h⟩ := h
      rcases h with ⟨_, h1⟩ | ⟨h1, _⟩
      · exact ⟨h1, hb⟩
      · rw [hqp] at h1; cases h1))
    have hn12 : hn ≤ 12 := by have h := HVL.out.2.2.2; unfold chkS at h; simp only [Bool.and_eq_true, decide_eq_true_eq] at h; exact h.1
    have hkn : kl.length ≤ hn := by rw [hkl]; exact M.kp_len hn
    have HKS := Lib.hid (show kl.Pairwise (· < ·) from by rw [hkl]; exact M.kp_sorted hn)
    have HKM := Lib.hid (show ∀ x, x ∈ kl → x < hn from fun x hx => by rw [hkl] at hx; exact M.kp_lt hx)
    -- what Places answers with some of them
    have HSO := Lib.hid (fun (bl : List Nat) (hbl : ∀ x, x ∈ bl → x ∈ kl) (hbn : bl.length ≤ kl.length) (V : World) (hb : Below w.heap.size w V) (base : Nat) (A2 : Option Addr) (c2 : Nat) (ho : Own V base 75 3 (.slice A2 bl.length c2) bl.length (sgF Xs bl)) => plcs_ok (dc := dc) (tc := tc) (sc := sc) (zc := zc) (cc := cc) (wc := wc) (xc := xc) (hc := c2) (Xs := fun i => Xs (bl.getD i 0)) HVL.out.1 HVL.out.2.1 ((HRR.out V hb).more (Nat.le_trans hB hb.size)) (Nat.le_refl _) (HWY.out V hb) ((HRX.out V hb).more (Nat.le_trans hB hb.size)) hx4
      (RdS.of_own (W0 := V) (A0 := hA) (n0 := hn) (B' := B) ho (Nat.le_refl _) (HRH.out V hb) (fun x hx => HKM.out x (hbl x hx)) (fun x hx => by obtain ⟨_, _, _, _, _, _, _, h1, _⟩ := (HRH.out V hb).at_ hx; exact h1.more (Nat.le_trans hB hb.size))) (by unfold maxLen; omega) (HFR.out V hb) HVL.out.2.2.1 (chkS_some HVL.out.2.2.2 (fun x hx => HKM.out x (hbl x hx)) (by omega)))
    have HLO := Lib.hid (show ∀ b : Int, b < 0 → strP d at_ lo hi xL (butL kl b kl.length).length (fun i => Xs ((butL kl b kl.length).getD i 0)) 0 (-1) = false from fun b hb => needed_all (hn := hn) hqp (fun x hx => butL_all hb (by rw [hkl]; exact hx)))
    have HHIg := Lib.hid (show ∀ k : Nat, k < kl.length → strP d at_ lo hi xL (butL kl (k : Int) kl.length).length (fun i => Xs ((butL kl (k : Int) kl.length).getD i 0)) 0 (-1) = true from fun k hk => by
      refine needed_each (hn := hn) (k := k) (by rw [hkl] at hk; exact hk) fun x hx => ⟨by have h1 := butL_sub hx; rw [hkl] at h1; exact h1, ?_⟩
      have h1 := butL_ne HKS.out hk hx
      intro e
      apply h1
      rw [e]
      congr 1
      exact hkl.symm)
    have HBN := Lib.hid (fun b => butL_len kl b kl.length)
    have HBS := Lib.hid (fun (b : Int) (x : Nat) (hx : x ∈ butL kl b kl.length) => butL_sub hx)
    clear hqp HCF HPC hkl
    go_wp2_with fail
    refine HSX.out.mono ?_
    rintro e w3 ⟨⟨lA, lc, rfl, hr⟩, hb⟩
    have HB3 := Lib.hid (HB1.out.trans (hb.mono HB1.out.size))
    have K3 := Lib.hid (K1.out.below' hb)
    have X3 := Lib.hid (X1.out.below' hb)
    have HL3 := Lib.hid hr
    clear HSX hr
    clear k0 k1 k2 k3 k4 k5 k6 k7 x0 x1 x2 x3
    clear hb
    have k0 := K3.out.cell 0
    have k1 := K3.out.cell 1
    have k2 := K3.out.cell 2
    have k3 := K3.out.cell 3
    have k4 := K3.out.cell 4
    have k5 := K3.out.cell 5
    have k6 := K3.out.cell 6
    have k7 := K3.out.cell 7
    have x0 := X3.out.cell 0
    have x1 := X3.out.cell 1
    have x2 := X3.out.cell 2
    have x3 := X3.out.cell 3
    have HHY := Lib.hid (HHX.out w3 HB3.out)
    go_wp2_with fail
    refine HHY.out.mono ?_
    rintro e w4 ⟨rfl, hb⟩
    have HB4 := Lib.hid (HB3.out.trans (hb.mono HB3.out.size))
    have K4 := Lib.hid (K3.out.below' hb)
    have X4 := Lib.hid (X3.out.below' hb)
    have HL4 := Lib.hid ((HL3.out.below hb).more hb.size)
    clear HHY HHX HL3
    clear k0 k1 k2 k3 k4 k5 k6 k7 x0 x1 x2 x3
    clear hb
    go_wp2_with fail
    go_loopw [11] (fun i wr => ∃ b : Int, -1 ≤ b ∧ b ≤ (kl.length : Int) ∧ i = .int .i64 b ∧ Hid (Below w.heap.size w wr ∧ Blk wr w.heap.size 29 #[.int .i64 (d.s.W : Int), .int .i64 (d.s.H : Int), .slice dA d.s.nd dc, .slice tA d.s.nt tc, .slice sA d.s.nt sc, .slice zA d.s.nd zc, .slice cA d.nz cc, .slice wA (d.s.nt - 1) wc] ∧ Blk wr (w.heap.size + 1) 33 #[.int .i64 at_, .slice xA xL.length xc, .int .i64 lo, .int .i64 hi] ∧ Rd1 wr wr.heap.size lA kl.length (fun j => ((kl.getD j 0 : Nat) : Int)))) (fun i _ => ((kl.length : Int) + 1 - intOf i).toNat)
    case atStart => exact ⟨-1, Int.le_refl _, by omega, rfl, Lib.hid ⟨HB4.out, K4.out, X4.out, HL4.out⟩⟩
    case round =>
      obtain ⟨b, hb1, hb2, rfl, HIV⟩ := hrel
      clear HB4 K4 X4 HL4
      have HB5 := Lib.hid HIV.out.1
      have K5 := Lib.hid HIV.out.2.1
      have X5 := Lib.hid HIV.out.2.2.1
      have HL5 := Lib.hid HIV.out.2.2.2
      clear HIV
      by_cases hlt : b < (kl.length : Int)
      · have g1 : decide (b < (kl.length : Int)) = true := decide_eq_true hlt
        have HON := Lib.hid (only_any (lc := lc) (hc := hc) (l := kl) (Xs := Xs) (w := wr) (B := wr.heap.size) ((HRH.out wr HB5.out).more (Nat.le_trans hB HB5.out.size)) (Nat.le_refl _) (by omega) HL5.out (by omega) HKS.out HKM.out b)
        obtain ⟨bl, hbl⟩ : ∃ bl, bl = butL kl b kl.length := ⟨_, rfl⟩
        have hbn := HBN.out b
        rw [← hbl] at HON hbn
        have HBL := Lib.hid hbl
        have HBM := Lib.hid (show ∀ x, x ∈ bl → x ∈ kl from fun x hx => HBS.out b x (by rw [← hbl]; exact hx))
        clear hbl
        go_wp2_with fail
        refine HON.out.mono ?_
        rintro e w6 ⟨⟨v6, rfl, ho⟩, hb⟩
        obtain ⟨A6, c6, rfl⟩ := Own.form ho
        have HO6 := Lib.hid ho
        have HB6 := Lib.hid (HB5.out.trans (hb.mono HB5.out.size))
        have K6 := Lib.hid (K5.out.below' hb)
        have X6 := Lib.hid (X5.out.below' hb)
        have HL6 := Lib.hid ((HL5.out.below hb).more hb.size)
        clear hb ho HON
        have k0 := K6.out.cell 0
        have k1 := K6.out.cell 1
        have k2 := K6.out.cell 2
        have k3 := K6.out.cell 3
        have k4 := K6.out.cell 4
        have k5 := K6.out.cell 5
        have k6 := K6.out.cell 6
        have k7 := K6.out.cell 7
        have x0 := X6.out.cell 0
        have x1 := X6.out.cell 1
        have x2 := X6.out.cell 2
        have x3 := X6.out.cell 3
        have HHZ := Lib.hid (HSO.out bl HBM.out hbn w6 HB6.out _ _ _ HO6.out)
        rcases (show b < 0 ∨ 0 ≤ b by omega) with hs | hs
        · skip
          have HZZ := Lib.hid (show Calls Tryd.prog 10 #[.agg #[.int .i64 (d.s.W : Int), .int .i64 (d.s.H : Int), .slice dA d.s.nd dc, .slice tA d.s.nt tc, .slice sA d.s.nt sc, .slice zA d.s.nd zc, .slice cA d.nz cc, .slice wA (d.s.nt - 1) wc], .agg #[.int .i64 at_, .slice xA xL.length xc, .int .i64 lo, .int .i64 hi], .slice A6 bl.length c6] w6 fun e w' => e = .returned (.tuple #[.slice none 0 0, .int .i64 3]) ∧ Below w6.heap.size w6 w' from HHZ.out.mono fun e w' h => by
            obtain ⟨hb, h⟩ := h
            rcases h with ⟨_, h1⟩ | ⟨h1, _⟩
            · exact ⟨h1, hb⟩
            · rw [HBL.out, HLO.out b hs] at h1; cases h1)
          have g2 : decide (b < 0) = true := decide_eq_true hs
          have g3 : decide (0 ≤ b) = false := decide_eq_false (by omega)
          clear HHZ
          go_wp2_with fail
          refine HZZ.out.mono ?_
          rintro e w7 ⟨rfl, hb⟩
          have HIV := Lib.hid (show Below w.heap.size w w7 ∧ Blk w7 w.heap.size 29 #[.int .i64 (d.s.W : Int), .int .i64 (d.s.H : Int), .slice dA d.s.nd dc, .slice tA d.s.nt tc, .slice sA d.s.nt sc, .slice zA d.s.nd zc, .slice cA d.nz cc, .slice wA (d.s.nt - 1) wc] ∧ Blk w7 (w.heap.size + 1) 33 #[.int .i64 at_, .slice xA xL.length xc, .int .i64 lo, .int .i64 hi] ∧ Rd1 w7 w7.heap.size lA kl.length (fun j => ((kl.getD j 0 : Nat) : Int)) from ⟨HB6.out.trans (hb.mono HB6.out.size), K6.out.below' hb, X6.out.below' hb, (HL6.out.below hb).more hb.size⟩)
          clear hb k0 k1 k2 k3 k4 k5 k6 k7 x0 x1 x2 x3 K6 X6 HL6 HB6 HO6
          go_wp2_with fail
          go_roundw
          case rel => exact ⟨b + 1, by omega, by omega, rfl, HIV⟩
          case measure => simp [intOf]; omega
        · skip
          have HZZ := Lib.hid (show Calls Tryd.prog 10 #[.agg #[.int .i64 (d.s.W : Int), .int .i64 (d.s.H : Int), .slice dA d.s.nd dc, .slice tA d.s.nt tc, .slice sA d.s.nt sc, .slice zA d.s.nd zc, .slice cA d.nz cc, .slice wA (d.s.nt - 1) wc], .agg #[.int .i64 at_, .slice xA xL.length xc, .int .i64 lo, .int .i64 hi], .slice A6 bl.length c6] w6 fun e w' => (∃ v, e = .returned (.tuple #[v, .int .i64 0])) ∧ Below w6.heap.size w6 w' from HHZ.out.mono fun e w' h => by
            obtain ⟨hb, h⟩ := h
            rcases h with ⟨h1, _⟩ | ⟨_, h1⟩
            · rw [HBL.out] at h1
              obtain ⟨kb, rfl⟩ : ∃ kb : Nat, b = (kb : Int) := ⟨b.toNat, by omega⟩
              rw [HHIg.out kb (by omega)] at h1; cases h1
            · exact ⟨h1, hb⟩)
          have g2 : decide (b < 0) = false := decide_eq_false (by omega)
          have g3 : decide (0 ≤ b) = true := decide_eq_true (by omega)
          clear HHZ
          go_wp2_with fail
          refine HZZ.out.mono ?_
          rintro e w7 ⟨⟨vz, rfl⟩, hb⟩
          have HIV := Lib.hid (show Below w.heap.size w w7 ∧ Blk w7 w.heap.size 29 #[.int .i64 (d.s.W : Int), .int .i64 (d.s.H : Int), .slice dA d.s.nd dc, .slice tA d.s.nt tc, .slice sA d.s.nt sc, .slice zA d.s.nd zc, .slice cA d.nz cc, .slice wA (d.s.nt - 1) wc] ∧ Blk w7 (w.heap.size + 1) 33 #[.int .i64 at_, .slice xA xL.length xc, .int .i64 lo, .int .i64 hi] ∧ Rd1 w7 w7.heap.size lA kl.length (fun j => ((kl.getD j 0 : Nat) : Int)) from ⟨HB6.out.trans (hb.mono HB6.out.size), K6.out.below' hb, X6.out.below' hb, (HL6.out.below hb).more hb.size⟩)
          clear hb k0 k1 k2 k3 k4 k5 k6 k7 x0 x1 x2 x3 K6 X6 HL6 HB6 HO6
          go_wp2_with fail
          go_roundw
          case rel => exact ⟨b + 1, by omega, by omega, rfl, HIV⟩
          case measure => simp [intOf]; omega
      · have g1 : decide (b < (kl.length : Int)) = false := decide_eq_false hlt
        have HWX := Lib.hid (HWK.out wr HB5.out)
        go_wp2_with fail
        refine HWX.out.mono ?_
        rintro e wz ⟨rfl, hb⟩
        have HBZ := Lib.hid (HB5.out.trans (hb.mono HB5.out.size))
        clear hb
        go_wp2_with fail
        go_ret
        exact ⟨rfl, HBZ.out⟩
end
end Go.Proofs.YtnbeembnnjdmdaaDoor
