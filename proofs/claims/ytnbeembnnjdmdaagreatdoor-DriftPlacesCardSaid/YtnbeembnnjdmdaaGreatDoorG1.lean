/- drift: Conflict of a valid drift, drifter and sightings. -/
import Derived.Test.YtnbeembnnjdmdaaGreatDoorD31
namespace Go.Proofs.YtnbeembnnjdmdaaGreatDoor
open Go.RowKit Go.Maps

/-- what the variable free holds: no place -/
structure Fre (W : World) : Prop where
  c0 : W.cell? ⟨0, 0, none⟩ = some (.int .i64 0)
  c1 : W.cell? ⟨0, 1, none⟩ = some (.int .i64 (-1))
  c2 : W.cell? ⟨0, 2, none⟩ = some (.int .i64 0)
theorem Fre.below {W W' : World} (h : Fre W) (hb : Below W.heap.size W W') : Fre W' := by
  have hl := World.block_lt_of_cell? W _ h.c0
  exact ⟨(hb.cell (p := ⟨0, 0, none⟩) hl).trans h.c0, (hb.cell (p := ⟨0, 1, none⟩) hl).trans h.c1, (hb.cell (p := ⟨0, 2, none⟩) hl).trans h.c2⟩
section
variable {d : M.Dr} {zA cA wA dA tA sA xA hA : Option Addr} {cl : Nat → Nat} {B dc tc sc zc cc wc xc hn hc : Nat} {at_ lo hi : Int} {xL : List Int} {Xs : Nat → SgV} {w : World}
set_option maxRecDepth 100000 in
set_option maxHeartbeats 3200000 in
theorem conflict_ok (hd : d.Ok) (hcl : ∀ i, i < d.nz → cl i + 1 = d.s.nt) (hR : RdD w B dA tA sA zA cA wA d.s.nd d.s.nt d.s.nt d.s.nd d.nz (d.s.nt - 1) d.s.dep d.s.tide d.s.sw d.z cl d.cu d.wd) (hB : B ≤ w.heap.size) (hW : Ways w)
    (hx3 : Rd1 w B xA xL.length (fun k => xL.getD k 0)) (hx4 : xL.length ≤ maxLen) (hRS : RdS w B hA hn Xs) (hhn : hn ≤ maxLen) (hF : Fre w) (hX : chkX d.s.nd d.s.nt at_ lo hi xL = true) (hS : chkS d.s.nd d.s.nt at_ hn Xs = true) :
    Calls Tryz.prog 23 #[.agg #[.int .i64 (d.s.W : Int), .int .i64 (d.s.H : Int), .slice dA d.s.nd dc, .slice tA d.s.nt tc, .slice sA d.s.nt sc, .slice zA d.s.nd zc, .slice cA d.nz cc, .slice wA (d.s.nt - 1) wc], .agg #[.int .i64 at_, .slice xA xL.length xc, .int .i64 lo, .int .i64 hi], .slice hA hn hc] w fun e w' => Below w.heap.size w w' ∧
      ((strP d at_ lo hi xL hn Xs 0 (-1) = true ∧ e = .returned (.tuple #[.slice none 0 0, .int .i64 3])) ∨
       (strP d at_ lo hi xL hn Xs 0 (-1) = false ∧ ∃ v, e = .returned (.tuple #[v, .int .i64 0]) ∧ LfP w.heap.size w' v (M.kp (strG d at_ lo hi xL Xs 0 (-1)) hn hn))) := by
  obtain ⟨⟨ha1, ha2⟩, hxl, ⟨hx1, hx2⟩, hl1, hl2, hl3⟩ := chkX_bd hX
  obtain ⟨ta, rfl⟩ : ∃ n : Nat, at_ = (n : Int) := ⟨at_.toNat, by omega⟩
  have hhn12 : hn ≤ 12 := by unfold chkS at hS; simp only [Bool.and_eq_true, decide_eq_true_eq] at hS; exact hS.1
  have h60 := hd.s.t2
  have h1n := hd.s.t1
  have hnd := hd.s.nd1
  have hxm : xL.length ≤ 1048576 := by have := M.asc_len hx1 (fun x hx => ⟨by have := hx2 x hx; omega, (hx2 x hx).2⟩); omega
  unfold strP strG
  rw [Int.toNat_natCast]
  obtain ⟨m, hm⟩ : ∃ m, m = d.s.nt - ta := ⟨_, rfl⟩
  rw [← hm]
  have hm1 : ta + m = d.s.nt := by omega
  have hm2 : 1 ≤ m := by omega
  have hbY := belowAlloc2 w (.cells #[.int .i64 (d.s.W : Int), .int .i64 (d.s.H : Int), .slice dA d.s.nd dc, .slice tA d.s.nt tc, .slice sA d.s.nt sc, .slice zA d.s.nd zc, .slice cA d.nz cc, .slice wA (d.s.nt - 1) wc] 29) (.cells #[.int .i64 (ta : Int), .slice xA xL.length xc, .int .i64 lo, .int .i64 hi] 44)
  have hO := begin_ok (at_ := (ta : Int)) (lo := lo) (hi := hi) (xc := xc) (hc := hc) (dc := dc) (tc := tc) (sc := sc) (zc := zc) (cc := cc) (wc := wc) hd hcl (hR.below (hbY.mono hB)) (Nat.le_trans hB hbY.size) (hW.below hbY) (hx3.below (hbY.mono hB)) hx4 (hRS.below (hbY.mono hB)) hhn
  have HO := Lib.hid (hO.mono (R' := fun e w' => ∃ B2 P m1 m2, w.heap.size ≤ B2 ∧ Below w.heap.size w w' ∧ e = .returned (.tuple #[.agg #[.pointer (some ⟨P, 0, none⟩), .int .i64 (ta : Int), .slice xA xL.length xc, .int .i64 lo, .int .i64 hi, .slice hA hn hc], .int .i64 0]) ∧ SeaM d zA cA wA dA tA sA cl B2 P m1 m2 #[.int .i64 (d.s.W : Int), .int .i64 (d.s.H : Int), .slice dA d.s.nd dc, .slice tA d.s.nt tc, .slice sA d.s.nt sc, .slice zA d.s.nd zc, .slice cA d.nz cc, .slice wA (d.s.nt - 1) wc, .map (some m1), .map (some m2)] (own3 P m1 m2) w') fun e w' h => by
    obtain ⟨hb, h⟩ := h
    rcases h with ⟨h1, h2⟩ | ⟨h1, h2, h3⟩ | ⟨h1, h2, B2, P, m1, m2, h3, h4, h5⟩
    · rw [hX] at h1; cases h1
    · rw [hS] at h2; cases h2
    · exact ⟨B2, P, m1, m2, Nat.le_trans hbY.size h3, hbY.trans (hb.mono hbY.size), h4, h5⟩)
  have HPO := Lib.hid (fun (B2 P m1 m2 : Nat) (V : World) (hMV : SeaT d zA cA wA dA tA sA cl B2 P m1 m2 dc tc sc zc cc wc V) (hbV : Below w.heap.size w V) => possible_any (hc := hc) (xc := xc) (fc := 0) (ft := -1) (fl := 0) hd hhn hx1 hx2 hxm hm1 hm2 hl1 hl3 hl2 hMV (hRS.below (hbV.mono hB)) (hx3.below (hbV.mono hB)) (Nat.le_trans hB hbV.size))
  have HNE := Lib.hid (fun (B2 P m1 m2 : Nat) (V : World) (hMV : SeaT d zA cA wA dA tA sA cl B2 P m1 m2 dc tc sc zc cc wc V) (hbV : Below w.heap.size w V) => needed_any (hc := hc) (xc := xc) (fc := 0) (ft := -1) (fl := 0) hd hhn12 hx1 hx2 hxm hm1 hm2 hl1 hl3 hl2 hMV (hRS.below (hbV.mono hB)) (hx3.below (hbV.mono hB)) (Nat.le_trans hB hbV.size))
  obtain ⟨qp, hqp⟩ : ∃ q, M.spanTo lo hi (leeP d ta m hn xL Xs (-1) 0) = q := ⟨_, rfl⟩
  obtain ⟨kl, hkl⟩ : ∃ q, M.kp (leeG d ta m xL Xs lo hi (-1) 0) hn hn = q := ⟨_, rfl⟩
  rw [hqp] at HPO
  rw [hkl] at HNE
  rw [hqp, hkl]
  have HFW := Lib.hid (fun (V : World) (hb : Below w.heap.size w V) => hF.below hb)
  clear hF hO hbY hqp hkl hR hd hcl hW hx3 hRS hx1 hx2 hX hS hm hm1
  go_enter Tryz.func23, Tryz.ntmps23
  go_upto_region 2 with (go_at_call 55; refine HO.out.mono ?_; rintro e w1 ⟨B2, P, m1, m2, hB2, hb, rfl, hM⟩; have HB1 := Lib.hid hb; have HM1 := Lib.hid hM; have HB2 := Lib.hid hB2; clear hb hM hB2)
  have K1 := Lib.hid (Blk.new w1 105 #[.pointer (some ⟨P, 0, none⟩), .int .i64 (ta : Int), .slice xA xL.length xc, .int .i64 lo, .int .i64 hi, .slice hA hn hc])
  have HM2 := Lib.hid (HM1.out.alloc (.cells #[.pointer (some ⟨P, 0, none⟩), .int .i64 (ta : Int), .slice xA xL.length xc, .int .i64 lo, .int .i64 hi, .slice hA hn hc] 105))
  have HBX := Lib.hid (HB1.out.alloc HB1.out.size (.cells #[.pointer (some ⟨P, 0, none⟩), .int .i64 (ta : Int), .slice xA xL.length xc, .int .i64 lo, .int .i64 hi, .slice hA hn hc] 105))
  have HSX := Lib.hid HB1.out.size
  generalize hYe : w1.alloc (.cells #[.pointer (some ⟨P, 0, none⟩), .int .i64 (ta : Int), .slice xA xL.length xc, .int .i64 lo, .int .i64 hi, .slice hA hn hc] 105) = Y at K1 HM2 HBX ⊢
  clear hYe HM1 HB1
  generalize w1.heap.size = S at K1 HSX ⊢
  have k0 := K1.out.cell 0
  have k1 := K1.out.cell 1
  have k2 := K1.out.cell 2
  have k3 := K1.out.cell 3
  have k4 := K1.out.cell 4
  have k5 := K1.out.cell 5
  have HBW := Lib.hid (And.intro HM2.out.b.2.1 HM2.out.b.2.2.1)
  have HFY := Lib.hid (HFW.out _ HBX.out)
  have HPZ := Lib.hid (HPO.out B2 P m1 m2 Y HM2.out.canon HBX.out)
  have HBV := Lib.hid (fun (V : World) (h : Mv m1 m2 Y V) => (show Below w.heap.size w V from HBX.out.trans (h.below (Nat.le_trans HB2.out HBW.out.1) (Nat.le_trans HB2.out HBW.out.2) HBX.out.size)))
  have j0 := HFY.out.c0
  have j1 := HFY.out.c1
  have j2 := HFY.out.c2
  cases qp
  · go_upto_region 6 with (go_at_call 56; go_must (refine HPZ.out.mono ?_); rintro e w3 ⟨rfl, hab⟩; have HAB := Lib.hid hab; clear hab)
    have HM3 := Lib.hid (HAB.out.2 HM2.out.canon).1
    have K3 := Lib.hid (K1.out.mv HAB.out.1 HM2.out.map1 HM2.out.map2)
    have HB4 := Lib.hid (HBV.out w3 HAB.out.1)
    have HF3 := Lib.hid (HFW.out w3 HB4.out)
    have HN3 := Lib.hid (HNE.out B2 P m1 m2 w3 HM3.out HB4.out)
    clear k0 k1 k2 k3 k4 k5 j0 j1 j2
    have k0 := K3.out.cell 0
    have k1 := K3.out.cell 1
    have k2 := K3.out.cell 2
    have k3 := K3.out.cell 3
    have k4 := K3.out.cell 4
    have k5 := K3.out.cell 5
    have j0 := HF3.out.c0
    have j1 := HF3.out.c1
    have j2 := HF3.out.c2
    go_wp2_with (go_at_call 57; go_must (refine HN3.out.mono ?_); rintro e w4 ⟨v, rfl, hl, hab⟩; have HL := Lib.hid hl; have HAB4 := Lib.hid hab; clear hl hab)
    go_ret2
    exact ⟨HBV.out w4 (HAB.out.1.trans HAB4.out.1), v, rfl, HL.out.less HB4.out.size⟩
  · go_wp2_with (go_at_call 56; go_must (refine HPZ.out.mono ?_); rintro e w3 ⟨rfl, hab⟩; have HAB := Lib.hid hab; clear hab)
    go_ret2
    exact ⟨HBV.out w3 HAB.out.1, rfl⟩
end
end Go.Proofs.YtnbeembnnjdmdaaGreatDoor
