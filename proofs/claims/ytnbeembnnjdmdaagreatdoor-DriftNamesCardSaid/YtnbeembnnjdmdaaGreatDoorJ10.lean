/- The reference of layer 2: Conflict and Struck. -/
import Derived.Test.YtnbeembnnjdmdaaGreatDoorJ9
namespace Go.Proofs.YtnbeembnnjdmdaaGreatDoor
open Go.RowKit

section
variable {d : M.Dr} {ta k hn : Nat} {xL : List Int} {Xs Ys Ss : Nat → SgV} {lo hi c t : Int}
theorem leeL_pos : decide (0 < (leeL d (ta : Int) lo hi xL k Ys).length) = M.spanTo lo hi (leeP d ta (d.s.nt - ta) k xL Ys (-1) 0) := by
 unfold leeL
 rw [Int.toNat_natCast, Bool.eq_iff_iff, decide_eq_true_eq, M.spanTo_iff]
 constructor
 ·
  intro h
  obtain ⟨x, hx⟩ := List.exists_mem_of_length_pos h
  have h2 := M.mem_spanL.1 hx
  exact ⟨x, h2.1.1, h2.1.2, h2.2⟩
 ·
  rintro ⟨x, h1, h2, h3⟩
  exact List.length_pos_of_mem (M.mem_spanL.2 ⟨⟨h1, h2⟩, h3⟩)
theorem conf_g (l : List Nat) : decide (0 < (leeL d (ta : Int) lo hi xL (l.length + 0) (catX l.length Xs Ss l)).length) = strG d (ta : Int) lo hi xL Xs 0 (-1) l := by
 rw [leeL_pos]
 unfold strG leeG
 rw [Int.toNat_natCast, Nat.add_zero]
 congr 1
 funext x
 exact leeP_same fun i hi => by unfold catX; rw [if_pos hi]
theorem struck_g (hs : M.AtS d.s.nd c t (Ss 0).sg) (l : List Nat) : decide (0 < (leeL d (ta : Int) lo hi xL (l.length + 1) (catX l.length Xs Ss l)).length) = strG d (ta : Int) lo hi xL Xs c t l := by
 rw [leeL_pos]
 unfold strG leeG
 rw [Int.toNat_natCast]
 congr 1
 funext x
 exact leeP_at (fun i hi => by unfold catX; rw [if_pos hi]) (by unfold catX; rw [if_neg (Nat.lt_irrefl _), Nat.sub_self]; exact hs)
theorem struck_all (hs : M.AtS d.s.nd c t (Ss 0).sg) : decide (0 < (leeL d (ta : Int) lo hi xL (hn + 1) (catX hn Xs Ss (List.range hn))).length) = strP d (ta : Int) lo hi xL hn Xs c t := by
 rw [leeL_pos]
 unfold strP
 rw [Int.toNat_natCast]
 congr 1
 funext x
 exact leeP_at (fun i hi => by unfold catX; rw [if_pos hi, List.getD_eq_getElem?_getD, List.getElem?_range hi, Option.getD_some]) (by unfold catX; rw [if_neg (Nat.lt_irrefl _), Nat.sub_self]; exact hs)
theorem free_all : decide (0 < (leeL d (ta : Int) lo hi xL hn Xs).length) = strP d (ta : Int) lo hi xL hn Xs 0 (-1) := by
 rw [leeL_pos]
 unfold strP
 rw [Int.toNat_natCast]
end
section
variable {d : M.Dr} {zA cA wA dA tA sA xA hA : Option Addr} {cl : Nat → Nat} {dc tc sc zc cc wc xc hn hc B ta lo hi : Nat} {xL : List Int} {Xs : Nat → SgV} {w : World}
set_option maxRecDepth 100000 in
set_option maxHeartbeats 6400000 in
theorem rConflict_ok (hd : d.Ok) (hcl : ∀ i, i < d.nz → cl i + 1 = d.s.nt) (hR : RdD w B dA tA sA zA cA wA d.s.nd d.s.nt d.s.nt d.s.nd d.nz (d.s.nt - 1) d.s.dep d.s.tide d.s.sw d.z cl d.cu d.wd) (hB : B ≤ w.heap.size) (hx3 : Rd1 w B xA xL.length (fun k => xL.getD k 0)) (hx4 : xL.length ≤ maxLen) (hRS : RdS w B hA hn Xs) (hhn : hn ≤ maxLen)
  (hX : chkX d.s.nd d.s.nt (ta : Int) (lo : Int) (hi : Int) xL = true) (hS : chkS d.s.nd d.s.nt (ta : Int) hn Xs = true) :
  Calls Tryz.prog 24 #[.agg #[.int .i64 (d.s.W : Int), .int .i64 (d.s.H : Int), .slice dA d.s.nd dc, .slice tA d.s.nt tc, .slice sA d.s.nt sc, .slice zA d.s.nd zc, .slice cA d.nz cc, .slice wA (d.s.nt - 1) wc], .agg #[.int .i64 (ta : Int), .slice xA xL.length xc, .int .i64 (lo : Int), .int .i64 (hi : Int)], .slice hA hn hc] w fun e w' => Below w.heap.size w w' ∧ ((strP d (ta : Int) (lo : Int) (hi : Int) xL hn Xs 0 (-1) = true ∧ e = .returned (.tuple #[.slice none 0 0, .int .i64 3])) ∨ (strP d (ta : Int) (lo : Int) (hi : Int) xL hn Xs 0 (-1) = false ∧ ∃ v, e = .returned (.tuple #[v, .int .i64 0]) ∧ IL w' w.heap.size v (castL (M.kp (strG d (ta : Int) (lo : Int) (hi : Int) xL Xs 0 (-1)) hn hn)))) := by
 have hnd := hd.s.nd1
 have hnt := hd.s.t2
 obtain ⟨⟨ha1, ha2⟩, hxl, -, hl1, hl2, hl3⟩ := chkX_bd hX
 have hta : ta < d.s.nt := by omega
 have hlo : lo ≤ hi := by omega
 have hhi : hi ≤ 8 := by omega
 have HB0 := Lib.hid (belowAlloc2 w (.cells #[.int .i64 (d.s.W : Int), .int .i64 (d.s.H : Int), .slice dA d.s.nd dc, .slice tA d.s.nt tc, .slice sA d.s.nt sc, .slice zA d.s.nd zc, .slice cA d.nz cc, .slice wA (d.s.nt - 1) wc] 29) (.cells #[.int .i64 (ta : Int), .slice xA xL.length xc, .int .i64 (lo : Int), .int .i64 (hi : Int)] 44))
 have K0 := Lib.hid ((Blk.new w 29 #[.int .i64 (d.s.W : Int), .int .i64 (d.s.H : Int), .slice dA d.s.nd dc, .slice tA d.s.nt tc, .slice sA d.s.nt sc, .slice zA d.s.nd zc, .slice cA d.nz cc, .slice wA (d.s.nt - 1) wc]).alloc (.cells #[.int .i64 (ta : Int), .slice xA xL.length xc, .int .i64 (lo : Int), .int .i64 (hi : Int)] 44))
 have X0 := Lib.hid (Blk.new1 w (.cells #[.int .i64 (d.s.W : Int), .int .i64 (d.s.H : Int), .slice dA d.s.nd dc, .slice tA d.s.nt tc, .slice sA d.s.nt sc, .slice zA d.s.nd zc, .slice cA d.nz cc, .slice wA (d.s.nt - 1) wc] 29) 44 #[.int .i64 (ta : Int), .slice xA xL.length xc, .int .i64 (lo : Int), .int .i64 (hi : Int)])
 have HCA := Lib.hid (fun (V : World) (hb : Below w.heap.size w V) => (show Calls Tryz.prog 58 #[.agg #[.int .i64 (d.s.W : Int), .int .i64 (d.s.H : Int), .slice dA d.s.nd dc, .slice tA d.s.nt tc, .slice sA d.s.nt sc, .slice zA d.s.nd zc, .slice cA d.nz cc, .slice wA (d.s.nt - 1) wc], .agg #[.int .i64 (ta : Int), .slice xA xL.length xc, .int .i64 (lo : Int), .int .i64 (hi : Int)], .slice hA hn hc] V fun e w' => e = .returned (.int .i64 0) ∧ Below V.heap.size V w' from by
  have h := rcheckall_any (dc := dc) (tc := tc) (sc := sc) (zc := zc) (cc := cc) (wc := wc) (xc := xc) (hc := hc) (W := d.s.W) (H := d.s.H) (at_ := (ta : Int)) (lo := (lo : Int)) (hi := (hi : Int)) (show d.s.nd ≤ maxLen by unfold maxLen; omega) (show d.s.nt ≤ maxLen by unfold maxLen; omega) (show d.s.nt ≤ maxLen by unfold maxLen; omega) (show d.s.nd ≤ maxLen by unfold maxLen; omega) (show d.nz ≤ maxLen by have := hd.z4; unfold maxLen; omega) (show d.s.nt - 1 ≤ maxLen by unfold maxLen; omega) (hR.below (hb.mono hB)) (Nat.le_trans hB hb.size) (hx3.below (hb.mono hB)) hx4 (hRS.below (hb.mono hB)) hhn
  rw [hX, hS, hd.chk hcl] at h
  exact h))
 obtain ⟨m, hm⟩ : ∃ m, m = d.s.nt - 1 - ta := ⟨_, rfl⟩
 have HM := Lib.hid (show ta + m + 1 = d.s.nt by omega)
 have hhn12 : hn ≤ 12 := by have h := hS; unfold chkS at h; simp only [Bool.and_eq_true, decide_eq_true_eq] at h; exact h.1
 have HTA := Lib.hid (fun (V : World) (hb : Below w.heap.size w V) => rtable_any (dc := dc) (tc := tc) (sc := sc) (zc := zc) (cc := cc) (wc := wc) (xc := xc) (xA := xA) (xL := xL) hd hcl (hR.below (hb.mono hB)) (Nat.le_trans hB hb.size) hta hlo hhi)
 have HLW := Lib.hid (fun (V : World) (hb : Below w.heap.size w V) (b : Nat) (v : Value) (hT : TabV V b d.s.nd m (hi - lo + 1) (fun k => movF d ta ((lo : Int) + k)) v) => rleeways_any (dc := dc) (tc := tc) (sc := sc) (zc := zc) (cc := cc) (wc := wc) (xc := xc) (zA := zA) (cA := cA) (wA := wA) (dA := dA) (tA := tA) (sA := sA) (hc := hc) hd HM.out hlo hhi rfl (Nat.le_trans hB hb.size) (hx3.below (hb.mono hB)) hx4 (hRS.below (hb.mono hB)) hhn hT)
 have HCF := Lib.hid (fun (V : World) (hb : Below w.heap.size w V) (b : Nat) (v : Value) (hT : TabV V b d.s.nd m (hi - lo + 1) (fun k => movF d ta ((lo : Int) + k)) v) => rconflict_any (dc := dc) (tc := tc) (sc := sc) (zc := zc) (cc := cc) (wc := wc) (xc := xc) (zA := zA) (cA := cA) (wA := wA) (dA := dA) (tA := tA) (sA := sA) (hc := hc) (yA := none) (yn := 0) (yc := 0) (Ss := Xs) (g := strG d (ta : Int) (lo : Int) (hi : Int) xL Xs 0 (-1)) hd HM.out hlo hhi rfl (Nat.le_trans hB hb.size) (hx3.below (hb.mono hB)) hx4 (hRS.below (hb.mono hB)) hhn12 (.inl rfl) (by omega) hT conf_g)
 rw [← hm] at HTA
 have hlen : (leeL d (ta : Int) (lo : Int) (hi : Int) xL hn Xs).length ≤ 9 := by unfold leeL; refine Nat.le_trans M.spanL_len ?_; omega
 have HFA := Lib.hid (free_all (d := d) (ta := ta) (lo := (lo : Int)) (hi := (hi : Int)) (xL := xL) (hn := hn) (Xs := Xs))
 generalize leeL d (ta : Int) (lo : Int) (hi : Int) xL hn Xs = L at HLW hlen HFA
 generalize castL (M.kp (strG d (ta : Int) (lo : Int) (hi : Int) xL Xs 0 (-1)) hn hn) = KL at HCF ⊢
 obtain ⟨q, hq⟩ : ∃ q, q = strP d (ta : Int) (lo : Int) (hi : Int) xL hn Xs 0 (-1) := ⟨_, rfl⟩
 rw [← hq] at HFA ⊢
 clear hq hR hd hcl hB hx3 hRS hX hS hm hxl ha1 ha2 hl1 hl2 hl3
 go_enter Tryz.func24, Tryz.ntmps24
 go_upto_region 1 with fail
 generalize (w.alloc (.cells #[.int .i64 (d.s.W : Int), .int .i64 (d.s.H : Int), .slice dA d.s.nd dc, .slice tA d.s.nt tc, .slice sA d.s.nt sc, .slice zA d.s.nd zc, .slice cA d.nz cc, .slice wA (d.s.nt - 1) wc] 29)).alloc (.cells #[.int .i64 (ta : Int), .slice xA xL.length xc, .int .i64 (lo : Int), .int .i64 (hi : Int)] 44) = X at HB0 K0 X0 ⊢
 have HCX := Lib.hid (HCA.out X HB0.out)
 have k0 := K0.out.cell 0
 have k1 := K0.out.cell 1
 have k2 := K0.out.cell 2
 have k3 := K0.out.cell 3
 have k4 := K0.out.cell 4
 have k5 := K0.out.cell 5
 have k6 := K0.out.cell 6
 have k7 := K0.out.cell 7
 have x0 := X0.out.cell 0
 have x1 := X0.out.cell 1
 have x2 := X0.out.cell 2
 have x3 := X0.out.cell 3
 go_wp2_with fail
 refine HCX.out.mono ?_
 rintro e w1 ⟨rfl, hb⟩
 have HB1 := Lib.hid (HB0.out.trans (hb.mono HB0.out.size))
 have K1 := Lib.hid (K0.out.below' hb)
 have X1 := Lib.hid (X0.out.below' hb)
 clear hb k0 k1 k2 k3 k4 k5 k6 k7 x0 x1 x2 x3 HCX K0 X0 HB0
 have HTX := Lib.hid (HTA.out w1 HB1.out)
 have k0 := K1.out.cell 0
 have k1 := K1.out.cell 1
 have k2 := K1.out.cell 2
 have k3 := K1.out.cell 3
 have k4 := K1.out.cell 4
 have k5 := K1.out.cell 5
 have k6 := K1.out.cell 6
 have k7 := K1.out.cell 7
 have x0 := X1.out.cell 0
 have x1 := X1.out.cell 1
 have x2 := X1.out.cell 2
 have x3 := X1.out.cell 3
 go_wp2_with fail
 refine HTX.out.mono ?_
 rintro e w2 ⟨⟨v2, rfl, ht2⟩, hb⟩
 obtain ⟨tA2, tc2, rfl⟩ := LiV.form ht2
 have HT2 := Lib.hid ht2
 have HB2 := Lib.hid (HB1.out.trans (hb.mono HB1.out.size))
 have K2 := Lib.hid (K1.out.below' hb)
 have X2 := Lib.hid (X1.out.below' hb)
 clear hb ht2 k0 k1 k2 k3 k4 k5 k6 k7 x0 x1 x2 x3 HTX HTA K1 X1 HB1
 have HLX := Lib.hid (HLW.out w2 HB2.out _ _ HT2.out)
 have k0 := K2.out.cell 0
 have k1 := K2.out.cell 1
 have k2 := K2.out.cell 2
 have k3 := K2.out.cell 3
 have k4 := K2.out.cell 4
 have k5 := K2.out.cell 5
 have k6 := K2.out.cell 6
 have k7 := K2.out.cell 7
 have x0 := X2.out.cell 0
 have x1 := X2.out.cell 1
 have x2 := X2.out.cell 2
 have x3 := X2.out.cell 3
 go_wp2_with fail
 refine HLX.out.mono ?_
 rintro e w3 ⟨⟨v3, rfl, hi3⟩, hb⟩
 obtain ⟨lA3, lc3, rfl⟩ := Own.form hi3
 have HT3 := Lib.hid (TabV.below HT2.out hb)
 have HB3 := Lib.hid (HB2.out.trans (hb.mono HB2.out.size))
 have K3 := Lib.hid (K2.out.below' hb)
 have X3 := Lib.hid (X2.out.below' hb)
 clear hb hi3 k0 k1 k2 k3 k4 k5 k6 k7 x0 x1 x2 x3 HLX HLW K2 X2 HB2 HT2
 by_cases hpos : 0 < L.length
 ·
  have hp1 : decide (0 < L.length) = true := decide_eq_true hpos
  have hp2 : decide ((0 : Int) < (L.length : Int)) = true := decide_eq_true (by omega)
  have HQ := Lib.hid (show q = true from by rw [← HFA.out]; exact hp1)
  go_wp2_with fail
  go_ret2
  exact ⟨HB3.out, .inl ⟨HQ.out, rfl⟩⟩
 ·
  have hp1 : decide (0 < L.length) = false := decide_eq_false hpos
  have hp2 : decide ((0 : Int) < (L.length : Int)) = false := decide_eq_false (by omega)
  have HQ := Lib.hid (show q = false from by rw [← HFA.out]; exact hp1)
  have HCX := Lib.hid (HCF.out w3 HB3.out _ _ HT3.out)
  have k0 := K3.out.cell 0
  have k1 := K3.out.cell 1
  have k2 := K3.out.cell 2
  have k3 := K3.out.cell 3
  have k4 := K3.out.cell 4
  have k5 := K3.out.cell 5
  have k6 := K3.out.cell 6
  have k7 := K3.out.cell 7
  have x0 := X3.out.cell 0
  have x1 := X3.out.cell 1
  have x2 := X3.out.cell 2
  have x3 := X3.out.cell 3
  go_wp2_with fail
  refine HCX.out.mono ?_
  rintro e w4 ⟨⟨v4, rfl, hi4⟩, hb⟩
  have HB4 := Lib.hid (HB3.out.trans (hb.mono HB3.out.size))
  have HI4 := Lib.hid (Own.less hi4 HB3.out.size)
  clear hb hi4
  go_wp2_with fail
  go_ret2
  exact ⟨HB4.out, .inr ⟨HQ.out, _, rfl, HI4.out⟩⟩
end
/-- the place as a sighting, and the table, laid -/
structure StI (X : World) (nd m K : Nat) (F : Nat → Nat → Nat → Nat → Bool) (t : Int) (A : Option Addr) (c' : Nat) (L : List Int) (sn : Bool) (b4 b7 b8 b9 : Bool) (x28 x31 x13 x14 : Value) (V : World) : Prop where
 b : Below X.heap.size X V
 l : IL V 0 (.slice A L.length c') L
 h4 : b4 = true → ∃ g, X.heap.size ≤ g ∧ x28 = .slice (some ⟨g, 0, none⟩) 1 1 ∧ Blk V g 68 #[.int .i64 t, .slice A L.length c', .bool sn]
 h7 : b7 = true → TabV V 0 nd m K F x31
 h8 : b8 = true → x13 = x28
 h9 : b9 = true → x14 = x31
 c8 : b8 = true → b4 = true
 c9 : b9 = true → b7 = true
theorem StI.below {X V V' : World} {nd m K : Nat} {F : Nat → Nat → Nat → Nat → Bool} {t : Int} {A : Option Addr} {c' : Nat} {L : List Int} {sn b4 b7 b8 b9 : Bool} {x28 x31 x13 x14 : Value} (h : StI X nd m K F t A c' L sn b4 b7 b8 b9 x28 x31 x13 x14 V) (hb : Below V.heap.size V V') : StI X nd m K F t A c' L sn b4 b7 b8 b9 x28 x31 x13 x14 V' :=
 ⟨h.b.trans (hb.mono h.b.size), Own.below h.l hb, fun q => by obtain ⟨g, h1, h2, h3⟩ := h.h4 q; exact ⟨g, h1, h2, h3.below' hb⟩, fun q => (h.h7 q).below hb, h.h8, h.h9, h.c8, h.c9⟩
/-- one sighting in a block -/
theorem rdS_one {V : World} {g b c' : Nat} {t : Int} {A : Option Addr} {L : List Int} {sn : Bool} (h : Blk V g 68 #[.int .i64 t, .slice A L.length c', .bool sn]) (hl : IL V b (.slice A L.length c') L) (hn : L.length ≤ maxLen) : RdS V V.heap.size (some ⟨g, 0, none⟩) 1 (fun _ => ⟨t, A, c', L, sn⟩) :=
 .inr ⟨g, 0, rfl, h.lt, fun i hi => by
  obtain rfl : i = 0 := by omega
  exact ⟨⟨h.cell 0, h.cell 1, h.cell 2⟩, IL.rd hl, hn⟩⟩
section
variable {d : M.Dr} {zA cA wA dA tA sA xA hA : Option Addr} {cl : Nat → Nat} {dc tc sc zc cc wc xc hn hc B ta lo hi : Nat} {xL : List Int} {Xs : Nat → SgV} {w : World}
set_option maxRecDepth 100000 in
set_option maxHeartbeats 12800000 in
theorem rStruck_ok (hd : d.Ok) (hcl : ∀ i, i < d.nz → cl i + 1 = d.s.nt) (hR : RdD w B dA tA sA zA cA wA d.s.nd d.s.nt d.s.nt d.s.nd d.nz (d.s.nt - 1) d.s.dep d.s.tide d.s.sw d.z cl d.cu d.wd) (hB : B ≤ w.heap.size) (hx3 : Rd1 w B xA xL.length (fun k => xL.getD k 0)) (hx4 : xL.length ≤ maxLen) (hRS : RdS w B hA hn Xs) (hhn : hn ≤ maxLen)
  (hX : chkX d.s.nd d.s.nt (ta : Int) (lo : Int) (hi : Int) xL = true) (hS : chkS d.s.nd d.s.nt (ta : Int) hn Xs = true) (c t : Int) (hA1 : askB d.s.nd d.s.nt (ta : Int) c t = true) :
  Calls Tryz.prog 26 #[.agg #[.int .i64 (d.s.W : Int), .int .i64 (d.s.H : Int), .slice dA d.s.nd dc, .slice tA d.s.nt tc, .slice sA d.s.nt sc, .slice zA d.s.nd zc, .slice cA d.nz cc, .slice wA (d.s.nt - 1) wc], .agg #[.int .i64 (ta : Int), .slice xA xL.length xc, .int .i64 (lo : Int), .int .i64 (hi : Int)], .slice hA hn hc, .int .i64 c, .int .i64 t] w fun e w' => Below w.heap.size w w' ∧ ((strP d (ta : Int) (lo : Int) (hi : Int) xL hn Xs c t = true ∧ e = .returned (.tuple #[.slice none 0 0, .int .i64 3])) ∨ (strP d (ta : Int) (lo : Int) (hi : Int) xL hn Xs c t = false ∧ ∃ v, e = .returned (.tuple #[v, .int .i64 0]) ∧ IL w' w.heap.size v (castL (M.kp (strG d (ta : Int) (lo : Int) (hi : Int) xL Xs c t) hn hn)))) := by
 have hnd := hd.s.nd1
 have hnt := hd.s.t2
 obtain ⟨⟨ha1, ha2⟩, hxl, -, hl1, hl2, hl3⟩ := chkX_bd hX
 have hta : ta < d.s.nt := by omega
 have hlo : lo ≤ hi := by omega
 have hhi : hi ≤ 8 := by omega
 have HB0 := Lib.hid (belowAlloc2 w (.cells #[.int .i64 (d.s.W : Int), .int .i64 (d.s.H : Int), .slice dA d.s.nd dc, .slice tA d.s.nt tc, .slice sA d.s.nt sc, .slice zA d.s.nd zc, .slice cA d.nz cc, .slice wA (d.s.nt - 1) wc] 29) (.cells #[.int .i64 (ta : Int), .slice xA xL.length xc, .int .i64 (lo : Int), .int .i64 (hi : Int)] 44))
 have K0 := Lib.hid ((Blk.new w 29 #[.int .i64 (d.s.W : Int), .int .i64 (d.s.H : Int), .slice dA d.s.nd dc, .slice tA d.s.nt tc, .slice sA d.s.nt sc, .slice zA d.s.nd zc, .slice cA d.nz cc, .slice wA (d.s.nt - 1) wc]).alloc (.cells #[.int .i64 (ta : Int), .slice xA xL.length xc, .int .i64 (lo : Int), .int .i64 (hi : Int)] 44))
 have X0 := Lib.hid (Blk.new1 w (.cells #[.int .i64 (d.s.W : Int), .int .i64 (d.s.H : Int), .slice dA d.s.nd dc, .slice tA d.s.nt tc, .slice sA d.s.nt sc, .slice zA d.s.nd zc, .slice cA d.nz cc, .slice wA (d.s.nt - 1) wc] 29) 44 #[.int .i64 (ta : Int), .slice xA xL.length xc, .int .i64 (lo : Int), .int .i64 (hi : Int)])
 have hc1 : -1 ≤ c := by unfold askB at hA1; rw [Bool.and_eq_true, Bool.or_eq_true, decide_eq_true_eq, M.inB_iff] at hA1; omega
 have HCA := Lib.hid (fun (V : World) (hb : Below w.heap.size w V) => (show Calls Tryz.prog 28 #[.agg #[.int .i64 (d.s.W : Int), .int .i64 (d.s.H : Int), .slice dA d.s.nd dc, .slice tA d.s.nt tc, .slice sA d.s.nt sc, .slice zA d.s.nd zc, .slice cA d.nz cc, .slice wA (d.s.nt - 1) wc], .agg #[.int .i64 (ta : Int), .slice xA xL.length xc, .int .i64 (lo : Int), .int .i64 (hi : Int)], .slice hA hn hc, .int .i64 c, .int .i64 t] V fun e w' => e = .returned (.int .i64 0) ∧ Below V.heap.size V w' from by
  have h := rcheckat_any (dc := dc) (tc := tc) (sc := sc) (zc := zc) (cc := cc) (wc := wc) (xc := xc) (hc := hc) (W := d.s.W) (H := d.s.H) (at_ := (ta : Int)) (lo := (lo : Int)) (hi := (hi : Int)) (show d.s.nd ≤ maxLen by unfold maxLen; omega) (show d.s.nt ≤ maxLen by unfold maxLen; omega) (show d.s.nt ≤ maxLen by unfold maxLen; omega) (show d.s.nd ≤ maxLen by unfold maxLen; omega) (show d.nz ≤ maxLen by have := hd.z4; unfold maxLen; omega) (show d.s.nt - 1 ≤ maxLen by unfold maxLen; omega) (hR.below (hb.mono hB)) (Nat.le_trans hB hb.size) (hx3.below (hb.mono hB)) hx4 (hRS.below (hb.mono hB)) hhn c t
  rw [hX, hS, hd.chk hcl, if_pos (show begE true true true = 0 from rfl), hA1, if_pos rfl] at h
  exact h))
 obtain ⟨m, hm⟩ : ∃ m, m = d.s.nt - 1 - ta := ⟨_, rfl⟩
 have HM := Lib.hid (show ta + m + 1 = d.s.nt by omega)
 have hhn12 : hn ≤ 12 := by have h := hS; unfold chkS at h; simp only [Bool.and_eq_true, decide_eq_true_eq] at h; exact h.1
 have HTA := Lib.hid (fun (V : World) (hb : Below w.heap.size w V) => rtable_any (dc := dc) (tc := tc) (sc := sc) (zc := zc) (cc := cc) (wc := wc) (xc := xc) (xA := xA) (xL := xL) hd hcl (hR.below (hb.mono hB)) (Nat.le_trans hB hb.size) hta hlo hhi)
 have HAT := Lib.hid (fun (V : World) => rAt_any (dc := dc) (tc := tc) (sc := sc) (zc := zc) (cc := cc) (wc := wc) (zA := zA) (cA := cA) (wA := wA) (dA := dA) (tA := tA) (sA := sA) (W := (d.s.W : Int)) (H := (d.s.H : Int)) (nt := d.s.nt) (ns := d.s.nt) (zn := d.s.nd) (cn := d.nz) (wn := d.s.nt - 1) (nd := d.s.nd) (w := V) (by omega) c t hc1)
 have HLW := Lib.hid (fun (V : World) (hb : Below w.heap.size w V) (v : Value) (hT : TabV V 0 d.s.nd m (hi - lo + 1) (fun k => movF d ta ((lo : Int) + k)) v) (A : Option Addr) (c n : Nat) (Ys : Nat → SgV) (hS : RdS V V.heap.size A n Ys) (hn1 : n ≤ maxLen) => rleeways_any (dc := dc) (tc := tc) (sc := sc) (zc := zc) (cc := cc) (wc := wc) (xc := xc) (zA := zA) (cA := cA) (wA := wA) (dA := dA) (tA := tA) (sA := sA) (hc := c) (Xs := Ys) (B := V.heap.size) hd HM.out hlo hhi rfl (Nat.le_refl _) ((hx3.below (hb.mono hB)).more (Nat.le_trans hB hb.size)) hx4 hS hn1 hT)
 have HCF := Lib.hid (fun (V : World) (hb : Below w.heap.size w V) (v : Value) (hT : TabV V 0 d.s.nd m (hi - lo + 1) (fun k => movF d ta ((lo : Int) + k)) v) (A : Option Addr) (c2 : Nat) (Ss : Nat → SgV) (hSS : RdS V V.heap.size A 1 Ss) (hs : M.AtS d.s.nd c t (Ss 0).sg) => rconflict_any (dc := dc) (tc := tc) (sc := sc) (zc := zc) (cc := cc) (wc := wc) (xc := xc) (zA := zA) (cA := cA) (wA := wA) (dA := dA) (tA := tA) (sA := sA) (hc := hc) (yA := A) (yn := 1) (yc := c2) (Ss := Ss) (B := V.heap.size) (g := strG d (ta : Int) (lo : Int) (hi : Int) xL Xs c t) hd HM.out hlo hhi rfl (Nat.le_refl _) ((hx3.below (hb.mono hB)).more (Nat.le_trans hB hb.size)) hx4 ((hRS.below (hb.mono hB)).more (Nat.le_trans hB hb.size)) hhn12 hSS (by omega) hT (struck_g hs))
 have HSA := Lib.hid (fun (Ss : Nat → SgV) (hs : M.AtS d.s.nd c t (Ss 0).sg) => struck_all (d := d) (ta := ta) (lo := (lo : Int)) (hi := (hi : Int)) (xL := xL) (hn := hn) (Xs := Xs) hs)
 have HXR := Lib.hid (fun (V : World) (hb : Below w.heap.size w V) (i : Nat) (hi : i < hn) => (show Rd1 V V.heap.size (Xs i).A (Xs i).L.length (fun q => (Xs i).L.getD q 0) ∧ (Xs i).L.length ≤ maxLen from by obtain ⟨_, _, _, _, _, _, _, h1, h2⟩ := ((hRS.below (hb.mono hB)).more (Nat.le_trans hB hb.size)).at_ hi; exact ⟨h1, h2⟩))
 have HYV := Lib.hid (fun (V : World) (hb : Below w.heap.size w V) => rdS_v ((hRS.below (hb.mono hB)).more (Nat.le_trans hB hb.size)))
 rw [← hm] at HTA
 generalize castL (M.kp (strG d (ta : Int) (lo : Int) (hi : Int) xL Xs c t) hn hn) = KL at HCF ⊢
 obtain ⟨q, hq⟩ : ∃ q, q = strP d (ta : Int) (lo : Int) (hi : Int) xL hn Xs c t := ⟨_, rfl⟩
 rw [← hq] at HSA ⊢
 obtain ⟨j0, ki, kz0, kz1, kz2⟩ := info_parts sg_info
 have MJ := Lib.hid (And.intro ki (And.intro kz0 (And.intro kz1 kz2)))
 clear ki kz0 kz1 kz2 hq hR hd hcl hB hx3 hRS hX hS hm hxl ha1 ha2 hl1 hl2 hl3 hA1 hc1 hx4
 go_enter Tryz.func26, Tryz.ntmps26
 go_upto_region 1 with fail
 generalize (w.alloc (.cells #[.int .i64 (d.s.W : Int), .int .i64 (d.s.H : Int), .slice dA d.s.nd dc, .slice tA d.s.nt tc, .slice sA d.s.nt sc, .slice zA d.s.nd zc, .slice cA d.nz cc, .slice wA (d.s.nt - 1) wc] 29)).alloc (.cells #[.int .i64 (ta : Int), .slice xA xL.length xc, .int .i64 (lo : Int), .int .i64 (hi : Int)] 44) = X at HB0 K0 X0 ⊢
 have HCX := Lib.hid (HCA.out X HB0.out)
 have k0 := K0.out.cell 0
 have k1 := K0.out.cell 1
 have k2 := K0.out.cell 2
 have k3 := K0.out.cell 3
 have k4 := K0.out.cell 4
 have k5 := K0.out.cell 5
 have k6 := K0.out.cell 6
 have k7 := K0.out.cell 7
 have x0 := X0.out.cell 0
 have x1 := X0.out.cell 1
 have x2 := X0.out.cell 2
 have x3 := X0.out.cell 3
 go_wp2_with fail
 refine HCX.out.mono ?_
 rintro e w1 ⟨rfl, hb⟩
 have HB1 := Lib.hid (HB0.out.trans (hb.mono HB0.out.size))
 have K1 := Lib.hid (K0.out.below' hb)
 have X1 := Lib.hid (X0.out.below' hb)
 clear hb k0 k1 k2 k3 k4 k5 k6 k7 x0 x1 x2 x3 HCX K0 X0 HB0
 go_upto_region 4 with fail
 refine wp_nopanic ?_
 refine wp_region_T 9 (fun w' => Below w1.heap.size w1 w') (by kernel_rfl) (Below.refl _ _).drew ?_
 intro hS
 refine takeK (i := 0) (v := ?_) rfl (by kernel_rfl) (.inl ⟨by kernel_rfl, ?_⟩) hS ?_
 rotate_left
 · (intro w' hw; have k0 := (K1.out.below' hw).cell 0; have k1 := (K1.out.below' hw).cell 1; have k2 := (K1.out.below' hw).cell 2; have k3 := (K1.out.below' hw).cell 3; have k4 := (K1.out.below' hw).cell 4; have k5 := (K1.out.below' hw).cell 5; have k6 := (K1.out.below' hw).cell 6; have k7 := (K1.out.below' hw).cell 7; go_simp; try with_reducible rfl)
 try simp only [put_laws]
 refine takeK (i := 1) (v := ?_) rfl (by kernel_rfl) (.inl ⟨by kernel_rfl, ?_⟩) hS ?_
 rotate_left
 · (intro w' hw; go_simp; try with_reducible rfl)
 try simp only [put_laws]
 refine takeK (i := 2) (v := ?_) rfl (by kernel_rfl) (.inl ⟨by kernel_rfl, ?_⟩) hS ?_
 rotate_left
 · (intro w' hw; go_simp; try with_reducible rfl)
 try simp only [put_laws]
 refine takeK (i := 5) (v := ?_) rfl (by kernel_rfl) (.inl ⟨by kernel_rfl, ?_⟩) hS ?_
 rotate_left
 · (intro w' hw; have k0 := (K1.out.below' hw).cell 0; have k1 := (K1.out.below' hw).cell 1; have k2 := (K1.out.below' hw).cell 2; have k3 := (K1.out.below' hw).cell 3; have k4 := (K1.out.below' hw).cell 4; have k5 := (K1.out.below' hw).cell 5; have k6 := (K1.out.below' hw).cell 6; have k7 := (K1.out.below' hw).cell 7; go_simp; try with_reducible rfl)
 try simp only [put_laws]
 refine takeK (i := 6) (v := ?_) rfl (by kernel_rfl) (.inl ⟨by kernel_rfl, ?_⟩) hS ?_
 rotate_left
 · (intro w' hw; have x0 := (X1.out.below' hw).cell 0; have x1 := (X1.out.below' hw).cell 1; have x2 := (X1.out.below' hw).cell 2; have x3 := (X1.out.below' hw).cell 3; go_simp; try with_reducible rfl)
 try simp only [put_laws]
 refine wpAnyT_one (i := 3) (by kernel_rfl) rfl ?_
 intro K' hK'
 go_simp
 refine (HAT.out w1.drew).mono ?_
 rintro e w5 ⟨⟨A, c', L, sn, rfl, hl5, hs5, hn5⟩, hb5⟩
 have hS1 : Below w1.heap.size w1 w5 := hS.trans (hb5.mono (Nat.le_refl _))
 refine hK'.out _ _ (.inr hS1) ?_
 clear hK' K'
 try simp only [put_laws]
 have HNL := Lib.hid hn5
 clear hn5
 have HSS := Lib.hid hs5
 have HL5 := Lib.hid hl5
 clear hs5 hl5 hb5 hS
 refine wpAnyT_inv (fun listed a V => ∃ (b4 b7 b8 b9 : Bool) (x28 x31 x13 x14 : Value), listed = #[true, true, true, true, b4, true, true, b7, b8, b9] ∧ a = { tmps := List.toArray (.agg #[.int .i64 (d.s.W : Int), .int .i64 (d.s.H : Int), .slice dA d.s.nd dc, .slice tA d.s.nt tc, .slice sA d.s.nt sc, .slice zA d.s.nd zc, .slice cA d.nz cc, .slice wA (d.s.nt - 1) wc] :: .agg #[.int .i64 (ta : Int), .slice xA xL.length xc, .int .i64 (lo : Int), .int .i64 (hi : Int)] :: .slice hA hn hc :: .int .i64 c :: .int .i64 t :: .pointer (some ⟨w.heap.size, 0, none⟩) :: .pointer (some ⟨w.heap.size + 1, 0, none⟩) :: undef :: undef :: undef :: .slice none 0 0 :: .int .i64 0 :: .int .i64 0 :: x13 :: x14 :: .agg #[.int .i64 (d.s.W : Int), .int .i64 (d.s.H : Int), .slice dA d.s.nd dc, .slice tA d.s.nt tc, .slice sA d.s.nt sc, .slice zA d.s.nd zc, .slice cA d.nz cc, .slice wA (d.s.nt - 1) wc] :: .agg #[.int .i64 (ta : Int), .slice xA xL.length xc, .int .i64 (lo : Int), .int .i64 (hi : Int)] :: .slice hA hn hc :: .int .i64 c :: .int .i64 t :: .int .i64 0 :: .int .i64 0 :: .bool false :: undef :: .agg #[.int .i64 (d.s.W : Int), .int .i64 (d.s.H : Int), .slice dA d.s.nd dc, .slice tA d.s.nt tc, .slice sA d.s.nt sc, .slice zA d.s.nd zc, .slice cA d.nz cc, .slice wA (d.s.nt - 1) wc] :: .int .i64 c :: .int .i64 t :: .agg #[.int .i64 t, .slice A L.length c', .bool sn] :: x28 :: .agg #[.int .i64 (d.s.W : Int), .int .i64 (d.s.H : Int), .slice dA d.s.nd dc, .slice tA d.s.nt tc, .slice sA d.s.nt sc, .slice zA d.s.nd zc, .slice cA d.nz cc, .slice wA (d.s.nt - 1) wc] :: .agg #[.int .i64 (ta : Int), .slice xA xL.length xc, .int .i64 (lo : Int), .int .i64 (hi : Int)] :: x31 :: undef :: undef :: undef :: undef :: undef :: undef :: undef :: undef :: undef :: undef :: undef :: undef :: undef :: undef :: undef :: undef :: undef :: []), defers := [] } ∧ StI w1 d.s.nd m (hi - lo + 1) (fun k => movF d ta ((lo : Int) + k)) t A c' L sn b4 b7 b8 b9 x28 x31 x13 x14 V) ?_ ?_ _ _ _ _ (of_decide_eq_true (by kernel_rfl)) ?_
 rotate_left 2
 · exact ⟨false, false, false, false, undef, undef, undef, undef, rfl, rfl, ⟨hS1, Own.less HL5.out (Nat.zero_le _), fun h => (by cases h), fun h => (by cases h), fun h => (by cases h), fun h => (by cases h), fun h => (by cases h), fun h => (by cases h)⟩⟩
 rotate_left
 ·
  rintro listed a V i o hlt hun hall ho ⟨b4, b7, b8, b9, x28, x31, x13, x14, rfl, rfl, hI⟩ K' hK'
  have hi' : i = 0 ∨ i = 1 ∨ i = 2 ∨ i = 3 ∨ i = 4 ∨ i = 5 ∨ i = 6 ∨ i = 7 ∨ i = 8 ∨ i = 9 := by have hlt' : i < 10 := hlt; omega
  rcases hi' with rfl | rfl | rfl | rfl | rfl | rfl | rfl | rfl | rfl | rfl
  · exact absurd hun (by simp)
  · exact absurd hun (by simp)
  · exact absurd hun (by simp)
  · exact absurd hun (by simp)
  ·
   obtain rfl : b4 = false := hun
   obtain rfl : b8 = false := by
    cases hb : b8
    · rfl
    · have := hI.c8 hb; cases this
   have ho' := Option.some.inj ho
   subst ho'
   go_simp
   try simp only [put_laws]
   exact hK'.out _ _ (.inr (hI.b.alloc hI.b.size _)) ⟨true, b7, false, b9, _, _, _, _, rfl, rfl, { hI.below (belowAlloc _ _) with h4 := fun _ => ⟨_, hI.b.size, rfl, Blk.new _ _ _⟩, h8 := fun h => (by cases h), c8 := fun h => (by cases h) }⟩
  · exact absurd hun (by simp)
  · exact absurd hun (by simp)
  ·
   obtain rfl : b7 = false := hun
   obtain rfl : b9 = false := by
    cases hb : b9
    · rfl
    · have := hI.c9 hb; cases this
   have ho' := Option.some.inj ho
   subst ho'
   go_simp
   refine (HTA.out V (HB1.out.trans (hI.b.mono HB1.out.size))).mono ?_
   rintro e w6 ⟨⟨v6, rfl, ht6⟩, hb6⟩
   try simp only [put_laws]
   exact hK'.out _ _ (.inr (hI.b.trans (hb6.mono hI.b.size))) ⟨b4, true, b8, false, _, _, _, _, rfl, rfl, { hI.below hb6 with h7 := fun _ => ht6.less (Nat.zero_le _), h9 := fun h => (by cases h), c9 := fun h => (by cases h) }⟩
  ·
   obtain rfl : b8 = false := hun
   have ho' := Option.some.inj ho
   subst ho'
   have hc4 : b4 = true := hall _ (Array.mem_of_getElem? (i := 0) rfl) rfl
   go_simp
   try simp only [put_laws]
   exact hK'.out _ _ (.inr hI.b) ⟨b4, b7, true, b9, _, _, _, _, rfl, rfl, { hI with h8 := fun _ => rfl, c8 := fun _ => hc4 }⟩
  ·
   obtain rfl : b9 = false := hun
   have ho' := Option.some.inj ho
   subst ho'
   have hc7 : b7 = true := hall _ (Array.mem_of_getElem? (i := 0) rfl) rfl
   go_simp
   try simp only [put_laws]
   exact hK'.out _ _ (.inl rfl) ⟨b4, b7, b8, true, _, _, _, _, rfl, rfl, { hI with h9 := fun _ => rfl, c9 := fun _ => hc7 }⟩
 rintro listed a V hr ⟨b4, b7, b8, b9, x28, x31, x13, x14, rfl, rfl, hI⟩
 have hall : b4 = true ∧ b7 = true ∧ b8 = true ∧ b9 = true := by
  clear hI
  cases b4 <;> cases b7 <;> cases b8 <;> cases b9 <;> first | exact ⟨rfl, rfl, rfl, rfl⟩ | exact absurd hr (of_decide_eq_false (by kernel_rfl))
 obtain ⟨rfl, rfl, rfl, rfl⟩ := hall
 refine ⟨fun x e => (by cases e), ?_⟩
 obtain ⟨g, hg, rfl, hk⟩ := hI.h4 rfl
 obtain rfl := hI.h8 rfl
 obtain rfl := hI.h9 rfl
 obtain ⟨tA2, tc2, e2⟩ := LiV.form (hI.h7 rfl)
 subst e2
 have HT2 := Lib.hid (hI.h7 rfl)
 have HS2 := Lib.hid hk
 have HL2 := Lib.hid hI.l
 have HB2 := Lib.hid (HB1.out.trans (hI.b.mono HB1.out.size))
 have K2 := Lib.hid (K1.out.below' hI.b)
 have X2 := Lib.hid (X1.out.below' hI.b)
 clear hk hg hr hS1 hI HL5 K1 X1 HB1
 obtain ⟨w2, rfl⟩ : ∃ w2, w2 = V := ⟨_, rfl⟩
 obtain ⟨Ss, hSs⟩ : ∃ S : Nat → SgV, S = (fun _ => ⟨t, A, c', L, sn⟩) := ⟨_, rfl⟩
 have HSE := Lib.hid (show M.AtS d.s.nd c t (Ss 0).sg from by rw [hSs]; exact HSS.out)
 have HRO := Lib.hid (fun (V : World) (hb : Below w2.heap.size w2 V) => (show RdS V V.heap.size (some ⟨g, 0, none⟩) 1 Ss from by rw [hSs]; exact rdS_one (HS2.out.below' hb) (Own.below HL2.out hb) (Nat.le_trans HNL.out (by unfold maxLen; omega))))
 clear hSs
 go_upto_region 5 with fail
 refine wp_nopanic ?_
 refine wp_region_T 10 (fun w' => Below w2.heap.size w2 w') (by kernel_rfl) (Below.refl _ _).drew ?_
 intro hS
 refine takeK (i := 0) (v := ?_) rfl (by kernel_rfl) (.inl ⟨by kernel_rfl, ?_⟩) hS ?_
 rotate_left
 · (intro w' hw; have k0 := (K2.out.below' hw).cell 0; have k1 := (K2.out.below' hw).cell 1; have k2 := (K2.out.below' hw).cell 2; have k3 := (K2.out.below' hw).cell 3; have k4 := (K2.out.below' hw).cell 4; have k5 := (K2.out.below' hw).cell 5; have k6 := (K2.out.below' hw).cell 6; have k7 := (K2.out.below' hw).cell 7; go_simp; try with_reducible rfl)
 try simp only [put_laws]
 refine takeK (i := 1) (v := ?_) rfl (by kernel_rfl) (.inl ⟨by kernel_rfl, ?_⟩) hS ?_
 rotate_left
 · (intro w' hw; have x0 := (X2.out.below' hw).cell 0; have x1 := (X2.out.below' hw).cell 1; have x2 := (X2.out.below' hw).cell 2; have x3 := (X2.out.below' hw).cell 3; go_simp; try with_reducible rfl)
 try simp only [put_laws]
 refine takeK (i := 3) (v := ?_) rfl (by kernel_rfl) (.inl ⟨by kernel_rfl, ?_⟩) hS ?_
 rotate_left
 · (intro w' hw; go_simp; try with_reducible rfl)
 try simp only [put_laws]
 refine takeK (i := 5) (v := ?_) rfl (by kernel_rfl) (.inl ⟨by kernel_rfl, ?_⟩) hS ?_
 rotate_left
 · (intro w' hw; go_simp; try with_reducible rfl)
 try simp only [put_laws]
 refine takeK (i := 7) (v := ?_) rfl (by kernel_rfl) (.inl ⟨by kernel_rfl, ?_⟩) hS ?_
 rotate_left
 · (intro w' hw; go_simp; try with_reducible rfl)
 try simp only [put_laws]
 refine wpAnyT_one (i := 2) (by kernel_rfl) rfl ?_
 intro K' hK'
 go_simp
 refine hK'.out _ _ (.inr (hS.alloc hS.size _)) ?_
 clear hK' K'
 try simp only [put_laws]
 have hS1 := hS.alloc hS.size (.cells #[] 68)
 refine wpAnyT_one (i := 4) (by kernel_rfl) rfl ?_
 intro K' hK'
 refine step_copy (by rfl) (.tmp 34) (.tmp 35) 45 (by rfl) 68 j0 _ 3 40 Tryz.underlying45 MJ.out.1 MJ.out.2.1 MJ.out.2.2.1 MJ.out.2.2.2 rfl (by omega) (by omega) (by rfl) (Blk.new _ _ _) (sgG_one Xs) (by rfl) ((HYV.out w2 HB2.out).below hS1) (by omega) ?_
 intro A5 c5 w5 ho5 hb5
 have hS2 := hS1.trans (hb5.mono hS1.size)
 refine hK'.out _ _ (.inr hS2) ?_
 clear hK' K'
 try simp only [put_laws]
 refine wpAnyT_one (i := 6) (by kernel_rfl) rfl ?_
 intro K' hK'
 refine step_cat (by rfl) (.tmp 36) (.tmp 37) 45 (by rfl) 68 j0 _ 3 40 Tryz.underlying45 MJ.out.1 MJ.out.2.1 MJ.out.2.2.1 MJ.out.2.2.2 rfl (by omega) (by omega) (by rfl) ho5 (by omega) hS2.size (sgG_one Ss) (by rfl) (rdS_v (HRO.out w5 hS2)) (by omega) ?_
 intro v7 w7 o7 hg7 _
 have hS3 : Below w2.heap.size w2 w7 := hS2.grown hg7 hS2.size fun r e => (Own.block ho5 e).1
 obtain ⟨A7, c7, e7⟩ := o7.form
 subst e7
 refine hK'.out _ _ (.inr hS3) ?_
 clear hK' K'
 try simp only [put_laws]
 have HB7 := Lib.hid (HB2.out.trans (hS3.mono HB2.out.size))
 have HGD := Lib.hid (show ∀ p, p < hn → (List.range hn).getD p 0 = p from fun p hp => by rw [List.getD_eq_getElem?_getD, List.getElem?_range hp, Option.getD_some])
 have HLX7 := Lib.hid (HLW.out w7 HB7.out _ (TabV.below HT2.out hS3) A7 c7 (hn + 1) (catX hn Xs Ss (List.range hn)) (RdS.of_cat (o7.congr fun p q hp _ => by
   unfold catF
   by_cases e : p < hn
   ·
    rw [if_pos e, if_pos e]
    unfold sgF sgG
    rw [HGD.out p e]
   · rw [if_neg e, if_neg e]) (fun p hp => by rw [HGD.out p hp]; exact HXR.out w7 HB7.out p hp) (fun p hp => by obtain ⟨_, _, _, _, _, _, _, h1, h2⟩ := (HRO.out w7 hS3).at_ hp; exact ⟨h1, h2⟩)) (by unfold maxLen; omega))
 have hgl := HSA.out Ss HSE.out
 obtain ⟨Lw, hLw⟩ : ∃ Lw, Lw = leeL d (ta : Int) (lo : Int) (hi : Int) xL (hn + 1) (catX hn Xs Ss (List.range hn)) := ⟨_, rfl⟩
 rw [← hLw] at HLX7 hgl
 have HGL := Lib.hid hgl
 clear hgl hLw
 refine wpAnyT_one (i := 8) (by kernel_rfl) rfl ?_
 intro K' hK'
 go_simp
 refine HLX7.out.mono ?_
 rintro e w8 ⟨⟨v8, rfl, hi8⟩, hb8⟩
 obtain ⟨A8, c8, e8⟩ := Own.form hi8
 subst e8
 have hS4 : Below w2.heap.size w2 w8 := hS3.trans (hb8.mono hS3.size)
 refine hK'.out _ _ (.inr hS4) ?_
 clear hi8 hb8
 clear hK' K'
 try simp only [put_laws]
 refine wpAnyT_one (i := 9) (by kernel_rfl) rfl ?_
 intro K' hK'
 go_simp
 refine hK'.out _ _ (.inr hS4) ?_
 clear hK' K'
 try simp only [put_laws]
 refine wpAnyT_one (i := 10) (by kernel_rfl) rfl ?_
 intro K' hK'
 go_simp
 refine hK'.out _ _ (.inl rfl) ?_
 clear hK' K'
 try simp only [put_laws]
 refine wpAnyT_done (by kernel_rfl) ?_ _
 refine ⟨fun x e => (by cases e), ?_⟩
 have HB8 := Lib.hid (HB2.out.trans (hS4.mono HB2.out.size))
 have K8 := Lib.hid (K2.out.below' hS4)
 have X8 := Lib.hid (X2.out.below' hS4)
 have HCX := Lib.hid (HCF.out w8 HB8.out _ (TabV.below HT2.out hS4) _ 1 Ss (HRO.out w8 hS4) HSE.out)
 clear hS hS1 hS2 hS3 hS4 ho5 hb5 o7 hg7 HLX7 HB7 HT2 HS2 HL2 HRO K2 X2
 by_cases hpos : 0 < Lw.length
 ·
  have hp1 : decide (0 < Lw.length) = true := decide_eq_true hpos
  have hp2 : decide ((0 : Int) < (Lw.length : Int)) = true := decide_eq_true (by omega)
  have HQ := Lib.hid (show q = true from by rw [← HGL.out]; exact hp1)
  go_wp2_with fail
  go_ret2
  exact ⟨HB8.out, .inl ⟨HQ.out, rfl⟩⟩
 ·
  have hp1 : decide (0 < Lw.length) = false := decide_eq_false hpos
  have hp2 : decide ((0 : Int) < (Lw.length : Int)) = false := decide_eq_false (by omega)
  have HQ := Lib.hid (show q = false from by rw [← HGL.out]; exact hp1)
  have k0 := K8.out.cell 0
  have k1 := K8.out.cell 1
  have k2 := K8.out.cell 2
  have k3 := K8.out.cell 3
  have k4 := K8.out.cell 4
  have k5 := K8.out.cell 5
  have k6 := K8.out.cell 6
  have k7 := K8.out.cell 7
  have x0 := X8.out.cell 0
  have x1 := X8.out.cell 1
  have x2 := X8.out.cell 2
  have x3 := X8.out.cell 3
  go_wp2_with fail
  refine HCX.out.mono ?_
  rintro e w9 ⟨⟨v9, rfl, hi9⟩, hb⟩
  have HB9 := Lib.hid (HB8.out.trans (hb.mono HB8.out.size))
  have HI9 := Lib.hid (Own.less hi9 HB8.out.size)
  clear hb hi9
  go_wp2_with fail
  go_ret2
  exact ⟨HB9.out, .inr ⟨HQ.out, _, rfl, HI9.out⟩⟩
end
end Go.Proofs.YtnbeembnnjdmdaaGreatDoor
