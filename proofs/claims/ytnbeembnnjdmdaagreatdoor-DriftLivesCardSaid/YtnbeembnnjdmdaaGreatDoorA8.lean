/- drift.Alive: a body that is none. -/
import Derived.Test.YtnbeembnnjdmdaaGreatDoorS1
import Derived.Test.YtnbeembnnjdmdaaGreatDoorD31
import Derived.Test.YtnbeembnnjdmdaaGreatDoorG12
namespace Go.Proofs.YtnbeembnnjdmdaaGreatDoor
open Go.RowKit Go.Maps Go.Shelf

section
variable {d : M.Dr} {zA cA wA dA tA sA xA hA bA : Option Addr} {cl : Nat → Nat} {B dc tc sc zc cc wc xc hn hc ta bn bc : Nat} {lo hi s0 s1 : Int} {xL : List Int} {Xs : Nat → SgV} {cs : Nat → Nat → Int} {w : World}
set_option maxRecDepth 100000 in
set_option maxHeartbeats 12800000 in
theorem alive_nob (hd : d.Ok) (hcl : ∀ i, i < d.nz → cl i + 1 = d.s.nt) (hR : RdD w B dA tA sA zA cA wA d.s.nd d.s.nt d.s.nt d.s.nd d.nz (d.s.nt - 1) d.s.dep d.s.tide d.s.sw d.z cl d.cu d.wd) (hB : B ≤ w.heap.size) (hW : Ways w)
  (hx3 : Rd1 w B xA xL.length (fun k => xL.getD k 0)) (hx4 : xL.length ≤ maxLen) (hRS : RdS w B hA hn Xs) (hhn : hn ≤ maxLen) (hX : chkX d.s.nd d.s.nt (ta : Int) lo hi xL = true) (hS : chkS d.s.nd d.s.nt (ta : Int) hn Xs = true) (hb : Rd w B bA 2 bn cs) (hbm : bn ≤ maxLen) (hbo : M.bodB d.nz bn cs s0 s1 = false) :
  Calls Tryz.prog 38 #[.agg #[.int .i64 (d.s.W : Int), .int .i64 (d.s.H : Int), .slice dA d.s.nd dc, .slice tA d.s.nt tc, .slice sA d.s.nt sc, .slice zA d.s.nd zc, .slice cA d.nz cc, .slice wA (d.s.nt - 1) wc], .agg #[.int .i64 (ta : Int), .slice xA xL.length xc, .int .i64 lo, .int .i64 hi], .slice hA hn hc, .agg #[.slice bA bn bc, .int .i64 s0, .int .i64 s1]] w fun e w' => e = .returned (.tuple #[.int .i64 0, .int .i64 0, .int .i64 23]) ∧ Below w.heap.size w w' := by
 obtain ⟨⟨ha1, ha2⟩, hxl, ⟨hx1, hx2⟩, hl1, hl2, hl3⟩ := chkX_bd hX
 have h60 := hd.s.t2
 have hnz := hd.z4
 have hbY := belowAlloc3 w (.cells #[.int .i64 (d.s.W : Int), .int .i64 (d.s.H : Int), .slice dA d.s.nd dc, .slice tA d.s.nt tc, .slice sA d.s.nt sc, .slice zA d.s.nd zc, .slice cA d.nz cc, .slice wA (d.s.nt - 1) wc] 29) (.cells #[.int .i64 (ta : Int), .slice xA xL.length xc, .int .i64 lo, .int .i64 hi] 44) (.cells #[.slice bA bn bc, .int .i64 s0, .int .i64 s1] 73)
 have hO := begin_ok (at_ := (ta : Int)) (lo := lo) (hi := hi) (xc := xc) (hc := hc) (dc := dc) (tc := tc) (sc := sc) (zc := zc) (cc := cc) (wc := wc) hd hcl (hR.below (hbY.mono hB)) (Nat.le_trans hB hbY.size) (hW.below hbY) (hx3.below (hbY.mono hB)) hx4 (hRS.below (hbY.mono hB)) hhn
 have K7 := Lib.hid (Blk.new2 w (.cells #[.int .i64 (d.s.W : Int), .int .i64 (d.s.H : Int), .slice dA d.s.nd dc, .slice tA d.s.nt tc, .slice sA d.s.nt sc, .slice zA d.s.nd zc, .slice cA d.nz cc, .slice wA (d.s.nt - 1) wc] 29) (.cells #[.int .i64 (ta : Int), .slice xA xL.length xc, .int .i64 lo, .int .i64 hi] 44) 73 #[.slice bA bn bc, .int .i64 s0, .int .i64 s1])
 have HO := Lib.hid (hO.mono (R' := fun e w' => ∃ B2 P m1 m2, w.heap.size ≤ B2 ∧ Below w.heap.size w w' ∧ e = .returned (.tuple #[.agg #[.pointer (some ⟨P, 0, none⟩), .int .i64 (ta : Int), .slice xA xL.length xc, .int .i64 lo, .int .i64 hi, .slice hA hn hc], .int .i64 0]) ∧ SeaM d zA cA wA dA tA sA cl B2 P m1 m2 #[.int .i64 (d.s.W : Int), .int .i64 (d.s.H : Int), .slice dA d.s.nd dc, .slice tA d.s.nt tc, .slice sA d.s.nt sc, .slice zA d.s.nd zc, .slice cA d.nz cc, .slice wA (d.s.nt - 1) wc, .map (some m1), .map (some m2)] (own3 P m1 m2) w' ∧ Blk w' (w.heap.size + 2) 73 #[.slice bA bn bc, .int .i64 s0, .int .i64 s1]) fun e w' h => by
  obtain ⟨hb, h⟩ := h
  rcases h with ⟨h1, h2⟩ | ⟨h1, h2, h3⟩ | ⟨h1, h2, B2, P, m1, m2, h3, h4, h5⟩
  · rw [hX] at h1; cases h1
  · rw [hS] at h2; cases h2
  · exact ⟨B2, P, m1, m2, Nat.le_trans hbY.size h3, hbY.trans (hb.mono hbY.size), h4, h5, K7.out.below' hb⟩)
 have HBD := Lib.hid (fun (V : World) (h : Below w.heap.size w V) => hb.below (h.mono hB))
 have HBO := Lib.hid hbo
 clear hO hbY hR hcl hW hx3 hRS hx1 hx2 hX hS hb K7 hbo hd
 go_enter Tryz.func38, Tryz.ntmps38
 go_upto_region 2 with (go_at_call 55; refine HO.out.mono ?_; rintro e w1 ⟨B2, P, m1, m2, hB2, hb, rfl, hM, hk7⟩; have HB1 := Lib.hid hb; have HMM := Lib.hid hM; have K7 := Lib.hid hk7; clear hb hM hB2 hk7)
 have hbl := belowAlloc w1 (.cells #[.pointer (some ⟨P, 0, none⟩), .int .i64 (ta : Int), .slice xA xL.length xc, .int .i64 lo, .int .i64 hi, .slice hA hn hc] 105)
 have K11 := Lib.hid (Blk.new w1 105 #[.pointer (some ⟨P, 0, none⟩), .int .i64 (ta : Int), .slice xA xL.length xc, .int .i64 lo, .int .i64 hi, .slice hA hn hc])
 have HMY := Lib.hid (HMM.out.below hbl)
 have HBY := Lib.hid (HB1.out.trans (hbl.mono HB1.out.size))
 have K7Y := Lib.hid (K7.out.below' hbl)
 simp only [Nat.add_assoc, Nat.reduceAdd]
 generalize hY : w1.alloc (.cells #[.pointer (some ⟨P, 0, none⟩), .int .i64 (ta : Int), .slice xA xL.length xc, .int .i64 lo, .int .i64 hi, .slice hA hn hc] 105) = Y at K11 HMY HBY K7Y ⊢
 clear hY hbl HMM HB1 K7
 generalize w1.heap.size = S at K11 ⊢
 by_cases hbn : bn = d.nz
 ·
  subst hbn
  have g1 : ((d.nz : Int) != (d.nz : Int)) = false := by simp
  cases hal : M.allTo d.nz fun i => M.spanOk 100 (cs i)
  ·
   have HBA := Lib.hid hal
   clear hal HBO
   go_upto_region 4 with fail
   refine wp_nopanic ?_
   refine wp_region_T 25 (fun Z2 => Below Y.heap.size Y Z2) (by kernel_rfl) (Below.refl _ _).drew ?_
   intro hS
   refine tkA (i := 0) (v := ?_) rfl (by kernel_rfl) (.inl ⟨by kernel_rfl, ?_⟩) hS ?_
   rotate_left
   · (intro w' hw; obtain ⟨y0, y1, y2⟩ := (K7Y.out.below' hw).c3; have c0 := (K11.out.below' hw).cell 0; have p6 := (HMY.out.below hw).box.cell 6; go_simp; try with_reducible rfl)
   try simp only [put_laws]
   refine tkA (i := 1) (v := ?_) rfl (by kernel_rfl) (.inl ⟨by kernel_rfl, ?_⟩) hS ?_
   rotate_left
   · (intro w' hw; obtain ⟨y0, y1, y2⟩ := (K7Y.out.below' hw).c3; have c0 := (K11.out.below' hw).cell 0; have p6 := (HMY.out.below hw).box.cell 6; go_simp; try with_reducible rfl)
   try simp only [put_laws]
   refine tkA (i := 2) (v := ?_) rfl (by kernel_rfl) (.inl ⟨by kernel_rfl, ?_⟩) hS ?_
   rotate_left
   · (intro w' hw; obtain ⟨y0, y1, y2⟩ := (K7Y.out.below' hw).c3; have c0 := (K11.out.below' hw).cell 0; have p6 := (HMY.out.below hw).box.cell 6; go_simp; try with_reducible rfl)
   try simp only [put_laws]
   refine tkA (i := 3) (v := ?_) rfl (by kernel_rfl) (.inl ⟨by kernel_rfl, ?_⟩) hS ?_
   rotate_left
   · (intro w' hw; obtain ⟨y0, y1, y2⟩ := (K7Y.out.below' hw).c3; have c0 := (K11.out.below' hw).cell 0; have p6 := (HMY.out.below hw).box.cell 6; go_simp; try with_reducible rfl)
   try simp only [put_laws]
   refine tkA (i := 4) (v := ?_) rfl (by kernel_rfl) (.inl ⟨by kernel_rfl, ?_⟩) hS ?_
   rotate_left
   · (intro w' hw; obtain ⟨y0, y1, y2⟩ := (K7Y.out.below' hw).c3; have c0 := (K11.out.below' hw).cell 0; have p6 := (HMY.out.below hw).box.cell 6; go_simp; try with_reducible rfl)
   try simp only [put_laws]
   refine tkA (i := 5) (v := ?_) rfl (by kernel_rfl) (.inl ⟨by kernel_rfl, ?_⟩) hS ?_
   rotate_left
   · (intro w' hw; obtain ⟨y0, y1, y2⟩ := (K7Y.out.below' hw).c3; have c0 := (K11.out.below' hw).cell 0; have p6 := (HMY.out.below hw).box.cell 6; go_simp; try with_reducible rfl)
   try simp only [put_laws]
   refine tkA (i := 6) (v := ?_) rfl (by kernel_rfl) (.inl ⟨by kernel_rfl, ?_⟩) hS ?_
   rotate_left
   · (intro w' hw; obtain ⟨y0, y1, y2⟩ := (K7Y.out.below' hw).c3; have c0 := (K11.out.below' hw).cell 0; have p6 := (HMY.out.below hw).box.cell 6; go_simp; try with_reducible rfl)
   try simp only [put_laws]
   refine tkA (i := 7) (v := ?_) rfl (by kernel_rfl) (.inl ⟨by kernel_rfl, ?_⟩) hS ?_
   rotate_left
   · (intro w' hw; obtain ⟨y0, y1, y2⟩ := (K7Y.out.below' hw).c3; have c0 := (K11.out.below' hw).cell 0; have p6 := (HMY.out.below hw).box.cell 6; go_simp; try with_reducible rfl)
   try simp only [put_laws]
   refine tkA (i := 8) (v := ?_) rfl (by kernel_rfl) (.inl ⟨by kernel_rfl, ?_⟩) hS ?_
   rotate_left
   · (intro w' hw; obtain ⟨y0, y1, y2⟩ := (K7Y.out.below' hw).c3; have c0 := (K11.out.below' hw).cell 0; have p6 := (HMY.out.below hw).box.cell 6; go_simp; try with_reducible rfl)
   try simp only [put_laws]
   refine tkA (i := 9) (v := ?_) rfl (by kernel_rfl) (.inl ⟨by kernel_rfl, ?_⟩) hS ?_
   rotate_left
   · (intro w' hw; obtain ⟨y0, y1, y2⟩ := (K7Y.out.below' hw).c3; have c0 := (K11.out.below' hw).cell 0; have p6 := (HMY.out.below hw).box.cell 6; go_simp; try with_reducible rfl)
   try simp only [put_laws]
   refine tkA (i := 10) (v := ?_) rfl (by kernel_rfl) (.inl ⟨by kernel_rfl, ?_⟩) hS ?_
   rotate_left
   · (intro w' hw; obtain ⟨y0, y1, y2⟩ := (K7Y.out.below' hw).c3; have c0 := (K11.out.below' hw).cell 0; have p6 := (HMY.out.below hw).box.cell 6; go_simp; try with_reducible rfl)
   try simp only [put_laws]
   refine tkA (i := 11) (v := ?_) rfl (by kernel_rfl) (.inl ⟨by kernel_rfl, ?_⟩) hS ?_
   rotate_left
   · (intro w' hw; obtain ⟨y0, y1, y2⟩ := (K7Y.out.below' hw).c3; have c0 := (K11.out.below' hw).cell 0; have p6 := (HMY.out.below hw).box.cell 6; go_simp; try with_reducible rfl)
   try simp only [put_laws]
   refine tkA (i := 12) (v := ?_) rfl (by kernel_rfl) (.inl ⟨by kernel_rfl, ?_⟩) hS ?_
   rotate_left
   · (intro w' hw; obtain ⟨y0, y1, y2⟩ := (K7Y.out.below' hw).c3; have c0 := (K11.out.below' hw).cell 0; have p6 := (HMY.out.below hw).box.cell 6; go_simp; try with_reducible rfl)
   try simp only [put_laws]
   refine tkA (i := 13) (v := ?_) rfl (by kernel_rfl) (.inl ⟨by kernel_rfl, ?_⟩) hS ?_
   rotate_left
   · (intro w' hw; obtain ⟨y0, y1, y2⟩ := (K7Y.out.below' hw).c3; have c0 := (K11.out.below' hw).cell 0; have p6 := (HMY.out.below hw).box.cell 6; go_simp; try with_reducible rfl)
   try simp only [put_laws]
   refine tkA (i := 14) (v := ?_) rfl (by kernel_rfl) (.inl ⟨by kernel_rfl, ?_⟩) hS ?_
   rotate_left
   · (intro w' hw; obtain ⟨y0, y1, y2⟩ := (K7Y.out.below' hw).c3; have c0 := (K11.out.below' hw).cell 0; have p6 := (HMY.out.below hw).box.cell 6; go_simp; try with_reducible rfl)
   try simp only [put_laws]
   refine tkA (i := 15) (v := ?_) rfl (by kernel_rfl) (.inl ⟨by kernel_rfl, ?_⟩) hS ?_
   rotate_left
   · (intro w' hw; obtain ⟨y0, y1, y2⟩ := (K7Y.out.below' hw).c3; have c0 := (K11.out.below' hw).cell 0; have p6 := (HMY.out.below hw).box.cell 6; go_simp; try with_reducible rfl)
   try simp only [put_laws]
   refine wpAnyT_one (i := 16) (by kernel_rfl) rfl ?_
   intro K' hK'
   go_simp
   refine (dallspan_any bA d.nz bc B cs Y.drew hbm (HBD.out _ (HBY.out.trans (hS.mono HBY.out.size))) (Nat.le_trans hB (Nat.le_trans HBY.out.size hS.size))).mono ?_
   rintro e w6 ⟨rfl, hb6⟩
   rw [HBA.out]
   have HB6 := Lib.hid (hS.trans (hb6.mono hS.size))
   clear hb6 hS
   have hS := HB6.out
   refine hK'.out _ _ (.inr hS) ?_
   clear hK' K'
   try simp only [put_laws]
   refine tkA (i := 17) (v := ?_) rfl (by kernel_rfl) (.inl ⟨by kernel_rfl, ?_⟩) hS ?_
   rotate_left
   · (intro w' hw; obtain ⟨y0, y1, y2⟩ := (K7Y.out.below' hw).c3; have c0 := (K11.out.below' hw).cell 0; have p6 := (HMY.out.below hw).box.cell 6; go_simp; try with_reducible rfl)
   try simp only [put_laws]
   refine tkA (i := 18) (v := ?_) rfl (by kernel_rfl) (.inl ⟨by kernel_rfl, ?_⟩) hS ?_
   rotate_left
   · (intro w' hw; obtain ⟨y0, y1, y2⟩ := (K7Y.out.below' hw).c3; have c0 := (K11.out.below' hw).cell 0; have p6 := (HMY.out.below hw).box.cell 6; go_simp; try with_reducible rfl)
   try simp only [put_laws]
   refine tkA (i := 19) (v := ?_) rfl (by kernel_rfl) (.inl ⟨by kernel_rfl, ?_⟩) hS ?_
   rotate_left
   · (intro w' hw; obtain ⟨y0, y1, y2⟩ := (K7Y.out.below' hw).c3; have c0 := (K11.out.below' hw).cell 0; have p6 := (HMY.out.below hw).box.cell 6; go_simp; try with_reducible rfl)
   try simp only [put_laws]
   refine tkA (i := 20) (v := undef) rfl (by kernel_rfl) (.inr ⟨by kernel_rfl, rfl⟩) hS ?_
   try simp only [put_laws]
   refine tkA (i := 21) (v := undef) rfl (by kernel_rfl) (.inr ⟨by kernel_rfl, rfl⟩) hS ?_
   try simp only [put_laws]
   refine tkA (i := 22) (v := undef) rfl (by kernel_rfl) (.inr ⟨by kernel_rfl, rfl⟩) hS ?_
   try simp only [put_laws]
   refine tkA (i := 23) (v := undef) rfl (by kernel_rfl) (.inr ⟨by kernel_rfl, rfl⟩) hS ?_
   try simp only [put_laws]
   refine tkA (i := 24) (v := undef) rfl (by kernel_rfl) (.inr ⟨by kernel_rfl, rfl⟩) hS ?_
   try simp only [put_laws]
   refine wpAnyT_one (i := 25) (by kernel_rfl) rfl ?_
   intro K' hK'
   go_simp
   refine hK'.out _ _ (.inl rfl) ?_
   clear hK' K'
   try simp only [put_laws]
   refine wpAnyT_done (by kernel_rfl) ?_ _
   refine ⟨fun x e => (by cases e), ?_⟩
   go_wp2_with fail
   go_ret3
   exact ⟨rfl, HBY.out.trans (hS.mono HBY.out.size)⟩
  ·
   have HBA := Lib.hid hal
   have HBS := Lib.hid (show (decide (0 ≤ s0) && decide (s0 ≤ s1) && decide (s1 ≤ 100000)) = false from by
    have h := HBO.out
    unfold M.bodB at h
    rw [hal, decide_eq_true rfl, Bool.true_and, Bool.true_and] at h
    exact h)
   clear hal HBO
   go_upto_region 4 with fail
   refine wp_nopanic ?_
   refine wp_region_T 25 (fun Z2 => Below Y.heap.size Y Z2) (by kernel_rfl) (Below.refl _ _).drew ?_
   intro hS
   refine tkA (i := 0) (v := ?_) rfl (by kernel_rfl) (.inl ⟨by kernel_rfl, ?_⟩) hS ?_
   rotate_left
   · (intro w' hw; obtain ⟨y0, y1, y2⟩ := (K7Y.out.below' hw).c3; have c0 := (K11.out.below' hw).cell 0; have p6 := (HMY.out.below hw).box.cell 6; go_simp; try with_reducible rfl)
   try simp only [put_laws]
   refine tkA (i := 1) (v := ?_) rfl (by kernel_rfl) (.inl ⟨by kernel_rfl, ?_⟩) hS ?_
   rotate_left
   · (intro w' hw; obtain ⟨y0, y1, y2⟩ := (K7Y.out.below' hw).c3; have c0 := (K11.out.below' hw).cell 0; have p6 := (HMY.out.below hw).box.cell 6; go_simp; try with_reducible rfl)
   try simp only [put_laws]
   refine tkA (i := 2) (v := ?_) rfl (by kernel_rfl) (.inl ⟨by kernel_rfl, ?_⟩) hS ?_
   rotate_left
   · (intro w' hw; obtain ⟨y0, y1, y2⟩ := (K7Y.out.below' hw).c3; have c0 := (K11.out.below' hw).cell 0; have p6 := (HMY.out.below hw).box.cell 6; go_simp; try with_reducible rfl)
   try simp only [put_laws]
   refine tkA (i := 3) (v := ?_) rfl (by kernel_rfl) (.inl ⟨by kernel_rfl, ?_⟩) hS ?_
   rotate_left
   · (intro w' hw; obtain ⟨y0, y1, y2⟩ := (K7Y.out.below' hw).c3; have c0 := (K11.out.below' hw).cell 0; have p6 := (HMY.out.below hw).box.cell 6; go_simp; try with_reducible rfl)
   try simp only [put_laws]
   refine tkA (i := 4) (v := ?_) rfl (by kernel_rfl) (.inl ⟨by kernel_rfl, ?_⟩) hS ?_
   rotate_left
   · (intro w' hw; obtain ⟨y0, y1, y2⟩ := (K7Y.out.below' hw).c3; have c0 := (K11.out.below' hw).cell 0; have p6 := (HMY.out.below hw).box.cell 6; go_simp; try with_reducible rfl)
   try simp only [put_laws]
   refine tkA (i := 5) (v := ?_) rfl (by kernel_rfl) (.inl ⟨by kernel_rfl, ?_⟩) hS ?_
   rotate_left
   · (intro w' hw; obtain ⟨y0, y1, y2⟩ := (K7Y.out.below' hw).c3; have c0 := (K11.out.below' hw).cell 0; have p6 := (HMY.out.below hw).box.cell 6; go_simp; try with_reducible rfl)
   try simp only [put_laws]
   refine tkA (i := 6) (v := ?_) rfl (by kernel_rfl) (.inl ⟨by kernel_rfl, ?_⟩) hS ?_
   rotate_left
   · (intro w' hw; obtain ⟨y0, y1, y2⟩ := (K7Y.out.below' hw).c3; have c0 := (K11.out.below' hw).cell 0; have p6 := (HMY.out.below hw).box.cell 6; go_simp; try with_reducible rfl)
   try simp only [put_laws]
   refine tkA (i := 7) (v := ?_) rfl (by kernel_rfl) (.inl ⟨by kernel_rfl, ?_⟩) hS ?_
   rotate_left
   · (intro w' hw; obtain ⟨y0, y1, y2⟩ := (K7Y.out.below' hw).c3; have c0 := (K11.out.below' hw).cell 0; have p6 := (HMY.out.below hw).box.cell 6; go_simp; try with_reducible rfl)
   try simp only [put_laws]
   refine tkA (i := 8) (v := ?_) rfl (by kernel_rfl) (.inl ⟨by kernel_rfl, ?_⟩) hS ?_
   rotate_left
   · (intro w' hw; obtain ⟨y0, y1, y2⟩ := (K7Y.out.below' hw).c3; have c0 := (K11.out.below' hw).cell 0; have p6 := (HMY.out.below hw).box.cell 6; go_simp; try with_reducible rfl)
   try simp only [put_laws]
   refine tkA (i := 9) (v := ?_) rfl (by kernel_rfl) (.inl ⟨by kernel_rfl, ?_⟩) hS ?_
   rotate_left
   · (intro w' hw; obtain ⟨y0, y1, y2⟩ := (K7Y.out.below' hw).c3; have c0 := (K11.out.below' hw).cell 0; have p6 := (HMY.out.below hw).box.cell 6; go_simp; try with_reducible rfl)
   try simp only [put_laws]
   refine tkA (i := 10) (v := ?_) rfl (by kernel_rfl) (.inl ⟨by kernel_rfl, ?_⟩) hS ?_
   rotate_left
   · (intro w' hw; obtain ⟨y0, y1, y2⟩ := (K7Y.out.below' hw).c3; have c0 := (K11.out.below' hw).cell 0; have p6 := (HMY.out.below hw).box.cell 6; go_simp; try with_reducible rfl)
   try simp only [put_laws]
   refine tkA (i := 11) (v := ?_) rfl (by kernel_rfl) (.inl ⟨by kernel_rfl, ?_⟩) hS ?_
   rotate_left
   · (intro w' hw; obtain ⟨y0, y1, y2⟩ := (K7Y.out.below' hw).c3; have c0 := (K11.out.below' hw).cell 0; have p6 := (HMY.out.below hw).box.cell 6; go_simp; try with_reducible rfl)
   try simp only [put_laws]
   refine tkA (i := 12) (v := ?_) rfl (by kernel_rfl) (.inl ⟨by kernel_rfl, ?_⟩) hS ?_
   rotate_left
   · (intro w' hw; obtain ⟨y0, y1, y2⟩ := (K7Y.out.below' hw).c3; have c0 := (K11.out.below' hw).cell 0; have p6 := (HMY.out.below hw).box.cell 6; go_simp; try with_reducible rfl)
   try simp only [put_laws]
   refine tkA (i := 13) (v := ?_) rfl (by kernel_rfl) (.inl ⟨by kernel_rfl, ?_⟩) hS ?_
   rotate_left
   · (intro w' hw; obtain ⟨y0, y1, y2⟩ := (K7Y.out.below' hw).c3; have c0 := (K11.out.below' hw).cell 0; have p6 := (HMY.out.below hw).box.cell 6; go_simp; try with_reducible rfl)
   try simp only [put_laws]
   refine tkA (i := 14) (v := ?_) rfl (by kernel_rfl) (.inl ⟨by kernel_rfl, ?_⟩) hS ?_
   rotate_left
   · (intro w' hw; obtain ⟨y0, y1, y2⟩ := (K7Y.out.below' hw).c3; have c0 := (K11.out.below' hw).cell 0; have p6 := (HMY.out.below hw).box.cell 6; go_simp; try with_reducible rfl)
   try simp only [put_laws]
   refine tkA (i := 15) (v := ?_) rfl (by kernel_rfl) (.inl ⟨by kernel_rfl, ?_⟩) hS ?_
   rotate_left
   · (intro w' hw; obtain ⟨y0, y1, y2⟩ := (K7Y.out.below' hw).c3; have c0 := (K11.out.below' hw).cell 0; have p6 := (HMY.out.below hw).box.cell 6; go_simp; try with_reducible rfl)
   try simp only [put_laws]
   refine wpAnyT_one (i := 16) (by kernel_rfl) rfl ?_
   intro K' hK'
   go_simp
   refine (dallspan_any bA d.nz bc B cs Y.drew hbm (HBD.out _ (HBY.out.trans (hS.mono HBY.out.size))) (Nat.le_trans hB (Nat.le_trans HBY.out.size hS.size))).mono ?_
   rintro e w6 ⟨rfl, hb6⟩
   rw [HBA.out]
   have HB6 := Lib.hid (hS.trans (hb6.mono hS.size))
   clear hb6 hS
   have hS := HB6.out
   refine hK'.out _ _ (.inr hS) ?_
   clear hK' K'
   try simp only [put_laws]
   refine tkA (i := 17) (v := ?_) rfl (by kernel_rfl) (.inl ⟨by kernel_rfl, ?_⟩) hS ?_
   rotate_left
   · (intro w' hw; obtain ⟨y0, y1, y2⟩ := (K7Y.out.below' hw).c3; have c0 := (K11.out.below' hw).cell 0; have p6 := (HMY.out.below hw).box.cell 6; go_simp; try with_reducible rfl)
   try simp only [put_laws]
   refine tkA (i := 18) (v := ?_) rfl (by kernel_rfl) (.inl ⟨by kernel_rfl, ?_⟩) hS ?_
   rotate_left
   · (intro w' hw; obtain ⟨y0, y1, y2⟩ := (K7Y.out.below' hw).c3; have c0 := (K11.out.below' hw).cell 0; have p6 := (HMY.out.below hw).box.cell 6; go_simp; try with_reducible rfl)
   try simp only [put_laws]
   refine tkA (i := 19) (v := ?_) rfl (by kernel_rfl) (.inl ⟨by kernel_rfl, ?_⟩) hS ?_
   rotate_left
   · (intro w' hw; obtain ⟨y0, y1, y2⟩ := (K7Y.out.below' hw).c3; have c0 := (K11.out.below' hw).cell 0; have p6 := (HMY.out.below hw).box.cell 6; go_simp; try with_reducible rfl)
   try simp only [put_laws]
   refine tkA (i := 20) (v := ?_) rfl (by kernel_rfl) (.inl ⟨by kernel_rfl, ?_⟩) hS ?_
   rotate_left
   · (intro w' hw; obtain ⟨y0, y1, y2⟩ := (K7Y.out.below' hw).c3; have c0 := (K11.out.below' hw).cell 0; have p6 := (HMY.out.below hw).box.cell 6; go_simp; try with_reducible rfl)
   try simp only [put_laws]
   refine tkA (i := 21) (v := ?_) rfl (by kernel_rfl) (.inl ⟨by kernel_rfl, ?_⟩) hS ?_
   rotate_left
   · (intro w' hw; obtain ⟨y0, y1, y2⟩ := (K7Y.out.below' hw).c3; have c0 := (K11.out.below' hw).cell 0; have p6 := (HMY.out.below hw).box.cell 6; go_simp; try with_reducible rfl)
   try simp only [put_laws]
   refine tkA (i := 22) (v := ?_) rfl (by kernel_rfl) (.inl ⟨by kernel_rfl, ?_⟩) hS ?_
   rotate_left
   · (intro w' hw; obtain ⟨y0, y1, y2⟩ := (K7Y.out.below' hw).c3; have c0 := (K11.out.below' hw).cell 0; have p6 := (HMY.out.below hw).box.cell 6; go_simp; try with_reducible rfl)
   try simp only [put_laws]
   refine wpAnyT_one (i := 23) (by kernel_rfl) rfl ?_
   intro K' hK'
   go_simp
   refine (dhas_any 0 100000 s0 s1 w6).mono ?_
   rintro e w7 ⟨rfl, hb7⟩
   rw [HBS.out]
   have HB7 := Lib.hid (HB6.out.trans (hb7.mono HB6.out.size))
   clear hb7 hS
   have hS := HB7.out
   refine hK'.out _ _ (.inr hS) ?_
   clear hK' K'
   try simp only [put_laws]
   refine tkA (i := 24) (v := ?_) rfl (by kernel_rfl) (.inl ⟨by kernel_rfl, ?_⟩) hS ?_
   rotate_left
   · (intro w' hw; obtain ⟨y0, y1, y2⟩ := (K7Y.out.below' hw).c3; have c0 := (K11.out.below' hw).cell 0; have p6 := (HMY.out.below hw).box.cell 6; go_simp; try with_reducible rfl)
   try simp only [put_laws]
   refine wpAnyT_one (i := 25) (by kernel_rfl) rfl ?_
   intro K' hK'
   go_simp
   refine hK'.out _ _ (.inl rfl) ?_
   clear hK' K'
   try simp only [put_laws]
   refine wpAnyT_done (by kernel_rfl) ?_ _
   refine ⟨fun x e => (by cases e), ?_⟩
   go_wp2_with fail
   go_ret3
   exact ⟨rfl, HBY.out.trans (hS.mono HBY.out.size)⟩
 ·
  have g1 : ((bn : Int) != (d.nz : Int)) = true := by simp; omega
  clear hbn HBO
  go_upto_region 4 with fail
  refine wp_nopanic ?_
  refine wp_region_T 25 (fun Z2 => Below Y.heap.size Y Z2) (by kernel_rfl) (Below.refl _ _).drew ?_
  intro hS
  refine tkA (i := 0) (v := ?_) rfl (by kernel_rfl) (.inl ⟨by kernel_rfl, ?_⟩) hS ?_
  rotate_left
  · (intro w' hw; obtain ⟨y0, y1, y2⟩ := (K7Y.out.below' hw).c3; have c0 := (K11.out.below' hw).cell 0; have p6 := (HMY.out.below hw).box.cell 6; go_simp; try with_reducible rfl)
  try simp only [put_laws]
  refine tkA (i := 1) (v := ?_) rfl (by kernel_rfl) (.inl ⟨by kernel_rfl, ?_⟩) hS ?_
  rotate_left
  · (intro w' hw; obtain ⟨y0, y1, y2⟩ := (K7Y.out.below' hw).c3; have c0 := (K11.out.below' hw).cell 0; have p6 := (HMY.out.below hw).box.cell 6; go_simp; try with_reducible rfl)
  try simp only [put_laws]
  refine tkA (i := 2) (v := ?_) rfl (by kernel_rfl) (.inl ⟨by kernel_rfl, ?_⟩) hS ?_
  rotate_left
  · (intro w' hw; obtain ⟨y0, y1, y2⟩ := (K7Y.out.below' hw).c3; have c0 := (K11.out.below' hw).cell 0; have p6 := (HMY.out.below hw).box.cell 6; go_simp; try with_reducible rfl)
  try simp only [put_laws]
  refine tkA (i := 3) (v := ?_) rfl (by kernel_rfl) (.inl ⟨by kernel_rfl, ?_⟩) hS ?_
  rotate_left
  · (intro w' hw; obtain ⟨y0, y1, y2⟩ := (K7Y.out.below' hw).c3; have c0 := (K11.out.below' hw).cell 0; have p6 := (HMY.out.below hw).box.cell 6; go_simp; try with_reducible rfl)
  try simp only [put_laws]
  refine tkA (i := 4) (v := ?_) rfl (by kernel_rfl) (.inl ⟨by kernel_rfl, ?_⟩) hS ?_
  rotate_left
  · (intro w' hw; obtain ⟨y0, y1, y2⟩ := (K7Y.out.below' hw).c3; have c0 := (K11.out.below' hw).cell 0; have p6 := (HMY.out.below hw).box.cell 6; go_simp; try with_reducible rfl)
  try simp only [put_laws]
  refine tkA (i := 5) (v := ?_) rfl (by kernel_rfl) (.inl ⟨by kernel_rfl, ?_⟩) hS ?_
  rotate_left
  · (intro w' hw; obtain ⟨y0, y1, y2⟩ := (K7Y.out.below' hw).c3; have c0 := (K11.out.below' hw).cell 0; have p6 := (HMY.out.below hw).box.cell 6; go_simp; try with_reducible rfl)
  try simp only [put_laws]
  refine tkA (i := 6) (v := ?_) rfl (by kernel_rfl) (.inl ⟨by kernel_rfl, ?_⟩) hS ?_
  rotate_left
  · (intro w' hw; obtain ⟨y0, y1, y2⟩ := (K7Y.out.below' hw).c3; have c0 := (K11.out.below' hw).cell 0; have p6 := (HMY.out.below hw).box.cell 6; go_simp; try with_reducible rfl)
  try simp only [put_laws]
  refine tkA (i := 7) (v := ?_) rfl (by kernel_rfl) (.inl ⟨by kernel_rfl, ?_⟩) hS ?_
  rotate_left
  · (intro w' hw; obtain ⟨y0, y1, y2⟩ := (K7Y.out.below' hw).c3; have c0 := (K11.out.below' hw).cell 0; have p6 := (HMY.out.below hw).box.cell 6; go_simp; try with_reducible rfl)
  try simp only [put_laws]
  refine tkA (i := 8) (v := ?_) rfl (by kernel_rfl) (.inl ⟨by kernel_rfl, ?_⟩) hS ?_
  rotate_left
  · (intro w' hw; obtain ⟨y0, y1, y2⟩ := (K7Y.out.below' hw).c3; have c0 := (K11.out.below' hw).cell 0; have p6 := (HMY.out.below hw).box.cell 6; go_simp; try with_reducible rfl)
  try simp only [put_laws]
  refine tkA (i := 9) (v := ?_) rfl (by kernel_rfl) (.inl ⟨by kernel_rfl, ?_⟩) hS ?_
  rotate_left
  · (intro w' hw; obtain ⟨y0, y1, y2⟩ := (K7Y.out.below' hw).c3; have c0 := (K11.out.below' hw).cell 0; have p6 := (HMY.out.below hw).box.cell 6; go_simp; try with_reducible rfl)
  try simp only [put_laws]
  refine tkA (i := 10) (v := ?_) rfl (by kernel_rfl) (.inl ⟨by kernel_rfl, ?_⟩) hS ?_
  rotate_left
  · (intro w' hw; obtain ⟨y0, y1, y2⟩ := (K7Y.out.below' hw).c3; have c0 := (K11.out.below' hw).cell 0; have p6 := (HMY.out.below hw).box.cell 6; go_simp; try with_reducible rfl)
  try simp only [put_laws]
  refine tkA (i := 11) (v := ?_) rfl (by kernel_rfl) (.inl ⟨by kernel_rfl, ?_⟩) hS ?_
  rotate_left
  · (intro w' hw; obtain ⟨y0, y1, y2⟩ := (K7Y.out.below' hw).c3; have c0 := (K11.out.below' hw).cell 0; have p6 := (HMY.out.below hw).box.cell 6; go_simp; try with_reducible rfl)
  try simp only [put_laws]
  refine tkA (i := 12) (v := undef) rfl (by kernel_rfl) (.inr ⟨by kernel_rfl, rfl⟩) hS ?_
  try simp only [put_laws]
  refine tkA (i := 13) (v := undef) rfl (by kernel_rfl) (.inr ⟨by kernel_rfl, rfl⟩) hS ?_
  try simp only [put_laws]
  refine tkA (i := 14) (v := undef) rfl (by kernel_rfl) (.inr ⟨by kernel_rfl, rfl⟩) hS ?_
  try simp only [put_laws]
  refine tkA (i := 15) (v := undef) rfl (by kernel_rfl) (.inr ⟨by kernel_rfl, rfl⟩) hS ?_
  try simp only [put_laws]
  refine tkA (i := 16) (v := undef) rfl (by kernel_rfl) (.inr ⟨by kernel_rfl, rfl⟩) hS ?_
  try simp only [put_laws]
  refine tkA (i := 17) (v := undef) rfl (by kernel_rfl) (.inr ⟨by kernel_rfl, rfl⟩) hS ?_
  try simp only [put_laws]
  refine tkA (i := 18) (v := ?_) rfl (by kernel_rfl) (.inl ⟨by kernel_rfl, ?_⟩) hS ?_
  rotate_left
  · (intro w' hw; obtain ⟨y0, y1, y2⟩ := (K7Y.out.below' hw).c3; have c0 := (K11.out.below' hw).cell 0; have p6 := (HMY.out.below hw).box.cell 6; go_simp; try with_reducible rfl)
  try simp only [put_laws]
  refine tkA (i := 19) (v := ?_) rfl (by kernel_rfl) (.inl ⟨by kernel_rfl, ?_⟩) hS ?_
  rotate_left
  · (intro w' hw; obtain ⟨y0, y1, y2⟩ := (K7Y.out.below' hw).c3; have c0 := (K11.out.below' hw).cell 0; have p6 := (HMY.out.below hw).box.cell 6; go_simp; try with_reducible rfl)
  try simp only [put_laws]
  refine tkA (i := 20) (v := undef) rfl (by kernel_rfl) (.inr ⟨by kernel_rfl, rfl⟩) hS ?_
  try simp only [put_laws]
  refine tkA (i := 21) (v := undef) rfl (by kernel_rfl) (.inr ⟨by kernel_rfl, rfl⟩) hS ?_
  try simp only [put_laws]
  refine tkA (i := 22) (v := undef) rfl (by kernel_rfl) (.inr ⟨by kernel_rfl, rfl⟩) hS ?_
  try simp only [put_laws]
  refine tkA (i := 23) (v := undef) rfl (by kernel_rfl) (.inr ⟨by kernel_rfl, rfl⟩) hS ?_
  try simp only [put_laws]
  refine tkA (i := 24) (v := undef) rfl (by kernel_rfl) (.inr ⟨by kernel_rfl, rfl⟩) hS ?_
  try simp only [put_laws]
  refine wpAnyT_one (i := 25) (by kernel_rfl) rfl ?_
  intro K' hK'
  go_simp
  refine hK'.out _ _ (.inl rfl) ?_
  clear hK' K'
  try simp only [put_laws]
  refine wpAnyT_done (by kernel_rfl) ?_ _
  refine ⟨fun x e => (by cases e), ?_⟩
  go_wp2_with fail
  go_ret3
  exact ⟨rfl, HBY.out.trans (hS.mono HBY.out.size)⟩
end
end Go.Proofs.YtnbeembnnjdmdaaGreatDoor
