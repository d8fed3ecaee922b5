/- drift: whether some history is. -/
import Derived.Test.YtnbeembnnjdmdaaGreatDoorD23
import Derived.ArgAppend
namespace Go.Proofs.YtnbeembnnjdmdaaGreatDoor
open Go.RowKit Go.Maps Go.Shelf

attribute [local go_sem] Oper.semAt_some
theorem results_cell_b {fn : Func} {p : Tmp} (h : fn.results = #[.cell p 4]) (tmps : Array Value) (w : World) (g : Nat) (b : Bool) (hp : tmps.getD p undef = .pointer (some ⟨g, 0, none⟩)) (hc : w.cell? ⟨g, 0, none⟩ = some (.bool b)) : (results fn tmps).run Tryz.prog w = .ok (.bool b) w := by
 have hp' : tmps[p]?.getD undef = .pointer (some ⟨g, 0, none⟩) := by simpa using hp
 have hagg := Tryz.isAgg4 w
 simp [results, h, hp', asAddr, loadVar, hagg, hc, go_sem]
section
variable {d : M.Dr} {zA cA wA dA tA sA : Option Addr} {cl : Nat → Nat} {B P m1 m2 dc tc sc zc cc wc : Nat} {B' ta xc hn hc n : Nat} {xL : List Int} {lo hi fc ft fl : Int} {xA hA : Option Addr} {Xs : Nat → SgV} {W : World}
set_option maxRecDepth 100000 in
set_option maxHeartbeats 3200000 in
theorem leeways_any (W : World) : Calls Tryz.prog 64 #[.agg #[.pointer (some ⟨P, 0, none⟩), .int .i64 (ta : Int), .slice xA xL.length xc, .int .i64 lo, .int .i64 hi, .slice hA hn hc], .agg #[.int .i64 fc, .int .i64 ft, .int .i64 fl]] W fun e W' => e = .returned (.func (.func 102) #[] #[.pointer (some ⟨W.heap.size, 0, none⟩), .pointer (some ⟨W.heap.size + 1, 0, none⟩)]) ∧ Blk W' W.heap.size 105 #[.pointer (some ⟨P, 0, none⟩), .int .i64 (ta : Int), .slice xA xL.length xc, .int .i64 lo, .int .i64 hi, .slice hA hn hc] ∧ Blk W' (W.heap.size + 1) 96 #[.int .i64 fc, .int .i64 ft, .int .i64 fl] ∧ Below W.heap.size W W' ∧ W'.heap.size = W.heap.size + 2 := by
 go_enter Tryz.func64, Tryz.ntmps64
 go_wp2_with fail
 go_ret
 exact ⟨rfl, (Blk.new _ _ _).alloc _, Blk.new1 _ _ _ _, belowAlloc2 _ _ _, by simp⟩
set_option maxRecDepth 100000 in
set_option maxHeartbeats 8000000 in
theorem possible_any (hd : d.Ok) (hhn : hn ≤ maxLen) (hx1 : xL.Pairwise (· < ·)) (hx2 : ∀ x, x ∈ xL → 0 ≤ x ∧ x < d.s.nd) (hx4 : xL.length ≤ 1048576) (htn : ta + n = d.s.nt) (hn1 : 1 ≤ n) (hlo : 0 ≤ lo) (hhi : hi ≤ 8) (hlh : lo ≤ hi)
  (hM : SeaT d zA cA wA dA tA sA cl B P m1 m2 dc tc sc zc cc wc W) (hRS : RdS W B' hA hn Xs) (hx3 : Rd1 W B' xA xL.length (fun k => xL.getD k 0)) (hB' : B' ≤ W.heap.size) :
  Calls Tryz.prog 56 #[.agg #[.pointer (some ⟨P, 0, none⟩), .int .i64 (ta : Int), .slice xA xL.length xc, .int .i64 lo, .int .i64 hi, .slice hA hn hc], .agg #[.int .i64 fc, .int .i64 ft, .int .i64 fl]] W fun e W' => e = .returned (.bool (M.spanTo lo hi (leeP d ta n hn xL Xs ft fc))) ∧ AbT d zA cA wA dA tA sA cl B P m1 m2 dc tc sc zc cc wc W W' := by
 have hBW : B ≤ W.heap.size := hM.b.2.2.2.2
 have hm1 : m1 < W.heap.size := (hM.t.2.2.2 m1 hM.t.2.1).2
 have hm2 : m2 < W.heap.size := (hM.t.2.2.2 m2 hM.t.2.2.1).2
 have hTS : ∀ k, TS P m1 m2 W k → k < W.heap.size := fun k hk => (hM.t.2.2.2 k hk).2
 have HM := Lib.hid hM
 have HRS := Lib.hid hRS
 have HX3 := Lib.hid hx3
 have HTS := Lib.hid hTS
 have HSQ := Lib.hid (fun cb fb => leeways1_seq (zA := zA) (cA := cA) (wA := wA) (dA := dA) (tA := tA) (sA := sA) (cl := cl) (B := B) (P := P) (m1 := m1) (m2 := m2) (dc := dc) (tc := tc) (sc := sc) (zc := zc) (cc := cc) (wc := wc) (cb := cb) (fb := fb) (B' := B') (xc := xc) (hc := hc) (xA := xA) (hA := hA) (Xs := Xs) (fc := fc) (ft := ft) (fl := fl) hd hhn hx1 hx2 hx4 htn hn1 hlo hhi hlh)
 obtain ⟨lp, hlp⟩ : ∃ lp, lp = leeP d ta n hn xL Xs ft fc := ⟨_, rfl⟩
 rw [← hlp]
 rw [← hlp] at HSQ
 clear hlp hd hx1 hx2 hM hRS hx3 hTS
 refine (callsIn_wide (n := 4)).1 ?_
 refine callsIn_of_wp_marks Tryz.func56 rfl trivial ?_ rfl
 simp only [Tryz.ntmps56, List.size_toArray, List.length_cons, List.length_nil, Nat.reduceAdd, Nat.reduceSub, Array.replicate_succ, Array.replicate_zero, List.push_toArray, List.append_toArray, List.nil_append, List.cons_append]
 refine wpIn_wide.2 ?_
 go_upto_region 1 with fail
 simp only [Nat.add_assoc, Nat.reduceAdd]
 have K4 := Lib.hid (Blk.new2 W (.cells #[.pointer (some ⟨P, 0, none⟩), .int .i64 (ta : Int), .slice xA xL.length xc, .int .i64 lo, .int .i64 hi, .slice hA hn hc] 105) (.cells #[.int .i64 fc, .int .i64 ft, .int .i64 fl] 96) 4 #[.bool false])
 have K0 := Lib.hid (((Blk.new W 105 #[.pointer (some ⟨P, 0, none⟩), .int .i64 (ta : Int), .slice xA xL.length xc, .int .i64 lo, .int .i64 hi, .slice hA hn hc]).alloc (.cells #[.int .i64 fc, .int .i64 ft, .int .i64 fl] 96)).alloc (.cells #[.bool false] 4))
 have K1 := Lib.hid ((Blk.new1 W (.cells #[.pointer (some ⟨P, 0, none⟩), .int .i64 (ta : Int), .slice xA xL.length xc, .int .i64 lo, .int .i64 hi, .slice hA hn hc] 105) 96 #[.int .i64 fc, .int .i64 ft, .int .i64 fl]).alloc (.cells #[.bool false] 4))
 have HB1 := Lib.hid (belowAlloc3 W (.cells #[.pointer (some ⟨P, 0, none⟩), .int .i64 (ta : Int), .slice xA xL.length xc, .int .i64 lo, .int .i64 hi, .slice hA hn hc] 105) (.cells #[.int .i64 fc, .int .i64 ft, .int .i64 fl] 96) (.cells #[.bool false] 4))
 have hsz : (((W.alloc (.cells #[.pointer (some ⟨P, 0, none⟩), .int .i64 (ta : Int), .slice xA xL.length xc, .int .i64 lo, .int .i64 hi, .slice hA hn hc] 105)).alloc (.cells #[.int .i64 fc, .int .i64 ft, .int .i64 fl] 96)).alloc (.cells #[.bool false] 4)).heap.size = W.heap.size + 3 := by simp
 generalize ((W.alloc (.cells #[.pointer (some ⟨P, 0, none⟩), .int .i64 (ta : Int), .slice xA xL.length xc, .int .i64 lo, .int .i64 hi, .slice hA hn hc] 105)).alloc (.cells #[.int .i64 fc, .int .i64 ft, .int .i64 fl] 96)).alloc (.cells #[.bool false] 4) = Y at K4 K0 K1 HB1 hsz ⊢
 obtain ⟨y0, y1, y2, y3⟩ := K0.out.c4
 have y4 := K0.out.cell 4
 have y5 := K0.out.cell 5
 obtain ⟨z0, z1, z2⟩ := K1.out.c3
 have HLE := Lib.hid (leeways_any (P := P) (ta := ta) (xA := xA) (xL := xL) (xc := xc) (lo := lo) (hi := hi) (hA := hA) (hn := hn) (hc := hc) (fc := fc) (ft := ft) (fl := fl) Y)
 rw [hsz] at HLE
 clear y0 y1 y2 y3 y4 y5 z0 z1 z2
 obtain ⟨y0, y1, y2, y3⟩ := K0.out.c4
 have y4 := K0.out.cell 4
 have y5 := K0.out.cell 5
 obtain ⟨z0, z1, z2⟩ := K1.out.c3
 go_wp2_with (go_at_call 64; refine HLE.out.mono ?_; rintro e Z ⟨rfl, hk0, hk1, hbz, hzs⟩; have G0 := Lib.hid hk0; have G1 := Lib.hid hk1; have HBZ := Lib.hid hbz; clear hk0 hk1 hbz y0 y1 y2 y3 y4 y5 z0 z1 z2)
 simp only [Nat.add_assoc, Nat.reduceAdd] at *
 have hWZ := Lib.hid (show Below W.heap.size W Z from HB1.out.trans (HBZ.out.mono (by omega)))
 have G4 := Lib.hid (K4.out.below' (show Below Y.heap.size Y Z from by rw [hsz]; exact HBZ.out))
 have HCH := Lib.hid (show ChI d zA cA wA dA tA sA cl B P m1 m2 dc tc sc zc cc wc (W.heap.size + 3) (W.heap.size + 4) B' ta xc hn hc xL lo hi fc ft fl xA hA Xs Z from ⟨(SeaT.grown HM.out (below_grown hWZ.out none) fun _ e => by cases e).1, G0.out, G1.out, HRS.out.below (hWZ.out.mono hB'), HX3.out.below (hWZ.out.mono hB'), Nat.le_trans hB' hWZ.out.size⟩)
 have hAW : AbT d zA cA wA dA tA sA cl B P m1 m2 dc tc sc zc cc wc W Z := AbT.below hWZ.out
 have HAW := Lib.hid hAW
 have HT4 := Lib.hid (show ¬ TS P m1 m2 Z (W.heap.size + 2) from fun h => by
  have h1 := (SeaT.grown HM.out (below_grown hWZ.out none) fun _ e => by cases e).2 _ h
  have := HTS.out _ h1; omega)
 clear hAW
 have HOWN := Lib.hid (show ∀ b, OwnFrom Z.heap.size (fun (_ : Unit) X => ChI d zA cA wA dA tA sA cl B P m1 m2 dc tc sc zc cc wc (W.heap.size + 3) (W.heap.size + 4) B' ta xc hn hc xL lo hi fc ft fl xA hA Xs X ∧ Blk X (W.heap.size + 2) 4 #[.bool b] ∧ AbT d zA cA wA dA tA sA cl B P m1 m2 dc tc sc zc cc wc W X) from fun b _ X Y2 row hs hg hr => ⟨hs.1.notes hg hr (by omega) (by omega) (by omega) (by omega), hs.2.1.grown hg (fun e => by have := (hr _ e.symm).1; omega), hs.2.2.grown hs.1.sm hg fun r e => ⟨by have := (hr r e).1; omega, by have := (hr r e).1; omega, by
   obtain ⟨h5, o, ho, hc⟩ := hr r e
   exact ts_notes hs.1.sm h5 ho hc (by omega) (by omega)⟩⟩)
 obtain ⟨AX, hAX⟩ : ∃ AX : Int × Nat × (Nat → Value) → Act, AX = fun x => { tmps := #[.agg #[.pointer (some ⟨P, 0, none⟩), .int .i64 (ta : Int), .slice xA xL.length xc, .int .i64 lo, .int .i64 hi, .slice hA hn hc], .agg #[.int .i64 fc, .int .i64 ft, .int .i64 fl], .pointer (some ⟨W.heap.size, 0, none⟩), .pointer (some ⟨W.heap.size + 1, 0, none⟩), .pointer (some ⟨W.heap.size + 2, 0, none⟩), .agg #[.pointer (some ⟨P, 0, none⟩), .int .i64 (ta : Int), .slice xA xL.length xc, .int .i64 lo, .int .i64 hi, .slice hA hn hc], .agg #[.int .i64 fc, .int .i64 ft, .int .i64 fl], .func (.func 102) #[] #[.pointer (some ⟨W.heap.size + 3, 0, none⟩), .pointer (some ⟨W.heap.size + 4, 0, none⟩)], .int .i64 x.1, .slice (some ⟨x.2.1, 0, none⟩) n n], defers := [] } := ⟨_, rfl⟩
 refine (wpIn_wide (n := 4)).1 ?_
 refine wpIn_rangeFunc_Y (F := Fence.wide) (n := 4) rfl (by omega) (gf := 102) (lb := #[.pointer (some ⟨W.heap.size + 3, 0, none⟩), .pointer (some ⟨W.heap.size + 4, 0, none⟩)]) rfl trivial (enters_of Tryz.func102 (by kernel_rfl) rfl) (HSQ.out _ _) (fun _ => rfl)
  (fun s A => s = [] ∧ ChI d zA cA wA dA tA sA cl B P m1 m2 dc tc sc zc cc wc (W.heap.size + 3) (W.heap.size + 4) B' ta xc hn hc xL lo hi fc ft fl xA hA Xs A ∧ Blk A (W.heap.size + 2) 4 #[.bool false] ∧ AbT d zA cA wA dA tA sA cl B P m1 m2 dc tc sc zc cc wc Z A) (fun c s A => c = .ret ∧ ChI d zA cA wA dA tA sA cl B P m1 m2 dc tc sc zc cc wc (W.heap.size + 3) (W.heap.size + 4) B' ta xc hn hc xL lo hi fc ft fl xA hA Xs A ∧ Blk A (W.heap.size + 2) 4 #[.bool true] ∧ AbT d zA cA wA dA tA sA cl B P m1 m2 dc tc sc zc cc wc W A) ?hI ?hIx (fun A C h => h.1.keeps (by omega) (by omega)) (fun s A C h hab => ⟨h.1, h.2.1.ab hab, h.2.2.1.mv hab.1 h.2.1.sm.map1 h.2.1.sm.map2, h.2.2.2.trans hab⟩) (fun c s A C h hab => ⟨h.1, h.2.1.ab hab, h.2.2.1.mv hab.1 h.2.1.sm.map1 h.2.1.sm.map2, h.2.2.2.trans hab⟩) (fun s A h => h.2.1)
  ⟨rfl, HCH.out, G4.out, AbT.below (Below.refl _ _)⟩ (fun _ x a' _ => a' = AX x) (fun _ _ _ _ _ _ _ h _ _ => h) ?has ?hbody ?hdone ?hstop
 case hI =>
  rintro s X Y2 row ⟨h1, h2, h3, h4⟩ hg hr
  exact ⟨h1, h2.notes hg hr (by omega) (by omega) (by omega) (by omega), h3.grown hg (fun e => by have := (hr _ e.symm).1; omega), h4.grown h2.sm hg fun r e => ⟨(hr r e).1, by have := (hr r e).1; omega, by
   obtain ⟨h5, o, ho, hc⟩ := hr r e
   exact ts_notes h2.sm h5 ho hc (by omega) (by omega)⟩⟩
 case hIx =>
  rintro c s X Y2 row ⟨h1, h2, h3, h4⟩ hg hr
  exact ⟨h1, h2.notes hg hr (by omega) (by omega) (by omega) (by omega), h3.grown hg (fun e => by have := (hr _ e.symm).1; omega), h4.grown h2.sm hg fun r e => ⟨by have := (hr r e).1; omega, by have := (hr r e).1; omega, by
   obtain ⟨h5, o, ho, hc⟩ := hr r e
   exact ts_notes h2.sm h5 ho hc (by omega) (by omega)⟩⟩
 case has =>
  intro l pre x W0 V K hi0 hab hyd hI2 hK
  have HK := Lib.hid (hK (AX x) V (KeepsFrom.refl _ _) hI2 rfl)
  clear hK
  rw [hAX] at HK
  gi_wp2_with fail
  have h := HK.out
  refine Eq.mp (congrArg (fun a => K a V) ?_) h
  simp
 case hbody =>
  intro l pre x a' W0 V hl hlp hi0 hI2 ha hlen
  subst ha
  obtain ⟨h1, h2, h3, h4⟩ := hI2
  rw [hAX]
  have H2 := Lib.hid h2
  have H3 := Lib.hid h3
  have H4 := Lib.hid h4
  have x4 := h3.cell 0
  have f4 := h3.frz 0
  clear h2 h3 h4 hi0
  gi_wp2_with fail
  have hg := grownBy_setCell' V (W.heap.size + 2) (.bool true)
  have hnt : ¬ TS P m1 m2 V (W.heap.size + 2) := fun h => by
   rcases (H4.out.2 HCH.out.sm).2 _ h with h5 | h5
   · exact HT4.out h5
   · omega
  refine ⟨Blk.keepsSet H3.out 0 _ _, rfl, H2.out.grown hg (fun r e => by cases e; exact ⟨by omega, hnt, by omega, by omega, by omega⟩), H3.out.set_ 0 _, (HAW.out.trans H4.out).grown H2.out.sm hg (fun r e => by cases e; exact ⟨by omega, by omega, hnt⟩)⟩
 case hdone =>
  intro D xs V hD hS hI2 hdf
  obtain ⟨rfl, h2, h3, h4⟩ := hI2
  have H2 := Lib.hid h2
  have H3 := Lib.hid h3
  have H4 := Lib.hid (HAW.out.trans h4)
  have H4' := Lib.hid h4
  have x4 := h3.cell 0
  have f4 := h3.frz 0
  have HSP := Lib.hid (show M.spanTo lo hi lp = false by
   cases h : M.spanTo lo hi lp
   · rfl
   ·
    obtain ⟨x, k1, k2, k3⟩ := M.spanTo_iff.1 h
    have := M.mem_spanL.2 ⟨⟨k1, k2⟩, k3⟩
    rw [← hS] at this
    cases this)
  have HDF := Lib.hid hdf
  clear h2 h3 h4 hS hdf
  go_wp2_with fail
  have hg := grownBy_setCell' V (W.heap.size + 2) (.bool false)
  have hnt : ¬ TS P m1 m2 V (W.heap.size + 2) := fun h => by
   rcases (H4'.out.2 HCH.out.sm).2 _ h with h5 | h5
   · exact HT4.out h5
   · omega
  refine leaves_marks (lo := Z.heap.size) [D] _ ⟨hD, (Below.heap_setCell _ _ _ D (show D ≠ W.heap.size + 2 by omega)).trans HDF.out, fun x hx => (by cases hx), trivial⟩ fun w' hk => ?_
  obtain ⟨r1, r2, r3⟩ := hk _ (HOWN.out false) ⟨H2.out.grown hg (fun r e => by cases e; exact ⟨by omega, hnt, by omega, by omega, by omega⟩), H3.out.set_ 0 _, H4.out.grown H2.out.sm hg (fun r e => by cases e; exact ⟨by omega, by omega, hnt⟩)⟩
  exact ⟨.bool false, results_cell_b rfl _ w' (W.heap.size + 2) false rfl (r2.cell 0), by rw [HSP.out], r3⟩
 case hstop =>
  intro D c pre V hD hSp hix hdf
  obtain ⟨rfl, h2, h3, h4⟩ := hix
  obtain ⟨f, k1, k2, k3, _⟩ := hSp
  have H2 := Lib.hid h2
  have H3 := Lib.hid h3
  have H4 := Lib.hid h4
  have HSP := Lib.hid (show M.spanTo lo hi lp = true from M.spanTo_iff.2 ⟨f, k1, k2, k3⟩)
  clear h2 h3 h4
  refine wpIn_wide.2 ?_
  go_wp2_with fail
  refine leaves_marks (lo := Z.heap.size) [D] _ ⟨hD, hdf, fun x hx => (by cases hx), trivial⟩ fun w' hk => ?_
  obtain ⟨r1, r2, r3⟩ := hk _ (HOWN.out true) ⟨H2.out, H3.out, H4.out⟩
  exact ⟨.bool true, results_cell_b rfl _ w' (W.heap.size + 2) true rfl (r2.cell 0), by rw [HSP.out], r3⟩
end
end Go.Proofs.YtnbeembnnjdmdaaGreatDoor
/- drift: the lists of needed. -/
namespace Go.Proofs.YtnbeembnnjdmdaaGreatDoor
open Go.RowKit Go.Maps

def RdN (w : World) (v : Value) (l : List Nat) : Prop :=
 ∃ g c, v = .slice (some ⟨g, 0, none⟩) l.length c ∧ l.length ≤ c ∧ c ≤ maxLen ∧ g < w.heap.size ∧ ∀ j, j < l.length → w.cell? ⟨g, j, none⟩ = some (.int .i64 (l.getD j 0 : Nat))
theorem RdN.grown {w w' : World} {v : Value} {l : List Nat} (h : RdN w v l) {row : Option Nat} (hg : w.grownBy w' row) (hne : ∀ g, v.ownBlock = some g → some g ≠ row) : RdN w' v l := by
 obtain ⟨g, c, rfl, h1, h2, h3, h4⟩ := h
 exact ⟨g, c, rfl, h1, h2, Nat.lt_of_lt_of_le h3 hg.size, fun j hj => (World.cell?_of_block (hg.block g h3 (hne g rfl))).trans (h4 j hj)⟩
theorem RdN.mv {w w' : World} {v : Value} {l : List Nat} {m m' : Nat} (h : RdN w v l) (hv : Mv m m' w w') (h1 : IsMap' w m) (h2 : IsMap' w m') : RdN w' v l := by
 obtain ⟨g, c, rfl, k1, k2, k3, k4⟩ := h
 exact ⟨g, c, rfl, k1, k2, Nat.lt_of_lt_of_le k3 hv.size, fun j hj => cell_mv (k4 j hj) hv h1 h2⟩
theorem getD_cast (l : List Nat) (j : Nat) : (l.map fun (x : Nat) => (x : Int)).getD j 0 = ((l.getD j 0 : Nat) : Int) := by
 simp only [List.getD_eq_getElem?_getD, List.getElem?_map]
 cases l[j]? <;> rfl
theorem index_any (w : World) (g c : Nat) (a b : List Nat) (i : Nat) (hn : (a ++ i :: b).length ≤ 1000) (hc : ∀ j, j < (a ++ i :: b).length → w.cell? ⟨g, j, none⟩ = some (.int .i64 ((a ++ i :: b).getD j 0 : Nat))) (ha : ∀ x, x ∈ a → x ≠ i) :
  Calls Tryz.prog 99 #[.slice (some ⟨g, 0, none⟩) (a ++ i :: b).length c, .int .i64 (i : Int)] w fun e w' => e = .returned (.int .i64 (a.length : Int)) ∧ w' = w := by
 have h := Tryz.slices_Index_int g 0 (a ++ i :: b).length c ((a ++ i :: b).map fun (x : Nat) => (x : Int)) (i : Int) w (by simp) (by omega) (fun j hj => by rw [Nat.zero_add, getD_cast]; exact hc j (by simpa using hj))
 rw [Lib.idxOf_hit _ _ a.length (i : Int) (by simp) (by simp) (by rw [getD_cast]; simp) (fun j hj => by
  rw [getD_cast, List.getD_eq_getElem?_getD, List.getElem?_append_left hj, List.getElem?_eq_getElem hj, Option.getD_some]
  have := ha a[j] (List.getElem_mem hj)
  omega)] at h
 exact h
theorem own_rdN {w : World} {base : Nat} {v : Value} {l : List Nat} (h : Own w base 3 1 v l.length (ints fun j => ((l.getD j 0 : Nat) : Int))) (hn : 0 < l.length) : RdN w v l := by
 obtain ⟨g, c, rfl⟩ := Own.nz h hn
 refine ⟨g, c, rfl, Own.room h, ?_, (Own.block h rfl).2, fun j hj => Own.cell1 h hj⟩
 obtain ⟨_, ⟨h0, _⟩ | ⟨g', c', cur, e, _, _, _, h4, _⟩⟩ := h
 · cases h0
 · cases e; exact h4
theorem run_less (w : World) (ty : TypeId) (g c2 : Nat) (A2 : Option Addr) (a b : List Nat) (i : Nat) (hn : (a ++ i :: b).length ≤ 1000) (hg : g < w.heap.size) (hc : ∀ j, j < (a ++ i :: b).length → w.cell? ⟨g, j, none⟩ = some (.int .i64 ((a ++ i :: b).getD j 0 : Nat))) (hA2 : b ≠ [] → A2 = some ⟨g, a.length + 1, none⟩) :
  ∃ v' w', (Builtin.append_ #[22, 22] ty #[.slice (some ⟨g, 0, none⟩) a.length a.length, .slice A2 b.length c2]).run Tryz.prog w = .ok v' w' ∧ RdN w' v' (a ++ b) ∧ w.grownBy w' none ∧ (v'.ownBlock = some g ∨ ∃ q, v'.ownBlock = some q ∧ w.heap.size ≤ q) := by
 obtain ⟨i0, h1, h2, h3, h4⟩ := info_parts int_info
 rw [List.length_append, List.length_cons] at hn
 have hca : ∀ j, j < a.length → w.cell? ⟨g, j, none⟩ = some (.int .i64 (a.getD j 0 : Nat)) := fun j hj => by
  rw [hc j (by rw [List.length_append]; omega)]
  simp [List.getD_eq_getElem?_getD, List.getElem?_append_left hj]
 have hcb : ∀ j, j < b.length → w.cell? ⟨g, a.length + 1 + j, none⟩ = some (.int .i64 (b.getD j 0 : Nat)) := fun j hj => by
  rw [hc _ (by rw [List.length_append, List.length_cons]; omega)]
  have e : (a ++ i :: b)[a.length + 1 + j]? = b[j]? := by
   rw [List.getElem?_append_right (by omega), show a.length + 1 + j - a.length = j + 1 by omega, List.getElem?_cons_succ]
  simp [List.getD_eq_getElem?_getD, e]
 by_cases hb : b = []
 ·
  subst hb
  refine ⟨_, w, run_append_zero w 22 ty 3 i0 Tryz.underlying22 h1 _ A2 a.length a.length c2 (Nat.le_refl _), ?_, World.grownBy.refl _ _, .inl rfl⟩
  rw [List.append_nil]
  exact ⟨g, a.length, rfl, Nat.le_refl _, by unfold maxLen; omega, hg, hca⟩
 ·
  have hA := hA2 hb
  subst hA
  have hbl : 0 < b.length := List.length_pos_iff.2 hb
  have hadd : ∀ o j, (⟨g, o, none⟩ : Addr).add j = ⟨g, o + j, none⟩ := fun o j => by unfold Addr.add; split <;> simp_all
  obtain ⟨v', w', hr, ho, hgr⟩ := run_append_arg_grows (P := Tryz.prog) (w := w) 22 ty 3 i0 (.int .i64 0) 1 8 Tryz.underlying22 h1 h2 h3 h4 rfl (by decide) ⟨g, 0, none⟩ a.length a.length (a.map fun (x : Nat) => Value.int .i64 x) (by simp)
   (fun j u hu => by
    have hj : j < a.length := by have := (List.getElem?_eq_some_iff.1 hu).1; simpa using this
    rw [hadd, Nat.zero_add, hca j hj]
    simp [hj] at hu
    rw [← hu]; simp [List.getD_eq_getElem?_getD, hj])
   ⟨g, a.length + 1, none⟩ b.length c2 (b.map fun (x : Nat) => Value.int .i64 x) (by simp)
   (fun j u hu => by
    have hj : j < b.length := by have := (List.getElem?_eq_some_iff.1 hu).1; simpa using this
    rw [hadd, hcb j hj]
    simp [hj] at hu
    rw [← hu]; simp [List.getD_eq_getElem?_getD, hj]) (by omega) (by unfold maxLen; omega) (by omega)
  refine ⟨v', w', hr, ?_, hgr, ?_⟩
  rotate_left
  ·
   right
   rcases ho.2 with ⟨_, h0⟩ | ⟨g', c', cur, e, hb', _⟩
   · omega
   · exact ⟨g', by rw [e]; rfl, hb'⟩
  have e : (a.map fun (x : Nat) => Value.int .i64 x) ++ (b.map fun (x : Nat) => Value.int .i64 x) = cellsOf (a ++ b).length 1 (ints fun j => (((a ++ b).getD j 0 : Nat) : Int)) := by
   rw [← List.map_append]
   apply List.ext_getElem?
   intro j
   by_cases hj : j < (a ++ b).length
   · simp only [List.getElem?_map, List.getElem?_eq_getElem hj, cellsOf, Nat.mul_one, List.getElem?_range hj, Option.map_some, Nat.div_one, ints, List.getD_eq_getElem?_getD, Option.getD_some]
   · rw [List.getElem?_eq_none (by simpa using hj), List.getElem?_eq_none (by simp [cellsOf]; simpa using hj)]
  rw [e, ← List.length_append] at ho
  exact own_rdN (base := w.heap.size) ho (by rw [List.length_append]; omega)
theorem not_ts {d : M.Dr} {zA cA wA dA tA sA : Option Addr} {cl : Nat → Nat} {B P m1 m2 dc tc sc zc cc wc : Nat} {W : World} (h : SeaT d zA cA wA dA tA sA cl B P m1 m2 dc tc sc zc cc wc W) {k t : Nat} {cs : Array Value} (hb : Blk W k t cs) (h1 : t ≠ 130) (h2 : t ≠ 3) : ¬ TS P m1 m2 W k := fun hk => by
 have hne : ∀ {t' : Nat} {cs' : Array Value}, Blk W k t' cs' → t = t' := fun hb' => by
  have := (show W.heap[k]? = _ from hb).symm.trans hb'
  simp only [Option.some.injEq, Obj.cells.injEq] at this
  exact this.2.1
 rcases hk with rfl | rfl | rfl | ⟨i, n, c, hi, hl⟩
 · exact h1 (hne h.box)
 · exact h.map1.ne hb rfl
 · exact h.map2.ne hb rfl
 ·
  obtain ⟨v, k1, k2⟩ := SeaM.stepv h
  have h3 := look_at k1 k2 hi
  rw [h3] at hl
  cases hv : v i with
  | none => rw [hv] at hl; simp at hl
  | some y =>
   obtain ⟨g, c', e1, e2, e3⟩ := k2 i y hv
   rw [hv, e2, unS_enc] at hl
   simp at hl
   obtain ⟨cs', hb'⟩ := Own.blk e3
   rw [hl.1] at hb'
   exact h2 (hne hb')
theorem sg_info : (Tryz.prog.info? 68).map (fun i => (i.zero, i.size, i.bytes)) = some (some (.agg #[.int .i64 0, .slice none 0 0, .bool false]), 3, 40) := by kernel_rfl
def sgF (Xs : Nat → SgV) (l : List Nat) : Nat → Nat → Value := fun i j => (Xs (l.getD i 0)).cs.getD j (.int .i64 0)
theorem RdS.of_own {w : World} {base B' n c : Nat} {A : Option Addr} {Xs : Nat → SgV} {l : List Nat} {W0 : World} {A0 : Option Addr} {n0 : Nat} (h : Own w base 68 3 (.slice A n c) n (sgF Xs l)) (hn : n ≤ l.length) (h0 : RdS W0 B' A0 n0 Xs) (hl : ∀ x, x ∈ l → x < n0) (hk : ∀ x, x < n0 → Rd1 w w.heap.size (Xs x).A (Xs x).L.length (fun k => (Xs x).L.getD k 0)) : RdS w w.heap.size A n (fun i => Xs (l.getD i 0)) := by
 rcases Nat.eq_zero_or_pos n with h1 | h1
 · exact .inl h1
 ·
  obtain ⟨g, c', e⟩ := Own.nz h h1
  cases e
  refine .inr ⟨g, 0, rfl, (Own.block h rfl).2, fun i hi => ?_⟩
  have hx : l.getD i 0 < n0 := by
   rw [List.getD_eq_getElem?_getD, List.getElem?_eq_getElem (by omega), Option.getD_some]
   exact hl _ (List.getElem_mem _)
  have c0 := Own.cell h hi (show 0 < 3 by omega)
  have c1 := Own.cell h hi (show 1 < 3 by omega)
  have c2 := Own.cell h hi (show 2 < 3 by omega)
  obtain ⟨b, off, _, _, _, _, _, _, hL⟩ := h0.at_ hx
  refine ⟨⟨?_, ?_, ?_⟩, hk _ hx, hL⟩
  · rw [Nat.zero_add]; exact c0
  · rw [Nat.zero_add]; exact c1
  · rw [Nat.zero_add]; exact c2
theorem step_appc {w : World} {o : Oper} {a : Act} {K : Act → World → Prop} {Q : Exit → Act → World → Prop} {E : Prop} {cnd : Bool} (hcnd : cnd = true) (s x : Operand) (t : TypeId)
  (ho : o.op = .call { callee := .builtin .append, args := #[s, x], argTypes := #[t, t] }) {v v2 v' : Value} {w' : World} (hs : a.eval s = v) (hx : a.eval x = v2) (hr : (Builtin.append_ #[t, t] o.type #[v, v2]).run Tryz.prog w = .ok v' w') (h : K (a.put o.dst v') w') :
  if cnd = true then Oper.wp Tryz.prog o a w K Q else E := by
 rw [if_pos hcnd]
 unfold Oper.wp execOp
 simp only [ho, resolve, invoke, builtin, Sem.run_bind, Sem.run_pure, Result.andThen_ok, List.map_toArray, List.map_cons, List.map_nil, hs, hx, hr]
 exact h
end Go.Proofs.YtnbeembnnjdmdaaGreatDoor
