/- drift: Leeways of a valid drift, drifter and sightings. -/
import Derived.Test.YtnbeembnnjdmdaaGreatDoorG1
namespace Go.Proofs.YtnbeembnnjdmdaaGreatDoor
open Go.RowKit Go.Maps Go.Shelf

section
variable {d : M.Dr} {zA cA wA dA tA sA : Option Addr} {cl : Nat → Nat} {B P m1 m2 dc tc sc zc cc wc : Nat} {cb fb ob B' ta xc hn hc n : Nat} {xL : List Int} {lo hi fc ft fl : Int} {xA hA : Option Addr} {Xs : Nat → SgV} {W W' : World}
/-- what Leeways has gathered -/
structure LwI (d : M.Dr) (zA cA wA dA tA sA : Option Addr) (cl : Nat → Nat) (B P m1 m2 dc tc sc zc cc wc : Nat) (cb fb ob B' ta xc hn hc : Nat) (xL : List Int) (lo hi fc ft fl : Int) (xA hA : Option Addr) (Xs : Nat → SgV) (w : World) (Zs : Nat) (s : List (Int × Nat × (Nat → Value))) (A : World) : Prop where
  ch : ChI d zA cA wA dA tA sA cl B P m1 m2 dc tc sc zc cc wc cb fb B' ta xc hn hc xL lo hi fc ft fl xA hA Xs A
  bw : Below w.heap.size w A
  bx : ∃ v, Blk A ob 22 #[v] ∧ IL A Zs v (s.map (·.1)) ∧ (s = [] → v = .slice none 0 0) ∧ ∀ g, v.ownBlock = some g → ¬ TS P m1 m2 A g
theorem LwI.own {w : World} {Zs : Nat} (hw : w.heap.size ≤ Zs) (hB : B ≤ Zs) (hB' : B' ≤ Zs) (h1 : m1 < Zs) (h2 : m2 < Zs) (ho : ob < Zs) : OwnFrom Zs (LwI d zA cA wA dA tA sA cl B P m1 m2 dc tc sc zc cc wc cb fb ob B' ta xc hn hc xL lo hi fc ft fl xA hA Xs w Zs) := by
  rintro s X Y row ⟨k1, k2, v, k3, k4, k5, k6⟩ hg hr
  have hts : ∀ r, row = some r → B ≤ r ∧ ¬ TS P m1 m2 X r := fun r e => ⟨by have := (hr r e).1; omega, by
      obtain ⟨h5, o, ho', hc'⟩ := hr r e
      exact ts_notes k1.sm h5 ho' hc' h1 h2⟩
  refine ⟨k1.notes hg hr hB hB' h1 h2, k2.grown hg k2.size fun r e => by have := (hr r e).1; omega, v, k3.grown hg (fun e => by have := (hr _ e.symm).1; omega), Own.grown k4 hg ?_, k5, fun g hg' ht => k6 g hg' ((SeaT.grown k1.sm hg hts).2 g ht)⟩
  cases row with
  | none =>
    cases hv : v.ownBlock with
    | none => exact .inl rfl
    | some g => exact .inr (by simp)
  | some r =>
    obtain ⟨o, ho, hc⟩ := (hr r rfl).2
    exact .inr (Own.cells_ne k4 ho hc)
theorem LwI.abs {w : World} {Zs : Nat} {s : List (Int × Nat × (Nat → Value))} (h : LwI d zA cA wA dA tA sA cl B P m1 m2 dc tc sc zc cc wc cb fb ob B' ta xc hn hc xL lo hi fc ft fl xA hA Xs w Zs s W) (h1 : w.heap.size ≤ m1) (h2 : w.heap.size ≤ m2) (hab : AbT d zA cA wA dA tA sA cl B P m1 m2 dc tc sc zc cc wc W W') : LwI d zA cA wA dA tA sA cl B P m1 m2 dc tc sc zc cc wc cb fb ob B' ta xc hn hc xL lo hi fc ft fl xA hA Xs w Zs s W' := by
  obtain ⟨k1, k2, v, k3, k4, k5, k6⟩ := h
  refine ⟨k1.ab hab, k2.trans (hab.1.below h1 h2 k2.size), v, k3.mv hab.1 k1.sm.map1 k1.sm.map2, Own.mv k4 hab.1 k1.sm.map1 k1.sm.map2, k5, fun g hg ht => ?_⟩
  rcases (hab.2 k1.sm).2 g ht with h | h
  · exact k6 g hg h
  · have := (Own.block k4 hg).2; omega
/-- the loop's own notes do not touch an own slice -/
theorem own_notes {B1 t1 k1 n1 Zs : Nat} {v : Value} {F : Nat → Nat → Value} {X : World} {row : Option Nat} (h : Own X B1 t1 k1 v n1 F) (hr : ∀ r, row = some r → Zs ≤ r ∧ ∃ o, X.heap[r]? = some o ∧ o.isCells = false) : v.ownBlock = none ∨ v.ownBlock ≠ row := by
  cases row with
  | none =>
    cases hv : v.ownBlock with
    | none => exact .inl rfl
    | some g => exact .inr (by simp)
  | some r =>
    obtain ⟨o, ho, hc⟩ := (hr r rfl).2
    exact .inr (Own.cells_ne h ho hc)
theorem eql_some_nil (W : World) (a : Addr) (l c : Nat) : (binOp .eql 22 (.slice (some a) l c) (.slice none 0 0)).run Tryz.prog W = .ok (.bool false) W := by
  simp only [binOp]
  simp [Op.equal, Op.maxDepth, Lib.run_equalIn_slice_nil W 9999 22 3 (some a) l c 0 0 Tryz.underlying22]
theorem eql_nil_nil (W : World) : (binOp .eql 22 (.slice none 0 0) (.slice none 0 0)).run Tryz.prog W = .ok (.bool true) W := by
  simp only [binOp]
  simp [Op.equal, Op.maxDepth, Lib.run_equalIn_slice_nil W 9999 22 3 none 0 0 0 0 Tryz.underlying22]
/-- the leeways with a history -/
def leeL (d : M.Dr) (at_ lo hi : Int) (xL : List Int) (hn : Nat) (Xs : Nat → SgV) : List Int := M.spanL lo hi (leeP d at_.toNat (d.s.nt - at_.toNat) hn xL Xs (-1) 0)
end
section
variable {d : M.Dr} {zA cA wA dA tA sA xA hA : Option Addr} {cl : Nat → Nat} {B dc tc sc zc cc wc xc hn hc : Nat} {at_ lo hi : Int} {xL : List Int} {Xs : Nat → SgV} {w : World}
attribute [local go_sem] Oper.semAt_some
set_option maxRecDepth 100000 in
set_option maxHeartbeats 3200000 in
theorem leeways_ok (hd : d.Ok) (hcl : ∀ i, i < d.nz → cl i + 1 = d.s.nt) (hR : RdD w B dA tA sA zA cA wA d.s.nd d.s.nt d.s.nt d.s.nd d.nz (d.s.nt - 1) d.s.dep d.s.tide d.s.sw d.z cl d.cu d.wd) (hB : B ≤ w.heap.size) (hW : Ways w)
    (hx3 : Rd1 w B xA xL.length (fun k => xL.getD k 0)) (hx4 : xL.length ≤ maxLen) (hRS : RdS w B hA hn Xs) (hhn : hn ≤ maxLen) (hF : Fre w) (hX : chkX d.s.nd d.s.nt at_ lo hi xL = true) (hS : chkS d.s.nd d.s.nt at_ hn Xs = true) :
    Calls Tryz.prog 32 #[.agg #[.int .i64 (d.s.W : Int), .int .i64 (d.s.H : Int), .slice dA d.s.nd dc, .slice tA d.s.nt tc, .slice sA d.s.nt sc, .slice zA d.s.nd zc, .slice cA d.nz cc, .slice wA (d.s.nt - 1) wc], .agg #[.int .i64 at_, .slice xA xL.length xc, .int .i64 lo, .int .i64 hi], .slice hA hn hc] w fun e w' => Below w.heap.size w w' ∧
      ((leeL d at_ lo hi xL hn Xs = [] ∧ e = .returned (.tuple #[.slice none 0 0, .int .i64 3])) ∨
       (leeL d at_ lo hi xL hn Xs ≠ [] ∧ ∃ v, e = .returned (.tuple #[v, .int .i64 0]) ∧ IL w' w.heap.size v (leeL d at_ lo hi xL hn Xs))) := by
  obtain ⟨⟨ha1, ha2⟩, hxl, ⟨hx1, hx2⟩, hl1, hl2, hl3⟩ := chkX_bd hX
  obtain ⟨ta, rfl⟩ : ∃ n : Nat, at_ = (n : Int) := ⟨at_.toNat, by omega⟩
  have h60 := hd.s.t2
  have h1n := hd.s.t1
  have hnd := hd.s.nd1
  have hxm : xL.length ≤ 1048576 := by have := M.asc_len hx1 (fun x hx => ⟨by have := hx2 x hx; omega, (hx2 x hx).2⟩); omega
  unfold leeL
  rw [Int.toNat_natCast]
  obtain ⟨m, hm⟩ : ∃ m, m = d.s.nt - ta := ⟨_, rfl⟩
  rw [← hm]
  have hm1 : ta + m = d.s.nt := by omega
  have hm2 : 1 ≤ m := by omega
  have hbY := belowAlloc2 w (.cells #[.int .i64 (d.s.W : Int), .int .i64 (d.s.H : Int), .slice dA d.s.nd dc, .slice tA d.s.nt tc, .slice sA d.s.nt sc, .slice zA d.s.nd zc, .slice cA d.nz cc, .slice wA (d.s.nt - 1) wc] 29) (.cells #[.int .i64 (ta : Int), .slice xA xL.length xc, .int .i64 lo, .int .i64 hi] 44)
  have hO := begin_ok (at_ := (ta : Int)) (lo := lo) (hi := hi) (xc := xc) (hc := hc) (dc := dc) (tc := tc) (sc := sc) (zc := zc) (cc := cc) (wc := wc) hd hcl (hR.below (hbY.mono hB)) (Nat.le_trans hB hbY.size) (hW.below hbY) (hx3.below (hbY.mono hB)) hx4 (hRS.below (hbY.mono hB)) hhn
  have HO := Lib.hid (hO.mono (R' := fun e w' => ∃ B2 P m1 m2, w.heap.size ≤ B2 ∧ Below w.heap.size w w' ∧ e = .returned (.tuple #[.agg #[.pointer (some ⟨P, 0, none⟩), .int .i64 (ta : Int), .slice xA xL.length xc, .int .i64 lo, .int .i64 hi, .slice hA hn hc], .int .i64 0]) ∧ SeaM d zA cA wA dA tA sA cl B2 P m1 m2 #[.int .i64 (d.s.W : Int), .int .i64 (d.s.H : Int), .slice dA d.s.nd dc, .slice tA d.s.nt tc, .slice sA d.s.nt sc, .slice zA d.s.nd zc, .slice cA d.nz cc, .slice wA (d.s.nt - 1) wc, .map (some m1), .map (some m2)] (own3 P m1 m2) w') fun e w' h => by
    obtain ⟨hb, h⟩ := h
    rcases h with ⟨h1, h2⟩ | ⟨h1, h2, h3⟩ | ⟨h1, h2, B2, P, m1, m2, h3, h4, h5⟩
    · rw [hX] at h1; cases h1
    · rw [hS] at h2; cases h2
    · exact ⟨B2, P, m1, m2, Nat.le_trans hbY.size h3, hbY.trans (hb.mono hbY.size), h4, h5⟩)
  have HSQ := Lib.hid (fun (B2 P m1 m2 cb fb : Nat) => leeways1_seq (zA := zA) (cA := cA) (wA := wA) (dA := dA) (tA := tA) (sA := sA) (cl := cl) (B := B2) (P := P) (m1 := m1) (m2 := m2) (dc := dc) (tc := tc) (sc := sc) (zc := zc) (cc := cc) (wc := wc) (cb := cb) (fb := fb) (B' := B) (xc := xc) (hc := hc) (xA := xA) (hA := hA) (Xs := Xs) (fc := 0) (ft := -1) (fl := 0) hd hhn hx1 hx2 hxm hm1 hm2 hl1 hl3 hl2)
  obtain ⟨lp, hlp⟩ : ∃ q, q = leeP d ta m hn xL Xs (-1) 0 := ⟨_, rfl⟩
  rw [← hlp]
  rw [← hlp] at HSQ
  have HFW := Lib.hid (fun (V : World) (hb : Below w.heap.size w V) => hF.below hb)
  have HRS := Lib.hid hRS
  have HX3 := Lib.hid hx3
  have hll : hi ≤ lo + 8 := by omega
  clear hF hO hbY hlp hR hd hcl hW hx3 hRS hx1 hx2 hX hS hm hm1
  refine (callsIn_wide (n := 4)).1 ?_
  refine callsIn_of_wp_marks Tryz.func32 rfl trivial ?_ rfl
  simp only [Tryz.ntmps32, List.size_toArray, List.length_cons, List.length_nil, Nat.reduceAdd, Nat.reduceSub, Array.replicate_succ, Array.replicate_zero, List.push_toArray, List.append_toArray, List.nil_append, List.cons_append]
  refine wpIn_wide.2 ?_
  go_upto_region 2 with (go_at_call 55; refine HO.out.mono ?_; rintro e w1 ⟨B2, P, m1, m2, hB2, hb, rfl, hM⟩; have HB1 := Lib.hid hb; have HM1 := Lib.hid hM; have HB2 := Lib.hid hB2; clear hb hM hB2)
  have K1 := Lib.hid ((Blk.new w1 105 #[.pointer (some ⟨P, 0, none⟩), .int .i64 (ta : Int), .slice xA xL.length xc, .int .i64 lo, .int .i64 hi, .slice hA hn hc]).alloc (.cells #[.slice none 0 0] 22))
  have KO := Lib.hid (Blk.new1 w1 (.cells #[.pointer (some ⟨P, 0, none⟩), .int .i64 (ta : Int), .slice xA xL.length xc, .int .i64 lo, .int .i64 hi, .slice hA hn hc] 105) 22 #[.slice none 0 0])
  have HM2 := Lib.hid ((HM1.out.alloc (.cells #[.pointer (some ⟨P, 0, none⟩), .int .i64 (ta : Int), .slice xA xL.length xc, .int .i64 lo, .int .i64 hi, .slice hA hn hc] 105)).alloc (.cells #[.slice none 0 0] 22))
  have HBX := Lib.hid ((HB1.out.alloc HB1.out.size (.cells #[.pointer (some ⟨P, 0, none⟩), .int .i64 (ta : Int), .slice xA xL.length xc, .int .i64 lo, .int .i64 hi, .slice hA hn hc] 105)).alloc (by simp; have := HB1.out.size; omega) (.cells #[.slice none 0 0] 22))
  have HSX := Lib.hid HB1.out.size
  go_upto_region 5 with fail
  have HBS := Lib.hid (show B2 ≤ w1.heap.size from HM1.out.b.2.2.2.2)
  generalize hYe : (w1.alloc (.cells #[.pointer (some ⟨P, 0, none⟩), .int .i64 (ta : Int), .slice xA xL.length xc, .int .i64 lo, .int .i64 hi, .slice hA hn hc] 105)).alloc (.cells #[.slice none 0 0] 22) = Y at K1 KO HM2 HBX ⊢
  have hszY : Y.heap.size = w1.heap.size + 2 := by rw [← hYe]; simp
  clear hYe HM1 HB1
  generalize w1.heap.size = S at K1 KO HSX hszY HBS ⊢
  have HSZ := Lib.hid hszY
  clear hszY
  have k0 := K1.out.cell 0
  have k1 := K1.out.cell 1
  have k2 := K1.out.cell 2
  have k3 := K1.out.cell 3
  have k4 := K1.out.cell 4
  have k5 := K1.out.cell 5
  have HFY := Lib.hid (HFW.out _ HBX.out)
  have j0 := HFY.out.c0
  have j1 := HFY.out.c1
  have j2 := HFY.out.c2
  have hLE := leeways_any (P := P) (ta := ta) (xA := xA) (xL := xL) (xc := xc) (lo := lo) (hi := hi) (hA := hA) (hn := hn) (hc := hc) (fc := 0) (ft := -1) (fl := 0) Y
  rw [HSZ.out] at hLE
  have HLE := Lib.hid hLE
  clear hLE
  go_wp2_with (go_at_call 64; go_must (refine HLE.out.mono ?_); rintro e Z ⟨rfl, hk0, hk1, hbz, hzs⟩; have G0 := Lib.hid hk0; have G1 := Lib.hid hk1; have HBZ := Lib.hid hbz; have HZS := Lib.hid hzs; clear hk0 hk1 hbz hzs k0 k1 k2 k3 k4 k5 j0 j1 j2)
  simp only [Nat.add_assoc, Nat.reduceAdd] at *
  have hSX := HSX.out
  have hB2 := HB2.out
  have hZS := HZS.out
  have hsm2 := HM2.out
  have hm1w : w.heap.size ≤ m1 := Nat.le_trans hB2 hsm2.b.2.1
  have hm2w : w.heap.size ≤ m2 := Nat.le_trans hB2 hsm2.b.2.2.1
  have hm1S : m1 < S + 2 := by have := (hsm2.t.2.2.2 m1 hsm2.t.2.1).2; have := HSZ.out; omega
  have hm2S : m2 < S + 2 := by have := (hsm2.t.2.2.2 m2 hsm2.t.2.2.1).2; have := HSZ.out; omega
  have hB2S := HBS.out
  have HYZ := Lib.hid (show Below Y.heap.size Y Z from by rw [HSZ.out]; exact HBZ.out)
  have HWZ := Lib.hid (HBX.out.trans (HBZ.out.mono (by omega)))
  have HSMZ := Lib.hid (SeaT.grown hsm2.canon (below_grown HYZ.out none) fun _ e => by cases e).1
  have HCH := Lib.hid (show ChI d zA cA wA dA tA sA cl B2 P m1 m2 dc tc sc zc cc wc (S + 2) (S + 3) B ta xc hn hc xL lo hi 0 (-1) 0 xA hA Xs Z from ⟨HSMZ.out, G0.out, G1.out, HRS.out.below (HWZ.out.mono hB), HX3.out.below (HWZ.out.mono hB), Nat.le_trans hB HWZ.out.size⟩)
  have HOZ := Lib.hid (KO.out.below' HYZ.out)
  have HI0 := Lib.hid (show LwI d zA cA wA dA tA sA cl B2 P m1 m2 dc tc sc zc cc wc (S + 2) (S + 3) (S + 1) B ta xc hn hc xL lo hi 0 (-1) 0 xA hA Xs w (S + 4) [] Z from ⟨HCH.out, HWZ.out, _, HOZ.out, Own.nil_, fun _ => rfl, fun g e => by simp [Value.ownBlock] at e⟩)
  clear hsm2
  have HOWN := Lib.hid (show OwnFrom Z.heap.size (LwI d zA cA wA dA tA sA cl B2 P m1 m2 dc tc sc zc cc wc (S + 2) (S + 3) (S + 1) B ta xc hn hc xL lo hi 0 (-1) 0 xA hA Xs w (S + 4)) from by rw [hZS]; exact LwI.own (by omega) (by omega) (by omega) (by omega) (by omega) (by omega))
  obtain ⟨AX, hAX⟩ : ∃ AX : Int × Nat × (Nat → Value) → Act, AX = fun x => { tmps := #[.agg #[.int .i64 (d.s.W : Int), .int .i64 (d.s.H : Int), .slice dA d.s.nd dc, .slice tA d.s.nt tc, .slice sA d.s.nt sc, .slice zA d.s.nd zc, .slice cA d.nz cc, .slice wA (d.s.nt - 1) wc], .agg #[.int .i64 (ta : Int), .slice xA xL.length xc, .int .i64 lo, .int .i64 hi], .slice hA hn hc, .pointer (some ⟨w.heap.size, 0, none⟩), .pointer (some ⟨w.heap.size + 1, 0, none⟩), undef, .slice none 0 0, .int .i64 0, .pointer (some ⟨S, 0, none⟩), .int .i64 0, .pointer (some ⟨S + 1, 0, none⟩), .int .i64 x.1, .tuple #[.agg #[.pointer (some ⟨P, 0, none⟩), .int .i64 (ta : Int), .slice xA xL.length xc, .int .i64 lo, .int .i64 hi, .slice hA hn hc], .int .i64 0], .agg #[.int .i64 (d.s.W : Int), .int .i64 (d.s.H : Int), .slice dA d.s.nd dc, .slice tA d.s.nt tc, .slice sA d.s.nt sc, .slice zA d.s.nd zc, .slice cA d.nz cc, .slice wA (d.s.nt - 1) wc], .agg #[.int .i64 (ta : Int), .slice xA xL.length xc, .int .i64 lo, .int .i64 hi], .slice hA hn hc, .tuple #[.agg #[.pointer (some ⟨P, 0, none⟩), .int .i64 (ta : Int), .slice xA xL.length xc, .int .i64 lo, .int .i64 hi, .slice hA hn hc], .int .i64 0], .agg #[.pointer (some ⟨P, 0, none⟩), .int .i64 (ta : Int), .slice xA xL.length xc, .int .i64 lo, .int .i64 hi, .slice hA hn hc], .int .i64 0, .int .i64 0, .bool false, undef, .agg #[.pointer (some ⟨P, 0, none⟩), .int .i64 (ta : Int), .slice xA xL.length xc, .int .i64 lo, .int .i64 hi, .slice hA hn hc], .agg #[.int .i64 0, .int .i64 (-1), .int .i64 0], .func (.func 102) #[] #[.pointer (some ⟨S + 2, 0, none⟩), .pointer (some ⟨S + 3, 0, none⟩)], .int .i64 x.1, .slice (some ⟨x.2.1, 0, none⟩) m m, undef, undef, undef, undef, undef, undef, undef], defers := [] } := ⟨_, rfl⟩
  refine (wpIn_wide (n := 4)).1 ?_
  refine wpIn_rangeFunc_Y (F := Fence.wide) (n := 4) rfl (by omega) (gf := 102) (lb := #[.pointer (some ⟨S + 2, 0, none⟩), .pointer (some ⟨S + 3, 0, none⟩)]) rfl trivial (enters_of Tryz.func102 (by kernel_rfl) rfl) (HSQ.out B2 P m1 m2 (S + 2) (S + 3)) (fun _ => rfl)
    (LwI d zA cA wA dA tA sA cl B2 P m1 m2 dc tc sc zc cc wc (S + 2) (S + 3) (S + 1) B ta xc hn hc xL lo hi 0 (-1) 0 xA hA Xs w (S + 4)) (fun _ _ _ => False) HOWN.out (fun _ _ _ _ _ h _ _ => h) (fun A C h => h.1.keeps (by omega) (by omega)) (fun s A C h hab => h.abs hm1w hm2w hab) (fun _ _ _ _ h _ => h) (fun s A h => h.ch) HI0.out (fun _ x a' _ => a' = AX x) (fun _ _ _ _ _ _ _ h _ _ => h) ?has ?hbody ?hdone (fun _ _ _ _ _ _ h _ => h.elim)
  case has =>
    intro l pre x W0 V K hi0 hab hyd hI2 hK
    have HK := Lib.hid (hK (AX x) V (KeepsFrom.refl _ _) hI2 rfl)
    clear hK
    rw [hAX] at HK
    gi_wp2_with fail
    have h := HK.out
    refine Eq.mp (congrArg (fun a => K a V) ?_) h
    simp
  case hbody =>
    intro l pre x a' W0 V hl hlp' hi0 hI2 ha hlen
    subst ha
    obtain ⟨h1, h2, v, h3, h4, h5, h6⟩ := hI2
    rw [hAX]
    obtain ⟨L0, hL0⟩ : ∃ L0, L0 = pre.map (·.1) := ⟨_, rfl⟩
    rw [← hL0] at h4
    have hl9 : L0.length < 1000000 := by rw [hL0, List.length_map]; omega
    have HL0 := Lib.hid hL0
    obtain ⟨Av, cv, rfl⟩ := Own.form h4
    have hVS : S + 4 ≤ V.heap.size := by
      obtain ⟨r, hr⟩ := hlp'
      have := (Array.getElem?_eq_some_iff.1 hr).1
      omega
    have H1 := Lib.hid h1
    have H2 := Lib.hid h2
    have H3 := Lib.hid h3
    have H4 := Lib.hid h4
    have H6 := Lib.hid h6
    have HNT := Lib.hid (not_ts h1.sm h3 (by decide) (by decide))
    have x0 := h3.cell 0
    clear h1 h2 h3 h4 h5 h6 hi0 hL0
    gi_wp2_with (gi_at_builtin; go_must (refine wpListIn_apI _ rfl (.tmp 27) (.tmp 29) rfl (B := S + 4) (L := L0) rfl (Own.alloc H4.out _) rfl ((Blk.new _ _ _).cell 0) hl9 (by simp; omega) ?_); intro g6 c6 w6 hi6 hg6 hb6; have HI6 := Lib.hid hi6; have HG6 := Lib.hid hg6; have HB6 := Lib.hid hb6; have H36 := Lib.hid (Blk.grown_own (H3.out.alloc _) (Own.alloc H4.out _) (by decide) hg6); clear hi6 hg6 hb6 x0; have x0 := H36.out.cell 0; have f0 := H36.out.frz 0)
    have hgA := World.grownBy_alloc V (.cells #[.int .i64 x.1] 3) none
    have hna : ∀ r, (none : Option Nat) = some r → False := fun r e => by cases e
    have hvb : ∀ r, (Value.slice Av L0.length cv).ownBlock = some r → S + 4 ≤ r ∧ ¬ TS P m1 m2 (V.alloc (.cells #[.int .i64 x.1] 3)) r := fun r e => ⟨(Own.block H4.out e).1, fun h => H6.out r e ((SeaT.grown H1.out.sm hgA fun r e => (hna r e).elim).2 r h)⟩
    have hsA := (H1.out.grown hgA fun r e => (hna r e).elim)
    have hs6 := hsA.grown HG6.out fun r e => ⟨by have := (hvb r e).1; omega, (hvb r e).2, by have := (hvb r e).1; omega, by have := (hvb r e).1; omega, by have := (hvb r e).1; omega⟩
    have hno : ¬ TS P m1 m2 w6 (S + 1) := not_ts hs6.sm H36.out (by decide) (by decide)
    have hgs := grownBy_setCell' w6 (S + 1) (.slice (some ⟨g6, 0, none⟩) (L0.length + 1) c6)
    have hs7 := hs6.grown hgs fun r e => by cases e; exact ⟨by omega, hno, by omega, by omega, by omega⟩
    have hb6 : Below w.heap.size w w6 := (H2.out.alloc H2.out.size _).grown HG6.out (by have := H2.out.size; simp; omega) fun r e => by have := (hvb r e).1; omega
    have hnb : (Value.slice (some ⟨g6, 0, none⟩) (L0.length + 1) c6).ownBlock ≠ some (S + 1) := Own.ne_blk HI6.out H36.out (by decide)
    refine ⟨?_, hs7, hb6.setCell (p := ⟨S + 1, 0, none⟩) (by show w.heap.size ≤ S + 1; omega) _, _, Blk.set_ H36.out 0 _, ?_, fun e => by simp at e, fun g e ht => ?_⟩
    · exact ((KeepsFrom.of_grownBy hgA fun _ e => by cases e).trans (Own.keeps (Own.alloc H4.out _) HG6.out _)).trans (Blk.keepsSet H36.out 0 _ _)
    · have := Own.setCell HI6.out hnb (p := ⟨S + 1, 0, none⟩)
      rw [List.map_append, ← HL0.out]
      exact this _
    · obtain rfl : g6 = g := by simpa [Value.ownBlock] using e
      have ht6 := (SeaT.grown hs6.sm hgs fun r e => by cases e; exact ⟨by omega, hno⟩).2 g6 ht
      have htA := (SeaT.grown hsA.sm HG6.out fun r e => ⟨by have := (hvb r e).1; omega, (hvb r e).2⟩).2 g6 ht6
      rcases HB6.out with e6 | e6
      · exact (hvb g6 e6.symm).2 htA
      · have := (hsA.sm.t.2.2.2 g6 htA).2
        omega
  case hdone =>
    intro D xs V hD hS hI2 hdf
    obtain ⟨h1, h2, v, h3, h4, h5, h6⟩ := hI2
    obtain ⟨L0, hL0⟩ : ∃ L0, L0 = xs.map (·.1) := ⟨_, rfl⟩
    rw [← hL0] at h4 hS
    have h5' : L0 = [] → v = .slice none 0 0 := fun e => h5 (by rw [hL0] at e; simpa using e)
    have H2 := Lib.hid h2
    have H3 := Lib.hid h3
    have H4 := Lib.hid h4
    have HS := Lib.hid hS
    have H5 := Lib.hid h5'
    have hlen : L0.length ≤ 9 := by rw [hS]; have := M.spanL_len (lo := lo) (hi := hi) (p := lp); omega
    clear h1 h2 h4 h5 h5' h6 hS hL0
    rcases List.eq_nil_or_concat L0 with h0 | ⟨_, _, h0⟩
    · have hv := H5.out h0
      subst hv
      have x0 := h3.cell 0
      have hnn := eql_nil_nil
      have HE := Lib.hid (show M.spanL lo hi lp = [] from HS.out.symm.trans h0)
      have HDF := Lib.hid hdf
      clear h0 h3 hdf H4 H3 H5
      go_wp2_with fail
      refine leaves_marks (lo := S + 4) [D] V ⟨by omega, HDF.out, fun x hx => (by cases hx), trivial⟩ fun w' hk => ⟨.tuple #[.slice none 0 0, .int .i64 3], by simp [results, Tryz.f32, go_sem], ?_⟩
      have k1 := hk (fun _ X => Below w.heap.size w X) (fun _ X Y row hs hg hr => hs.grown hg hs.size fun r e => by have := (hr r e).1; omega) H2.out
      exact ⟨k1, .inl ⟨HE.out, rfl⟩⟩
    · have hpos : 0 < L0.length := by rw [h0]; simp
      obtain ⟨gv, cv, rfl⟩ := Own.nz H4.out hpos
      have x0 := h3.cell 0
      have hsn := eql_some_nil
      have HE := Lib.hid (show M.spanL lo hi lp ≠ [] from fun e => by rw [← HS.out] at e; rw [e] at hpos; simp at hpos)
      have HDF := Lib.hid hdf
      clear h0 h3 hdf H3 H5
      go_wp2_with fail
      refine leaves_marks (lo := S + 4) [D] V ⟨by omega, HDF.out, fun x hx => (by cases hx), trivial⟩ fun w' hk => ⟨.tuple #[.slice (some ⟨gv, 0, none⟩) L0.length cv, .int .i64 0], by simp [results, Tryz.f32, go_sem], ?_⟩
      obtain ⟨k1, k2⟩ := hk (fun _ X => Below w.heap.size w X ∧ IL X (S + 4) (.slice (some ⟨gv, 0, none⟩) L0.length cv) L0) (fun _ X Y row hs hg hr => ⟨hs.1.grown hg hs.1.size fun r e => by have := (hr r e).1; omega, Own.grown hs.2 hg (own_notes hs.2 hr)⟩) ⟨H2.out, H4.out⟩
      exact ⟨k1, .inr ⟨HE.out, _, rfl, by rw [← HS.out]; exact Own.less k2 (by omega)⟩⟩
end
end Go.Proofs.YtnbeembnnjdmdaaGreatDoor
