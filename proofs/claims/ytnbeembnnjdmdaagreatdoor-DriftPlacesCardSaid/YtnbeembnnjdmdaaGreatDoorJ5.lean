/- The reference of layer 2: Leeways and Places. -/
import Derived.Test.YtnbeembnnjdmdaaGreatDoorJ2
import Derived.Test.YtnbeembnnjdmdaaGreatDoorG3
namespace Go.Proofs.YtnbeembnnjdmdaaGreatDoor
open Go.RowKit

section
variable {d : M.Dr} {zA cA wA dA tA sA xA hA : Option Addr} {cl : Nat → Nat} {dc tc sc zc cc wc xc hn hc B ta lo hi : Nat} {xL : List Int} {Xs : Nat → SgV} {w : World}
set_option maxRecDepth 100000 in
set_option maxHeartbeats 6400000 in
theorem rLeeways_ok (hd : d.Ok) (hcl : ∀ i, i < d.nz → cl i + 1 = d.s.nt) (hR : RdD w B dA tA sA zA cA wA d.s.nd d.s.nt d.s.nt d.s.nd d.nz (d.s.nt - 1) d.s.dep d.s.tide d.s.sw d.z cl d.cu d.wd) (hB : B ≤ w.heap.size) (hx3 : Rd1 w B xA xL.length (fun k => xL.getD k 0)) (hx4 : xL.length ≤ maxLen) (hRS : RdS w B hA hn Xs) (hhn : hn ≤ maxLen)
  (hX : chkX d.s.nd d.s.nt (ta : Int) (lo : Int) (hi : Int) xL = true) (hS : chkS d.s.nd d.s.nt (ta : Int) hn Xs = true) :
  Calls Tryz.prog 36 #[.agg #[.int .i64 (d.s.W : Int), .int .i64 (d.s.H : Int), .slice dA d.s.nd dc, .slice tA d.s.nt tc, .slice sA d.s.nt sc, .slice zA d.s.nd zc, .slice cA d.nz cc, .slice wA (d.s.nt - 1) wc], .agg #[.int .i64 (ta : Int), .slice xA xL.length xc, .int .i64 (lo : Int), .int .i64 (hi : Int)], .slice hA hn hc] w fun e w' => Below w.heap.size w w' ∧ ((leeL d (ta : Int) (lo : Int) (hi : Int) xL hn Xs = [] ∧ e = .returned (.tuple #[.slice none 0 0, .int .i64 3])) ∨ (leeL d (ta : Int) (lo : Int) (hi : Int) xL hn Xs ≠ [] ∧ ∃ v, e = .returned (.tuple #[v, .int .i64 0]) ∧ IL w' w.heap.size v (leeL d (ta : Int) (lo : Int) (hi : Int) xL hn Xs))) := by
 have hnd := hd.s.nd1
 have hnt := hd.s.t2
 obtain ⟨⟨ha1, ha2⟩, hxl, -, hl1, hl2, hl3⟩ := chkX_bd hX
 have hta : ta < d.s.nt := by omega
 have hlo : lo ≤ hi := by omega
 have hhi : hi ≤ 8 := by omega
 have HB0 := Lib.hid (belowAlloc2 w (.cells #[.int .i64 (d.s.W : Int), .int .i64 (d.s.H : Int), .slice dA d.s.nd dc, .slice tA d.s.nt tc, .slice sA d.s.nt sc, .slice zA d.s.nd zc, .slice cA d.nz cc, .slice wA (d.s.nt - 1) wc] 29) (.cells #[.int .i64 (ta : Int), .slice xA xL.length xc, .int .i64 (lo : Int), .int .i64 (hi : Int)] 44))
 have K0 := Lib.hid ((Blk.new w 29 #[.int .i64 (d.s.W : Int), .int .i64 (d.s.H : Int), .slice dA d.s.nd dc, .slice tA d.s.nt tc, .slice sA d.s.nt sc, .slice zA d.s.nd zc, .slice cA d.nz cc, .slice wA (d.s.nt - 1) wc]).alloc (.cells #[.int .i64 (ta : Int), .slice xA xL.length xc, .int .i64 (lo : Int), .int .i64 (hi : Int)] 44))
 have X0 := Lib.hid (Blk.new1 w (.cells #[.int .i64 (d.s.W : Int), .int .i64 (d.s.H : Int), .slice dA d.s.nd dc, .slice tA d.s.nt tc, .slice sA d.s.nt sc, .slice zA d.s.nd zc, .slice cA d.nz cc, .slice wA (d.s.nt - 1) wc] 29) 44 #[.int .i64 (ta : Int), .slice xA xL.length xc, .int .i64 (lo : Int), .int .i64 (hi : Int)])
 have HCA := Lib.hid (fun (V : World) (hb : Below w.heap.size w V) => (show Calls Tryz.prog 58 #[.agg #[.int .i64 (d.s.W : Int), .int .i64 (d.s.H : Int), .slice dA d.s.nd dc, .slice tA d.s.nt tc, .slice sA d.s.nt sc, .slice zA d.s.nd zc, .slice cA d.nz cc, .slice wA (d.s.nt - 1) wc], .agg #[.int .i64 (ta : Int), .slice xA xL.length xc, .int .i64 (lo : Int), .int .i64 (hi : Int)], .slice hA hn hc] V fun e w' => e = .returned (.int .i64 0) ∧ Below V.heap.size V w' from by
  have h := rcheckall_any (dc := dc) (tc := tc) (sc := sc) (zc := zc) (cc := cc) (wc := wc) (xc := xc) (hc := hc) (W := d.s.W) (H := d.s.H) (at_ := (ta : Int)) (lo := (lo : Int)) (hi := (hi : Int)) (show d.s.nd ≤ maxLen by unfold maxLen; omega) (show d.s.nt ≤ maxLen by unfold maxLen; omega) (show d.s.nt ≤ maxLen by unfold maxLen; omega) (show d.s.nd ≤ maxLen by unfold maxLen; omega) (show d.nz ≤ maxLen by have := hd.z4; unfold maxLen; omega) (show d.s.nt - 1 ≤ maxLen by unfold maxLen; omega) (hR.below (hb.mono hB)) (Nat.le_trans hB hb.size) (hx3.below (hb.mono hB)) hx4 (hRS.below (hb.mono hB)) hhn
  rw [hX, hS, hd.chk hcl] at h
  exact h))
 obtain ⟨m, hm⟩ : ∃ m, m = d.s.nt - 1 - ta := ⟨_, rfl⟩
 have HM := Lib.hid (show ta + m + 1 = d.s.nt by omega)
 have HTA := Lib.hid (fun (V : World) (hb : Below w.heap.size w V) => rtable_any (dc := dc) (tc := tc) (sc := sc) (zc := zc) (cc := cc) (wc := wc) (xc := xc) (xA := xA) (xL := xL) hd hcl (hR.below (hb.mono hB)) (Nat.le_trans hB hb.size) hta hlo hhi)
 have HLW := Lib.hid (fun (V : World) (hb : Below w.heap.size w V) (b : Nat) (v : Value) (hT : TabV V b d.s.nd m (hi - lo + 1) (fun k => movF d ta ((lo : Int) + k)) v) => rleeways_any (dc := dc) (tc := tc) (sc := sc) (zc := zc) (cc := cc) (wc := wc) (xc := xc) (zA := zA) (cA := cA) (wA := wA) (dA := dA) (tA := tA) (sA := sA) (hc := hc) hd HM.out hlo hhi rfl (Nat.le_trans hB hb.size) (hx3.below (hb.mono hB)) hx4 (hRS.below (hb.mono hB)) hhn hT)
 rw [← hm] at HTA
 have hlen : (leeL d (ta : Int) (lo : Int) (hi : Int) xL hn Xs).length ≤ 9 := by unfold leeL; refine Nat.le_trans M.spanL_len ?_; omega
 generalize leeL d (ta : Int) (lo : Int) (hi : Int) xL hn Xs = L at HLW hlen ⊢
 clear hR hd hcl hB hx3 hRS hX hS hm hxl ha1 ha2 hl1 hl2 hl3
 go_enter Tryz.func36, Tryz.ntmps36
 go_upto_region 1 with fail
 generalize (w.alloc (.cells #[.int .i64 (d.s.W : Int), .int .i64 (d.s.H : Int), .slice dA d.s.nd dc, .slice tA d.s.nt tc, .slice sA d.s.nt sc, .slice zA d.s.nd zc, .slice cA d.nz cc, .slice wA (d.s.nt - 1) wc] 29)).alloc (.cells #[.int .i64 (ta : Int), .slice xA xL.length xc, .int .i64 (lo : Int), .int .i64 (hi : Int)] 44) = X at HB0 K0 X0 ⊢
 have HCX := Lib.hid (HCA.out X HB0.out)
 have k0 := K0.out.cell 0
 have k1 := K0.out.cell 1
 have k2 := K0.out.cell 2
 have k3 := K0.out.cell 3
 have k4 := K0.out.cell 4
 have k5 := K0.out.cell 5
 have k6 := K0.out.cell 6
 have k7 := K0.out.cell 7
 have x0 := X0.out.cell 0
 have x1 := X0.out.cell 1
 have x2 := X0.out.cell 2
 have x3 := X0.out.cell 3
 go_wp2_with fail
 refine HCX.out.mono ?_
 rintro e w1 ⟨rfl, hb⟩
 have HB1 := Lib.hid (HB0.out.trans (hb.mono HB0.out.size))
 have K1 := Lib.hid (K0.out.below' hb)
 have X1 := Lib.hid (X0.out.below' hb)
 clear hb k0 k1 k2 k3 k4 k5 k6 k7 x0 x1 x2 x3 HCX K0 X0 HB0
 go_upto_region 4 with fail
 refine wp_nopanic ?_
 refine wp_region_T 7 (fun w' => Below w1.heap.size w1 w') (by kernel_rfl) (Below.refl _ _).drew ?_
 intro hS
 refine takeK (i := 0) (v := ?_) rfl (by kernel_rfl) (.inl ⟨by kernel_rfl, ?_⟩) hS ?_
 rotate_left
 · (intro w' hw; have k0 := (K1.out.below' hw).cell 0; have k1 := (K1.out.below' hw).cell 1; have k2 := (K1.out.below' hw).cell 2; have k3 := (K1.out.below' hw).cell 3; have k4 := (K1.out.below' hw).cell 4; have k5 := (K1.out.below' hw).cell 5; have k6 := (K1.out.below' hw).cell 6; have k7 := (K1.out.below' hw).cell 7; go_simp; try with_reducible rfl)
 try simp only [put_laws]
 refine takeK (i := 1) (v := ?_) rfl (by kernel_rfl) (.inl ⟨by kernel_rfl, ?_⟩) hS ?_
 rotate_left
 · (intro w' hw; have x0 := (X1.out.below' hw).cell 0; have x1 := (X1.out.below' hw).cell 1; have x2 := (X1.out.below' hw).cell 2; have x3 := (X1.out.below' hw).cell 3; go_simp; try with_reducible rfl)
 try simp only [put_laws]
 refine takeK (i := 2) (v := ?_) rfl (by kernel_rfl) (.inl ⟨by kernel_rfl, ?_⟩) hS ?_
 rotate_left
 · (intro w' hw; go_simp; try with_reducible rfl)
 try simp only [put_laws]
 refine takeK (i := 3) (v := ?_) rfl (by kernel_rfl) (.inl ⟨by kernel_rfl, ?_⟩) hS ?_
 rotate_left
 · (intro w' hw; have k0 := (K1.out.below' hw).cell 0; have k1 := (K1.out.below' hw).cell 1; have k2 := (K1.out.below' hw).cell 2; have k3 := (K1.out.below' hw).cell 3; have k4 := (K1.out.below' hw).cell 4; have k5 := (K1.out.below' hw).cell 5; have k6 := (K1.out.below' hw).cell 6; have k7 := (K1.out.below' hw).cell 7; go_simp; try with_reducible rfl)
 try simp only [put_laws]
 refine takeK (i := 4) (v := ?_) rfl (by kernel_rfl) (.inl ⟨by kernel_rfl, ?_⟩) hS ?_
 rotate_left
 · (intro w' hw; have x0 := (X1.out.below' hw).cell 0; have x1 := (X1.out.below' hw).cell 1; have x2 := (X1.out.below' hw).cell 2; have x3 := (X1.out.below' hw).cell 3; go_simp; try with_reducible rfl)
 try simp only [put_laws]
 refine wpAnyT_one (i := 5) (by kernel_rfl) rfl ?_
 intro K' hK'
 go_simp
 refine (HTA.out w1.drew HB1.out.drew).mono ?_
 rintro e w5 ⟨⟨v5, rfl, ht5⟩, hb5⟩
 have HB5 := Lib.hid (show Below w1.heap.size w1 w5 from (Below.refl _ w1).drew.trans (hb5.mono (Nat.le_refl _)))
 obtain ⟨tA5, tc5, rfl⟩ := LiV.form ht5
 have HT5 := Lib.hid ht5
 clear ht5 hb5
 refine hK'.out _ _ (.inr HB5.out) ?_
 clear hK' K'
 try simp only [put_laws]
 refine wpAnyT_one (i := 6) (by kernel_rfl) rfl ?_
 intro K' hK'
 go_simp
 refine (HLW.out w5 (HB1.out.trans (HB5.out.mono HB1.out.size)) _ _ HT5.out).mono ?_
 rintro e w6 ⟨⟨v6, rfl, hi6⟩, hb6⟩
 obtain ⟨lA6, lc6, rfl⟩ := Own.form hi6
 have HB6 := Lib.hid (show Below w1.heap.size w1 w6 from HB5.out.trans (hb6.mono HB5.out.size))
 have HI6 := Lib.hid (show IL w6 w1.heap.size (.slice lA6 L.length lc6) L from Own.less hi6 HB5.out.size)
 clear hi6 hb6
 refine hK'.out _ _ (.inr HB6.out) ?_
 clear hK' K'
 try simp only [put_laws]
 refine wpAnyT_one (i := 7) (by kernel_rfl) rfl ?_
 intro K' hK'
 go_simp
 refine hK'.out _ _ (.inl rfl) ?_
 clear hK' K'
 try simp only [put_laws]
 refine wpAnyT_done (by kernel_rfl) ?_ _
 refine ⟨fun x e => (by cases e), ?_⟩
 cases L with
 | nil =>
  go_wp2_with fail
  go_ret2
  exact ⟨HB1.out.trans (HB6.out.mono HB1.out.size), rfl⟩
 | cons a L =>
  have g1 : decide ((a :: L).length = 0) = false := by simp
  have g2 : (((a :: L).length : Int) == 0) = false := by simp; omega
  go_wp2_with fail
  go_ret2
  exact ⟨HB1.out.trans (HB6.out.mono HB1.out.size), .inr ⟨by simp, _, rfl, Own.less HI6.out HB1.out.size⟩⟩
end
section
variable {d : M.Dr} {ta n hn : Nat} {xL : List Int} {Xs : Nat → SgV} {lo hi : Int}
/-- with some place in the first tick, something is possible -/
theorem plcB_some : M.anyC d.s.nd (plcB d ta n hn xL Xs lo hi 0) = M.spanTo lo hi (leeP d ta n hn xL Xs (-1) 0) := by
 rw [Bool.eq_iff_iff, M.anyC_iff, M.spanTo_iff]
 unfold plcB leeP M.posB
 constructor
 ·
  rintro ⟨x, h1, h2, h3⟩
  obtain ⟨l, h4, h5, h6⟩ := M.spanTo_iff.1 h3
  exact ⟨l, h4, h5, M.anyC_iff.2 ⟨x, h1, h2, h6⟩⟩
 ·
  rintro ⟨l, h4, h5, h6⟩
  obtain ⟨x, h1, h2, h3⟩ := M.anyC_iff.1 h6
  exact ⟨x, h1, h2, M.spanTo_iff.2 ⟨l, h4, h5, h3⟩⟩
end
/-- the sets of all ticks, as they are made: the first i are -/
structure AllP (W : World) (base : Nat) (v : Value) (n nd i : Nat) (G : Nat → Nat) : Prop where
 o : Own W base 100 1 v n (fun k _ => if k < i then .slice (some ⟨G k, 0, none⟩) (nd + 1) (nd + 1) else .slice none 0 0)
 m : ∀ k, k < i → Mks W base (G k) nd (fun _ => false)
 inj : ∀ k k', k < i → k' < i → G k = G k' → k = k'
section
variable {W W' : World} {base n nd i : Nat} {v : Value} {G : Nat → Nat}
theorem AllP.below (h : AllP W base v n nd i G) (hb : Below W.heap.size W W') : AllP W' base v n nd i G := ⟨h.o.below hb, fun k hk => (h.m k hk).below hb, h.inj⟩
theorem AllP.set {g ag c : Nat} (h : AllP W base (.slice (some ⟨ag, 0, none⟩) n c) n nd i G) (hi : i < n) (hm : Mks W base g nd (fun _ => false)) (hg : ∀ k, k < i → G k ≠ g) : AllP (W.setCell ⟨ag, i, none⟩ (.slice (some ⟨g, 0, none⟩) (nd + 1) (nd + 1))) base (.slice (some ⟨ag, 0, none⟩) n c) n nd (i + 1) (fun k => if k = i then g else G k) := by
 have hne : ∀ {g' : Nat} {p : Nat → Bool}, Mks W base g' nd p → Mks (W.setCell ⟨ag, i, none⟩ (.slice (some ⟨g, 0, none⟩) (nd + 1) (nd + 1))) base g' nd p := fun {g' p} hm' => by
  obtain ⟨cs, hcs⟩ := hm'.type
  exact Own.setCell (p := ⟨ag, i, none⟩) hm' (fun e => Own.ne_blk h.o hcs (by decide) e.symm) _
 refine ⟨(h.o.set1 i _).congr fun k j hk _ => ?_, fun k hk => ?_, fun k k' hk hk' e => ?_⟩
 ·
  unfold upd
  by_cases e : k = i
  · subst e; simp
  ·
   by_cases e2 : k < i
   · simp [e, e2, show k < i + 1 by omega]
   · simp [e, e2, show ¬ k < i + 1 by omega]
 ·
  by_cases e : k = i
  · subst e; simp only [if_true]; exact hne hm
  · simp only [if_neg e]; exact hne (h.m k (by omega))
 ·
  by_cases e1 : k = i
  ·
   by_cases e2 : k' = i
   · omega
   ·
    simp only [if_pos e1, if_neg e2] at e
    exact absurd e.symm (hg k' (by omega))
  ·
   by_cases e2 : k' = i
   ·
    simp only [if_neg e1, if_pos e2] at e
    exact absurd e (hg k (by omega))
   ·
    simp only [if_neg e1, if_neg e2] at e
    exact h.inj k k' (by omega) (by omega) e
theorem AllP.rowz (h : AllP W base v n nd n G) : Rowz W base v n nd G (fun _ _ => false) := ⟨h.o.congr fun k _ hk _ => by rw [if_pos hk], h.m, h.inj⟩
end
section
variable {W W' : World} {base n nd : Nat} {v : Value} {G : Nat → Nat} {Q : Nat → Nat → Bool}
theorem far_own {g t t2 b m n2 c ag k : Nat} {cs : Array Value} {F : Nat → Nat → Value} (h : Blk W g t cs) (ho : Own W b t2 m (.slice (some ⟨ag, 0, none⟩) n2 c) n2 F) (ht : t2 ≠ t) (u : Value) : Blk (W.setCell ⟨ag, k, none⟩ u) g t cs := h.far (p := ⟨ag, k, none⟩) (fun e => Own.ne_blk ho h ht (by subst e; rfl)) u
/-- rows are not touched by a store to marks that are older -/
theorem Rowz.other (h : Rowz W base v n nd G Q) {g j : Nat} {cs : Array Value} {u : Value} (hg : g < base) (hb : Blk W g 4 cs) : Rowz (W.setCell ⟨g, j, none⟩ u) base v n nd G Q :=
 ⟨h.o.setCell (p := ⟨g, j, none⟩) (Own.ne_blk h.o hb (by decide)) u, fun k hk => (h.m k hk).other (fun e => by have := (h.m k hk).blk.1; omega) j u, h.inj⟩
theorem Rowz.far {g t k j : Nat} {cs : Array Value} {u : Value} (h : Rowz W base v n nd G Q) (hk : k < n) (hb : Blk W g t cs) (ht : 4 ≠ t) : Blk (W.setCell ⟨G k, j, none⟩ u) g t cs := far_own hb (h.m k hk) ht u
theorem Rowz.apart (h : Rowz W base v n nd G Q) {b2 t2 m2 n2 : Nat} {v2 : Value} {F2 : Nat → Nat → Value} (ho : Own W b2 t2 m2 v2 n2 F2) (h1 : t2 ≠ 100) (h2 : t2 ≠ 4) (hg : W.grownBy W' v2.ownBlock) : Rowz W' base v n nd G Q :=
 ⟨Own.apart_grown h.o (ho.apart_type h.o h1) hg, fun k hk => Own.apart_grown (h.m k hk) (ho.apart_type (h.m k hk) h2) hg, h.inj⟩
end
theorem ints_info : (Tryz.prog.info? 22).map (fun i => (i.zero, i.size, i.bytes)) = some (some (.slice none 0 0), 1, 24) := by kernel_rfl
section
variable {d : M.Dr} {zA cA wA dA tA sA xA hA : Option Addr} {cl : Nat → Nat} {dc tc sc zc cc wc xc hn hc B ta lo hi : Nat} {xL : List Int} {Xs : Nat → SgV} {w : World}
set_option maxRecDepth 100000 in
set_option maxHeartbeats 12800000 in
theorem rPlaces_ok (hd : d.Ok) (hcl : ∀ i, i < d.nz → cl i + 1 = d.s.nt) (hR : RdD w B dA tA sA zA cA wA d.s.nd d.s.nt d.s.nt d.s.nd d.nz (d.s.nt - 1) d.s.dep d.s.tide d.s.sw d.z cl d.cu d.wd) (hB : B ≤ w.heap.size) (hx3 : Rd1 w B xA xL.length (fun k => xL.getD k 0)) (hx4 : xL.length ≤ maxLen) (hRS : RdS w B hA hn Xs) (hhn : hn ≤ maxLen)
  (hX : chkX d.s.nd d.s.nt (ta : Int) (lo : Int) (hi : Int) xL = true) (hS : chkS d.s.nd d.s.nt (ta : Int) hn Xs = true) :
  Calls Tryz.prog 35 #[.agg #[.int .i64 (d.s.W : Int), .int .i64 (d.s.H : Int), .slice dA d.s.nd dc, .slice tA d.s.nt tc, .slice sA d.s.nt sc, .slice zA d.s.nd zc, .slice cA d.nz cc, .slice wA (d.s.nt - 1) wc], .agg #[.int .i64 (ta : Int), .slice xA xL.length xc, .int .i64 (lo : Int), .int .i64 (hi : Int)], .slice hA hn hc] w fun e w' => Below w.heap.size w w' ∧ ((strP d (ta : Int) (lo : Int) (hi : Int) xL hn Xs 0 (-1) = false ∧ e = .returned (.tuple #[.slice none 0 0, .int .i64 3])) ∨ (strP d (ta : Int) (lo : Int) (hi : Int) xL hn Xs 0 (-1) = true ∧ ∃ v, e = .returned (.tuple #[v, .int .i64 0]) ∧ LiV w' w.heap.size 22 (d.s.nt - ta) (fun i u => IL w' w.heap.size u (plcL d ta (d.s.nt - ta) hn xL Xs (lo : Int) (hi : Int) i)) v)) := by
 have hnd := hd.s.nd1
 have hnt := hd.s.t2
 obtain ⟨⟨ha1, ha2⟩, hxl, -, hl1, hl2, hl3⟩ := chkX_bd hX
 have hta : ta < d.s.nt := by omega
 have hlo : lo ≤ hi := by omega
 have hhi : hi ≤ 8 := by omega
 have HB0 := Lib.hid (belowAlloc2 w (.cells #[.int .i64 (d.s.W : Int), .int .i64 (d.s.H : Int), .slice dA d.s.nd dc, .slice tA d.s.nt tc, .slice sA d.s.nt sc, .slice zA d.s.nd zc, .slice cA d.nz cc, .slice wA (d.s.nt - 1) wc] 29) (.cells #[.int .i64 (ta : Int), .slice xA xL.length xc, .int .i64 (lo : Int), .int .i64 (hi : Int)] 44))
 have K0 := Lib.hid ((Blk.new w 29 #[.int .i64 (d.s.W : Int), .int .i64 (d.s.H : Int), .slice dA d.s.nd dc, .slice tA d.s.nt tc, .slice sA d.s.nt sc, .slice zA d.s.nd zc, .slice cA d.nz cc, .slice wA (d.s.nt - 1) wc]).alloc (.cells #[.int .i64 (ta : Int), .slice xA xL.length xc, .int .i64 (lo : Int), .int .i64 (hi : Int)] 44))
 have X0 := Lib.hid (Blk.new1 w (.cells #[.int .i64 (d.s.W : Int), .int .i64 (d.s.H : Int), .slice dA d.s.nd dc, .slice tA d.s.nt tc, .slice sA d.s.nt sc, .slice zA d.s.nd zc, .slice cA d.nz cc, .slice wA (d.s.nt - 1) wc] 29) 44 #[.int .i64 (ta : Int), .slice xA xL.length xc, .int .i64 (lo : Int), .int .i64 (hi : Int)])
 have HCA := Lib.hid (fun (V : World) (hb : Below w.heap.size w V) => (show Calls Tryz.prog 58 #[.agg #[.int .i64 (d.s.W : Int), .int .i64 (d.s.H : Int), .slice dA d.s.nd dc, .slice tA d.s.nt tc, .slice sA d.s.nt sc, .slice zA d.s.nd zc, .slice cA d.nz cc, .slice wA (d.s.nt - 1) wc], .agg #[.int .i64 (ta : Int), .slice xA xL.length xc, .int .i64 (lo : Int), .int .i64 (hi : Int)], .slice hA hn hc] V fun e w' => e = .returned (.int .i64 0) ∧ Below V.heap.size V w' from by
  have h := rcheckall_any (dc := dc) (tc := tc) (sc := sc) (zc := zc) (cc := cc) (wc := wc) (xc := xc) (hc := hc) (W := d.s.W) (H := d.s.H) (at_ := (ta : Int)) (lo := (lo : Int)) (hi := (hi : Int)) (show d.s.nd ≤ maxLen by unfold maxLen; omega) (show d.s.nt ≤ maxLen by unfold maxLen; omega) (show d.s.nt ≤ maxLen by unfold maxLen; omega) (show d.s.nd ≤ maxLen by unfold maxLen; omega) (show d.nz ≤ maxLen by have := hd.z4; unfold maxLen; omega) (show d.s.nt - 1 ≤ maxLen by unfold maxLen; omega) (hR.below (hb.mono hB)) (Nat.le_trans hB hb.size) (hx3.below (hb.mono hB)) hx4 (hRS.below (hb.mono hB)) hhn
  rw [hX, hS, hd.chk hcl] at h
  exact h))
 obtain ⟨m, hm⟩ : ∃ m, m = d.s.nt - 1 - ta := ⟨_, rfl⟩
 have HM := Lib.hid (show ta + m + 1 = d.s.nt by omega)
 have HMO := Lib.hid (fun (V : World) (hb : Below w.heap.size w V) (l : Nat) (hl : l ≤ 8) => (show Calls Tryz.prog 73 #[.agg #[.int .i64 (d.s.W : Int), .int .i64 (d.s.H : Int), .slice dA d.s.nd dc, .slice tA d.s.nt tc, .slice sA d.s.nt sc, .slice zA d.s.nd zc, .slice cA d.nz cc, .slice wA (d.s.nt - 1) wc], .agg #[.int .i64 (ta : Int), .slice xA xL.length xc, .int .i64 (lo : Int), .int .i64 (hi : Int)], .int .i64 (l : Int)] V fun e w' => (∃ v, e = .returned v ∧ MovV w' V.heap.size d.s.nd m (movF d ta (l : Int)) v) ∧ Below V.heap.size V w' from by
  rw [hm]
  exact rmoves_any (dc := dc) (tc := tc) (sc := sc) (zc := zc) (cc := cc) (wc := wc) (xA := xA) (xn := xL.length) (xc := xc) (lo := (lo : Int)) (hi := (hi : Int)) hd hcl (hR.below (hb.mono hB)) (Nat.le_trans hB hb.size) ta l hta hl))
 have HSE := Lib.hid (fun (V : World) (hb : Below w.heap.size w V) (b : Nat) (v : Value) (l : Int) (hl : MovV V b d.s.nd m (movF d ta l) v) => rsets_drift (dc := dc) (tc := tc) (sc := sc) (zc := zc) (cc := cc) (wc := wc) (xc := xc) (hc := hc) (zA := zA) (cA := cA) (wA := wA) (dA := dA) (tA := tA) (sA := sA) (lo := (lo : Int)) (hi := (hi : Int)) hd (by omega) (Nat.le_trans hB hb.size) (hx3.below (hb.mono hB)) hx4 (hRS.below (hb.mono hB)) hhn hl)
 have HNO := Lib.hid (fun (V : World) => rnone_any (W := (d.s.W : Int)) (H := (d.s.H : Int)) (dA := dA) (tA := tA) (sA := sA) (zA := zA) (cA := cA) (wA := wA) (nd := d.s.nd) (dc := dc) (nt := d.s.nt) (tc := tc) (ns := d.s.nt) (sc := sc) (zn := d.s.nd) (zc := zc) (cn := d.nz) (cc := cc) (wn := d.s.nt - 1) (wc := wc) (w := V) (by omega))
 obtain ⟨n, hn1⟩ : ∃ n, n = d.s.nt - ta := ⟨_, rfl⟩
 have hnm : n = m + 1 := by omega
 obtain ⟨S, hS1⟩ : ∃ S : Int → Nat → Nat → Bool, S = fun l => setF d ta m hn xL Xs l := ⟨_, rfl⟩
 obtain ⟨PB, hPB⟩ : ∃ P, P = plcB d ta n hn xL Xs (lo : Int) (hi : Int) := ⟨_, rfl⟩
 have HPB := Lib.hid (show ∀ i k : Nat, PB i ((k : Int) - 1) = M.spanTo (lo : Int) (hi : Int) (fun l => S l i k) from fun i k => by rw [hPB, hS1]; unfold plcB setF; rw [hnm, Nat.add_sub_cancel])
 have HST := Lib.hid (show strP d (ta : Int) (lo : Int) (hi : Int) xL hn Xs 0 (-1) = M.anyC d.s.nd (PB 0) from by unfold strP; rw [hPB, Int.toNat_natCast, ← hn1, plcB_some])
 have HPL := Lib.hid (show ∀ i, plcL d ta n hn xL Xs (lo : Int) (hi : Int) i = M.listB d.s.nd (PB i) from fun i => by rw [hPB]; rfl)
 have HSE2 := Lib.hid (fun (V : World) (hb : Below w.heap.size w V) (b : Nat) (v : Value) (l : Int) (hl : MovV V b d.s.nd m (movF d ta l) v) => (show Calls Tryz.prog 72 #[.agg #[.int .i64 (d.s.W : Int), .int .i64 (d.s.H : Int), .slice dA d.s.nd dc, .slice tA d.s.nt tc, .slice sA d.s.nt sc, .slice zA d.s.nd zc, .slice cA d.nz cc, .slice wA (d.s.nt - 1) wc], .agg #[.int .i64 (ta : Int), .slice xA xL.length xc, .int .i64 (lo : Int), .int .i64 (hi : Int)], .slice hA hn hc, v] V fun e w' => (∃ v G, e = .returned v ∧ Rowz w' V.heap.size v n d.s.nd G (S l)) ∧ Below V.heap.size V w' from by rw [hS1, hnm]; exact HSE.out V hb b v l hl))
 have HNM := Lib.hid hnm
 rw [HST.out, ← hn1]
 have hn0 : 0 < n := by omega
 have hn60 : n ≤ 60 := by omega
 have hne : (d.s.nt : Int) - (ta : Int) = (n : Int) := by omega
 obtain ⟨j0, ki, kz0, kz1, kz2⟩ := info_parts marks_info
 have MJ := Lib.hid (And.intro ki (And.intro kz0 (And.intro kz1 kz2)))
 obtain ⟨j1, li, lz0, lz1, lz2⟩ := info_parts ints_info
 have ML := Lib.hid (And.intro li (And.intro lz0 (And.intro lz1 lz2)))
 clear ki kz0 kz1 kz2 li lz0 lz1 lz2 HSE hS1 hPB hnm hn1 hR hd hcl hB hx3 hRS hX hS hm hxl ha1 ha2 hl1 hl2 hl3 HM
 go_enter Tryz.func35, Tryz.ntmps35
 go_upto_region 1 with fail
 generalize (w.alloc (.cells #[.int .i64 (d.s.W : Int), .int .i64 (d.s.H : Int), .slice dA d.s.nd dc, .slice tA d.s.nt tc, .slice sA d.s.nt sc, .slice zA d.s.nd zc, .slice cA d.nz cc, .slice wA (d.s.nt - 1) wc] 29)).alloc (.cells #[.int .i64 (ta : Int), .slice xA xL.length xc, .int .i64 (lo : Int), .int .i64 (hi : Int)] 44) = X at HB0 K0 X0 ⊢
 have HCX := Lib.hid (HCA.out X HB0.out)
 have k0 := K0.out.cell 0
 have k1 := K0.out.cell 1
 have k2 := K0.out.cell 2
 have k3 := K0.out.cell 3
 have k4 := K0.out.cell 4
 have k5 := K0.out.cell 5
 have k6 := K0.out.cell 6
 have k7 := K0.out.cell 7
 have x0 := X0.out.cell 0
 have x1 := X0.out.cell 1
 have x2 := X0.out.cell 2
 have x3 := X0.out.cell 3
 go_wp2_with fail
 refine HCX.out.mono ?_
 rintro e w1 ⟨rfl, hb⟩
 have HB1 := Lib.hid (HB0.out.trans (hb.mono HB0.out.size))
 have K1 := Lib.hid (K0.out.below' hb)
 have X1 := Lib.hid (X0.out.below' hb)
 clear hb k0 k1 k2 k3 k4 k5 k6 k7 x0 x1 x2 x3 HCX K0 X0 HB0
 have k3 := K1.out.cell 3
 have x0 := X1.out.cell 0
 have hz1 := HB1.out.size
 go_wp2_with (at_make; refine wpList_make_full _ rfl (.tmp 30) (.tmp 30) 121 rfl w.heap.size 100 j0 (.slice none 0 0) 1 Tryz.underlying121 MJ.out.1 MJ.out.2.1 MJ.out.2.2.1 .i64 .i64 (n : Int) (n : Int) n rfl rfl (by omega) (by omega) (by rw [MJ.out.2.2.2]; omega) (by unfold maxLen; omega) hz1 ?_; intro w3 hm3 hg3; have HM3 := Lib.hid (own_made hm3); have HG3 := Lib.hid (grown_below hg3); clear hm3 hg3)
 obtain ⟨ag, ac, e⟩ := Own.nz HM3.out hn0
 have HB3 := Lib.hid (HB1.out.trans (HG3.out.mono hz1))
 have K3 := Lib.hid (K1.out.below' HG3.out)
 have X3 := Lib.hid (X1.out.below' HG3.out)
 cases e
 have HA3 := Lib.hid (show AllP w3 w.heap.size (.slice (some ⟨w1.heap.size, 0, none⟩) n n) n d.s.nd 0 (fun _ => 0) from ⟨HM3.out.congr fun k _ _ _ => by rw [if_neg (Nat.not_lt_zero k)], fun k hk => absurd hk (by omega), fun k k' hk => absurd hk (by omega)⟩)
 clear HM3 HG3 K1 X1 HB1 k3 x0
 obtain ⟨ag, hag⟩ : ∃ a, a = w1.heap.size := ⟨_, rfl⟩
 rw [← hag] at HA3
 rw [← hag]
 clear hag hz1
 clear w1
 go_wp2_with fail
 go_loopw [10] (fun i wr => ∃ k : Nat, k ≤ n ∧ i = .int .i64 (k : Int) ∧ ∃ G, Hid (AllP wr w.heap.size (.slice (some ⟨ag, 0, none⟩) n n) n d.s.nd k G) ∧ Hid (Below w.heap.size w wr ∧ Blk wr w.heap.size 29 #[.int .i64 (d.s.W : Int), .int .i64 (d.s.H : Int), .slice dA d.s.nd dc, .slice tA d.s.nt tc, .slice sA d.s.nt sc, .slice zA d.s.nd zc, .slice cA d.nz cc, .slice wA (d.s.nt - 1) wc] ∧ Blk wr (w.heap.size + 1) 44 #[.int .i64 (ta : Int), .slice xA xL.length xc, .int .i64 (lo : Int), .int .i64 (hi : Int)])) (fun i _ => n - (intOf i).toNat)
 case atStart => exact ⟨0, Nat.zero_le _, rfl, _, HA3, Lib.hid ⟨HB3.out, K3.out, X3.out⟩⟩
 case round =>
  obtain ⟨k, hk, rfl, G, HA, HS⟩ := hrel
  clear HA3 HB3 K3 X3
  by_cases hlt : k < n
  ·
   have g1 : decide (k < n) = true := decide_eq_true hlt
   have gi : (k : Int) < (n : Int) := by omega
   have k0 := HS.out.2.1.cell 0
   have k1 := HS.out.2.1.cell 1
   have k2 := HS.out.2.1.cell 2
   have k3 := HS.out.2.1.cell 3
   have k4 := HS.out.2.1.cell 4
   have k5 := HS.out.2.1.cell 5
   have k6 := HS.out.2.1.cell 6
   have k7 := HS.out.2.1.cell 7
   have HNX := Lib.hid (HNO.out wr)
   go_wp2_with fail
   refine HNX.out.mono ?_
   rintro e w4 ⟨rfl, hm4, hb⟩
   have HA4 := Lib.hid (HA.out.below hb)
   have HB4 := Lib.hid (HS.out.1.trans (hb.mono HS.out.1.size))
   have K4 := Lib.hid (HS.out.2.1.below' hb)
   have X4 := Lib.hid (HS.out.2.2.below' hb)
   have HMN := Lib.hid (show Mks w4 w.heap.size (wr.heap.size + 1) d.s.nd (fun _ => false) from Own.less hm4 (by have := HS.out.1.size; omega))
   have HGN := Lib.hid (show ∀ q, q < k → G q ≠ wr.heap.size + 1 from fun q hq => by have := (HA.out.m q hq).blk.2; omega)
   clear hm4 hb HNX k0 k1 k2 k3 k4 k5 k6 k7 HA HS
   have c0 : w4.cell? ⟨ag, k, none⟩ = some (.slice none 0 0) := by
    have h := Own.cell1 HA4.out.o hlt
    rwa [if_neg (Nat.lt_irrefl _)] at h
   have f0 := Own.frz HA4.out.o k
   have hgl : ag < w4.heap.size := (Own.block HA4.out.o rfl).2
   go_wp2_with fail
   go_roundw
   case rel => exact ⟨k + 1, by omega, by go_num, _, Lib.hid (HA4.out.set hlt HMN.out HGN.out), Lib.hid ⟨HB4.out.setCell (p := ⟨ag, k, none⟩) (Own.block HA4.out.o rfl).1 _, far_own K4.out HA4.out.o (by decide) _, far_own X4.out HA4.out.o (by decide) _⟩⟩
   case measure => simp [intOf]; omega
  ·
   obtain rfl : k = n := by omega
   have g1 : decide (k < k) = false := decide_eq_false (Nat.lt_irrefl _)
   have HV3 := Lib.hid HA.out.rowz
   have x2 := HS.out.2.2.cell 2
   clear HA HNO
   go_wp2_with fail
   clear x2
   go_loopw [11] (fun i wr => ∃ l : Nat, l ≤ hi + 1 ∧ lo ≤ l ∧ i = .int .i64 (l : Int) ∧ ∃ Q : Nat → Nat → Bool, Hid (Rowz wr w.heap.size (.slice (some ⟨ag, 0, none⟩) k k) k d.s.nd G Q) ∧ Hid (∀ i x, i < k → x < d.s.nd + 1 → Q i x = M.spanTo (lo : Int) ((l : Int) - 1) (fun l => S l i x)) ∧ Hid (Below w.heap.size w wr ∧ Blk wr w.heap.size 29 #[.int .i64 (d.s.W : Int), .int .i64 (d.s.H : Int), .slice dA d.s.nd dc, .slice tA d.s.nt tc, .slice sA d.s.nt sc, .slice zA d.s.nd zc, .slice cA d.nz cc, .slice wA (d.s.nt - 1) wc] ∧ Blk wr (w.heap.size + 1) 44 #[.int .i64 (ta : Int), .slice xA xL.length xc, .int .i64 (lo : Int), .int .i64 (hi : Int)])) (fun i _ => hi + 1 - (intOf i).toNat)
   case atStart => exact ⟨lo, by omega, Nat.le_refl _, rfl, _, HV3, Lib.hid (fun i x _ _ => by rw [M.spanTo_nil (by omega)]), HS⟩
   case round =>
    obtain ⟨l, hl1, hl2, rfl, Q, HV, HQ, HS2⟩ := hrel
    clear HV3 HS
    by_cases hll : l ≤ hi
    ·
     have g2 : decide (l ≤ hi) = true := decide_eq_true hll
     have g2' : decide ((l : Int) ≤ (hi : Int)) = true := decide_eq_true (by omega)
     have x3 := HS2.out.2.2.cell 3
     go_upto_region 12 with fail
     clear x3
     refine wp_nopanic ?_
     refine wp_region_T 8 (fun w' => Below wr.heap.size wr w') (by kernel_rfl) (Below.refl _ _).drew ?_
     intro hS
     refine takeK (i := 0) (v := ?_) rfl (by kernel_rfl) (.inl ⟨by kernel_rfl, ?_⟩) hS ?_
     rotate_left
     · (intro w' hw; have k0 := (HS2.out.2.1.below' hw).cell 0; have k1 := (HS2.out.2.1.below' hw).cell 1; have k2 := (HS2.out.2.1.below' hw).cell 2; have k3 := (HS2.out.2.1.below' hw).cell 3; have k4 := (HS2.out.2.1.below' hw).cell 4; have k5 := (HS2.out.2.1.below' hw).cell 5; have k6 := (HS2.out.2.1.below' hw).cell 6; have k7 := (HS2.out.2.1.below' hw).cell 7; go_simp; try with_reducible rfl)
     try simp only [put_laws]
     refine takeK (i := 1) (v := ?_) rfl (by kernel_rfl) (.inl ⟨by kernel_rfl, ?_⟩) hS ?_
     rotate_left
     · (intro w' hw; have x0 := (HS2.out.2.2.below' hw).cell 0; have x1 := (HS2.out.2.2.below' hw).cell 1; have x2 := (HS2.out.2.2.below' hw).cell 2; have x3 := (HS2.out.2.2.below' hw).cell 3; go_simp; try with_reducible rfl)
     try simp only [put_laws]
     refine takeK (i := 2) (v := ?_) rfl (by kernel_rfl) (.inl ⟨by kernel_rfl, ?_⟩) hS ?_
     rotate_left
     · (intro w' hw; go_simp; try with_reducible rfl)
     try simp only [put_laws]
     refine takeK (i := 3) (v := ?_) rfl (by kernel_rfl) (.inl ⟨by kernel_rfl, ?_⟩) hS ?_
     rotate_left
     · (intro w' hw; have k0 := (HS2.out.2.1.below' hw).cell 0; have k1 := (HS2.out.2.1.below' hw).cell 1; have k2 := (HS2.out.2.1.below' hw).cell 2; have k3 := (HS2.out.2.1.below' hw).cell 3; have k4 := (HS2.out.2.1.below' hw).cell 4; have k5 := (HS2.out.2.1.below' hw).cell 5; have k6 := (HS2.out.2.1.below' hw).cell 6; have k7 := (HS2.out.2.1.below' hw).cell 7; go_simp; try with_reducible rfl)
     try simp only [put_laws]
     refine takeK (i := 4) (v := ?_) rfl (by kernel_rfl) (.inl ⟨by kernel_rfl, ?_⟩) hS ?_
     rotate_left
     · (intro w' hw; have x0 := (HS2.out.2.2.below' hw).cell 0; have x1 := (HS2.out.2.2.below' hw).cell 1; have x2 := (HS2.out.2.2.below' hw).cell 2; have x3 := (HS2.out.2.2.below' hw).cell 3; go_simp; try with_reducible rfl)
     try simp only [put_laws]
     refine takeK (i := 5) (v := ?_) rfl (by kernel_rfl) (.inl ⟨by kernel_rfl, ?_⟩) hS ?_
     rotate_left
     · (intro w' hw; go_simp; try with_reducible rfl)
     try simp only [put_laws]
     refine wpAnyT_one (i := 6) (by kernel_rfl) rfl ?_
     intro K' hK'
     go_simp
     refine (HMO.out wr.drew HS2.out.1.drew l (by omega)).mono ?_
     rintro e w5 ⟨⟨v5, rfl, ht5⟩, hb5⟩
     have HB5 := Lib.hid (show Below wr.heap.size wr w5 from (Below.refl _ wr).drew.trans (hb5.mono (Nat.le_refl _)))
     obtain ⟨tA5, tc5, rfl⟩ := LiV.form ht5
     have HT5 := Lib.hid ht5
     clear ht5 hb5
     refine hK'.out _ _ (.inr HB5.out) ?_
     clear hK' K'
     try simp only [put_laws]
     refine wpAnyT_one (i := 7) (by kernel_rfl) rfl ?_
     intro K' hK'
     go_simp
     refine (HSE2.out w5 (HS2.out.1.trans (HB5.out.mono HS2.out.1.size)) _ _ (l : Int) HT5.out).mono ?_
     rintro e w6 ⟨⟨v6, G6, rfl, hz6⟩, hb6⟩
     obtain ⟨sg, sc6, e6⟩ := Own.nz hz6.o hn0
     subst e6
     have HB6 := Lib.hid (show Below wr.heap.size wr w6 from HB5.out.trans (hb6.mono HB5.out.size))
     have HZ6 := Lib.hid hz6
     have HB7 := Lib.hid (show wr.heap.size ≤ w5.heap.size from HB5.out.size)
     clear hz6 hb6
     refine hK'.out _ _ (.inr HB6.out) ?_
     clear hK' K'
     try simp only [put_laws]
     refine wpAnyT_one (i := 8) (by kernel_rfl) rfl ?_
     intro K' hK'
     go_simp
     refine hK'.out _ _ (.inl rfl) ?_
     clear hK' K'
     try simp only [put_laws]
     refine wpAnyT_done (by kernel_rfl) ?_ _
     refine ⟨fun x e => (by cases e), ?_⟩
     have HV6 := Lib.hid (HV.out.below HB6.out)
     have HS6 := Lib.hid (show Below w.heap.size w w6 ∧ Blk w6 w.heap.size 29 #[.int .i64 (d.s.W : Int), .int .i64 (d.s.H : Int), .slice dA d.s.nd dc, .slice tA d.s.nt tc, .slice sA d.s.nt sc, .slice zA d.s.nd zc, .slice cA d.nz cc, .slice wA (d.s.nt - 1) wc] ∧ Blk w6 (w.heap.size + 1) 44 #[.int .i64 (ta : Int), .slice xA xL.length xc, .int .i64 (lo : Int), .int .i64 (hi : Int)] from ⟨HS2.out.1.trans (HB6.out.mono HS2.out.1.size), HS2.out.2.1.below' HB6.out, HS2.out.2.2.below' HB6.out⟩)
     have HGL := Lib.hid (show ∀ i, i < k → G i < w5.heap.size from fun i hi => by have h1 := (HV.out.m i hi).blk.2; have h2 := HB7.out; omega)
     clear HT5 HB5 HB6 HB7 hS HV HS2
     generalize w5.heap.size = b7 at HZ6 HGL
     clear w5
     go_wp2_with fail
     go_loopw [13] (fun j wr => ∃ i : Nat, i ≤ k ∧ j = .int .i64 (i : Int) ∧ ∃ Q2 : Nat → Nat → Bool, Hid (Rowz wr w.heap.size (.slice (some ⟨ag, 0, none⟩) k k) k d.s.nd G Q2) ∧ Hid (∀ i' x, i' < k → x < d.s.nd + 1 → Q2 i' x = if i' < i then (Q i' x || S l i' x) else Q i' x) ∧ Hid (Rowz wr b7 (.slice (some ⟨sg, 0, none⟩) k sc6) k d.s.nd G6 (S l)) ∧ Hid (Below w.heap.size w wr ∧ Blk wr w.heap.size 29 #[.int .i64 (d.s.W : Int), .int .i64 (d.s.H : Int), .slice dA d.s.nd dc, .slice tA d.s.nt tc, .slice sA d.s.nt sc, .slice zA d.s.nd zc, .slice cA d.nz cc, .slice wA (d.s.nt - 1) wc] ∧ Blk wr (w.heap.size + 1) 44 #[.int .i64 (ta : Int), .slice xA xL.length xc, .int .i64 (lo : Int), .int .i64 (hi : Int)])) (fun j _ => k - (intOf j).toNat)
     case atStart => exact ⟨0, Nat.zero_le _, rfl, Q, HV6, Lib.hid (fun i' x _ _ => by rw [if_neg (Nat.not_lt_zero _)]), HZ6, HS6⟩
     case round =>
      obtain ⟨i, hi', rfl, Q2, HV2, HQ2, HZ2, HS3⟩ := hrel
      clear HV6 HZ6 HS6
      by_cases hik : i < k
      ·
       have g3 : decide (i < k) = true := decide_eq_true hik
       have HIK := Lib.hid hik
       go_wp2_with fail
       go_loopw [14] (fun j wr => ∃ c : Nat, c ≤ d.s.nd + 1 ∧ j = .int .i64 (c : Int) ∧ ∃ Q3 : Nat → Nat → Bool, Hid (Rowz wr w.heap.size (.slice (some ⟨ag, 0, none⟩) k k) k d.s.nd G Q3) ∧ Hid (∀ i' x, i' < k → x < d.s.nd + 1 → Q3 i' x = if i' < i ∨ (i' = i ∧ x < c) then (Q i' x || S l i' x) else Q i' x) ∧ Hid (Rowz wr b7 (.slice (some ⟨sg, 0, none⟩) k sc6) k d.s.nd G6 (S l)) ∧ Hid (Below w.heap.size w wr ∧ Blk wr w.heap.size 29 #[.int .i64 (d.s.W : Int), .int .i64 (d.s.H : Int), .slice dA d.s.nd dc, .slice tA d.s.nt tc, .slice sA d.s.nt sc, .slice zA d.s.nd zc, .slice cA d.nz cc, .slice wA (d.s.nt - 1) wc] ∧ Blk wr (w.heap.size + 1) 44 #[.int .i64 (ta : Int), .slice xA xL.length xc, .int .i64 (lo : Int), .int .i64 (hi : Int)])) (fun j _ => d.s.nd + 1 - (intOf j).toNat)
       case atStart => exact ⟨0, Nat.zero_le _, rfl, Q2, HV2, Lib.hid (fun i' x h1 h2 => by rw [HQ2.out i' x h1 h2]; congr 1; simp), HZ2, HS3⟩
       case round =>
        obtain ⟨c, hc, rfl, Q3, HV3, HQ3, HZ3, HS4⟩ := hrel
        clear HV2 HQ2 HZ2 HS3 Q2
        obtain ⟨_, _, e, c0⟩ := HV3.out.row HIK.out
        cases e
        by_cases hct : c < d.s.nd + 1
        ·
         have g4 : decide (c < d.s.nd + 1) = true := decide_eq_true hct
         have gi1 : (i : Int) < (k : Int) := by omega
         have gi2 : (c : Int) < (d.s.nd : Int) + 1 := by omega
         have c1 := (HV3.out.m i HIK.out).cell (i := c) hct
         have f0 := (HV3.out.m i HIK.out).frz c
         have hgl := (HV3.out.m i HIK.out).blk.2
         rw [HQ3.out i c HIK.out hct, if_neg (by omega)] at c1
         obtain ⟨_, _, e, s0⟩ := HZ3.out.row HIK.out
         cases e
         have s1 := (HZ3.out.m i HIK.out).cell (i := c) hct
         obtain ⟨sb, hsb⟩ : ∃ x, x = S l i c := ⟨_, rfl⟩
         rw [← hsb] at s1
         have HSB := Lib.hid hsb
         clear hsb
         obtain ⟨pv, hpv⟩ : ∃ x, x = Q i c := ⟨_, rfl⟩
         rw [← hpv] at c1
         have HPV := Lib.hid hpv
         clear hpv
         cases pv
         ·
          have HNEW := Lib.hid (show sb = (Q i c || S l i c) from by rw [← HPV.out, ← HSB.out]; rfl)
          go_upto_region 19 with fail
          refine wp_nopanic ?_
          refine wp_region_T 22 (fun Z2 => Z2.cell? ⟨ag, i, none⟩ = some (.slice (some ⟨G i, 0, none⟩) (d.s.nd + 1) (d.s.nd + 1)) ∧ Z2.cell? ⟨G i, c, none⟩ = some (.bool false) ∧ Z2.cell? ⟨sg, i, none⟩ = some (.slice (some ⟨G6 i, 0, none⟩) (d.s.nd + 1) (d.s.nd + 1)) ∧ Z2.cell? ⟨G6 i, c, none⟩ = some (.bool sb)) (by kernel_rfl) (And.intro c0 (And.intro c1 (And.intro s0 s1))) ?_
          have d1 : wr.drew.cell? ⟨G i, c, none⟩ = some (.bool false) := c1
          have f1 : wr.drew.frozen? ⟨G i, c, none⟩ = false := f0
          have l1 : G i < wr.drew.heap.size := hgl
          clear c0 c1 s0 s1 f0 hgl
          intro hS
          refine takeK (i := 0) (v := ?_) rfl (by kernel_rfl) (.inl ⟨by kernel_rfl, ?_⟩) hS ?_
          rotate_left
          · (intro w' hw; go_simp; try with_reducible rfl)
          try simp only [put_laws]
          refine takeK (i := 1) (v := ?_) rfl (by kernel_rfl) (.inl ⟨by kernel_rfl, ?_⟩) hS ?_
          rotate_left
          · (intro w' hw; go_simp; try with_reducible rfl)
          try simp only [put_laws]
          refine takeK (i := 2) (v := ?_) rfl (by kernel_rfl) (.inl ⟨by kernel_rfl, ?_⟩) hS ?_
          rotate_left
          · (intro w' hw; go_simp; try with_reducible rfl)
          try simp only [put_laws]
          refine takeK (i := 3) (v := ?_) rfl (by kernel_rfl) (.inl ⟨by kernel_rfl, ?_⟩) hS ?_
          rotate_left
          · (intro w' hw; obtain ⟨h1, h2, h3, h4⟩ := hw; go_simp; try with_reducible rfl)
          try simp only [put_laws]
          refine takeK (i := 4) (v := ?_) rfl (by kernel_rfl) (.inl ⟨by kernel_rfl, ?_⟩) hS ?_
          rotate_left
          · (intro w' hw; go_simp; try with_reducible rfl)
          try simp only [put_laws]
          refine takeK (i := 5) (v := ?_) rfl (by kernel_rfl) (.inl ⟨by kernel_rfl, ?_⟩) hS ?_
          rotate_left
          · (intro w' hw; go_simp; try with_reducible rfl)
          try simp only [put_laws]
          refine takeK (i := 6) (v := ?_) rfl (by kernel_rfl) (.inl ⟨by kernel_rfl, ?_⟩) hS ?_
          rotate_left
          · (intro w' hw; go_simp; try with_reducible rfl)
          try simp only [put_laws]
          refine takeK (i := 7) (v := ?_) rfl (by kernel_rfl) (.inl ⟨by kernel_rfl, ?_⟩) hS ?_
          rotate_left
          · (intro w' hw; go_simp; try with_reducible rfl)
          try simp only [put_laws]
          refine takeK (i := 8) (v := ?_) rfl (by kernel_rfl) (.inl ⟨by kernel_rfl, ?_⟩) hS ?_
          rotate_left
          · (intro w' hw; obtain ⟨h1, h2, h3, h4⟩ := hw; go_simp; try with_reducible rfl)
          try simp only [put_laws]
          refine takeK (i := 9) (v := ?_) rfl (by kernel_rfl) (.inl ⟨by kernel_rfl, ?_⟩) hS ?_
          rotate_left
          · (intro w' hw; go_simp; try with_reducible rfl)
          try simp only [put_laws]
          refine takeK (i := 10) (v := ?_) rfl (by kernel_rfl) (.inl ⟨by kernel_rfl, ?_⟩) hS ?_
          rotate_left
          · (intro w' hw; go_simp; try with_reducible rfl)
          try simp only [put_laws]
          refine takeK (i := 11) (v := ?_) rfl (by kernel_rfl) (.inl ⟨by kernel_rfl, ?_⟩) hS ?_
          rotate_left
          · (intro w' hw; obtain ⟨h1, h2, h3, h4⟩ := hw; go_simp; try with_reducible rfl)
          try simp only [put_laws]
          refine takeK (i := 12) (v := ?_) rfl (by kernel_rfl) (.inl ⟨by kernel_rfl, ?_⟩) hS ?_
          rotate_left
          · (intro w' hw; go_simp; try with_reducible rfl)
          try simp only [put_laws]
          refine takeK (i := 13) (v := ?_) rfl (by kernel_rfl) (.inl ⟨by kernel_rfl, ?_⟩) hS ?_
          rotate_left
          · (intro w' hw; go_simp; try with_reducible rfl)
          try simp only [put_laws]
          refine takeK (i := 14) (v := ?_) rfl (by kernel_rfl) (.inl ⟨by kernel_rfl, ?_⟩) hS ?_
          rotate_left
          · (intro w' hw; go_simp; try with_reducible rfl)
          try simp only [put_laws]
          refine takeK (i := 15) (v := ?_) rfl (by kernel_rfl) (.inl ⟨by kernel_rfl, ?_⟩) hS ?_
          rotate_left
          · (intro w' hw; go_simp; try with_reducible rfl)
          try simp only [put_laws]
          refine takeK (i := 16) (v := ?_) rfl (by kernel_rfl) (.inl ⟨by kernel_rfl, ?_⟩) hS ?_
          rotate_left
          · (intro w' hw; obtain ⟨h1, h2, h3, h4⟩ := hw; go_simp; try with_reducible rfl)
          try simp only [put_laws]
          refine takeK (i := 17) (v := ?_) rfl (by kernel_rfl) (.inl ⟨by kernel_rfl, ?_⟩) hS ?_
          rotate_left
          · (intro w' hw; go_simp; try with_reducible rfl)
          try simp only [put_laws]
          refine takeK (i := 18) (v := ?_) rfl (by kernel_rfl) (.inl ⟨by kernel_rfl, ?_⟩) hS ?_
          rotate_left
          · (intro w' hw; go_simp; try with_reducible rfl)
          try simp only [put_laws]
          refine takeK (i := 19) (v := ?_) rfl (by kernel_rfl) (.inl ⟨by kernel_rfl, ?_⟩) hS ?_
          rotate_left
          · (intro w' hw; obtain ⟨h1, h2, h3, h4⟩ := hw; go_simp; try with_reducible rfl)
          try simp only [put_laws]
          refine takeK (i := 20) (v := ?_) rfl (by kernel_rfl) (.inl ⟨by kernel_rfl, ?_⟩) hS ?_
          rotate_left
          · (intro w' hw; go_simp; try with_reducible rfl)
          try simp only [put_laws]
          refine takeK (i := 21) (v := ?_) rfl (by kernel_rfl) (.inl ⟨by kernel_rfl, ?_⟩) hS ?_
          rotate_left
          · (intro w' hw; go_simp; try with_reducible rfl)
          try simp only [put_laws]
          refine wpAnyT_one (i := 22) (by kernel_rfl) rfl ?_
          intro K' hK'
          go_simp
          refine hK'.out _ _ (.inl rfl) ?_
          clear hK' K'
          try simp only [put_laws]
          refine wpAnyT_done (by kernel_rfl) ?_ _
          refine ⟨fun x e => (by cases e), ?_⟩
          obtain ⟨cs, hcs⟩ := (HV3.out.m i HIK.out).type
          have HW := Lib.hid (show Rowz (wr.drew.setCell ⟨G i, c, none⟩ (.bool sb)) w.heap.size (.slice (some ⟨ag, 0, none⟩) k k) k d.s.nd G _ from Rowz.set (W := wr.drew) ⟨HV3.out.o, HV3.out.m, HV3.out.inj⟩ HIK.out c sb)
          have HZW := Lib.hid (show Rowz (wr.drew.setCell ⟨G i, c, none⟩ (.bool sb)) b7 (.slice (some ⟨sg, 0, none⟩) k sc6) k d.s.nd G6 (S l) from Rowz.other (W := wr.drew) ⟨HZ3.out.o, HZ3.out.m, HZ3.out.inj⟩ (HGL.out i HIK.out) (show Blk wr.drew (G i) 4 cs from hcs))
          have HBW := Lib.hid (show Below w.heap.size w (wr.drew.setCell ⟨G i, c, none⟩ (.bool sb)) ∧ Blk (wr.drew.setCell ⟨G i, c, none⟩ (.bool sb)) w.heap.size 29 #[.int .i64 (d.s.W : Int), .int .i64 (d.s.H : Int), .slice dA d.s.nd dc, .slice tA d.s.nt tc, .slice sA d.s.nt sc, .slice zA d.s.nd zc, .slice cA d.nz cc, .slice wA (d.s.nt - 1) wc] ∧ Blk (wr.drew.setCell ⟨G i, c, none⟩ (.bool sb)) (w.heap.size + 1) 44 #[.int .i64 (ta : Int), .slice xA xL.length xc, .int .i64 (lo : Int), .int .i64 (hi : Int)] from ⟨HS4.out.1.drew.setCell (p := ⟨G i, c, none⟩) (HV3.out.m i HIK.out).blk.1 _, Rowz.far (W := wr.drew) ⟨HV3.out.o, HV3.out.m, HV3.out.inj⟩ HIK.out (show Blk wr.drew _ _ _ from HS4.out.2.1) (by decide), Rowz.far (W := wr.drew) ⟨HV3.out.o, HV3.out.m, HV3.out.inj⟩ HIK.out (show Blk wr.drew _ _ _ from HS4.out.2.2) (by decide)⟩)
          clear d1 f1 l1 hS hcs
          go_wp2_with fail
          go_roundw
          case rel => exact ⟨c + 1, by omega, by go_num, _, HW, Lib.hid (fun i' x h1 h2 => by
            by_cases e : i' = i
            ·
             subst e
             by_cases e2 : x = c
             ·
              subst e2
              simp only [if_true]
              rw [if_pos (.inr ⟨trivial, by omega⟩)]
              exact HNEW.out
             ·
              simp only [if_true, if_neg e2]
              rw [HQ3.out i' x h1 h2]
              congr 1
              apply propext
              constructor <;> rintro (h | ⟨h, h3⟩) <;> first | exact .inl h | exact .inr ⟨by first | trivial | rfl, by omega⟩
            ·
             simp only [if_neg e]
             rw [HQ3.out i' x h1 h2]
             congr 1
             apply propext
             constructor <;> rintro (h | ⟨h, h3⟩) <;> first | exact .inl h | exact absurd h e), HZW, HBW⟩
          case measure => simp [intOf]; omega
         ·
          have HNEW := Lib.hid (show true = (Q i c || S l i c) from by rw [← HPV.out]; rfl)
          go_upto_region 19 with fail
          refine wp_nopanic ?_
          refine wp_region_T 22 (fun Z2 => Z2.cell? ⟨ag, i, none⟩ = some (.slice (some ⟨G i, 0, none⟩) (d.s.nd + 1) (d.s.nd + 1)) ∧ Z2.cell? ⟨G i, c, none⟩ = some (.bool true) ∧ Z2.cell? ⟨sg, i, none⟩ = some (.slice (some ⟨G6 i, 0, none⟩) (d.s.nd + 1) (d.s.nd + 1)) ∧ Z2.cell? ⟨G6 i, c, none⟩ = some (.bool sb)) (by kernel_rfl) (And.intro c0 (And.intro c1 (And.intro s0 s1))) ?_
          have d1 : wr.drew.cell? ⟨G i, c, none⟩ = some (.bool true) := c1
          have f1 : wr.drew.frozen? ⟨G i, c, none⟩ = false := f0
          have l1 : G i < wr.drew.heap.size := hgl
          clear c0 c1 s0 s1 f0 hgl
          intro hS
          refine takeK (i := 0) (v := ?_) rfl (by kernel_rfl) (.inl ⟨by kernel_rfl, ?_⟩) hS ?_
          rotate_left
          · (intro w' hw; go_simp; try with_reducible rfl)
          try simp only [put_laws]
          refine takeK (i := 1) (v := ?_) rfl (by kernel_rfl) (.inl ⟨by kernel_rfl, ?_⟩) hS ?_
          rotate_left
          · (intro w' hw; go_simp; try with_reducible rfl)
          try simp only [put_laws]
          refine takeK (i := 2) (v := ?_) rfl (by kernel_rfl) (.inl ⟨by kernel_rfl, ?_⟩) hS ?_
          rotate_left
          · (intro w' hw; go_simp; try with_reducible rfl)
          try simp only [put_laws]
          refine takeK (i := 3) (v := ?_) rfl (by kernel_rfl) (.inl ⟨by kernel_rfl, ?_⟩) hS ?_
          rotate_left
          · (intro w' hw; obtain ⟨h1, h2, h3, h4⟩ := hw; go_simp; try with_reducible rfl)
          try simp only [put_laws]
          refine takeK (i := 4) (v := ?_) rfl (by kernel_rfl) (.inl ⟨by kernel_rfl, ?_⟩) hS ?_
          rotate_left
          · (intro w' hw; go_simp; try with_reducible rfl)
          try simp only [put_laws]
          refine takeK (i := 5) (v := ?_) rfl (by kernel_rfl) (.inl ⟨by kernel_rfl, ?_⟩) hS ?_
          rotate_left
          · (intro w' hw; go_simp; try with_reducible rfl)
          try simp only [put_laws]
          refine takeK (i := 6) (v := ?_) rfl (by kernel_rfl) (.inl ⟨by kernel_rfl, ?_⟩) hS ?_
          rotate_left
          · (intro w' hw; go_simp; try with_reducible rfl)
          try simp only [put_laws]
          refine takeK (i := 7) (v := ?_) rfl (by kernel_rfl) (.inl ⟨by kernel_rfl, ?_⟩) hS ?_
          rotate_left
          · (intro w' hw; go_simp; try with_reducible rfl)
          try simp only [put_laws]
          refine takeK (i := 8) (v := ?_) rfl (by kernel_rfl) (.inl ⟨by kernel_rfl, ?_⟩) hS ?_
          rotate_left
          · (intro w' hw; obtain ⟨h1, h2, h3, h4⟩ := hw; go_simp; try with_reducible rfl)
          try simp only [put_laws]
          refine takeK (i := 9) (v := ?_) rfl (by kernel_rfl) (.inl ⟨by kernel_rfl, ?_⟩) hS ?_
          rotate_left
          · (intro w' hw; go_simp; try with_reducible rfl)
          try simp only [put_laws]
          refine takeK (i := 10) (v := ?_) rfl (by kernel_rfl) (.inl ⟨by kernel_rfl, ?_⟩) hS ?_
          rotate_left
          · (intro w' hw; go_simp; try with_reducible rfl)
          try simp only [put_laws]
          refine takeK (i := 11) (v := ?_) rfl (by kernel_rfl) (.inl ⟨by kernel_rfl, ?_⟩) hS ?_
          rotate_left
          · (intro w' hw; obtain ⟨h1, h2, h3, h4⟩ := hw; go_simp; try with_reducible rfl)
          try simp only [put_laws]
          refine takeK (i := 12) (v := ?_) rfl (by kernel_rfl) (.inl ⟨by kernel_rfl, ?_⟩) hS ?_
          rotate_left
          · (intro w' hw; go_simp; try with_reducible rfl)
          try simp only [put_laws]
          refine takeK (i := 13) (v := undef) rfl (by kernel_rfl) (.inr ⟨by kernel_rfl, rfl⟩) hS ?_
          try simp only [put_laws]
          refine takeK (i := 14) (v := undef) rfl (by kernel_rfl) (.inr ⟨by kernel_rfl, rfl⟩) hS ?_
          try simp only [put_laws]
          refine takeK (i := 15) (v := undef) rfl (by kernel_rfl) (.inr ⟨by kernel_rfl, rfl⟩) hS ?_
          try simp only [put_laws]
          refine takeK (i := 16) (v := undef) rfl (by kernel_rfl) (.inr ⟨by kernel_rfl, rfl⟩) hS ?_
          try simp only [put_laws]
          refine takeK (i := 17) (v := undef) rfl (by kernel_rfl) (.inr ⟨by kernel_rfl, rfl⟩) hS ?_
          try simp only [put_laws]
          refine takeK (i := 18) (v := undef) rfl (by kernel_rfl) (.inr ⟨by kernel_rfl, rfl⟩) hS ?_
          try simp only [put_laws]
          refine takeK (i := 19) (v := undef) rfl (by kernel_rfl) (.inr ⟨by kernel_rfl, rfl⟩) hS ?_
          try simp only [put_laws]
          refine takeK (i := 20) (v := ?_) rfl (by kernel_rfl) (.inl ⟨by kernel_rfl, ?_⟩) hS ?_
          rotate_left
          · (intro w' hw; go_simp; try with_reducible rfl)
          try simp only [put_laws]
          refine takeK (i := 21) (v := ?_) rfl (by kernel_rfl) (.inl ⟨by kernel_rfl, ?_⟩) hS ?_
          rotate_left
          · (intro w' hw; go_simp; try with_reducible rfl)
          try simp only [put_laws]
          refine wpAnyT_one (i := 22) (by kernel_rfl) rfl ?_
          intro K' hK'
          go_simp
          refine hK'.out _ _ (.inl rfl) ?_
          clear hK' K'
          try simp only [put_laws]
          refine wpAnyT_done (by kernel_rfl) ?_ _
          refine ⟨fun x e => (by cases e), ?_⟩
          obtain ⟨cs, hcs⟩ := (HV3.out.m i HIK.out).type
          have HW := Lib.hid (show Rowz (wr.drew.setCell ⟨G i, c, none⟩ (.bool true)) w.heap.size (.slice (some ⟨ag, 0, none⟩) k k) k d.s.nd G _ from Rowz.set (W := wr.drew) ⟨HV3.out.o, HV3.out.m, HV3.out.inj⟩ HIK.out c true)
          have HZW := Lib.hid (show Rowz (wr.drew.setCell ⟨G i, c, none⟩ (.bool true)) b7 (.slice (some ⟨sg, 0, none⟩) k sc6) k d.s.nd G6 (S l) from Rowz.other (W := wr.drew) ⟨HZ3.out.o, HZ3.out.m, HZ3.out.inj⟩ (HGL.out i HIK.out) (show Blk wr.drew (G i) 4 cs from hcs))
          have HBW := Lib.hid (show Below w.heap.size w (wr.drew.setCell ⟨G i, c, none⟩ (.bool true)) ∧ Blk (wr.drew.setCell ⟨G i, c, none⟩ (.bool true)) w.heap.size 29 #[.int .i64 (d.s.W : Int), .int .i64 (d.s.H : Int), .slice dA d.s.nd dc, .slice tA d.s.nt tc, .slice sA d.s.nt sc, .slice zA d.s.nd zc, .slice cA d.nz cc, .slice wA (d.s.nt - 1) wc] ∧ Blk (wr.drew.setCell ⟨G i, c, none⟩ (.bool true)) (w.heap.size + 1) 44 #[.int .i64 (ta : Int), .slice xA xL.length xc, .int .i64 (lo : Int), .int .i64 (hi : Int)] from ⟨HS4.out.1.drew.setCell (p := ⟨G i, c, none⟩) (HV3.out.m i HIK.out).blk.1 _, Rowz.far (W := wr.drew) ⟨HV3.out.o, HV3.out.m, HV3.out.inj⟩ HIK.out (show Blk wr.drew _ _ _ from HS4.out.2.1) (by decide), Rowz.far (W := wr.drew) ⟨HV3.out.o, HV3.out.m, HV3.out.inj⟩ HIK.out (show Blk wr.drew _ _ _ from HS4.out.2.2) (by decide)⟩)
          clear d1 f1 l1 hS hcs
          go_wp2_with fail
          go_roundw
          case rel => exact ⟨c + 1, by omega, by go_num, _, HW, Lib.hid (fun i' x h1 h2 => by
            by_cases e : i' = i
            ·
             subst e
             by_cases e2 : x = c
             ·
              subst e2
              simp only [if_true]
              rw [if_pos (.inr ⟨trivial, by omega⟩)]
              exact HNEW.out
             ·
              simp only [if_true, if_neg e2]
              rw [HQ3.out i' x h1 h2]
              congr 1
              apply propext
              constructor <;> rintro (h | ⟨h, h3⟩) <;> first | exact .inl h | exact .inr ⟨by first | trivial | rfl, by omega⟩
            ·
             simp only [if_neg e]
             rw [HQ3.out i' x h1 h2]
             congr 1
             apply propext
             constructor <;> rintro (h | ⟨h, h3⟩) <;> first | exact .inl h | exact absurd h e), HZW, HBW⟩
          case measure => simp [intOf]; omega
        ·
         obtain rfl : c = d.s.nd + 1 := by omega
         have g4 : decide (d.s.nd + 1 < d.s.nd + 1) = false := decide_eq_false (Nat.lt_irrefl _)
         go_wp2_with fail
         go_roundw
         case rel => exact ⟨i + 1, by omega, by go_num, Q3, HV3, Lib.hid (fun i' x h1 h2 => by
           rw [HQ3.out i' x h1 h2]
           congr 1
           apply propext
           constructor
           · rintro (h | ⟨h, _⟩) <;> omega
           ·
            intro h
            by_cases e : i' < i
            · exact .inl e
            · exact .inr ⟨by omega, h2⟩), HZ3, HS4⟩
         case measure => simp [intOf]; omega
      ·
       obtain rfl : i = k := by omega
       have g3 : decide (i < i) = false := decide_eq_false (Nat.lt_irrefl _)
       go_wp2_with fail
       go_roundw
       case rel => exact ⟨l + 1, by omega, by omega, by go_num, Q2, HV2, Lib.hid (fun i' x h1 h2 => by
         rw [HQ2.out i' x h1 h2, if_pos h1, HQ.out i' x h1 h2, show ((l + 1 : Nat) : Int) - 1 = (l : Int) by omega]
         exact (M.spanTo_succ (by omega)).symm), HS3⟩
       case measure => simp [intOf]; omega
    ·
     obtain rfl : l = hi + 1 := by omega
     have g2 : decide (hi + 1 ≤ hi) = false := decide_eq_false (by omega)
     have g2' : decide (((hi + 1 : Nat) : Int) ≤ (hi : Int)) = false := decide_eq_false (by omega)
     have gi0 : (0 : Int) < (k : Int) := by omega
     have HPM := Lib.hid (show ∀ i, i < k → Mks wr w.heap.size (G i) d.s.nd (fun x => PB i ((x : Int) - 1)) from fun i hi' => (HV.out.m i hi').congr fun x hx => by rw [HQ.out i x hi' hx, HPB.out i x, show ((hi + 1 : Nat) : Int) - 1 = (hi : Int) by omega])
     have HVP := Lib.hid (show Rowz wr w.heap.size (.slice (some ⟨ag, 0, none⟩) k k) k d.s.nd G (fun i x => PB i ((x : Int) - 1)) from ⟨HV.out.o, HPM.out, HV.out.inj⟩)
     obtain ⟨_, _, e, c0⟩ := HV.out.row hn0
     cases e
     have x3 := HS2.out.2.2.cell 3
     have HSX := Lib.hid (rsome_any (q := PB 0) (HPM.out 0 hn0) (by omega))
     clear HV HQ HPM HMO HSE2
     go_wp2_with fail
     refine HSX.out.mono ?_
     rintro e w4 ⟨rfl, hb⟩
     have HV4 := Lib.hid (HVP.out.below hb)
     have HB4 := Lib.hid (HS2.out.1.trans (hb.mono HS2.out.1.size))
     clear hb HVP HS2 HSX c0 x3
     obtain ⟨q, hq⟩ : ∃ q, q = M.anyC d.s.nd (PB 0) := ⟨_, rfl⟩
     rw [← hq]
     have HQQ := Lib.hid hq
     clear hq
     cases q
     ·
      go_wp2_with fail
      go_ret2
      exact ⟨HB4.out, .inl ⟨HQQ.out.symm, rfl⟩⟩
     ·
      go_wp2_with fail
      go_loopw [15, 16] (fun v i wr => ∃ j : Nat, j ≤ k ∧ i = .int .i64 (j : Int) ∧ Hid (LiV wr w.heap.size 22 j (fun i u => IL wr w.heap.size u (plcL d ta k hn xL Xs (lo : Int) (hi : Int) i)) v) ∧ Hid (Rowz wr w.heap.size (.slice (some ⟨ag, 0, none⟩) k k) k d.s.nd G (fun i x => PB i ((x : Int) - 1))) ∧ Hid (Below w.heap.size w wr)) (fun _ i _ => k - (intOf i).toNat)
      case atStart => exact ⟨0, Nat.zero_le _, rfl, Lib.hid LiV.nil_, HV4, HB4⟩
      case round =>
       obtain ⟨j, hj, rfl, HO, HV5, HB5⟩ := hrel
       clear HV4 HB4
       obtain ⟨U, hu1, hu2⟩ := HO.out
       obtain ⟨oA, oc, rfl⟩ := hu1.form
       have HU1 := Lib.hid hu1
       have HU2 := Lib.hid hu2
       clear hu1 hu2 HO
       by_cases hjk : j < k
       ·
        have g3 : decide (j < k) = true := decide_eq_true hjk
        obtain ⟨_, _, e, c0⟩ := HV5.out.row hjk
        cases e
        have HLX := Lib.hid (rlist_any (q := PB j) (HV5.out.m j hjk) (by omega))
        have hz := HB5.out.size
        go_wp2_with fail
        refine HLX.out.mono ?_
        rintro e w6 ⟨v6, rfl, hi6, hb6⟩
        obtain ⟨lA, lc, e6⟩ := Own.form hi6
        subst e6
        have HI6 := Lib.hid (show IL w6 w.heap.size (.slice lA (M.listB d.s.nd (PB j)).length lc) (plcL d ta k hn xL Xs (lo : Int) (hi : Int) j) from by rw [HPL.out j]; exact Own.less hi6 hz)
        have HO6 := Lib.hid (HU1.out.below hb6)
        have HU6 := Lib.hid (fun i (hi : i < j) => Own.below (HU2.out i hi) hb6)
        have HV6 := Lib.hid (HV5.out.below hb6)
        have HB6 := Lib.hid (HB5.out.trans (hb6.mono hz))
        have hz6 := HB6.out.size
        clear hi6 hb6 HLX c0 HV5 HB5 HU1 HU2
        generalize (M.listB d.s.nd (PB j)).length = ll at HI6 ⊢
        go_wp2_with (at_builtin; go_must (refine wpList_app rfl (.tmp 109) (.tmp 115) 62 rfl w.heap.size 22 1 24 Tryz.underlying62 ML.out.1 ML.out.2.1 ML.out.2.2.1 ML.out.2.2.2 rfl (by decide) (by decide) (Own.alloc HO6.out _) rfl (by omega) (by simp; omega) w6.heap.size 1 (fun _ => (.slice lA ll lc)) rfl (one_tmp w6 _ (.slice lA ll lc)) (fun _ _ => rfl) ?_); intro v8 w8 o8 hg8 hat8; have HO8 := Lib.hid o8; have HG8 := Lib.hid hg8; clear o8 hg8 hat8)
        go_roundw
        case rel =>
         refine ⟨j + 1, by omega, by go_num, Lib.hid (LiV.app HO8.out (fun i hi => ?_) ?_), Lib.hid ((HV6.out.below (belowAlloc _ _)).apart (Own.alloc HO6.out _) (by decide) (by decide) HG8.out), Lib.hid ((HB6.out.alloc hz6 _).grown HG8.out (by simp; omega) fun g hg => (Own.block HO6.out hg).1)⟩
         ·
          have h := Own.alloc (HU6.out i hi) (.cells #[.slice lA ll lc] 22)
          exact Own.apart_grown h ((Own.alloc HO6.out _).apart_type h (by decide)) HG8.out
         ·
          have h := Own.alloc HI6.out (.cells #[.slice lA ll lc] 22)
          exact Own.apart_grown h ((Own.alloc HO6.out _).apart_type h (by decide)) HG8.out
        case measure => simp [intOf]; omega
       ·
        obtain rfl : j = k := by omega
        have g3 : decide (j < j) = false := decide_eq_false (Nat.lt_irrefl _)
        go_wp2_with fail
        go_ret2
        exact ⟨HB5.out, .inr ⟨HQQ.out.symm, _, rfl, U, HU1.out, HU2.out⟩⟩
end
end Go.Proofs.YtnbeembnnjdmdaaGreatDoor
