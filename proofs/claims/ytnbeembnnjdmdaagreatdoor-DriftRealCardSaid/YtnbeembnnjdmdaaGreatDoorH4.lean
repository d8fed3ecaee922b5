/- What a possible history is in: plain laws; possible, walked. -/
import Derived.Test.YtnbeembnnjdmdaaGreatDoorG7
import Derived.Test.YtnbeembnnjdmdaaGreatDoorG2
import Derived.Test.YtnbeembnnjdmdaaGreatDoorLaH
import Derived.Test.YtnbeembnnjdmdaaGreatDoorG5
import Derived.Test.YtnbeembnnjdmdaaGreatDoorG12
import Derived.Test.YtnbeembnnjdmdaaGreatDoorG4
import Derived.Test.YtnbeembnnjdmdaaGreatDoorG1
import Derived.Test.YtnbeembnnjdmdaaGreatDoorE12
import Derived.Test.YtnbeembnnjdmdaaGreatDoorG11
import Derived.Test.YtnbeembnnjdmdaaGreatDoorG6
namespace Go.Proofs.YtnbeembnnjdmdaaGreatDoor
open Go.RowKit Go.Maps

theorem anyTo_mem {L : List Int} {x : Int} : M.anyTo L.length (fun i => decide (L.getD i 0 = x)) = decide (x ∈ L) := by
  rw [Bool.eq_iff_iff, M.anyTo_iff, decide_eq_true_eq]
  constructor
  · rintro ⟨i, hi, h⟩
    have h := of_decide_eq_true h
    rw [List.getD_eq_getElem?_getD, List.getElem?_eq_getElem hi, Option.getD_some] at h
    rw [← h]
    exact List.getElem_mem hi
  · intro h
    obtain ⟨i, hi, rfl⟩ := List.getElem_of_mem h
    exact ⟨i, hi, decide_eq_true (by rw [List.getD_eq_getElem?_getD, List.getElem?_eq_getElem hi, Option.getD_some])⟩
section
variable {d : M.Dr} {at_ lo hi lw : Int} {xL : List Int} {hn n : Nat} {Xs : Nat → SgV} {f : Nat → Int}
/-- a possible history's leeway is among the leeways, its cells are among the places -/
theorem his_in (hm : 1 ≤ d.s.nt - at_.toNat) (h : M.hisB d at_.toNat (d.s.nt - at_.toNat) lo hi xL (fun i => (Xs i).sg) hn lw n f = true) :
    n = d.s.nt - at_.toNat ∧ lw ∈ leeL d at_ lo hi xL hn Xs ∧ ∀ i, i < d.s.nt - at_.toNat → f i ∈ plcL d at_.toNat (d.s.nt - at_.toNat) hn xL Xs lo hi i := by
  obtain ⟨h1, h2, h3⟩ := (M.hisB_iff hm).1 h
  have h3 : M.Hist d at_.toNat lw (fun c => xL.contains c) (trFit Xs hn at_.toNat (-1) 0) (d.s.nt - at_.toNat - 1) f := h3
  refine ⟨h2, ?_, fun i hi => ?_⟩
  · unfold leeL leeP
    exact M.mem_spanL.2 ⟨h1, M.posB_iff.2 ⟨f, h3⟩⟩
  · unfold plcL
    have hb := h3.bd i (by omega)
    exact M.mem_listB.2 ⟨hb, (plcB_iff hi hb).2 ⟨lw, f, h1, h3, rfl⟩⟩
end
section
variable {d : M.Dr} {zA cA wA dA tA sA xA hA pA : Option Addr} {cl : Nat → Nat} {B dc tc sc zc cc wc xc hn hc pn pc : Nat} {lo hi lw : Int} {xL : List Int} {Xs : Nat → SgV} {pf : Nat → Int} {w : World}
set_option maxRecDepth 100000 in
set_option maxHeartbeats 6400000 in
theorem possible_past (hd : d.Ok) (hcl : ∀ i, i < d.nz → cl i + 1 = d.s.nt) (hR : RdD w B dA tA sA zA cA wA d.s.nd d.s.nt d.s.nt d.s.nd d.nz (d.s.nt - 1) d.s.dep d.s.tide d.s.sw d.z cl d.cu d.wd) (hB : B ≤ w.heap.size) (hx3 : Rd1 w B xA xL.length (fun k => xL.getD k 0)) (hx4 : xL.length ≤ maxLen) (hRS : RdS w B hA hn Xs) (hhn : hn ≤ maxLen)
    (ta : Nat) (hta : ta < d.s.nt) (hlo : 0 ≤ lo) (hhi : hi ≤ 8) (hP : Rd1 w B pA pn pf) (hpn : pn ≤ maxLen) :
    Calls Tryz.prog 33 #[.agg #[.int .i64 (d.s.W : Int), .int .i64 (d.s.H : Int), .slice dA d.s.nd dc, .slice tA d.s.nt tc, .slice sA d.s.nt sc, .slice zA d.s.nd zc, .slice cA d.nz cc, .slice wA (d.s.nt - 1) wc], .agg #[.int .i64 (ta : Int), .slice xA xL.length xc, .int .i64 lo, .int .i64 hi], .agg #[.slice hA hn hc, .int .i64 lw, .slice pA pn pc]] w fun e w' => e = .returned (.bool (M.hisB d ta (d.s.nt - ta) lo hi xL (fun i => (Xs i).sg) hn lw pn pf)) ∧ Below w.heap.size w w' := by
  have hnt := hd.s.t2
  have HB0 := Lib.hid (belowAlloc3 w (.cells #[.int .i64 (d.s.W : Int), .int .i64 (d.s.H : Int), .slice dA d.s.nd dc, .slice tA d.s.nt tc, .slice sA d.s.nt sc, .slice zA d.s.nd zc, .slice cA d.nz cc, .slice wA (d.s.nt - 1) wc] 29) (.cells #[.int .i64 (ta : Int), .slice xA xL.length xc, .int .i64 lo, .int .i64 hi] 44) (.cells #[.slice hA hn hc, .int .i64 lw, .slice pA pn pc] 61))
  have K0 := Lib.hid (((Blk.new w 29 #[.int .i64 (d.s.W : Int), .int .i64 (d.s.H : Int), .slice dA d.s.nd dc, .slice tA d.s.nt tc, .slice sA d.s.nt sc, .slice zA d.s.nd zc, .slice cA d.nz cc, .slice wA (d.s.nt - 1) wc]).alloc (.cells #[.int .i64 (ta : Int), .slice xA xL.length xc, .int .i64 lo, .int .i64 hi] 44)).alloc (.cells #[.slice hA hn hc, .int .i64 lw, .slice pA pn pc] 61))
  have X0 := Lib.hid ((Blk.new1 w (.cells #[.int .i64 (d.s.W : Int), .int .i64 (d.s.H : Int), .slice dA d.s.nd dc, .slice tA d.s.nt tc, .slice sA d.s.nt sc, .slice zA d.s.nd zc, .slice cA d.nz cc, .slice wA (d.s.nt - 1) wc] 29) 44 #[.int .i64 (ta : Int), .slice xA xL.length xc, .int .i64 lo, .int .i64 hi]).alloc (.cells #[.slice hA hn hc, .int .i64 lw, .slice pA pn pc] 61))
  have Y0 := Lib.hid (Blk.new2 w (.cells #[.int .i64 (d.s.W : Int), .int .i64 (d.s.H : Int), .slice dA d.s.nd dc, .slice tA d.s.nt tc, .slice sA d.s.nt sc, .slice zA d.s.nd zc, .slice cA d.nz cc, .slice wA (d.s.nt - 1) wc] 29) (.cells #[.int .i64 (ta : Int), .slice xA xL.length xc, .int .i64 lo, .int .i64 hi] 44) 61 #[.slice hA hn hc, .int .i64 lw, .slice pA pn pc])
  have HIH := Lib.hid (fun (V : World) (hb : Below w.heap.size w V) (h80 : pn ≤ 80) (h0 : 0 < pn) => rishist_any (dc := dc) (tc := tc) (sc := sc) (zc := zc) (cc := cc) (wc := wc) (xc := xc) (hc := hc) (pc := pc) (lw := lw) hd hcl (hR.below (hb.mono hB)) (Nat.le_trans hB hb.size) (hx3.below (hb.mono hB)) hx4 (hRS.below (hb.mono hB)) hhn ta hta hlo hhi (hP.below (hb.mono hB)) h80 h0)
  have HQ1 := Lib.hid (show ¬ (pn ≤ 80 ∧ 0 < pn) → M.hisB d ta (d.s.nt - ta) lo hi xL (fun i => (Xs i).sg) hn lw pn pf = false from fun h => by
    cases hq : M.hisB d ta (d.s.nt - ta) lo hi xL (fun i => (Xs i).sg) hn lw pn pf
    · rfl
    · have := ((M.hisB_iff (by omega)).1 hq).2.1; omega)
  clear hR hx3 hRS hP hd hcl
  go_enter Tryz.func33, Tryz.ntmps33
  go_upto_region 1 with fail
  generalize ((w.alloc (.cells #[.int .i64 (d.s.W : Int), .int .i64 (d.s.H : Int), .slice dA d.s.nd dc, .slice tA d.s.nt tc, .slice sA d.s.nt sc, .slice zA d.s.nd zc, .slice cA d.nz cc, .slice wA (d.s.nt - 1) wc] 29)).alloc (.cells #[.int .i64 (ta : Int), .slice xA xL.length xc, .int .i64 lo, .int .i64 hi] 44)).alloc (.cells #[.slice hA hn hc, .int .i64 lw, .slice pA pn pc] 61) = X at HB0 K0 X0 Y0 ⊢
  simp only [Nat.add_assoc, Nat.reduceAdd] at Y0 ⊢
  have HHX := Lib.hid (fun h80 h0 => HIH.out X HB0.out h80 h0)
  have k0 := K0.out.cell 0
  have k1 := K0.out.cell 1
  have k2 := K0.out.cell 2
  have k3 := K0.out.cell 3
  have k4 := K0.out.cell 4
  have k5 := K0.out.cell 5
  have k6 := K0.out.cell 6
  have k7 := K0.out.cell 7
  have x0 := X0.out.cell 0
  have x1 := X0.out.cell 1
  have x2 := X0.out.cell 2
  have x3 := X0.out.cell 3
  have y0 := Y0.out.cell 0
  have y1 := Y0.out.cell 1
  have y2 := Y0.out.cell 2
  unfold maxLen at hpn
  by_cases h80 : pn ≤ 80
  · by_cases h0 : 0 < pn
    · have g1 : decide (pn ≤ 80) = true := decide_eq_true h80
      have HHY := Lib.hid (HHX.out h80 h0)
      clear HHX HIH HQ1
      go_wp2_with fail
      refine HHY.out.mono ?_
      rintro e w2 ⟨rfl, hb⟩
      have HBZ := Lib.hid (HB0.out.trans (hb.mono HB0.out.size))
      clear hb
      go_wp2_with fail
      go_ret
      exact ⟨rfl, HBZ.out⟩
    · have h0 : pn = 0 := by omega
      have HF := Lib.hid (HQ1.out (by omega))
      clear HHX HIH HQ1
      subst h0
      go_wp2_with fail
      go_ret
      exact ⟨ret_bool HF.out.symm, HB0.out⟩
  · have HF := Lib.hid (HQ1.out (by omega))
    have g1 : decide (pn ≤ 80) = false := decide_eq_false h80
    clear HHX HIH HQ1
    go_wp2_with fail
    go_ret
    exact ⟨ret_bool HF.out.symm, HB0.out⟩
end
end Go.Proofs.YtnbeembnnjdmdaaGreatDoor
/- DriftWithin, walked. -/
namespace Go.Proofs.YtnbeembnnjdmdaaGreatDoor
open Go.RowKit Go.Maps

theorem leeL_nil {d : M.Dr} {at_ lo hi : Int} {xL : List Int} {hn : Nat} {Xs : Nat → SgV} : leeL d at_ lo hi xL hn Xs = [] ↔ strP d at_ lo hi xL hn Xs 0 (-1) = false := by
  unfold leeL strP
  constructor
  · intro h
    cases hs : M.spanTo lo hi (leeP d at_.toNat (d.s.nt - at_.toNat) hn xL Xs (-1) 0)
    · rfl
    · obtain ⟨x, h1, h2, h3⟩ := M.spanTo_iff.1 hs
      have h4 := M.mem_spanL.2 ⟨⟨h1, h2⟩, h3⟩
      rw [h] at h4
      cases h4
  · intro h
    refine List.eq_nil_iff_forall_not_mem.2 fun x hx => ?_
    obtain ⟨⟨h1, h2⟩, h3⟩ := M.mem_spanL.1 hx
    rw [M.spanTo_iff.2 ⟨x, h1, h2, h3⟩] at h
    cases h
/-- rows of ints that can be read -/
structure Rws (W : World) (ow m : Nat) (U : Nat → Value) (pl : Nat → List Int) : Prop where
  lt : ow < W.heap.size
  c : ∀ k, k < m → W.cell? ⟨ow, k, none⟩ = some (U k)
  r : ∀ k, k < m → ∃ A c, U k = .slice A (pl k).length c ∧ Rd1 W W.heap.size A (pl k).length (fun j => (pl k).getD j 0)
theorem Rws.below {W W' : World} {ow m : Nat} {U : Nat → Value} {pl : Nat → List Int} (h : Rws W ow m U pl) (hb : Below W.heap.size W W') : Rws W' ow m U pl :=
  ⟨Nat.lt_of_lt_of_le h.lt hb.size, fun k hk => (hb.cell (p := ⟨ow, k, none⟩) h.lt).trans (h.c k hk), fun k hk => by
    obtain ⟨A, c, e, hr⟩ := h.r k hk
    exact ⟨A, c, e, (hr.below hb).more hb.size⟩⟩
section
variable {d : M.Dr} {zA cA wA dA tA sA xA hA : Option Addr} {cl : Nat → Nat} {B dc tc sc zc cc wc xc hn hc ta : Nat} {lo hi : Int} {xL : List Int} {Xs : Nat → SgV} {w : World}
theorem plcs_rows (hd : d.Ok) (hcl : ∀ i, i < d.nz → cl i + 1 = d.s.nt) (hR : RdD w B dA tA sA zA cA wA d.s.nd d.s.nt d.s.nt d.s.nd d.nz (d.s.nt - 1) d.s.dep d.s.tide d.s.sw d.z cl d.cu d.wd) (hB : B ≤ w.heap.size) (hW : Ways w)
    (hx3 : Rd1 w B xA xL.length (fun k => xL.getD k 0)) (hx4 : xL.length ≤ maxLen) (hRS : RdS w B hA hn Xs) (hhn : hn ≤ maxLen) (hF : Fre w) (hX : chkX d.s.nd d.s.nt (ta : Int) lo hi xL = true) (hS : chkS d.s.nd d.s.nt (ta : Int) hn Xs = true) :
    Calls Tryz.prog 31 #[.agg #[.int .i64 (d.s.W : Int), .int .i64 (d.s.H : Int), .slice dA d.s.nd dc, .slice tA d.s.nt tc, .slice sA d.s.nt sc, .slice zA d.s.nd zc, .slice cA d.nz cc, .slice wA (d.s.nt - 1) wc], .agg #[.int .i64 (ta : Int), .slice xA xL.length xc, .int .i64 lo, .int .i64 hi], .slice hA hn hc] w fun e w' => Below w.heap.size w w' ∧ ((strP d (ta : Int) lo hi xL hn Xs 0 (-1) = false ∧ e = .returned (.tuple #[.slice none 0 0, .int .i64 3])) ∨
      (strP d (ta : Int) lo hi xL hn Xs 0 (-1) = true ∧ ∃ ow U, e = .returned (.tuple #[.slice (some ⟨ow, 0, none⟩) (d.s.nt - ta) (d.s.nt - ta), .int .i64 0]) ∧ Rws w' ow (d.s.nt - ta) U (plcL d ta (d.s.nt - ta) hn xL Xs lo hi))) :=
  (places_ok (dc := dc) (tc := tc) (sc := sc) (zc := zc) (cc := cc) (wc := wc) (xc := xc) (hc := hc) hd hcl hR hB hW hx3 hx4 hRS hhn hF hX hS).mono fun e w' h => ⟨h.1, h.2.imp (fun ⟨h1, h2⟩ => ⟨leeL_nil.1 h1, h2⟩) fun ⟨h1, ow, U, h2, h3, h4⟩ => ⟨by
    cases hq : strP d (ta : Int) lo hi xL hn Xs 0 (-1)
    · exact absurd (leeL_nil.2 hq) h1
    · rfl, ow, U, h2, (Own.block (g := ow) h3 rfl).2, fun k hk => Own.cell1 h3 hk, fun k hk => by
      have h5 := h4 k hk
      obtain ⟨A, c, e⟩ := Own.form h5
      refine ⟨A, c, e, ?_⟩
      rw [e] at h5
      exact IL.rd h5⟩⟩
theorem lees_list (hd : d.Ok) (hcl : ∀ i, i < d.nz → cl i + 1 = d.s.nt) (hR : RdD w B dA tA sA zA cA wA d.s.nd d.s.nt d.s.nt d.s.nd d.nz (d.s.nt - 1) d.s.dep d.s.tide d.s.sw d.z cl d.cu d.wd) (hB : B ≤ w.heap.size) (hW : Ways w)
    (hx3 : Rd1 w B xA xL.length (fun k => xL.getD k 0)) (hx4 : xL.length ≤ maxLen) (hRS : RdS w B hA hn Xs) (hhn : hn ≤ maxLen) (hF : Fre w) (hX : chkX d.s.nd d.s.nt (ta : Int) lo hi xL = true) (hS : chkS d.s.nd d.s.nt (ta : Int) hn Xs = true) :
    Calls Tryz.prog 32 #[.agg #[.int .i64 (d.s.W : Int), .int .i64 (d.s.H : Int), .slice dA d.s.nd dc, .slice tA d.s.nt tc, .slice sA d.s.nt sc, .slice zA d.s.nd zc, .slice cA d.nz cc, .slice wA (d.s.nt - 1) wc], .agg #[.int .i64 (ta : Int), .slice xA xL.length xc, .int .i64 lo, .int .i64 hi], .slice hA hn hc] w fun e w' => Below w.heap.size w w' ∧ ((strP d (ta : Int) lo hi xL hn Xs 0 (-1) = false ∧ e = .returned (.tuple #[.slice none 0 0, .int .i64 3])) ∨
      (strP d (ta : Int) lo hi xL hn Xs 0 (-1) = true ∧ ∃ A c, e = .returned (.tuple #[.slice A (leeL d (ta : Int) lo hi xL hn Xs).length c, .int .i64 0]) ∧ Rd1 w' w'.heap.size A (leeL d (ta : Int) lo hi xL hn Xs).length (fun j => (leeL d (ta : Int) lo hi xL hn Xs).getD j 0))) :=
  (leeways_ok (dc := dc) (tc := tc) (sc := sc) (zc := zc) (cc := cc) (wc := wc) (xc := xc) (hc := hc) hd hcl hR hB hW hx3 hx4 hRS hhn hF hX hS).mono fun e w' h => ⟨h.1, h.2.imp (fun ⟨h1, h2⟩ => ⟨leeL_nil.1 h1, h2⟩) fun ⟨h1, v, h2, h3⟩ => ⟨by
    cases hq : strP d (ta : Int) lo hi xL hn Xs 0 (-1)
    · exact absurd (leeL_nil.2 hq) h1
    · rfl, by
      obtain ⟨A, c, e⟩ := Own.form h3
      subst e
      exact ⟨A, c, h2, IL.rd h3⟩⟩⟩
end
section
variable {W H : Int} {dA tA sA zA cA wA xA hA pA : Option Addr} {nd dc nt tc ns sc zn zc cn cc wn wc xc hn hc pn pc B : Nat} {at_ lo hi lw : Int} {pf : Nat → Int} {dep : Nat → Int} {tide : Nat → Nat → Int} {sw z : Nat → Int} {cl : Nat → Nat} {cu : Nat → Nat → Nat → Int} {wd : Nat → Nat → Int} {xL : List Int} {Xs : Nat → SgV} {w : World}
set_option maxRecDepth 100000 in
set_option maxHeartbeats 12800000 in
theorem driftWithin_any (hnd : nd ≤ maxLen) (hnt : nt ≤ maxLen) (hns : ns ≤ maxLen) (hzn : zn ≤ maxLen) (hcn : cn ≤ maxLen) (hwn : wn ≤ maxLen) (hR : RdD w B dA tA sA zA cA wA nd nt ns zn cn wn dep tide sw z cl cu wd) (hB : B ≤ w.heap.size) (hW : Ways w)
    (hx3 : Rd1 w B xA xL.length (fun k => xL.getD k 0)) (hx4 : xL.length ≤ maxLen) (hRS : RdS w B hA hn Xs) (hhn : hn ≤ maxLen) (hP : Rd1 w B pA pn pf) (hpn : pn ≤ maxLen) (hF : Fre w) :
    Calls Tryz.prog 6 #[.agg #[.int .i64 W, .int .i64 H, .slice dA nd dc, .slice tA nt tc, .slice sA ns sc, .slice zA zn zc, .slice cA cn cc, .slice wA wn wc], .agg #[.int .i64 at_, .slice xA xL.length xc, .int .i64 lo, .int .i64 hi], .agg #[.slice hA hn hc, .int .i64 lw, .slice pA pn pc]] w fun e w' => e = .returned (.bool true) ∧ Below w.heap.size w w' := by
  have HB0 := Lib.hid (belowAlloc3 w (.cells #[.int .i64 W, .int .i64 H, .slice dA nd dc, .slice tA nt tc, .slice sA ns sc, .slice zA zn zc, .slice cA cn cc, .slice wA wn wc] 29) (.cells #[.int .i64 at_, .slice xA xL.length xc, .int .i64 lo, .int .i64 hi] 44) (.cells #[.slice hA hn hc, .int .i64 lw, .slice pA pn pc] 61))
  have K0 := Lib.hid (((Blk.new w 29 #[.int .i64 W, .int .i64 H, .slice dA nd dc, .slice tA nt tc, .slice sA ns sc, .slice zA zn zc, .slice cA cn cc, .slice wA wn wc]).alloc (.cells #[.int .i64 at_, .slice xA xL.length xc, .int .i64 lo, .int .i64 hi] 44)).alloc (.cells #[.slice hA hn hc, .int .i64 lw, .slice pA pn pc] 61))
  have X0 := Lib.hid ((Blk.new1 w (.cells #[.int .i64 W, .int .i64 H, .slice dA nd dc, .slice tA nt tc, .slice sA ns sc, .slice zA zn zc, .slice cA cn cc, .slice wA wn wc] 29) 44 #[.int .i64 at_, .slice xA xL.length xc, .int .i64 lo, .int .i64 hi]).alloc (.cells #[.slice hA hn hc, .int .i64 lw, .slice pA pn pc] 61))
  have Y0 := Lib.hid (Blk.new2 w (.cells #[.int .i64 W, .int .i64 H, .slice dA nd dc, .slice tA nt tc, .slice sA ns sc, .slice zA zn zc, .slice cA cn cc, .slice wA wn wc] 29) (.cells #[.int .i64 at_, .slice xA xL.length xc, .int .i64 lo, .int .i64 hi] 44) 61 #[.slice hA hn hc, .int .i64 lw, .slice pA pn pc])
  have HVA := Lib.hid (fun (V : World) (hb : Below w.heap.size w V) => valid_any (dc := dc) (tc := tc) (sc := sc) (zc := zc) (cc := cc) (wc := wc) (xc := xc) (hc := hc) (W := W) (H := H) (at_ := at_) (lo := lo) (hi := hi) hnd hnt hns hzn hcn hwn (hR.below (hb.mono hB)) (Nat.le_trans hB hb.size) (hx3.below (hb.mono hB)) hx4 (hRS.below (hb.mono hB)) hhn)
  have HWK := Lib.hid (fun (V : World) (hb : Below w.heap.size w V) => works_any V (hW.below hb))
  have HWY := Lib.hid (fun (V : World) (hb : Below w.heap.size w V) => hW.below hb)
  have HRR := Lib.hid (fun (V : World) (hb : Below w.heap.size w V) => hR.below (hb.mono hB))
  have HRX := Lib.hid (fun (V : World) (hb : Below w.heap.size w V) => hx3.below (hb.mono hB))
  have HRH := Lib.hid (fun (V : World) (hb : Below w.heap.size w V) => hRS.below (hb.mono hB))
  have HFR := Lib.hid (fun (V : World) (hb : Below w.heap.size w V) => hF.below hb)
  have HRP := Lib.hid (fun (V : World) (hb : Below w.heap.size w V) => hP.below (hb.mono hB))
  clear hR hW hx3 hRS hF hP
  go_enter Tryz.func6, Tryz.ntmps6
  go_upto_region 1 with fail
  generalize ((w.alloc (.cells #[.int .i64 W, .int .i64 H, .slice dA nd dc, .slice tA nt tc, .slice sA ns sc, .slice zA zn zc, .slice cA cn cc, .slice wA wn wc] 29)).alloc (.cells #[.int .i64 at_, .slice xA xL.length xc, .int .i64 lo, .int .i64 hi] 44)).alloc (.cells #[.slice hA hn hc, .int .i64 lw, .slice pA pn pc] 61) = X at HB0 K0 X0 Y0 ⊢
  simp only [Nat.add_assoc, Nat.reduceAdd] at Y0 ⊢
  have HFX := Lib.hid (HVA.out X HB0.out)
  have k0 := K0.out.cell 0
  have k1 := K0.out.cell 1
  have k2 := K0.out.cell 2
  have k3 := K0.out.cell 3
  have k4 := K0.out.cell 4
  have k5 := K0.out.cell 5
  have k6 := K0.out.cell 6
  have k7 := K0.out.cell 7
  have x0 := X0.out.cell 0
  have x1 := X0.out.cell 1
  have x2 := X0.out.cell 2
  have x3 := X0.out.cell 3
  have y0 := Y0.out.cell 0
  have y1 := Y0.out.cell 1
  have y2 := Y0.out.cell 2
  go_wp2_with fail
  refine HFX.out.mono ?_
  rintro e w1 ⟨⟨q, rfl, hq⟩, hb⟩
  have HB1 := Lib.hid (HB0.out.trans (hb.mono HB0.out.size))
  have K1 := Lib.hid (K0.out.below' hb)
  have X1 := Lib.hid (X0.out.below' hb)
  have Y1 := Lib.hid (Y0.out.below' hb)
  have HQ := Lib.hid hq
  clear hq HFX HVA
  clear k0 k1 k2 k3 k4 k5 k6 k7 x0 x1 x2 x3 y0 y1 y2
  clear hb
  cases q
  · clear K1 X1 Y1
    have HWX := Lib.hid (HWK.out w1 HB1.out)
    go_wp2_with fail
    refine HWX.out.mono ?_
    rintro e wz ⟨rfl, hb⟩
    have HBZ := Lib.hid (HB1.out.trans (hb.mono HB1.out.size))
    clear hb
    go_wp2_with fail
    go_ret
    exact ⟨rfl, HBZ.out⟩
  obtain ⟨hok, hxo, hso, hfar, hfars, h6⟩ := HQ.out rfl
  obtain ⟨d, hd, rfl, rfl, rfl, rfl, rfl, rfl, rfl, rfl, rfl, rfl, rfl, rfl, rfl, rfl, hcl⟩ := M.chkD_form hok
  have h60 := hd.s.t2
  have h1n := hd.s.t1
  have hnd2 := hd.s.nd1
  obtain ⟨⟨ha1, ha2⟩, hxl, ⟨hx1, hx2⟩, hl1, hl2, hl3⟩ := chkX_bd hxo
  obtain ⟨ta, rfl⟩ : ∃ n : Nat, at_ = (n : Int) := ⟨at_.toNat, by omega⟩
  have HVL := Lib.hid (And.intro hd (And.intro hcl (And.intro hxo hso)))
  clear hok hxo hso hfar hfars HQ hxl hx1 hx2
  have HPC := Lib.hid (fun (V : World) (hb : Below w.heap.size w V) => plcs_rows (dc := dc) (tc := tc) (sc := sc) (zc := zc) (cc := cc) (wc := wc) (xc := xc) (hc := hc) (HVL.out.1) (HVL.out.2.1) (HRR.out _ hb) (Nat.le_trans hB hb.size) (HWY.out _ hb) (HRX.out _ hb) hx4 (HRH.out _ hb) hhn (HFR.out _ hb) HVL.out.2.2.1 HVL.out.2.2.2)
  have HLC := Lib.hid (fun (V : World) (hb : Below w.heap.size w V) => lees_list (dc := dc) (tc := tc) (sc := sc) (zc := zc) (cc := cc) (wc := wc) (xc := xc) (hc := hc) (HVL.out.1) (HVL.out.2.1) (HRR.out _ hb) (Nat.le_trans hB hb.size) (HWY.out _ hb) (HRX.out _ hb) hx4 (HRH.out _ hb) hhn (HFR.out _ hb) HVL.out.2.2.1 HVL.out.2.2.2)
  have HPP := Lib.hid (fun (V : World) (hb : Below w.heap.size w V) => possible_past (dc := dc) (tc := tc) (sc := sc) (zc := zc) (cc := cc) (wc := wc) (xc := xc) (hc := hc) (pc := pc) (lw := lw) (lo := lo) (hi := hi) HVL.out.1 HVL.out.2.1 (HRR.out _ hb) (Nat.le_trans hB hb.size) (HRX.out _ hb) hx4 (HRH.out _ hb) hhn ta (by omega) hl1 hl3 (HRP.out _ hb) hpn)
  have HIS := Lib.hid (his_in (d := d) (at_ := (ta : Int)) (lo := lo) (hi := hi) (lw := lw) (xL := xL) (hn := hn) (n := pn) (Xs := Xs) (f := pf) (show 1 ≤ d.s.nt - ta by omega))
  obtain ⟨m, hm⟩ : ∃ m, m = d.s.nt - ta := ⟨_, rfl⟩
  have HM1 := Lib.hid (show ta + m = d.s.nt by omega)
  rw [Int.toNat_natCast, ← hm] at HIS
  obtain ⟨pl, hpl⟩ : ∃ f, f = plcL d ta m hn xL Xs lo hi := ⟨_, rfl⟩
  obtain ⟨LL, hLL⟩ : ∃ f, f = leeL d (ta : Int) lo hi xL hn Xs := ⟨_, rfl⟩
  have HPN := Lib.hid (show ∀ k, (pl k).length ≤ maxLen from fun k => by rw [hpl]; have := M.listB_len d.s.nd (plcB d ta m hn xL Xs lo hi k); show (M.listB _ _).length ≤ _; unfold maxLen; omega)
  have HLN := Lib.hid (show LL.length ≤ maxLen from by rw [hLL]; unfold leeL; have := M.spanL_len (lo := lo) (hi := hi) (p := leeP d (ta : Int).toNat (d.s.nt - (ta : Int).toNat) hn xL Xs (-1) 0); unfold maxLen; omega)
  have HLE := Lib.hid (show strP d (ta : Int) lo hi xL hn Xs 0 (-1) = false → LL = [] from fun h => by rw [hLL]; exact leeL_nil.2 h)
  rw [← hm, ← hpl] at HPC
  rw [← hLL] at HLC
  rw [← hpl, ← hLL] at HIS
  rw [← hm] at HPP
  obtain ⟨hb9, hhb⟩ : ∃ q, q = M.hisB d ta m lo hi xL (fun i => (Xs i).sg) hn lw pn pf := ⟨_, rfl⟩
  rw [← hhb] at HIS HPP
  clear hm hpl hLL hhb hd hcl
  have k0 := K1.out.cell 0
  have k1 := K1.out.cell 1
  have k2 := K1.out.cell 2
  have k3 := K1.out.cell 3
  have k4 := K1.out.cell 4
  have k5 := K1.out.cell 5
  have k6 := K1.out.cell 6
  have k7 := K1.out.cell 7
  have x0 := X1.out.cell 0
  have x1 := X1.out.cell 1
  have x2 := X1.out.cell 2
  have x3 := X1.out.cell 3
  have y0 := Y1.out.cell 0
  have y1 := Y1.out.cell 1
  have y2 := Y1.out.cell 2
  cases hqp : strP d (ta : Int) lo hi xL hn Xs 0 (-1)
  · have HSX := Lib.hid (show Calls Tryz.prog 31 #[.agg #[.int .i64 (d.s.W : Int), .int .i64 (d.s.H : Int), .slice dA d.s.nd dc, .slice tA d.s.nt tc, .slice sA d.s.nt sc, .slice zA d.s.nd zc, .slice cA d.nz cc, .slice wA (d.s.nt - 1) wc], .agg #[.int .i64 (ta : Int), .slice xA xL.length xc, .int .i64 lo, .int .i64 hi], .slice hA hn hc] w1 fun e w' => e = .returned (.tuple #[.slice none 0 0, .int .i64 3]) ∧ Below w1.heap.size w1 w' from (HPC.out w1 HB1.out).mono fun e w' h => by
      obtain ⟨hb, h⟩ := h
      rcases h with ⟨_, h1⟩ | ⟨h1, _⟩
      · exact ⟨h1, hb⟩
      · rw [hqp] at h1; cases h1)
    have HHX := Lib.hid (fun (V : World) (hb0 : Below w.heap.size w V) => (show Calls Tryz.prog 32 #[.agg #[.int .i64 (d.s.W : Int), .int .i64 (d.s.H : Int), .slice dA d.s.nd dc, .slice tA d.s.nt tc, .slice sA d.s.nt sc, .slice zA d.s.nd zc, .slice cA d.nz cc, .slice wA (d.s.nt - 1) wc], .agg #[.int .i64 (ta : Int), .slice xA xL.length xc, .int .i64 lo, .int .i64 hi], .slice hA hn hc] V fun e w' => e = .returned (.tuple #[.slice none 0 0, .int .i64 3]) ∧ Below V.heap.size V w' from (HLC.out V hb0).mono fun e w' h => by
      obtain ⟨hb, h⟩ := h
      rcases h with ⟨_, h1⟩ | ⟨h1, _⟩
      · exact ⟨h1, hb⟩
      · rw [hqp] at h1; cases h1))
    have h9f : hb9 = false := by
      cases hb9
      · rfl
      · have h1 := (HIS.out rfl).2.1
        rw [HLE.out hqp] at h1; cases h1
    subst h9f
    clear hqp HPC HLC
    go_wp2_with fail
    refine HSX.out.mono ?_
    rintro e w3 ⟨rfl, hb⟩
    have HB3 := Lib.hid (HB1.out.trans (hb.mono HB1.out.size))
    have K3 := Lib.hid (K1.out.below' hb)
    have X3 := Lib.hid (X1.out.below' hb)
    have Y3 := Lib.hid (Y1.out.below' hb)
    clear HSX
    clear k0 k1 k2 k3 k4 k5 k6 k7 x0 x1 x2 x3 y0 y1 y2
    clear hb
    have k0 := K3.out.cell 0
    have k1 := K3.out.cell 1
    have k2 := K3.out.cell 2
    have k3 := K3.out.cell 3
    have k4 := K3.out.cell 4
    have k5 := K3.out.cell 5
    have k6 := K3.out.cell 6
    have k7 := K3.out.cell 7
    have x0 := X3.out.cell 0
    have x1 := X3.out.cell 1
    have x2 := X3.out.cell 2
    have x3 := X3.out.cell 3
    have y0 := Y3.out.cell 0
    have y1 := Y3.out.cell 1
    have y2 := Y3.out.cell 2
    have HHY := Lib.hid (HHX.out w3 HB3.out)
    go_wp2_with fail
    refine HHY.out.mono ?_
    rintro e w4 ⟨rfl, hb⟩
    have HB4 := Lib.hid (HB3.out.trans (hb.mono HB3.out.size))
    have K4 := Lib.hid (K3.out.below' hb)
    have X4 := Lib.hid (X3.out.below' hb)
    have Y4 := Lib.hid (Y3.out.below' hb)
    clear HHY HHX
    clear k0 k1 k2 k3 k4 k5 k6 k7 x0 x1 x2 x3 y0 y1 y2
    clear hb
    have k0 := K4.out.cell 0
    have k1 := K4.out.cell 1
    have k2 := K4.out.cell 2
    have k3 := K4.out.cell 3
    have k4 := K4.out.cell 4
    have k5 := K4.out.cell 5
    have k6 := K4.out.cell 6
    have k7 := K4.out.cell 7
    have x0 := X4.out.cell 0
    have x1 := X4.out.cell 1
    have x2 := X4.out.cell 2
    have x3 := X4.out.cell 3
    have y0 := Y4.out.cell 0
    have y1 := Y4.out.cell 1
    have y2 := Y4.out.cell 2
    have HPQ := Lib.hid (HPP.out w4 HB4.out)
    go_wp2_with fail
    refine HPQ.out.mono ?_
    rintro e w5 ⟨rfl, hb⟩
    have HB5 := Lib.hid (HB4.out.trans (hb.mono HB4.out.size))
    have K5 := Lib.hid (K4.out.below' hb)
    have X5 := Lib.hid (X4.out.below' hb)
    have Y5 := Lib.hid (Y4.out.below' hb)
    clear HPQ HPP
    clear k0 k1 k2 k3 k4 k5 k6 k7 x0 x1 x2 x3 y0 y1 y2
    clear hb
    have HWX := Lib.hid (HWK.out w5 HB5.out)
    go_wp2_with fail
    refine HWX.out.mono ?_
    rintro e wz ⟨rfl, hb⟩
    have HBZ := Lib.hid (HB5.out.trans (hb.mono HB5.out.size))
    clear hb
    go_wp2_with fail
    go_ret
    exact ⟨rfl, HBZ.out⟩
  · have HSX := Lib.hid (show Calls Tryz.prog 31 #[.agg #[.int .i64 (d.s.W : Int), .int .i64 (d.s.H : Int), .slice dA d.s.nd dc, .slice tA d.s.nt tc, .slice sA d.s.nt sc, .slice zA d.s.nd zc, .slice cA d.nz cc, .slice wA (d.s.nt - 1) wc], .agg #[.int .i64 (ta : Int), .slice xA xL.length xc, .int .i64 lo, .int .i64 hi], .slice hA hn hc] w1 fun e w' => (∃ ow U, e = .returned (.tuple #[.slice (some ⟨ow, 0, none⟩) m m, .int .i64 0]) ∧ Rws w' ow m U pl) ∧ Below w1.heap.size w1 w' from (HPC.out w1 HB1.out).mono fun e w' h => by
      obtain ⟨hb, h⟩ := h
      rcases h with ⟨h1, _⟩ | ⟨_, h1⟩
      · rw [hqp] at h1; cases h1
      · exact ⟨h1, hb⟩)
    have HHX := Lib.hid (fun (V : World) (hb0 : Below w.heap.size w V) => (show Calls Tryz.prog 32 #[.agg #[.int .i64 (d.s.W : Int), .int .i64 (d.s.H : Int), .slice dA d.s.nd dc, .slice tA d.s.nt tc, .slice sA d.s.nt sc, .slice zA d.s.nd zc, .slice cA d.nz cc, .slice wA (d.s.nt - 1) wc], .agg #[.int .i64 (ta : Int), .slice xA xL.length xc, .int .i64 lo, .int .i64 hi], .slice hA hn hc] V fun e w' => (∃ A c, e = .returned (.tuple #[.slice A LL.length c, .int .i64 0]) ∧ Rd1 w' w'.heap.size A LL.length (fun j => LL.getD j 0)) ∧ Below V.heap.size V w' from (HLC.out V hb0).mono fun e w' h => by
      obtain ⟨hb, h⟩ := h
      rcases h with ⟨h1, _⟩ | ⟨_, h1⟩
      · rw [hqp] at h1; cases h1
      · exact ⟨h1, hb⟩))
    clear hqp HPC HLC HLE
    go_wp2_with fail
    refine HSX.out.mono ?_
    rintro e w3 ⟨⟨ow, U, rfl, hrw⟩, hb⟩
    have HB3 := Lib.hid (HB1.out.trans (hb.mono HB1.out.size))
    have K3 := Lib.hid (K1.out.below' hb)
    have X3 := Lib.hid (X1.out.below' hb)
    have Y3 := Lib.hid (Y1.out.below' hb)
    have HRW3 := Lib.hid hrw
    clear HSX hrw
    clear k0 k1 k2 k3 k4 k5 k6 k7 x0 x1 x2 x3 y0 y1 y2
    clear hb
    have k0 := K3.out.cell 0
    have k1 := K3.out.cell 1
    have k2 := K3.out.cell 2
    have k3 := K3.out.cell 3
    have k4 := K3.out.cell 4
    have k5 := K3.out.cell 5
    have k6 := K3.out.cell 6
    have k7 := K3.out.cell 7
    have x0 := X3.out.cell 0
    have x1 := X3.out.cell 1
    have x2 := X3.out.cell 2
    have x3 := X3.out.cell 3
    have y0 := Y3.out.cell 0
    have y1 := Y3.out.cell 1
    have y2 := Y3.out.cell 2
    have HHY := Lib.hid (HHX.out w3 HB3.out)
    go_wp2_with fail
    refine HHY.out.mono ?_
    rintro e w4 ⟨⟨lA, lc, rfl, hr⟩, hb⟩
    have HB4 := Lib.hid (HB3.out.trans (hb.mono HB3.out.size))
    have K4 := Lib.hid (K3.out.below' hb)
    have X4 := Lib.hid (X3.out.below' hb)
    have Y4 := Lib.hid (Y3.out.below' hb)
    have HL4 := Lib.hid hr
    have HRW4 := Lib.hid (HRW3.out.below hb)
    clear HHY HHX hr HRW3
    clear k0 k1 k2 k3 k4 k5 k6 k7 x0 x1 x2 x3 y0 y1 y2
    clear hb
    have k0 := K4.out.cell 0
    have k1 := K4.out.cell 1
    have k2 := K4.out.cell 2
    have k3 := K4.out.cell 3
    have k4 := K4.out.cell 4
    have k5 := K4.out.cell 5
    have k6 := K4.out.cell 6
    have k7 := K4.out.cell 7
    have x0 := X4.out.cell 0
    have x1 := X4.out.cell 1
    have x2 := X4.out.cell 2
    have x3 := X4.out.cell 3
    have y0 := Y4.out.cell 0
    have y1 := Y4.out.cell 1
    have y2 := Y4.out.cell 2
    have HPQ := Lib.hid (HPP.out w4 HB4.out)
    have hnm : (d.s.nt : Int) - (ta : Int) = (m : Int) := by have := HM1.out; omega
    go_wp2_with fail
    refine HPQ.out.mono ?_
    rintro e w5 ⟨rfl, hb⟩
    have HB5 := Lib.hid (HB4.out.trans (hb.mono HB4.out.size))
    have K5 := Lib.hid (K4.out.below' hb)
    have X5 := Lib.hid (X4.out.below' hb)
    have Y5 := Lib.hid (Y4.out.below' hb)
    have HL5 := Lib.hid ((HL4.out.below hb).more hb.size)
    have HRW5 := Lib.hid (HRW4.out.below hb)
    clear HPQ HPP HL4 HRW4
    clear k0 k1 k2 k3 k4 k5 k6 k7 x0 x1 x2 x3 y0 y1 y2
    clear hb
    cases hb9
    · clear K5 X5 Y5
      have HWX := Lib.hid (HWK.out w5 HB5.out)
      go_wp2_with fail
      refine HWX.out.mono ?_
      rintro e wz ⟨rfl, hb⟩
      have HBZ := Lib.hid (HB5.out.trans (hb.mono HB5.out.size))
      clear hb
      go_wp2_with fail
      go_ret
      exact ⟨rfl, HBZ.out⟩
    obtain ⟨hpm, hlw, hin⟩ := HIS.out rfl
    have hpm := hpm.symm
    subst hpm
    have HIN := Lib.hid hin
    have HIX := Lib.hid (show Calls Tryz.prog 34 #[.slice lA LL.length lc, .int .i64 lw] w5 fun e w' => e = .returned (.bool true) ∧ Below w5.heap.size w5 w' from (rin_list lA LL.length lc w5.heap.size (fun j => LL.getD j 0) lw w5 HLN.out HL5.out).mono fun e w' h => by
      rw [anyTo_mem, decide_eq_true hlw] at h
      exact h)
    have HPV := Lib.hid (HRP.out w5 HB5.out)
    clear hin hlw HIS HL5 HLN
    have k0 := K5.out.cell 0
    have k1 := K5.out.cell 1
    have k2 := K5.out.cell 2
    have k3 := K5.out.cell 3
    have k4 := K5.out.cell 4
    have k5 := K5.out.cell 5
    have k6 := K5.out.cell 6
    have k7 := K5.out.cell 7
    have x0 := X5.out.cell 0
    have x1 := X5.out.cell 1
    have x2 := X5.out.cell 2
    have x3 := X5.out.cell 3
    have y0 := Y5.out.cell 0
    have y1 := Y5.out.cell 1
    have y2 := Y5.out.cell 2
    go_wp2_with fail
    refine HIX.out.mono ?_
    rintro e w6 ⟨rfl, hb⟩
    have HB6 := Lib.hid (HB5.out.trans (hb.mono HB5.out.size))
    have K6 := Lib.hid (K5.out.below' hb)
    have X6 := Lib.hid (X5.out.below' hb)
    have Y6 := Lib.hid (Y5.out.below' hb)
    have HRW6 := Lib.hid (HRW5.out.below hb)
    clear k0 k1 k2 k3 k4 k5 k6 k7 x0 x1 x2 x3 y0 y1 y2 hb HIX HRW5 K5 X5 Y5 HB5
    go_wp2_with fail
    go_loopw [11] (fun i wr => ∃ k : Nat, k ≤ m ∧ i = .int .i64 (k : Int) ∧ Hid (Below w.heap.size w wr ∧ Blk wr w.heap.size 29 #[.int .i64 (d.s.W : Int), .int .i64 (d.s.H : Int), .slice dA d.s.nd dc, .slice tA d.s.nt tc, .slice sA d.s.nt sc, .slice zA d.s.nd zc, .slice cA d.nz cc, .slice wA (d.s.nt - 1) wc] ∧ Blk wr (w.heap.size + 1) 44 #[.int .i64 (ta : Int), .slice xA xL.length xc, .int .i64 lo, .int .i64 hi] ∧ Blk wr (w.heap.size + 2) 61 #[.slice hA hn hc, .int .i64 lw, .slice pA m pc] ∧ Rws wr ow m U pl)) (fun i _ => m - (intOf i).toNat)
    case atStart => exact ⟨0, Nat.zero_le _, rfl, Lib.hid ⟨HB6.out, K6.out, X6.out, Y6.out, HRW6.out⟩⟩
    case round =>
      obtain ⟨k, hk, rfl, HS⟩ := hrel
      have HBr := Lib.hid HS.out.1
      clear HB6 K6 X6 Y6 HRW6
      by_cases hlt : k < m
      · have g1 : decide (k < m) = true := decide_eq_true hlt
        have hrk := HS.out.2.2.2.2.r k hlt
        obtain ⟨yA, yc, hy, hyr⟩ := hrk
        have c0 : wr.cell? ⟨ow, k, none⟩ = some (.slice yA (pl k).length yc) := by rw [← hy]; exact HS.out.2.2.2.2.c k hlt
        have hPV := HRP.out wr HBr.out
        rcases hPV with h0 | ⟨pb, po, rfl, hpb, hpc⟩
        · omega
        have c2 := hpc k hlt
        have c1 := HS.out.2.2.2.1.cell 2
        have HYD := Lib.hid (show Rd1 wr.drew wr.drew.heap.size yA (pl k).length (fun j => (pl k).getD j 0) from hyr)
        have HLT := Lib.hid (show ow < wr.drew.heap.size ∧ w.heap.size + 2 < wr.drew.heap.size ∧ pb < wr.drew.heap.size from ⟨HS.out.2.2.2.2.lt, HS.out.2.2.2.1.lt, by have := HBr.out.size; show pb < wr.heap.size; omega⟩)
        have HC := Lib.hid (And.intro c0 (And.intro c1 c2))
        clear hy hyr hpc
        go_wp2_with fail
        refine wp_nopanic ?_
        refine wp_region_T 10 (fun Z2 => Z2.cell? ⟨ow, k, none⟩ = some (.slice yA (pl k).length yc) ∧ Z2.cell? ⟨w.heap.size + 2, 2, none⟩ = some (.slice (some ⟨pb, po, none⟩) m pc) ∧ Z2.cell? ⟨pb, po + k, none⟩ = some (.int .i64 (pf k))) (by kernel_rfl) HC.out ?_
        clear c0 c1 c2
        intro hS
        refine wpAnyT_take (i := 0) (v := ?_) rfl (by kernel_rfl) (by kernel_rfl) (by kernel_rfl) (by kernel_rfl) (by kernel_rfl) (fun _ _ _ h => absurd rfl (h.1 _)) (.inl ⟨by kernel_rfl, ?_⟩) hS ?_
        rotate_left
        · (intro w' hw; obtain ⟨h1, h2, h3⟩ := hw; go_simp; try with_reducible rfl)
        try simp only [put_laws]
        refine wpAnyT_take (i := 1) (v := ?_) rfl (by kernel_rfl) (by kernel_rfl) (by kernel_rfl) (by kernel_rfl) (by kernel_rfl) (fun _ _ _ h => absurd rfl (h.1 _)) (.inl ⟨by kernel_rfl, ?_⟩) hS ?_
        rotate_left
        · (intro w' hw; obtain ⟨h1, h2, h3⟩ := hw; go_simp; try with_reducible rfl)
        try simp only [put_laws]
        refine wpAnyT_take (i := 2) (v := ?_) rfl (by kernel_rfl) (by kernel_rfl) (by kernel_rfl) (by kernel_rfl) (by kernel_rfl) (fun _ _ _ h => absurd rfl (h.1 _)) (.inl ⟨by kernel_rfl, ?_⟩) hS ?_
        rotate_left
        · (intro w' hw; obtain ⟨h1, h2, h3⟩ := hw; go_simp; try with_reducible rfl)
        try simp only [put_laws]
        refine wpAnyT_take (i := 3) (v := ?_) rfl (by kernel_rfl) (by kernel_rfl) (by kernel_rfl) (by kernel_rfl) (by kernel_rfl) (fun _ _ _ h => absurd rfl (h.1 _)) (.inl ⟨by kernel_rfl, ?_⟩) hS ?_
        rotate_left
        · (intro w' hw; obtain ⟨h1, h2, h3⟩ := hw; go_simp; try with_reducible rfl)
        try simp only [put_laws]
        refine wpAnyT_take (i := 4) (v := ?_) rfl (by kernel_rfl) (by kernel_rfl) (by kernel_rfl) (by kernel_rfl) (by kernel_rfl) (fun _ _ _ h => absurd rfl (h.1 _)) (.inl ⟨by kernel_rfl, ?_⟩) hS ?_
        rotate_left
        · (intro w' hw; obtain ⟨h1, h2, h3⟩ := hw; go_simp; try with_reducible rfl)
        try simp only [put_laws]
        refine wpAnyT_take (i := 5) (v := ?_) rfl (by kernel_rfl) (by kernel_rfl) (by kernel_rfl) (by kernel_rfl) (by kernel_rfl) (fun _ _ _ h => absurd rfl (h.1 _)) (.inl ⟨by kernel_rfl, ?_⟩) hS ?_
        rotate_left
        · (intro w' hw; obtain ⟨h1, h2, h3⟩ := hw; go_simp; try with_reducible rfl)
        try simp only [put_laws]
        refine wpAnyT_take (i := 6) (v := ?_) rfl (by kernel_rfl) (by kernel_rfl) (by kernel_rfl) (by kernel_rfl) (by kernel_rfl) (fun _ _ _ h => absurd rfl (h.1 _)) (.inl ⟨by kernel_rfl, ?_⟩) hS ?_
        rotate_left
        · (intro w' hw; obtain ⟨h1, h2, h3⟩ := hw; go_simp; try with_reducible rfl)
        try simp only [put_laws]
        refine wpAnyT_take (i := 7) (v := ?_) rfl (by kernel_rfl) (by kernel_rfl) (by kernel_rfl) (by kernel_rfl) (by kernel_rfl) (fun _ _ _ h => absurd rfl (h.1 _)) (.inl ⟨by kernel_rfl, ?_⟩) hS ?_
        rotate_left
        · (intro w' hw; obtain ⟨h1, h2, h3⟩ := hw; go_simp; try with_reducible rfl)
        try simp only [put_laws]
        refine wpAnyT_take (i := 8) (v := ?_) rfl (by kernel_rfl) (by kernel_rfl) (by kernel_rfl) (by kernel_rfl) (by kernel_rfl) (fun _ _ _ h => absurd rfl (h.1 _)) (.inl ⟨by kernel_rfl, ?_⟩) hS ?_
        rotate_left
        · (intro w' hw; obtain ⟨h1, h2, h3⟩ := hw; go_simp; try with_reducible rfl)
        try simp only [put_laws]
        refine wpAnyT_one (i := 9) (by kernel_rfl) rfl ?_
        intro K' hK'
        go_simp
        refine (rin_list yA (pl k).length yc wr.drew.heap.size (fun j => (pl k).getD j 0) (pf k) wr.drew (HPN.out k) HYD.out).mono ?_
        rintro e w6 ⟨rfl, hb⟩
        rw [anyTo_mem, decide_eq_true (HIN.out k hlt)]
        have HB6 := Lib.hid hb
        clear hb
        refine hK'.out _ _ (.inr ⟨(HB6.out.cell HLT.out.1).trans hS.1, (HB6.out.cell HLT.out.2.1).trans hS.2.1, (HB6.out.cell HLT.out.2.2).trans hS.2.2⟩) ?_
        clear hK' K'
        try simp only [put_laws]
        refine wpAnyT_one (i := 10) (by kernel_rfl) rfl ?_
        intro K' hK'
        go_simp
        refine hK'.out _ _ (.inl rfl) ?_
        clear hK' K'
        try simp only [put_laws]
        refine wpAnyT_done (by kernel_rfl) ?_ _
        refine ⟨fun x e => (by cases e), ?_⟩
        have HD6 := Lib.hid (show Below wr.heap.size wr w6 from (Below.refl _ wr).drew.trans (HB6.out.mono (Nat.le_refl _)))
        have hIV := (show Hid (Below w.heap.size w w6 ∧ Blk w6 w.heap.size 29 #[.int .i64 (d.s.W : Int), .int .i64 (d.s.H : Int), .slice dA d.s.nd dc, .slice tA d.s.nt tc, .slice sA d.s.nt sc, .slice zA d.s.nd zc, .slice cA d.nz cc, .slice wA (d.s.nt - 1) wc] ∧ Blk w6 (w.heap.size + 1) 44 #[.int .i64 (ta : Int), .slice xA xL.length xc, .int .i64 lo, .int .i64 hi] ∧ Blk w6 (w.heap.size + 2) 61 #[.slice hA hn hc, .int .i64 lw, .slice (some ⟨pb, po, none⟩) m pc] ∧ Rws w6 ow m U pl) from Lib.hid ⟨HBr.out.trans (HD6.out.mono HBr.out.size), HS.out.2.1.below' HD6.out, HS.out.2.2.1.below' HD6.out, HS.out.2.2.2.1.below' HD6.out, HS.out.2.2.2.2.below HD6.out⟩)
        clear HS HC HYD HLT HB6 HD6 hS
        go_wp2_with fail
        go_roundw
        case rel => exact ⟨k + 1, by omega, by go_num, hIV⟩
        case measure => simp [intOf]; omega
      · have hkm : k = m := by omega
        subst hkm
        have g1 : decide (k < k) = false := decide_eq_false (Nat.lt_irrefl _)
        have HWX := Lib.hid (HWK.out wr HBr.out)
        go_wp2_with fail
        refine HWX.out.mono ?_
        rintro e wz ⟨rfl, hb⟩
        have HBZ := Lib.hid (HBr.out.trans (hb.mono HBr.out.size))
        clear hb
        go_wp2_with fail
        go_ret
        exact ⟨rfl, HBZ.out⟩
end
end Go.Proofs.YtnbeembnnjdmdaaGreatDoor
/- History of a bad cell or tick; DriftReal, walked. -/
namespace Go.Proofs.YtnbeembnnjdmdaaGreatDoor
open Go.RowKit Go.Maps

section
variable {d : M.Dr} {zA cA wA dA tA sA xA hA : Option Addr} {cl : Nat → Nat} {B dc tc sc zc cc wc xc hn hc : Nat} {at_ lo hi : Int} {xL : List Int} {Xs : Nat → SgV} {w : World}
attribute [local go_sem] Oper.semAt_some
set_option maxRecDepth 100000 in
set_option maxHeartbeats 12800000 in
theorem history_bad (hd : d.Ok) (hcl : ∀ i, i < d.nz → cl i + 1 = d.s.nt) (hR : RdD w B dA tA sA zA cA wA d.s.nd d.s.nt d.s.nt d.s.nd d.nz (d.s.nt - 1) d.s.dep d.s.tide d.s.sw d.z cl d.cu d.wd) (hB : B ≤ w.heap.size) (hW : Ways w)
    (hx3 : Rd1 w B xA xL.length (fun k => xL.getD k 0)) (hx4 : xL.length ≤ maxLen) (hRS : RdS w B hA hn Xs) (hhn : hn ≤ maxLen) (c t : Int) (hX : chkX d.s.nd d.s.nt at_ lo hi xL = true) (hS : chkS d.s.nd d.s.nt at_ hn Xs = true) (hq : askB d.s.nd d.s.nt at_ c t = false) :
    Calls Tryz.prog 29 #[.agg #[.int .i64 (d.s.W : Int), .int .i64 (d.s.H : Int), .slice dA d.s.nd dc, .slice tA d.s.nt tc, .slice sA d.s.nt sc, .slice zA d.s.nd zc, .slice cA d.nz cc, .slice wA (d.s.nt - 1) wc], .agg #[.int .i64 at_, .slice xA xL.length xc, .int .i64 lo, .int .i64 hi], .slice hA hn hc, .int .i64 c, .int .i64 t] w fun e w' => Below w.heap.size w w' ∧
      e = .returned (.tuple #[.int .i64 0, .slice none 0 0, .int .i64 1]) := by
  obtain ⟨⟨ha1, ha2⟩, hxl, ⟨hx1, hx2⟩, hl1, hl2, hl3⟩ := chkX_bd hX
  obtain ⟨ta, rfl⟩ : ∃ n : Nat, at_ = (n : Int) := ⟨at_.toNat, by omega⟩
  have h60 := hd.s.t2
  have h1n := hd.s.t1
  have hnd := hd.s.nd1
  have hxm : xL.length ≤ 1048576 := by have := M.asc_len hx1 (fun x hx => ⟨by have := hx2 x hx; omega, (hx2 x hx).2⟩); omega
  obtain ⟨m, hm⟩ : ∃ m, m = d.s.nt - ta := ⟨_, rfl⟩
  have hm1 : ta + m = d.s.nt := by omega
  have hm2 : 1 ≤ m := by omega
  have hm60 : m ≤ 60 := by omega
  have HD := Lib.hid hd
  have hbY := ((belowAlloc3 w (.cells #[.int .i64 (d.s.W : Int), .int .i64 (d.s.H : Int), .slice dA d.s.nd dc, .slice tA d.s.nt tc, .slice sA d.s.nt sc, .slice zA d.s.nd zc, .slice cA d.nz cc, .slice wA (d.s.nt - 1) wc] 29) (.cells #[.int .i64 (ta : Int), .slice xA xL.length xc, .int .i64 lo, .int .i64 hi] 44) (.cells #[.int .i64 0] 3)).alloc (by simp; omega) (.cells #[.slice none 0 0] 22)).alloc (by simp; omega) (.cells #[.int .i64 0] 35)
  have hO := begin_ok (at_ := (ta : Int)) (lo := lo) (hi := hi) (xc := xc) (hc := hc) (dc := dc) (tc := tc) (sc := sc) (zc := zc) (cc := cc) (wc := wc) hd hcl (hR.below (hbY.mono hB)) (Nat.le_trans hB hbY.size) (hW.below hbY) (hx3.below (hbY.mono hB)) hx4 (hRS.below (hbY.mono hB)) hhn
  have K0 := Lib.hid (show HsK w.heap.size 0 (.slice none 0 0) (((((w.alloc (.cells #[.int .i64 (d.s.W : Int), .int .i64 (d.s.H : Int), .slice dA d.s.nd dc, .slice tA d.s.nt tc, .slice sA d.s.nt sc, .slice zA d.s.nd zc, .slice cA d.nz cc, .slice wA (d.s.nt - 1) wc] 29)).alloc (.cells #[.int .i64 (ta : Int), .slice xA xL.length xc, .int .i64 lo, .int .i64 hi] 44)).alloc (.cells #[.int .i64 0] 3)).alloc (.cells #[.slice none 0 0] 22)).alloc (.cells #[.int .i64 0] 35)) from
    ⟨((Blk.new2 w _ _ 3 #[.int .i64 0]).alloc _).alloc _, (Blk.new3 w _ _ _ 22 #[.slice none 0 0]).alloc _, by have := Blk.new ((((w.alloc (.cells #[.int .i64 (d.s.W : Int), .int .i64 (d.s.H : Int), .slice dA d.s.nd dc, .slice tA d.s.nt tc, .slice sA d.s.nt sc, .slice zA d.s.nd zc, .slice cA d.nz cc, .slice wA (d.s.nt - 1) wc] 29)).alloc (.cells #[.int .i64 (ta : Int), .slice xA xL.length xc, .int .i64 lo, .int .i64 hi] 44)).alloc (.cells #[.int .i64 0] 3)).alloc (.cells #[.slice none 0 0] 22)) 35 #[.int .i64 0]; simpa using this⟩)
  have HBY := Lib.hid hbY
  have D0 := Lib.hid (show Blk (((((w.alloc (.cells #[.int .i64 (d.s.W : Int), .int .i64 (d.s.H : Int), .slice dA d.s.nd dc, .slice tA d.s.nt tc, .slice sA d.s.nt sc, .slice zA d.s.nd zc, .slice cA d.nz cc, .slice wA (d.s.nt - 1) wc] 29)).alloc (.cells #[.int .i64 (ta : Int), .slice xA xL.length xc, .int .i64 lo, .int .i64 hi] 44)).alloc (.cells #[.int .i64 0] 3)).alloc (.cells #[.slice none 0 0] 22)).alloc (.cells #[.int .i64 0] 35)) w.heap.size 29 #[.int .i64 (d.s.W : Int), .int .i64 (d.s.H : Int), .slice dA d.s.nd dc, .slice tA d.s.nt tc, .slice sA d.s.nt sc, .slice zA d.s.nd zc, .slice cA d.nz cc, .slice wA (d.s.nt - 1) wc] from ((((Blk.new w 29 #[.int .i64 (d.s.W : Int), .int .i64 (d.s.H : Int), .slice dA d.s.nd dc, .slice tA d.s.nt tc, .slice sA d.s.nt sc, .slice zA d.s.nd zc, .slice cA d.nz cc, .slice wA (d.s.nt - 1) wc]).alloc _).alloc _).alloc _).alloc _)
  have X0 := Lib.hid (show Blk (((((w.alloc (.cells #[.int .i64 (d.s.W : Int), .int .i64 (d.s.H : Int), .slice dA d.s.nd dc, .slice tA d.s.nt tc, .slice sA d.s.nt sc, .slice zA d.s.nd zc, .slice cA d.nz cc, .slice wA (d.s.nt - 1) wc] 29)).alloc (.cells #[.int .i64 (ta : Int), .slice xA xL.length xc, .int .i64 lo, .int .i64 hi] 44)).alloc (.cells #[.int .i64 0] 3)).alloc (.cells #[.slice none 0 0] 22)).alloc (.cells #[.int .i64 0] 35)) (w.heap.size + 1) 44 #[.int .i64 (ta : Int), .slice xA xL.length xc, .int .i64 lo, .int .i64 hi] from (((Blk.new1 w _ 44 _).alloc _).alloc _).alloc _)
  have HO := Lib.hid (hO.mono (R' := fun e w' => ∃ B2 P m1 m2, w.heap.size + 5 ≤ B2 ∧ Below (w.heap.size + 5) (((((w.alloc (.cells #[.int .i64 (d.s.W : Int), .int .i64 (d.s.H : Int), .slice dA d.s.nd dc, .slice tA d.s.nt tc, .slice sA d.s.nt sc, .slice zA d.s.nd zc, .slice cA d.nz cc, .slice wA (d.s.nt - 1) wc] 29)).alloc (.cells #[.int .i64 (ta : Int), .slice xA xL.length xc, .int .i64 lo, .int .i64 hi] 44)).alloc (.cells #[.int .i64 0] 3)).alloc (.cells #[.slice none 0 0] 22)).alloc (.cells #[.int .i64 0] 35)) w' ∧ e = .returned (.tuple #[.agg #[.pointer (some ⟨P, 0, none⟩), .int .i64 (ta : Int), .slice xA xL.length xc, .int .i64 lo, .int .i64 hi, .slice hA hn hc], .int .i64 0]) ∧ SeaM d zA cA wA dA tA sA cl w.heap.size P m1 m2 #[.int .i64 (d.s.W : Int), .int .i64 (d.s.H : Int), .slice dA d.s.nd dc, .slice tA d.s.nt tc, .slice sA d.s.nt sc, .slice zA d.s.nd zc, .slice cA d.nz cc, .slice wA (d.s.nt - 1) wc, .map (some m1), .map (some m2)] (own3 P m1 m2) w' ∧ B2 ≤ P ∧ B2 ≤ m1 ∧ B2 ≤ m2) fun e w' h => by
    obtain ⟨hb, h⟩ := h
    rcases h with ⟨h1, h2⟩ | ⟨h1, h2, h3⟩ | ⟨h1, h2, B2, P, m1, m2, h3, h4, h5⟩
    · rw [hX] at h1; cases h1
    · rw [hS] at h2; cases h2
    · exact ⟨B2, P, m1, m2, by simpa using h3, by simpa using hb, h4, h5.base (by simp at h3; omega) ((hR.below ((hbY.trans (hb.mono hbY.size)).mono hB)).more hB) hW.2, h5.b.1, h5.b.2.1, h5.b.2.2.1⟩)
  have HAS := Lib.hid (fun (P : Nat) (V : World) (h2 : V.cell? ⟨P, 2, none⟩ = some (.slice dA d.s.nd dc)) (h3 : V.cell? ⟨P, 3, none⟩ = some (.slice tA d.s.nt tc)) => asked_any (P := P) (ta := ta) (xA := xA) (xc := xc) (xL := xL) (lo := lo) (hi := hi) (hA := hA) (hn := hn) (hc := hc) c t V h2 h3 (by unfold maxLen; omega) (by unfold maxLen; omega))
  unfold askB at hq
  rw [hq] at HAS
  have HRS := Lib.hid hRS
  have HX3 := Lib.hid hx3
  have hll : hi ≤ lo + 8 := by omega
  clear hO hbY hR hd hcl hW hx3 hRS hx1 hx2 hX hS hm hq
  refine (callsIn_wide (n := 4)).1 ?_
  refine callsIn_of_wp_marks Tryz.func29 rfl trivial ?_ rfl
  simp only [Tryz.ntmps29, List.size_toArray, List.length_cons, List.length_nil, Nat.reduceAdd, Nat.reduceSub, Array.replicate_succ, Array.replicate_zero, List.push_toArray, List.append_toArray, List.nil_append, List.cons_append]
  refine wpIn_wide.2 ?_
  go_upto_region 1 with fail
  generalize ((((w.alloc (.cells #[.int .i64 (d.s.W : Int), .int .i64 (d.s.H : Int), .slice dA d.s.nd dc, .slice tA d.s.nt tc, .slice sA d.s.nt sc, .slice zA d.s.nd zc, .slice cA d.nz cc, .slice wA (d.s.nt - 1) wc] 29)).alloc (.cells #[.int .i64 (ta : Int), .slice xA xL.length xc, .int .i64 lo, .int .i64 hi] 44)).alloc (.cells #[.int .i64 0] 3)).alloc (.cells #[.slice none 0 0] 22)).alloc (.cells #[.int .i64 0] 35) = X at HO K0 HBY D0 X0 ⊢
  simp only [Nat.add_assoc, Nat.reduceAdd]
  have d0 := D0.out.cell 0
  have d1 := D0.out.cell 1
  have d2 := D0.out.cell 2
  have d3 := D0.out.cell 3
  have d4 := D0.out.cell 4
  have d5 := D0.out.cell 5
  have d6 := D0.out.cell 6
  have d7 := D0.out.cell 7
  have x0 := X0.out.cell 0
  have x1 := X0.out.cell 1
  have x2 := X0.out.cell 2
  have x3 := X0.out.cell 3
  have k12 := K0.out.k12.cell 0
  have f12 := K0.out.k12.frz 0
  go_upto_region 2 with (go_at_call 55; refine HO.out.mono ?_; rintro e w1 ⟨B2, P, m1, m2, hB2, hb, rfl, hM, hPB, hm1B, hm2B⟩; have HB1 := Lib.hid (show Below w.heap.size w w1 from HBY.out.trans (hb.mono (by omega))); have HM1 := Lib.hid hM; have HB2 := Lib.hid (And.intro hB2 (And.intro hPB (And.intro hm1B hm2B))); have K1 := Lib.hid (show HsK w.heap.size 0 (.slice none 0 0) w1 from ⟨K0.out.k10.below hb (by omega), K0.out.k11.below hb (by omega), K0.out.k12.below hb (by omega)⟩); have HSX := Lib.hid (show w.heap.size + 5 ≤ w1.heap.size from Nat.le_trans (by have := HM1.out.b.2.1; have := (HM1.out.t.2.2.2 m1 HM1.out.t.2.1).2; omega) (Nat.le_refl _)); clear hb hM hB2 hPB hm1B hm2B k12 f12 d0 d1 d2 d3 d4 d5 d6 d7 x0 x1 x2 x3; have k12 := K1.out.k12.cell 0; have f12 := K1.out.k12.frz 0; have l12 : w.heap.size + 4 < w1.heap.size := K1.out.k12.lt)
  have hBs := HB2.out
  have HG := Lib.hid (grownBy_setCell' w1 (w.heap.size + 4) (.int .i64 0))
  have HMS := Lib.hid (HM1.out.grown HG.out fun r e => by cases e; exact ⟨by omega, fun h => by rcases h with h | h | h <;> omega⟩)
  have HM2 := Lib.hid (HMS.out.alloc (.cells #[.pointer (some ⟨P, 0, none⟩), .int .i64 (ta : Int), .slice xA xL.length xc, .int .i64 lo, .int .i64 hi, .slice hA hn hc] 105))
  have K2 := Lib.hid (show HsK w.heap.size 0 (.slice none 0 0) ((w1.setCell ⟨w.heap.size + 4, 0, none⟩ (.int .i64 0)).alloc (.cells #[.pointer (some ⟨P, 0, none⟩), .int .i64 (ta : Int), .slice xA xL.length xc, .int .i64 lo, .int .i64 hi, .slice hA hn hc] 105)) from ⟨(K1.out.k10.grown HG.out (by simp)).alloc _, (K1.out.k11.grown HG.out (by simp)).alloc _, (K1.out.k12.set_ 0 (.int .i64 0)).alloc _⟩)
  have HBX := Lib.hid ((HB1.out.setCell (p := ⟨w.heap.size + 4, 0, none⟩) (by show w.heap.size ≤ w.heap.size + 4; omega) (.int .i64 0)).alloc (by simp; omega) (.cells #[.pointer (some ⟨P, 0, none⟩), .int .i64 (ta : Int), .slice xA xL.length xc, .int .i64 lo, .int .i64 hi, .slice hA hn hc] 105))
  have KC := Lib.hid (show Blk ((w1.setCell ⟨w.heap.size + 4, 0, none⟩ (.int .i64 0)).alloc (.cells #[.pointer (some ⟨P, 0, none⟩), .int .i64 (ta : Int), .slice xA xL.length xc, .int .i64 lo, .int .i64 hi, .slice hA hn hc] 105)) w1.heap.size 105 #[.pointer (some ⟨P, 0, none⟩), .int .i64 (ta : Int), .slice xA xL.length xc, .int .i64 lo, .int .i64 hi, .slice hA hn hc] from by have := Blk.new (w1.setCell ⟨w.heap.size + 4, 0, none⟩ (.int .i64 0)) 105 #[.pointer (some ⟨P, 0, none⟩), .int .i64 (ta : Int), .slice xA xL.length xc, .int .i64 lo, .int .i64 hi, .slice hA hn hc]; simpa using this)
  have hszY : ((w1.setCell ⟨w.heap.size + 4, 0, none⟩ (.int .i64 0)).alloc (.cells #[.pointer (some ⟨P, 0, none⟩), .int .i64 (ta : Int), .slice xA xL.length xc, .int .i64 lo, .int .i64 hi, .slice hA hn hc] 105)).heap.size = w1.heap.size + 1 := by simp
  generalize (w1.setCell ⟨w.heap.size + 4, 0, none⟩ (.int .i64 0)).alloc (.cells #[.pointer (some ⟨P, 0, none⟩), .int .i64 (ta : Int), .slice xA xL.length xc, .int .i64 lo, .int .i64 hi, .slice hA hn hc] 105) = Y at HM2 K2 HBX KC hszY ⊢
  have HSX' := HSX.out
  generalize w1.heap.size = S at KC hszY HSX' ⊢
  have HSZ := Lib.hid hszY
  clear hszY HG HMS K1 HM1 HB1 HSX k12 f12 l12
  have k0 := KC.out.cell 0
  have k1 := KC.out.cell 1
  have k2 := KC.out.cell 2
  have k3 := KC.out.cell 3
  have k4 := KC.out.cell 4
  have k5 := KC.out.cell 5
  have k12 := K2.out.k12.cell 0
  go_upto_region 5 with (go_at_call 62; go_must (refine (HAS.out P Y (HM2.out.box.cell 2) (HM2.out.box.cell 3)).mono ?_); rintro e w2 ⟨rfl, hb⟩; have HB3 := Lib.hid hb; clear hb)
  have K3 := Lib.hid (K2.out.grown (below_grown HB3.out none) fun r e => (by cases e))
  have HBX3 := Lib.hid (HBX.out.trans (HB3.out.mono HBX.out.size))
  have hS2 : S + 1 ≤ w2.heap.size := by rw [← HSZ.out]; exact HB3.out.size
  clear k0 k1 k2 k3 k4 k5 k12 HM2 KC K2 HBX HAS HB3 HSZ
  have k10 := K3.out.k10.cell 0
  have k11 := K3.out.k11.cell 0
  have k12 := K3.out.k12.cell 0
  have f10 := K3.out.k10.frz 0
  have f11 := K3.out.k11.frz 0
  have f12 := K3.out.k12.frz 0
  go_wp2_with fail
  have g1 := grownBy_setCell' w2 (w.heap.size + 2) (.int .i64 0)
  have g2 := grownBy_setCell' (w2.setCell ⟨w.heap.size + 2, 0, none⟩ (.int .i64 0)) (w.heap.size + 3) (.slice none 0 0)
  have g3 := grownBy_setCell' ((w2.setCell ⟨w.heap.size + 2, 0, none⟩ (.int .i64 0)).setCell ⟨w.heap.size + 3, 0, none⟩ (.slice none 0 0)) (w.heap.size + 4) (.int .i64 1)
  have b1 := ((K3.out.k10.set_ 0 (.int .i64 0)).grown g2 (by simp)).grown g3 (by simp)
  have b2 := ((K3.out.k11.grown g1 (by simp)).set_ 0 (.slice none 0 0)).grown g3 (by simp)
  have b3 := ((K3.out.k12.grown g1 (by simp)).grown g2 (by simp)).set_ 0 (.int .i64 1)
  have bw := ((HBX3.out.setCell (p := ⟨w.heap.size + 2, 0, none⟩) (by show w.heap.size ≤ w.heap.size + 2; omega) (.int .i64 0)).setCell (p := ⟨w.heap.size + 3, 0, none⟩) (by show w.heap.size ≤ w.heap.size + 3; omega) (.slice none 0 0)).setCell (p := ⟨w.heap.size + 4, 0, none⟩) (by show w.heap.size ≤ w.heap.size + 4; omega) (.int .i64 1)
  refine leaves_marks (lo := w2.heap.size) [] _ trivial fun w' hk => ?_
  obtain ⟨r0, r1, r2, r3⟩ := hk (fun _ X => Below w.heap.size w X ∧ Blk X (w.heap.size + 2) 3 #[.int .i64 0] ∧ Blk X (w.heap.size + 3) 22 #[.slice none 0 0] ∧ Blk X (w.heap.size + 4) 35 #[.int .i64 1]) (fun _ X Y row hs hg hr => ⟨hs.1.grown hg hs.1.size fun r e => by have := (hr r e).1; omega, hs.2.1.grown hg (blk_note hs.2.1 fun r e => (hr r e).2), hs.2.2.1.grown hg (blk_note hs.2.2.1 fun r e => (hr r e).2), hs.2.2.2.grown hg (blk_note hs.2.2.2 fun r e => (hr r e).2)⟩) ⟨bw, b1, b2, b3⟩
  exact ⟨_, results_h3 rfl _ w' _ _ _ 0 1 (.slice none 0 0) rfl rfl rfl (r1.cell 0) (r2.cell 0) (r3.cell 0), r0, rfl⟩
end
section
variable {d : M.Dr} {ta hn j : Nat} {c t l lo hi : Int} {xL : List Int} {Xs : Nat → SgV} {f : Nat → Int}
theorem fit_sub {i : Nat} {x : Int} (h : trFit Xs hn ta t c i x = true) : trFit Xs hn ta (-1) 0 i x = true := by
  unfold trFit M.fitF at *
  rw [Bool.and_eq_true] at *
  refine ⟨h.1, ?_⟩
  unfold M.fixB
  rw [decide_eq_false (show ¬ ((ta : Int) + i = -1) by omega)]; rfl
theorem fit_at (h : trFit Xs hn ta t c j (f j) = true) (ht : t = ta + j) : f j = c := by
  unfold trFit M.fitF at h
  rw [Bool.and_eq_true] at h
  have h2 := h.2
  unfold M.fixB at h2
  rw [decide_eq_true ht.symm] at h2
  simpa using h2
theorem strP_iff {n : Nat} {ft fc : Int} : M.spanTo lo hi (leeP d ta n hn xL Xs ft fc) = true ↔ ∃ l f, (lo ≤ l ∧ l ≤ hi) ∧ M.Hist d ta l (fun c => xL.contains c) (trFit Xs hn ta ft fc) (n - 1) f := by
  unfold leeP
  exact spanTo_posB
theorem strP_free (h : strP d (ta : Int) lo hi xL hn Xs c t = true) : strP d (ta : Int) lo hi xL hn Xs 0 (-1) = true := by
  unfold strP at *
  rw [Int.toNat_natCast] at *
  obtain ⟨l, f, h1, h2⟩ := strP_iff.1 h
  exact strP_iff.2 ⟨l, f, h1, h2.mono rfl (fun _ hc => hc) (fun _ _ _ hc => fit_sub hc) (fun _ _ _ _ hc => hc)⟩
theorem strP_at (hj : j < d.s.nt - ta) (ht : t = ta + j) (hc : -1 ≤ c ∧ c < d.s.nd) : strP d (ta : Int) lo hi xL hn Xs c t = true ↔ c ∈ plcL d ta (d.s.nt - ta) hn xL Xs lo hi j := by
  unfold strP plcL
  rw [Int.toNat_natCast, strP_iff, M.mem_listB, plcB_iff hj hc]
  constructor
  · rintro ⟨l, f, h1, h2⟩
    exact ⟨hc, l, f, h1, h2.mono rfl (fun _ hc => hc) (fun _ _ _ hc => fit_sub hc) (fun _ _ _ _ hc => hc), fit_at (h2.fit j (by omega)) ht⟩
  · rintro ⟨_, l, f, h1, h2, h3⟩
    refine ⟨l, f, h1, h2.bd, h2.x0, fun i hi => ?_, h2.go⟩
    have h4 := h2.fit i hi
    unfold trFit M.fitF at *
    rw [Bool.and_eq_true] at *
    refine ⟨h4.1, ?_⟩
    unfold M.fixB
    by_cases e : i = j
    · subst e; rw [decide_eq_true h3]; simp
    · rw [decide_eq_false (show ¬ ((ta : Int) + i = t) by omega)]; rfl
theorem his_of {n : Nat} (hm : 1 ≤ d.s.nt - ta) (h1 : lo ≤ l ∧ l ≤ hi) (hn1 : n = d.s.nt - ta) (h2 : M.Hist d ta l (fun c => xL.contains c) (trFit Xs hn ta t c) (d.s.nt - ta - 1) f) : M.hisB d ta (d.s.nt - ta) lo hi xL (fun i => (Xs i).sg) hn l n f = true :=
  (M.hisB_iff hm).2 ⟨h1, hn1, h2.mono rfl (fun _ hc => hc) (fun _ _ _ hc => fit_sub hc) (fun _ _ _ _ hc => hc)⟩
end
section
variable {W H : Int} {dA tA sA zA cA wA xA hA : Option Addr} {nd dc nt tc ns sc zn zc cn cc wn wc xc hn hc B : Nat} {at_ lo hi : Int} {dep : Nat → Int} {tide : Nat → Nat → Int} {sw z : Nat → Int} {cl : Nat → Nat} {cu : Nat → Nat → Nat → Int} {wd : Nat → Nat → Int} {xL : List Int} {Xs : Nat → SgV} {w : World}
set_option maxRecDepth 100000 in
set_option maxHeartbeats 12800000 in
theorem driftReal_any (hnd : nd ≤ maxLen) (hnt : nt ≤ maxLen) (hns : ns ≤ maxLen) (hzn : zn ≤ maxLen) (hcn : cn ≤ maxLen) (hwn : wn ≤ maxLen) (hR : RdD w B dA tA sA zA cA wA nd nt ns zn cn wn dep tide sw z cl cu wd) (hB : B ≤ w.heap.size) (hW : Ways w)
    (hx3 : Rd1 w B xA xL.length (fun k => xL.getD k 0)) (hx4 : xL.length ≤ maxLen) (hRS : RdS w B hA hn Xs) (hhn : hn ≤ maxLen) (c t : Int) (hF : Fre w) :
    Calls Tryz.prog 9 #[.agg #[.int .i64 W, .int .i64 H, .slice dA nd dc, .slice tA nt tc, .slice sA ns sc, .slice zA zn zc, .slice cA cn cc, .slice wA wn wc], .agg #[.int .i64 at_, .slice xA xL.length xc, .int .i64 lo, .int .i64 hi], .agg #[.slice hA hn hc, .int .i64 c, .int .i64 t]] w fun e w' => e = .returned (.bool true) ∧ Below w.heap.size w w' := by
  have HB0 := Lib.hid (belowAlloc3 w (.cells #[.int .i64 W, .int .i64 H, .slice dA nd dc, .slice tA nt tc, .slice sA ns sc, .slice zA zn zc, .slice cA cn cc, .slice wA wn wc] 29) (.cells #[.int .i64 at_, .slice xA xL.length xc, .int .i64 lo, .int .i64 hi] 44) (.cells #[.slice hA hn hc, .int .i64 c, .int .i64 t] 47))
  have K0 := Lib.hid (((Blk.new w 29 #[.int .i64 W, .int .i64 H, .slice dA nd dc, .slice tA nt tc, .slice sA ns sc, .slice zA zn zc, .slice cA cn cc, .slice wA wn wc]).alloc (.cells #[.int .i64 at_, .slice xA xL.length xc, .int .i64 lo, .int .i64 hi] 44)).alloc (.cells #[.slice hA hn hc, .int .i64 c, .int .i64 t] 47))
  have X0 := Lib.hid ((Blk.new1 w (.cells #[.int .i64 W, .int .i64 H, .slice dA nd dc, .slice tA nt tc, .slice sA ns sc, .slice zA zn zc, .slice cA cn cc, .slice wA wn wc] 29) 44 #[.int .i64 at_, .slice xA xL.length xc, .int .i64 lo, .int .i64 hi]).alloc (.cells #[.slice hA hn hc, .int .i64 c, .int .i64 t] 47))
  have Y0 := Lib.hid (Blk.new2 w (.cells #[.int .i64 W, .int .i64 H, .slice dA nd dc, .slice tA nt tc, .slice sA ns sc, .slice zA zn zc, .slice cA cn cc, .slice wA wn wc] 29) (.cells #[.int .i64 at_, .slice xA xL.length xc, .int .i64 lo, .int .i64 hi] 44) 47 #[.slice hA hn hc, .int .i64 c, .int .i64 t])
  have HVA := Lib.hid (fun (V : World) (hb : Below w.heap.size w V) => valid_any (dc := dc) (tc := tc) (sc := sc) (zc := zc) (cc := cc) (wc := wc) (xc := xc) (hc := hc) (W := W) (H := H) (at_ := at_) (lo := lo) (hi := hi) hnd hnt hns hzn hcn hwn (hR.below (hb.mono hB)) (Nat.le_trans hB hb.size) (hx3.below (hb.mono hB)) hx4 (hRS.below (hb.mono hB)) hhn)
  have HCA := Lib.hid (fun (V : World) (hb : Below w.heap.size w V) => rcheckat_any (dc := dc) (tc := tc) (sc := sc) (zc := zc) (cc := cc) (wc := wc) (xc := xc) (hc := hc) (W := W) (H := H) (at_ := at_) (lo := lo) (hi := hi) hnd hnt hns hzn hcn hwn (hR.below (hb.mono hB)) (Nat.le_trans hB hb.size) (hx3.below (hb.mono hB)) hx4 (hRS.below (hb.mono hB)) hhn c t)
  have HWK := Lib.hid (fun (V : World) (hb : Below w.heap.size w V) => works_any V (hW.below hb))
  have HWY := Lib.hid (fun (V : World) (hb : Below w.heap.size w V) => hW.below hb)
  have HRR := Lib.hid (fun (V : World) (hb : Below w.heap.size w V) => hR.below (hb.mono hB))
  have HRX := Lib.hid (fun (V : World) (hb : Below w.heap.size w V) => hx3.below (hb.mono hB))
  have HRH := Lib.hid (fun (V : World) (hb : Below w.heap.size w V) => hRS.below (hb.mono hB))
  have HFR := Lib.hid (fun (V : World) (hb : Below w.heap.size w V) => hF.below hb)
  clear hR hW hx3 hRS hF
  go_enter Tryz.func9, Tryz.ntmps9
  go_upto_region 1 with fail
  generalize ((w.alloc (.cells #[.int .i64 W, .int .i64 H, .slice dA nd dc, .slice tA nt tc, .slice sA ns sc, .slice zA zn zc, .slice cA cn cc, .slice wA wn wc] 29)).alloc (.cells #[.int .i64 at_, .slice xA xL.length xc, .int .i64 lo, .int .i64 hi] 44)).alloc (.cells #[.slice hA hn hc, .int .i64 c, .int .i64 t] 47) = X at HB0 K0 X0 Y0 ⊢
  simp only [Nat.add_assoc, Nat.reduceAdd] at Y0 ⊢
  have HFX := Lib.hid (HVA.out X HB0.out)
  have k0 := K0.out.cell 0
  have k1 := K0.out.cell 1
  have k2 := K0.out.cell 2
  have k3 := K0.out.cell 3
  have k4 := K0.out.cell 4
  have k5 := K0.out.cell 5
  have k6 := K0.out.cell 6
  have k7 := K0.out.cell 7
  have x0 := X0.out.cell 0
  have x1 := X0.out.cell 1
  have x2 := X0.out.cell 2
  have x3 := X0.out.cell 3
  have y0 := Y0.out.cell 0
  have y1 := Y0.out.cell 1
  have y2 := Y0.out.cell 2
  go_wp2_with fail
  refine HFX.out.mono ?_
  rintro e w1 ⟨⟨q, rfl, hq⟩, hb⟩
  have HB1 := Lib.hid (HB0.out.trans (hb.mono HB0.out.size))
  have K1 := Lib.hid (K0.out.below' hb)
  have X1 := Lib.hid (X0.out.below' hb)
  have Y1 := Lib.hid (Y0.out.below' hb)
  have HQ := Lib.hid hq
  clear hq HFX HVA
  clear k0 k1 k2 k3 k4 k5 k6 k7 x0 x1 x2 x3 y0 y1 y2
  clear hb
  cases q
  · clear K1 X1 Y1
    have HWX := Lib.hid (HWK.out w1 HB1.out)
    go_wp2_with fail
    refine HWX.out.mono ?_
    rintro e wz ⟨rfl, hb⟩
    have HBZ := Lib.hid (HB1.out.trans (hb.mono HB1.out.size))
    clear hb
    go_wp2_with fail
    go_ret
    exact ⟨rfl, HBZ.out⟩
  obtain ⟨hok, hxo, hso, hfar, hfars, h6⟩ := HQ.out rfl
  have HCB := HCA.out
  simp only [hok, hxo, hso, show begE true true true = 0 from rfl, if_true] at HCB
  obtain ⟨d, hd, rfl, rfl, rfl, rfl, rfl, rfl, rfl, rfl, rfl, rfl, rfl, rfl, rfl, rfl, hcl⟩ := M.chkD_form hok
  have h60 := hd.s.t2
  have h1n := hd.s.t1
  have hnd2 := hd.s.nd1
  obtain ⟨⟨ha1, ha2⟩, hxl, ⟨hx1, hx2⟩, hl1, hl2, hl3⟩ := chkX_bd hxo
  obtain ⟨ta, rfl⟩ : ∃ n : Nat, at_ = (n : Int) := ⟨at_.toNat, by omega⟩
  obtain ⟨qa, hqa⟩ : ∃ q, askB d.s.nd d.s.nt (ta : Int) c t = q := ⟨_, rfl⟩
  simp only [hqa] at HCB
  have HVL := Lib.hid (And.intro hd (And.intro hcl (And.intro hxo hso)))
  clear hok hxo hso hfar hfars HQ hxl hx1 hx2 HCA hd hcl
  cases qa
  · simp only [Bool.false_eq_true, if_false] at HCB
    have HCC := Lib.hid HCB
    have HSX := Lib.hid (show Calls Tryz.prog 29 #[.agg #[.int .i64 (d.s.W : Int), .int .i64 (d.s.H : Int), .slice dA d.s.nd dc, .slice tA d.s.nt tc, .slice sA d.s.nt sc, .slice zA d.s.nd zc, .slice cA d.nz cc, .slice wA (d.s.nt - 1) wc], .agg #[.int .i64 (ta : Int), .slice xA xL.length xc, .int .i64 lo, .int .i64 hi], .slice hA hn hc, .int .i64 c, .int .i64 t] w1 fun e w' => Below w1.heap.size w1 w' ∧ e = .returned (.tuple #[.int .i64 0, .slice none 0 0, .int .i64 1]) from (fun (V : World) (hb : Below w.heap.size w V) => history_bad (dc := dc) (tc := tc) (sc := sc) (zc := zc) (cc := cc) (wc := wc) (xc := xc) (hc := hc) (HVL.out.1) (HVL.out.2.1) (HRR.out _ hb) (Nat.le_trans hB hb.size) (HWY.out _ hb) (HRX.out _ hb) hx4 (HRH.out _ hb) hhn c t HVL.out.2.2.1 HVL.out.2.2.2 hqa) w1 HB1.out)
    clear hqa HCB
    have k0 := K1.out.cell 0
    have k1 := K1.out.cell 1
    have k2 := K1.out.cell 2
    have k3 := K1.out.cell 3
    have k4 := K1.out.cell 4
    have k5 := K1.out.cell 5
    have k6 := K1.out.cell 6
    have k7 := K1.out.cell 7
    have x0 := X1.out.cell 0
    have x1 := X1.out.cell 1
    have x2 := X1.out.cell 2
    have x3 := X1.out.cell 3
    have y0 := Y1.out.cell 0
    have y1 := Y1.out.cell 1
    have y2 := Y1.out.cell 2
    go_wp2_with fail
    refine HSX.out.mono ?_
    rintro e w3 ⟨hb, rfl⟩
    have HB3 := Lib.hid (HB1.out.trans (hb.mono HB1.out.size))
    have K3 := Lib.hid (K1.out.below' hb)
    have X3 := Lib.hid (X1.out.below' hb)
    have Y3 := Lib.hid (Y1.out.below' hb)
    clear HSX
    clear k0 k1 k2 k3 k4 k5 k6 k7 x0 x1 x2 x3 y0 y1 y2
    clear hb
    have k0 := K3.out.cell 0
    have k1 := K3.out.cell 1
    have k2 := K3.out.cell 2
    have k3 := K3.out.cell 3
    have k4 := K3.out.cell 4
    have k5 := K3.out.cell 5
    have k6 := K3.out.cell 6
    have k7 := K3.out.cell 7
    have x0 := X3.out.cell 0
    have x1 := X3.out.cell 1
    have x2 := X3.out.cell 2
    have x3 := X3.out.cell 3
    have y0 := Y3.out.cell 0
    have y1 := Y3.out.cell 1
    have y2 := Y3.out.cell 2
    have HCY := Lib.hid (HCC.out w3 HB3.out)
    go_wp2_with fail
    refine HCY.out.mono ?_
    rintro e w4 ⟨rfl, hb⟩
    have HB4 := Lib.hid (HB3.out.trans (hb.mono HB3.out.size))
    have K4 := Lib.hid (K3.out.below' hb)
    have X4 := Lib.hid (X3.out.below' hb)
    have Y4 := Lib.hid (Y3.out.below' hb)
    clear HCY HCC
    clear k0 k1 k2 k3 k4 k5 k6 k7 x0 x1 x2 x3 y0 y1 y2
    clear hb
    have HWX := Lib.hid (HWK.out w4 HB4.out)
    go_wp2_with fail
    refine HWX.out.mono ?_
    rintro e wz ⟨rfl, hb⟩
    have HBZ := Lib.hid (HB4.out.trans (hb.mono HB4.out.size))
    clear hb
    go_wp2_with fail
    go_ret
    exact ⟨rfl, HBZ.out⟩
  simp only [if_true] at HCB
  have HCC := Lib.hid HCB
  clear HCB
  have HHI := Lib.hid (fun (V : World) (hb : Below w.heap.size w V) => history_ok (dc := dc) (tc := tc) (sc := sc) (zc := zc) (cc := cc) (wc := wc) (xc := xc) (hc := hc) (HVL.out.1) (HVL.out.2.1) (HRR.out _ hb) (Nat.le_trans hB hb.size) (HWY.out _ hb) (HRX.out _ hb) hx4 (HRH.out _ hb) hhn c t HVL.out.2.2.1 HVL.out.2.2.2 hqa)
  have HPC := Lib.hid (fun (V : World) (hb : Below w.heap.size w V) => plcs_rows (dc := dc) (tc := tc) (sc := sc) (zc := zc) (cc := cc) (wc := wc) (xc := xc) (hc := hc) (HVL.out.1) (HVL.out.2.1) (HRR.out _ hb) (Nat.le_trans hB hb.size) (HWY.out _ hb) (HRX.out _ hb) hx4 (HRH.out _ hb) hhn (HFR.out _ hb) HVL.out.2.2.1 HVL.out.2.2.2)
  have hask : (c = -1 ∨ (0 ≤ c ∧ c ≤ (d.s.nd : Int) - 1)) ∧ ((ta : Int) ≤ t ∧ t ≤ (d.s.nt : Int) - 1) := by
    unfold askB at hqa
    simpa only [Bool.and_eq_true, Bool.or_eq_true, decide_eq_true_eq, M.inB_iff] using hqa
  obtain ⟨j, hj⟩ : ∃ j : Nat, t = (ta : Int) + j := ⟨(t - ta).toNat, by omega⟩
  have HSA := Lib.hid (strP_at (lo := lo) (hi := hi) (xL := xL) (hn := hn) (Xs := Xs) (show j < d.s.nt - ta by omega) hj (show -1 ≤ c ∧ c < d.s.nd by omega))
  have HFE := Lib.hid (strP_free (d := d) (ta := ta) (lo := lo) (hi := hi) (xL := xL) (hn := hn) (Xs := Xs) (c := c) (t := t))
  have HPQ := Lib.hid (fun (V : World) (hb : Below w.heap.size w V) (pA : Option Addr) (L : List Int) (pc : Nat) (l : Int) (hL : (L.length = d.s.nt - ta ∧ (lo ≤ l ∧ l ≤ hi) ∧ M.Hist d ta l (fun c => xL.contains c) (trFit Xs hn ta t c) (d.s.nt - ta - 1) (fun i => L.getD i 0)) ∧ Rd1 V V.heap.size pA L.length (fun i => L.getD i 0)) => (show Calls Tryz.prog 33 #[.agg #[.int .i64 (d.s.W : Int), .int .i64 (d.s.H : Int), .slice dA d.s.nd dc, .slice tA d.s.nt tc, .slice sA d.s.nt sc, .slice zA d.s.nd zc, .slice cA d.nz cc, .slice wA (d.s.nt - 1) wc], .agg #[.int .i64 (ta : Int), .slice xA xL.length xc, .int .i64 lo, .int .i64 hi], .agg #[.slice hA hn hc, .int .i64 l, .slice pA L.length pc]] V fun e w' => e = .returned (.bool true) ∧ Below V.heap.size V w' from by
    have h := possible_past (dc := dc) (tc := tc) (sc := sc) (zc := zc) (cc := cc) (wc := wc) (xc := xc) (hc := hc) (pc := pc) (lw := l) (lo := lo) (hi := hi) HVL.out.1 HVL.out.2.1 ((HRR.out _ hb).more (Nat.le_trans hB hb.size)) (Nat.le_refl _) ((HRX.out _ hb).more (Nat.le_trans hB hb.size)) hx4 ((HRH.out _ hb).more (Nat.le_trans hB hb.size)) hhn ta (by omega) hl1 hl3 hL.2 (by unfold maxLen; omega)
    rw [his_of (by omega) hL.1.2.1 hL.1.1 hL.1.2.2] at h
    exact h))
  have HFA := Lib.hid (fun (l : Int) (f : Nat → Int) (h : M.Hist d ta l (fun c => xL.contains c) (trFit Xs hn ta t c) (d.s.nt - ta - 1) f) => fit_at (h.fit j (by omega)) hj)
  obtain ⟨m, hm⟩ : ∃ m, m = d.s.nt - ta := ⟨_, rfl⟩
  have HM1 := Lib.hid (show ta + m = d.s.nt by omega)
  have hnm : (d.s.nt : Int) - (ta : Int) = (m : Int) := by omega
  have hjt : t - (ta : Int) = (j : Int) := by omega
  have hjm : j < m := by omega
  have hwm : IntKind.i64.wrap (m : Int) = (m : Int) := by rw [IntKind.wrap_i64]; omega
  have hwj : IntKind.i64.wrap (j : Int) = (j : Int) := by rw [IntKind.wrap_i64]; omega
  obtain ⟨pl, hpl⟩ : ∃ f, f = plcL d ta m hn xL Xs lo hi := ⟨_, rfl⟩
  have HPN := Lib.hid (show ∀ k, (pl k).length ≤ maxLen from fun k => by rw [hpl]; have := M.listB_len d.s.nd (plcB d ta m hn xL Xs lo hi k); show (M.listB _ _).length ≤ _; unfold maxLen; omega)
  rw [← hm, ← hpl] at HPC HSA
  rw [← hm] at HPQ HFA
  clear hpl hqa hask hj
  have k0 := K1.out.cell 0
  have k1 := K1.out.cell 1
  have k2 := K1.out.cell 2
  have k3 := K1.out.cell 3
  have k4 := K1.out.cell 4
  have k5 := K1.out.cell 5
  have k6 := K1.out.cell 6
  have k7 := K1.out.cell 7
  have x0 := X1.out.cell 0
  have x1 := X1.out.cell 1
  have x2 := X1.out.cell 2
  have x3 := X1.out.cell 3
  have y0 := Y1.out.cell 0
  have y1 := Y1.out.cell 1
  have y2 := Y1.out.cell 2
  cases hqs : strP d (ta : Int) lo hi xL hn Xs c t
  · have HIN := Lib.hid (show ¬ c ∈ pl j from fun h => by have := HSA.out.2 h; rw [hqs] at this; cases this)
    have HSX := Lib.hid (show Calls Tryz.prog 29 #[.agg #[.int .i64 (d.s.W : Int), .int .i64 (d.s.H : Int), .slice dA d.s.nd dc, .slice tA d.s.nt tc, .slice sA d.s.nt sc, .slice zA d.s.nd zc, .slice cA d.nz cc, .slice wA (d.s.nt - 1) wc], .agg #[.int .i64 (ta : Int), .slice xA xL.length xc, .int .i64 lo, .int .i64 hi], .slice hA hn hc, .int .i64 c, .int .i64 t] w1 fun e w' => e = .returned (.tuple #[.int .i64 0, .slice none 0 0, .int .i64 3]) ∧ Below w1.heap.size w1 w' from (HHI.out w1 HB1.out).mono fun e w' h => by
      obtain ⟨hb, h⟩ := h
      rcases h with ⟨_, h1⟩ | ⟨h1, _⟩
      · exact ⟨h1, hb⟩
      · rw [hqs] at h1; cases h1)
    clear HHI hqs HSA HFE HPQ HFA hm
    go_wp2_with fail
    refine HSX.out.mono ?_
    rintro e w3 ⟨rfl, hb⟩
    have HB3 := Lib.hid (HB1.out.trans (hb.mono HB1.out.size))
    have K3 := Lib.hid (K1.out.below' hb)
    have X3 := Lib.hid (X1.out.below' hb)
    have Y3 := Lib.hid (Y1.out.below' hb)
    clear HSX
    clear k0 k1 k2 k3 k4 k5 k6 k7 x0 x1 x2 x3 y0 y1 y2
    clear hb
    have k0 := K3.out.cell 0
    have k1 := K3.out.cell 1
    have k2 := K3.out.cell 2
    have k3 := K3.out.cell 3
    have k4 := K3.out.cell 4
    have k5 := K3.out.cell 5
    have k6 := K3.out.cell 6
    have k7 := K3.out.cell 7
    have x0 := X3.out.cell 0
    have x1 := X3.out.cell 1
    have x2 := X3.out.cell 2
    have x3 := X3.out.cell 3
    have y0 := Y3.out.cell 0
    have y1 := Y3.out.cell 1
    have y2 := Y3.out.cell 2
    have HCY := Lib.hid (HCC.out w3 HB3.out)
    go_wp2_with fail
    refine HCY.out.mono ?_
    rintro e w4 ⟨rfl, hb⟩
    have HB4 := Lib.hid (HB3.out.trans (hb.mono HB3.out.size))
    have K4 := Lib.hid (K3.out.below' hb)
    have X4 := Lib.hid (X3.out.below' hb)
    have Y4 := Lib.hid (Y3.out.below' hb)
    clear HCY HCC
    clear k0 k1 k2 k3 k4 k5 k6 k7 x0 x1 x2 x3 y0 y1 y2
    clear hb
    have k0 := K4.out.cell 0
    have k1 := K4.out.cell 1
    have k2 := K4.out.cell 2
    have k3 := K4.out.cell 3
    have k4 := K4.out.cell 4
    have k5 := K4.out.cell 5
    have k6 := K4.out.cell 6
    have k7 := K4.out.cell 7
    have x0 := X4.out.cell 0
    have x1 := X4.out.cell 1
    have x2 := X4.out.cell 2
    have x3 := X4.out.cell 3
    have y0 := Y4.out.cell 0
    have y1 := Y4.out.cell 1
    have y2 := Y4.out.cell 2
    have HPX := Lib.hid (HPC.out w4 HB4.out)
    go_wp2_with fail
    refine HPX.out.mono ?_
    rintro e w5 ⟨hb, hcs⟩
    have HB5 := Lib.hid (HB4.out.trans (hb.mono HB4.out.size))
    have K5 := Lib.hid (K4.out.below' hb)
    have X5 := Lib.hid (X4.out.below' hb)
    have Y5 := Lib.hid (Y4.out.below' hb)
    clear k0 k1 k2 k3 k4 k5 k6 k7 x0 x1 x2 x3 y0 y1 y2
    clear hb HPX HPC K4 X4 Y4 HB4
    rcases hcs with ⟨_, rfl⟩ | ⟨_, ow, U, rfl, hrw⟩
    · clear K5 X5 Y5
      have HWX := Lib.hid (HWK.out w5 HB5.out)
      go_wp2_with fail
      refine HWX.out.mono ?_
      rintro e wz ⟨rfl, hb⟩
      have HBZ := Lib.hid (HB5.out.trans (hb.mono HB5.out.size))
      clear hb
      go_wp2_with fail
      go_ret
      exact ⟨rfl, HBZ.out⟩
    · have HRW5 := Lib.hid hrw
      clear hrw
      obtain ⟨yA, yc, hy, hyr⟩ := HRW5.out.r j hjm
      have HC0 := Lib.hid (show w5.cell? ⟨ow, j, none⟩ = some (.slice yA (pl j).length yc) from by rw [← hy]; exact HRW5.out.c j hjm)
      have HYD := Lib.hid (show Rd1 w5.drew w5.heap.size yA (pl j).length (fun i => (pl j).getD i 0) from hyr)
      clear hy hyr
      go_wp2_with fail
      refine wp_nopanic ?_
      refine wp_region_T 25 (fun w' => Below w5.heap.size w5 w') (by kernel_rfl) (Below.refl _ _).drew ?_
      intro hS
      refine wpAnyT_take (i := 0) (v := ?_) rfl (by kernel_rfl) (by kernel_rfl) (by kernel_rfl) (by kernel_rfl) (by kernel_rfl) (fun _ _ _ h => absurd rfl (h.1 _)) (.inl ⟨by kernel_rfl, ?_⟩) hS ?_
      rotate_left
      · (intro w' hw; have k3 := (K5.out.below' hw).cell 3; have x0 := (X5.out.below' hw).cell 0; have y1 := (Y5.out.below' hw).cell 1; have y2 := (Y5.out.below' hw).cell 2; have c0 := (hw.cell (p := ⟨ow, j, none⟩) HRW5.out.lt).trans HC0.out; go_simp; try with_reducible rfl)
      try simp only [put_laws]
      refine wpAnyT_take (i := 1) (v := ?_) rfl (by kernel_rfl) (by kernel_rfl) (by kernel_rfl) (by kernel_rfl) (by kernel_rfl) (fun _ _ _ h => absurd rfl (h.1 _)) (.inl ⟨by kernel_rfl, ?_⟩) hS ?_
      rotate_left
      · (intro w' hw; have k3 := (K5.out.below' hw).cell 3; have x0 := (X5.out.below' hw).cell 0; have y1 := (Y5.out.below' hw).cell 1; have y2 := (Y5.out.below' hw).cell 2; have c0 := (hw.cell (p := ⟨ow, j, none⟩) HRW5.out.lt).trans HC0.out; go_simp; try with_reducible rfl)
      try simp only [put_laws]
      refine wpAnyT_take (i := 2) (v := ?_) rfl (by kernel_rfl) (by kernel_rfl) (by kernel_rfl) (by kernel_rfl) (by kernel_rfl) (fun _ _ _ h => absurd rfl (h.1 _)) (.inl ⟨by kernel_rfl, ?_⟩) hS ?_
      rotate_left
      · (intro w' hw; have k3 := (K5.out.below' hw).cell 3; have x0 := (X5.out.below' hw).cell 0; have y1 := (Y5.out.below' hw).cell 1; have y2 := (Y5.out.below' hw).cell 2; have c0 := (hw.cell (p := ⟨ow, j, none⟩) HRW5.out.lt).trans HC0.out; go_simp; try with_reducible rfl)
      try simp only [put_laws]
      refine wpAnyT_take (i := 3) (v := ?_) rfl (by kernel_rfl) (by kernel_rfl) (by kernel_rfl) (by kernel_rfl) (by kernel_rfl) (fun _ _ _ h => absurd rfl (h.1 _)) (.inl ⟨by kernel_rfl, ?_⟩) hS ?_
      rotate_left
      · (intro w' hw; have k3 := (K5.out.below' hw).cell 3; have x0 := (X5.out.below' hw).cell 0; have y1 := (Y5.out.below' hw).cell 1; have y2 := (Y5.out.below' hw).cell 2; have c0 := (hw.cell (p := ⟨ow, j, none⟩) HRW5.out.lt).trans HC0.out; go_simp; try with_reducible rfl)
      try simp only [put_laws]
      refine wpAnyT_take (i := 4) (v := ?_) rfl (by kernel_rfl) (by kernel_rfl) (by kernel_rfl) (by kernel_rfl) (by kernel_rfl) (fun _ _ _ h => absurd rfl (h.1 _)) (.inl ⟨by kernel_rfl, ?_⟩) hS ?_
      rotate_left
      · (intro w' hw; have k3 := (K5.out.below' hw).cell 3; have x0 := (X5.out.below' hw).cell 0; have y1 := (Y5.out.below' hw).cell 1; have y2 := (Y5.out.below' hw).cell 2; have c0 := (hw.cell (p := ⟨ow, j, none⟩) HRW5.out.lt).trans HC0.out; go_simp; try with_reducible rfl)
      try simp only [put_laws]
      refine wpAnyT_take (i := 5) (v := ?_) rfl (by kernel_rfl) (by kernel_rfl) (by kernel_rfl) (by kernel_rfl) (by kernel_rfl) (fun _ _ _ h => absurd rfl (h.1 _)) (.inl ⟨by kernel_rfl, ?_⟩) hS ?_
      rotate_left
      · (intro w' hw; have k3 := (K5.out.below' hw).cell 3; have x0 := (X5.out.below' hw).cell 0; have y1 := (Y5.out.below' hw).cell 1; have y2 := (Y5.out.below' hw).cell 2; have c0 := (hw.cell (p := ⟨ow, j, none⟩) HRW5.out.lt).trans HC0.out; go_simp; try with_reducible rfl)
      try simp only [put_laws]
      refine wpAnyT_take (i := 6) (v := ?_) rfl (by kernel_rfl) (by kernel_rfl) (by kernel_rfl) (by kernel_rfl) (by kernel_rfl) (fun _ _ _ h => absurd rfl (h.1 _)) (.inl ⟨by kernel_rfl, ?_⟩) hS ?_
      rotate_left
      · (intro w' hw; have k3 := (K5.out.below' hw).cell 3; have x0 := (X5.out.below' hw).cell 0; have y1 := (Y5.out.below' hw).cell 1; have y2 := (Y5.out.below' hw).cell 2; have c0 := (hw.cell (p := ⟨ow, j, none⟩) HRW5.out.lt).trans HC0.out; go_simp; try with_reducible rfl)
      try simp only [put_laws]
      refine wpAnyT_take (i := 7) (v := ?_) rfl (by kernel_rfl) (by kernel_rfl) (by kernel_rfl) (by kernel_rfl) (by kernel_rfl) (fun _ _ _ h => absurd rfl (h.1 _)) (.inl ⟨by kernel_rfl, ?_⟩) hS ?_
      rotate_left
      · (intro w' hw; have k3 := (K5.out.below' hw).cell 3; have x0 := (X5.out.below' hw).cell 0; have y1 := (Y5.out.below' hw).cell 1; have y2 := (Y5.out.below' hw).cell 2; have c0 := (hw.cell (p := ⟨ow, j, none⟩) HRW5.out.lt).trans HC0.out; go_simp; try with_reducible rfl)
      try simp only [put_laws]
      refine wpAnyT_take (i := 8) (v := ?_) rfl (by kernel_rfl) (by kernel_rfl) (by kernel_rfl) (by kernel_rfl) (by kernel_rfl) (fun _ _ _ h => absurd rfl (h.1 _)) (.inl ⟨by kernel_rfl, ?_⟩) hS ?_
      rotate_left
      · (intro w' hw; have k3 := (K5.out.below' hw).cell 3; have x0 := (X5.out.below' hw).cell 0; have y1 := (Y5.out.below' hw).cell 1; have y2 := (Y5.out.below' hw).cell 2; have c0 := (hw.cell (p := ⟨ow, j, none⟩) HRW5.out.lt).trans HC0.out; go_simp; try with_reducible rfl)
      try simp only [put_laws]
      refine wpAnyT_take (i := 9) (v := ?_) rfl (by kernel_rfl) (by kernel_rfl) (by kernel_rfl) (by kernel_rfl) (by kernel_rfl) (fun _ _ _ h => absurd rfl (h.1 _)) (.inl ⟨by kernel_rfl, ?_⟩) hS ?_
      rotate_left
      · (intro w' hw; have k3 := (K5.out.below' hw).cell 3; have x0 := (X5.out.below' hw).cell 0; have y1 := (Y5.out.below' hw).cell 1; have y2 := (Y5.out.below' hw).cell 2; have c0 := (hw.cell (p := ⟨ow, j, none⟩) HRW5.out.lt).trans HC0.out; go_simp; try with_reducible rfl)
      try simp only [put_laws]
      refine wpAnyT_take (i := 10) (v := ?_) rfl (by kernel_rfl) (by kernel_rfl) (by kernel_rfl) (by kernel_rfl) (by kernel_rfl) (fun _ _ _ h => absurd rfl (h.1 _)) (.inl ⟨by kernel_rfl, ?_⟩) hS ?_
      rotate_left
      · (intro w' hw; have k3 := (K5.out.below' hw).cell 3; have x0 := (X5.out.below' hw).cell 0; have y1 := (Y5.out.below' hw).cell 1; have y2 := (Y5.out.below' hw).cell 2; have c0 := (hw.cell (p := ⟨ow, j, none⟩) HRW5.out.lt).trans HC0.out; go_simp; try with_reducible rfl)
      try simp only [put_laws]
      refine wpAnyT_take (i := 11) (v := ?_) rfl (by kernel_rfl) (by kernel_rfl) (by kernel_rfl) (by kernel_rfl) (by kernel_rfl) (fun _ _ _ h => absurd rfl (h.1 _)) (.inl ⟨by kernel_rfl, ?_⟩) hS ?_
      rotate_left
      · (intro w' hw; have k3 := (K5.out.below' hw).cell 3; have x0 := (X5.out.below' hw).cell 0; have y1 := (Y5.out.below' hw).cell 1; have y2 := (Y5.out.below' hw).cell 2; have c0 := (hw.cell (p := ⟨ow, j, none⟩) HRW5.out.lt).trans HC0.out; go_simp; try with_reducible rfl)
      try simp only [put_laws]
      refine wpAnyT_take (i := 12) (v := ?_) rfl (by kernel_rfl) (by kernel_rfl) (by kernel_rfl) (by kernel_rfl) (by kernel_rfl) (fun _ _ _ h => absurd rfl (h.1 _)) (.inl ⟨by kernel_rfl, ?_⟩) hS ?_
      rotate_left
      · (intro w' hw; have k3 := (K5.out.below' hw).cell 3; have x0 := (X5.out.below' hw).cell 0; have y1 := (Y5.out.below' hw).cell 1; have y2 := (Y5.out.below' hw).cell 2; have c0 := (hw.cell (p := ⟨ow, j, none⟩) HRW5.out.lt).trans HC0.out; go_simp; try with_reducible rfl)
      try simp only [put_laws]
      refine wpAnyT_take (i := 13) (v := ?_) rfl (by kernel_rfl) (by kernel_rfl) (by kernel_rfl) (by kernel_rfl) (by kernel_rfl) (fun _ _ _ h => absurd rfl (h.1 _)) (.inl ⟨by kernel_rfl, ?_⟩) hS ?_
      rotate_left
      · (intro w' hw; have k3 := (K5.out.below' hw).cell 3; have x0 := (X5.out.below' hw).cell 0; have y1 := (Y5.out.below' hw).cell 1; have y2 := (Y5.out.below' hw).cell 2; have c0 := (hw.cell (p := ⟨ow, j, none⟩) HRW5.out.lt).trans HC0.out; go_simp; try with_reducible rfl)
      try simp only [put_laws]
      refine wpAnyT_take (i := 14) (v := ?_) rfl (by kernel_rfl) (by kernel_rfl) (by kernel_rfl) (by kernel_rfl) (by kernel_rfl) (fun _ _ _ h => absurd rfl (h.1 _)) (.inl ⟨by kernel_rfl, ?_⟩) hS ?_
      rotate_left
      · (intro w' hw; have k3 := (K5.out.below' hw).cell 3; have x0 := (X5.out.below' hw).cell 0; have y1 := (Y5.out.below' hw).cell 1; have y2 := (Y5.out.below' hw).cell 2; have c0 := (hw.cell (p := ⟨ow, j, none⟩) HRW5.out.lt).trans HC0.out; go_simp; try with_reducible rfl)
      try simp only [put_laws]
      refine wpAnyT_take (i := 15) (v := ?_) rfl (by kernel_rfl) (by kernel_rfl) (by kernel_rfl) (by kernel_rfl) (by kernel_rfl) (fun _ _ _ h => absurd rfl (h.1 _)) (.inl ⟨by kernel_rfl, ?_⟩) hS ?_
      rotate_left
      · (intro w' hw; have k3 := (K5.out.below' hw).cell 3; have x0 := (X5.out.below' hw).cell 0; have y1 := (Y5.out.below' hw).cell 1; have y2 := (Y5.out.below' hw).cell 2; have c0 := (hw.cell (p := ⟨ow, j, none⟩) HRW5.out.lt).trans HC0.out; go_simp; try with_reducible rfl)
      try simp only [put_laws]
      refine wpAnyT_take (i := 16) (v := ?_) rfl (by kernel_rfl) (by kernel_rfl) (by kernel_rfl) (by kernel_rfl) (by kernel_rfl) (fun _ _ _ h => absurd rfl (h.1 _)) (.inl ⟨by kernel_rfl, ?_⟩) hS ?_
      rotate_left
      · (intro w' hw; have k3 := (K5.out.below' hw).cell 3; have x0 := (X5.out.below' hw).cell 0; have y1 := (Y5.out.below' hw).cell 1; have y2 := (Y5.out.below' hw).cell 2; have c0 := (hw.cell (p := ⟨ow, j, none⟩) HRW5.out.lt).trans HC0.out; go_simp; try with_reducible rfl)
      try simp only [put_laws]
      refine wpAnyT_take (i := 17) (v := ?_) rfl (by kernel_rfl) (by kernel_rfl) (by kernel_rfl) (by kernel_rfl) (by kernel_rfl) (fun _ _ _ h => absurd rfl (h.1 _)) (.inl ⟨by kernel_rfl, ?_⟩) hS ?_
      rotate_left
      · (intro w' hw; have k3 := (K5.out.below' hw).cell 3; have x0 := (X5.out.below' hw).cell 0; have y1 := (Y5.out.below' hw).cell 1; have y2 := (Y5.out.below' hw).cell 2; have c0 := (hw.cell (p := ⟨ow, j, none⟩) HRW5.out.lt).trans HC0.out; go_simp; try with_reducible rfl)
      try simp only [put_laws]
      refine wpAnyT_take (i := 18) (v := ?_) rfl (by kernel_rfl) (by kernel_rfl) (by kernel_rfl) (by kernel_rfl) (by kernel_rfl) (fun _ _ _ h => absurd rfl (h.1 _)) (.inl ⟨by kernel_rfl, ?_⟩) hS ?_
      rotate_left
      · (intro w' hw; have k3 := (K5.out.below' hw).cell 3; have x0 := (X5.out.below' hw).cell 0; have y1 := (Y5.out.below' hw).cell 1; have y2 := (Y5.out.below' hw).cell 2; have c0 := (hw.cell (p := ⟨ow, j, none⟩) HRW5.out.lt).trans HC0.out; go_simp; try with_reducible rfl)
      try simp only [put_laws]
      refine wpAnyT_take (i := 19) (v := ?_) rfl (by kernel_rfl) (by kernel_rfl) (by kernel_rfl) (by kernel_rfl) (by kernel_rfl) (fun _ _ _ h => absurd rfl (h.1 _)) (.inl ⟨by kernel_rfl, ?_⟩) hS ?_
      rotate_left
      · (intro w' hw; have k3 := (K5.out.below' hw).cell 3; have x0 := (X5.out.below' hw).cell 0; have y1 := (Y5.out.below' hw).cell 1; have y2 := (Y5.out.below' hw).cell 2; have c0 := (hw.cell (p := ⟨ow, j, none⟩) HRW5.out.lt).trans HC0.out; go_simp; try with_reducible rfl)
      try simp only [put_laws]
      refine wpAnyT_take (i := 20) (v := ?_) rfl (by kernel_rfl) (by kernel_rfl) (by kernel_rfl) (by kernel_rfl) (by kernel_rfl) (fun _ _ _ h => absurd rfl (h.1 _)) (.inl ⟨by kernel_rfl, ?_⟩) hS ?_
      rotate_left
      · (intro w' hw; have k3 := (K5.out.below' hw).cell 3; have x0 := (X5.out.below' hw).cell 0; have y1 := (Y5.out.below' hw).cell 1; have y2 := (Y5.out.below' hw).cell 2; have c0 := (hw.cell (p := ⟨ow, j, none⟩) HRW5.out.lt).trans HC0.out; go_simp; try with_reducible rfl)
      try simp only [put_laws]
      refine wpAnyT_take (i := 22) (v := ?_) rfl (by kernel_rfl) (by kernel_rfl) (by kernel_rfl) (by kernel_rfl) (by kernel_rfl) (fun _ _ _ h => absurd rfl (h.1 _)) (.inl ⟨by kernel_rfl, ?_⟩) hS ?_
      rotate_left
      · (intro w' hw; have k3 := (K5.out.below' hw).cell 3; have x0 := (X5.out.below' hw).cell 0; have y1 := (Y5.out.below' hw).cell 1; have y2 := (Y5.out.below' hw).cell 2; have c0 := (hw.cell (p := ⟨ow, j, none⟩) HRW5.out.lt).trans HC0.out; go_simp; try with_reducible rfl)
      try simp only [put_laws]
      refine wpAnyT_take (i := 23) (v := ?_) rfl (by kernel_rfl) (by kernel_rfl) (by kernel_rfl) (by kernel_rfl) (by kernel_rfl) (fun _ _ _ h => absurd rfl (h.1 _)) (.inl ⟨by kernel_rfl, ?_⟩) hS ?_
      rotate_left
      · (intro w' hw; have k3 := (K5.out.below' hw).cell 3; have x0 := (X5.out.below' hw).cell 0; have y1 := (Y5.out.below' hw).cell 1; have y2 := (Y5.out.below' hw).cell 2; have c0 := (hw.cell (p := ⟨ow, j, none⟩) HRW5.out.lt).trans HC0.out; go_simp; try with_reducible rfl)
      try simp only [put_laws]
      refine wpAnyT_one (i := 21) (by kernel_rfl) rfl ?_
      intro K' hK'
      go_simp
      refine (rin_list yA (pl j).length yc w5.heap.size (fun i => (pl j).getD i 0) c w5.drew (HPN.out j) HYD.out).mono ?_
      rintro e w6 ⟨rfl, hb⟩
      rw [anyTo_mem, decide_eq_false HIN.out]
      have HB6 := Lib.hid hb
      clear hb
      have hS := Below.trans hS (HB6.out.mono hS.size)
      refine hK'.out _ _ (.inr hS) ?_
      clear hK' K'
      try simp only [put_laws]
      refine wpAnyT_take (i := 24) (v := ?_) rfl (by kernel_rfl) (by kernel_rfl) (by kernel_rfl) (by kernel_rfl) (by kernel_rfl) (fun _ _ _ h => absurd rfl (h.1 _)) (.inl ⟨by kernel_rfl, ?_⟩) hS ?_
      rotate_left
      · (intro w' hw; have k3 := (K5.out.below' hw).cell 3; have x0 := (X5.out.below' hw).cell 0; have y1 := (Y5.out.below' hw).cell 1; have y2 := (Y5.out.below' hw).cell 2; have c0 := (hw.cell (p := ⟨ow, j, none⟩) HRW5.out.lt).trans HC0.out; go_simp; try with_reducible rfl)
      try simp only [put_laws]
      refine wpAnyT_one (i := 25) (by kernel_rfl) rfl ?_
      intro K' hK'
      go_simp
      refine hK'.out _ _ (.inl rfl) ?_
      clear hK' K'
      try simp only [put_laws]
      refine wpAnyT_done (by kernel_rfl) ?_ _
      refine ⟨fun x e => (by cases e), ?_⟩
      have HD6 := Lib.hid hS
      have HB6' := Lib.hid (HB5.out.trans (HD6.out.mono HB5.out.size))
      have K6 := Lib.hid (K5.out.below' HD6.out)
      have X6 := Lib.hid (X5.out.below' HD6.out)
      have Y6 := Lib.hid (Y5.out.below' HD6.out)
      clear hS HYD HC0 HIN HB6
      clear K6 X6 Y6
      have HB6 := Lib.hid HB6'.out
      have HWX := Lib.hid (HWK.out w6 HB6.out)
      go_wp2_with fail
      refine HWX.out.mono ?_
      rintro e wz ⟨rfl, hb⟩
      have HBZ := Lib.hid (HB6.out.trans (hb.mono HB6.out.size))
      clear hb
      go_wp2_with fail
      go_ret
      exact ⟨rfl, HBZ.out⟩
  · have HIN := Lib.hid (show c ∈ pl j from HSA.out.1 hqs)
    have hqp := HFE.out hqs
    have HSX := Lib.hid (show Calls Tryz.prog 29 #[.agg #[.int .i64 (d.s.W : Int), .int .i64 (d.s.H : Int), .slice dA d.s.nd dc, .slice tA d.s.nt tc, .slice sA d.s.nt sc, .slice zA d.s.nd zc, .slice cA d.nz cc, .slice wA (d.s.nt - 1) wc], .agg #[.int .i64 (ta : Int), .slice xA xL.length xc, .int .i64 lo, .int .i64 hi], .slice hA hn hc, .int .i64 c, .int .i64 t] w1 fun e w' => (∃ (l : Int) (A : Option Addr) (L : List Int) (cc : Nat), e = .returned (.tuple #[.int .i64 l, .slice A L.length cc, .int .i64 0]) ∧ (L.length = m ∧ (lo ≤ l ∧ l ≤ hi) ∧ M.Hist d ta l (fun c => xL.contains c) (trFit Xs hn ta t c) (m - 1) (fun i => L.getD i 0)) ∧ Rd1 w' w'.heap.size A L.length (fun i => L.getD i 0)) ∧ Below w1.heap.size w1 w' from (HHI.out w1 HB1.out).mono fun e w' h => by
      obtain ⟨hb, h⟩ := h
      rcases h with ⟨h1, _⟩ | ⟨_, l, v, L, h1, h2, h3, h4, h5⟩
      · rw [hqs] at h1; cases h1
      · obtain ⟨A, cc, e⟩ := Own.form h3
        subst e
        rw [Int.toNat_natCast, ← hm] at h4 h5
        exact ⟨⟨l, A, L, cc, h1, ⟨h4, h2, h5⟩, IL.rd h3⟩, hb⟩)
    have HPY := Lib.hid (fun (V : World) (hb0 : Below w.heap.size w V) => (show Calls Tryz.prog 31 #[.agg #[.int .i64 (d.s.W : Int), .int .i64 (d.s.H : Int), .slice dA d.s.nd dc, .slice tA d.s.nt tc, .slice sA d.s.nt sc, .slice zA d.s.nd zc, .slice cA d.nz cc, .slice wA (d.s.nt - 1) wc], .agg #[.int .i64 (ta : Int), .slice xA xL.length xc, .int .i64 lo, .int .i64 hi], .slice hA hn hc] V fun e w' => (∃ ow U, e = .returned (.tuple #[.slice (some ⟨ow, 0, none⟩) m m, .int .i64 0]) ∧ Rws w' ow m U pl) ∧ Below V.heap.size V w' from (HPC.out V hb0).mono fun e w' h => by
      obtain ⟨hb, h⟩ := h
      rcases h with ⟨h1, _⟩ | ⟨_, h1⟩
      · rw [hqp] at h1; cases h1
      · exact ⟨h1, hb⟩))
    clear HHI hqs HSA HFE HPC hqp hm
    go_wp2_with fail
    refine HSX.out.mono ?_
    rintro e w3 ⟨⟨l, pA, L, pc, rfl, hL, hr⟩, hb⟩
    have HB3 := Lib.hid (HB1.out.trans (hb.mono HB1.out.size))
    have K3 := Lib.hid (K1.out.below' hb)
    have X3 := Lib.hid (X1.out.below' hb)
    have Y3 := Lib.hid (Y1.out.below' hb)
    clear HSX
    have HL := Lib.hid hL
    have HL3 := Lib.hid hr
    clear hL hr
    clear k0 k1 k2 k3 k4 k5 k6 k7 x0 x1 x2 x3 y0 y1 y2
    clear hb
    have k0 := K3.out.cell 0
    have k1 := K3.out.cell 1
    have k2 := K3.out.cell 2
    have k3 := K3.out.cell 3
    have k4 := K3.out.cell 4
    have k5 := K3.out.cell 5
    have k6 := K3.out.cell 6
    have k7 := K3.out.cell 7
    have x0 := X3.out.cell 0
    have x1 := X3.out.cell 1
    have x2 := X3.out.cell 2
    have x3 := X3.out.cell 3
    have y0 := Y3.out.cell 0
    have y1 := Y3.out.cell 1
    have y2 := Y3.out.cell 2
    have HCY := Lib.hid (HCC.out w3 HB3.out)
    go_wp2_with fail
    refine HCY.out.mono ?_
    rintro e w4 ⟨rfl, hb⟩
    have HB4 := Lib.hid (HB3.out.trans (hb.mono HB3.out.size))
    have K4 := Lib.hid (K3.out.below' hb)
    have X4 := Lib.hid (X3.out.below' hb)
    have Y4 := Lib.hid (Y3.out.below' hb)
    clear HCY HCC
    have HL4 := Lib.hid ((HL3.out.below hb).more hb.size)
    clear HL3
    clear k0 k1 k2 k3 k4 k5 k6 k7 x0 x1 x2 x3 y0 y1 y2
    clear hb
    have k0 := K4.out.cell 0
    have k1 := K4.out.cell 1
    have k2 := K4.out.cell 2
    have k3 := K4.out.cell 3
    have k4 := K4.out.cell 4
    have k5 := K4.out.cell 5
    have k6 := K4.out.cell 6
    have k7 := K4.out.cell 7
    have x0 := X4.out.cell 0
    have x1 := X4.out.cell 1
    have x2 := X4.out.cell 2
    have x3 := X4.out.cell 3
    have y0 := Y4.out.cell 0
    have y1 := Y4.out.cell 1
    have y2 := Y4.out.cell 2
    have HPX := Lib.hid (HPY.out w4 HB4.out)
    go_wp2_with fail
    refine HPX.out.mono ?_
    rintro e w5 ⟨⟨ow, U, rfl, hrw⟩, hb⟩
    have HB5 := Lib.hid (HB4.out.trans (hb.mono HB4.out.size))
    have K5 := Lib.hid (K4.out.below' hb)
    have X5 := Lib.hid (X4.out.below' hb)
    have Y5 := Lib.hid (Y4.out.below' hb)
    clear HPX HPY
    have HL5 := Lib.hid ((HL4.out.below hb).more hb.size)
    clear HL4
    have HRW5 := Lib.hid hrw
    clear hrw
    clear k0 k1 k2 k3 k4 k5 k6 k7 x0 x1 x2 x3 y0 y1 y2
    clear hb
    · skip
      obtain ⟨yA, yc, hy, hyr⟩ := HRW5.out.r j hjm
      have HC0 := Lib.hid (show w5.cell? ⟨ow, j, none⟩ = some (.slice yA (pl j).length yc) from by rw [← hy]; exact HRW5.out.c j hjm)
      have HYD := Lib.hid (show Rd1 w5.drew w5.heap.size yA (pl j).length (fun i => (pl j).getD i 0) from hyr)
      clear hy hyr
      go_wp2_with fail
      refine wp_nopanic ?_
      refine wp_region_T 25 (fun w' => Below w5.heap.size w5 w') (by kernel_rfl) (Below.refl _ _).drew ?_
      intro hS
      refine wpAnyT_take (i := 0) (v := ?_) rfl (by kernel_rfl) (by kernel_rfl) (by kernel_rfl) (by kernel_rfl) (by kernel_rfl) (fun _ _ _ h => absurd rfl (h.1 _)) (.inl ⟨by kernel_rfl, ?_⟩) hS ?_
      rotate_left
      · (intro w' hw; have k3 := (K5.out.below' hw).cell 3; have x0 := (X5.out.below' hw).cell 0; have y1 := (Y5.out.below' hw).cell 1; have y2 := (Y5.out.below' hw).cell 2; have c0 := (hw.cell (p := ⟨ow, j, none⟩) HRW5.out.lt).trans HC0.out; go_simp; try with_reducible rfl)
      try simp only [put_laws]
      refine wpAnyT_take (i := 1) (v := ?_) rfl (by kernel_rfl) (by kernel_rfl) (by kernel_rfl) (by kernel_rfl) (by kernel_rfl) (fun _ _ _ h => absurd rfl (h.1 _)) (.inl ⟨by kernel_rfl, ?_⟩) hS ?_
      rotate_left
      · (intro w' hw; have k3 := (K5.out.below' hw).cell 3; have x0 := (X5.out.below' hw).cell 0; have y1 := (Y5.out.below' hw).cell 1; have y2 := (Y5.out.below' hw).cell 2; have c0 := (hw.cell (p := ⟨ow, j, none⟩) HRW5.out.lt).trans HC0.out; go_simp; try with_reducible rfl)
      try simp only [put_laws]
      refine wpAnyT_take (i := 2) (v := ?_) rfl (by kernel_rfl) (by kernel_rfl) (by kernel_rfl) (by kernel_rfl) (by kernel_rfl) (fun _ _ _ h => absurd rfl (h.1 _)) (.inl ⟨by kernel_rfl, ?_⟩) hS ?_
      rotate_left
      · (intro w' hw; have k3 := (K5.out.below' hw).cell 3; have x0 := (X5.out.below' hw).cell 0; have y1 := (Y5.out.below' hw).cell 1; have y2 := (Y5.out.below' hw).cell 2; have c0 := (hw.cell (p := ⟨ow, j, none⟩) HRW5.out.lt).trans HC0.out; go_simp; try with_reducible rfl)
      try simp only [put_laws]
      refine wpAnyT_take (i := 3) (v := ?_) rfl (by kernel_rfl) (by kernel_rfl) (by kernel_rfl) (by kernel_rfl) (by kernel_rfl) (fun _ _ _ h => absurd rfl (h.1 _)) (.inl ⟨by kernel_rfl, ?_⟩) hS ?_
      rotate_left
      · (intro w' hw; have k3 := (K5.out.below' hw).cell 3; have x0 := (X5.out.below' hw).cell 0; have y1 := (Y5.out.below' hw).cell 1; have y2 := (Y5.out.below' hw).cell 2; have c0 := (hw.cell (p := ⟨ow, j, none⟩) HRW5.out.lt).trans HC0.out; go_simp; try with_reducible rfl)
      try simp only [put_laws]
      refine wpAnyT_take (i := 4) (v := ?_) rfl (by kernel_rfl) (by kernel_rfl) (by kernel_rfl) (by kernel_rfl) (by kernel_rfl) (fun _ _ _ h => absurd rfl (h.1 _)) (.inl ⟨by kernel_rfl, ?_⟩) hS ?_
      rotate_left
      · (intro w' hw; have k3 := (K5.out.below' hw).cell 3; have x0 := (X5.out.below' hw).cell 0; have y1 := (Y5.out.below' hw).cell 1; have y2 := (Y5.out.below' hw).cell 2; have c0 := (hw.cell (p := ⟨ow, j, none⟩) HRW5.out.lt).trans HC0.out; go_simp; try with_reducible rfl)
      try simp only [put_laws]
      refine wpAnyT_take (i := 5) (v := ?_) rfl (by kernel_rfl) (by kernel_rfl) (by kernel_rfl) (by kernel_rfl) (by kernel_rfl) (fun _ _ _ h => absurd rfl (h.1 _)) (.inl ⟨by kernel_rfl, ?_⟩) hS ?_
      rotate_left
      · (intro w' hw; have k3 := (K5.out.below' hw).cell 3; have x0 := (X5.out.below' hw).cell 0; have y1 := (Y5.out.below' hw).cell 1; have y2 := (Y5.out.below' hw).cell 2; have c0 := (hw.cell (p := ⟨ow, j, none⟩) HRW5.out.lt).trans HC0.out; go_simp; try with_reducible rfl)
      try simp only [put_laws]
      refine wpAnyT_take (i := 6) (v := ?_) rfl (by kernel_rfl) (by kernel_rfl) (by kernel_rfl) (by kernel_rfl) (by kernel_rfl) (fun _ _ _ h => absurd rfl (h.1 _)) (.inl ⟨by kernel_rfl, ?_⟩) hS ?_
      rotate_left
      · (intro w' hw; have k3 := (K5.out.below' hw).cell 3; have x0 := (X5.out.below' hw).cell 0; have y1 := (Y5.out.below' hw).cell 1; have y2 := (Y5.out.below' hw).cell 2; have c0 := (hw.cell (p := ⟨ow, j, none⟩) HRW5.out.lt).trans HC0.out; go_simp; try with_reducible rfl)
      try simp only [put_laws]
      refine wpAnyT_take (i := 7) (v := ?_) rfl (by kernel_rfl) (by kernel_rfl) (by kernel_rfl) (by kernel_rfl) (by kernel_rfl) (fun _ _ _ h => absurd rfl (h.1 _)) (.inl ⟨by kernel_rfl, ?_⟩) hS ?_
      rotate_left
      · (intro w' hw; have k3 := (K5.out.below' hw).cell 3; have x0 := (X5.out.below' hw).cell 0; have y1 := (Y5.out.below' hw).cell 1; have y2 := (Y5.out.below' hw).cell 2; have c0 := (hw.cell (p := ⟨ow, j, none⟩) HRW5.out.lt).trans HC0.out; go_simp; try with_reducible rfl)
      try simp only [put_laws]
      refine wpAnyT_take (i := 8) (v := ?_) rfl (by kernel_rfl) (by kernel_rfl) (by kernel_rfl) (by kernel_rfl) (by kernel_rfl) (fun _ _ _ h => absurd rfl (h.1 _)) (.inl ⟨by kernel_rfl, ?_⟩) hS ?_
      rotate_left
      · (intro w' hw; have k3 := (K5.out.below' hw).cell 3; have x0 := (X5.out.below' hw).cell 0; have y1 := (Y5.out.below' hw).cell 1; have y2 := (Y5.out.below' hw).cell 2; have c0 := (hw.cell (p := ⟨ow, j, none⟩) HRW5.out.lt).trans HC0.out; go_simp; try with_reducible rfl)
      try simp only [put_laws]
      refine wpAnyT_take (i := 9) (v := ?_) rfl (by kernel_rfl) (by kernel_rfl) (by kernel_rfl) (by kernel_rfl) (by kernel_rfl) (fun _ _ _ h => absurd rfl (h.1 _)) (.inl ⟨by kernel_rfl, ?_⟩) hS ?_
      rotate_left
      · (intro w' hw; have k3 := (K5.out.below' hw).cell 3; have x0 := (X5.out.below' hw).cell 0; have y1 := (Y5.out.below' hw).cell 1; have y2 := (Y5.out.below' hw).cell 2; have c0 := (hw.cell (p := ⟨ow, j, none⟩) HRW5.out.lt).trans HC0.out; go_simp; try with_reducible rfl)
      try simp only [put_laws]
      refine wpAnyT_take (i := 10) (v := ?_) rfl (by kernel_rfl) (by kernel_rfl) (by kernel_rfl) (by kernel_rfl) (by kernel_rfl) (fun _ _ _ h => absurd rfl (h.1 _)) (.inl ⟨by kernel_rfl, ?_⟩) hS ?_
      rotate_left
      · (intro w' hw; have k3 := (K5.out.below' hw).cell 3; have x0 := (X5.out.below' hw).cell 0; have y1 := (Y5.out.below' hw).cell 1; have y2 := (Y5.out.below' hw).cell 2; have c0 := (hw.cell (p := ⟨ow, j, none⟩) HRW5.out.lt).trans HC0.out; go_simp; try with_reducible rfl)
      try simp only [put_laws]
      refine wpAnyT_take (i := 11) (v := ?_) rfl (by kernel_rfl) (by kernel_rfl) (by kernel_rfl) (by kernel_rfl) (by kernel_rfl) (fun _ _ _ h => absurd rfl (h.1 _)) (.inl ⟨by kernel_rfl, ?_⟩) hS ?_
      rotate_left
      · (intro w' hw; have k3 := (K5.out.below' hw).cell 3; have x0 := (X5.out.below' hw).cell 0; have y1 := (Y5.out.below' hw).cell 1; have y2 := (Y5.out.below' hw).cell 2; have c0 := (hw.cell (p := ⟨ow, j, none⟩) HRW5.out.lt).trans HC0.out; go_simp; try with_reducible rfl)
      try simp only [put_laws]
      refine wpAnyT_take (i := 12) (v := ?_) rfl (by kernel_rfl) (by kernel_rfl) (by kernel_rfl) (by kernel_rfl) (by kernel_rfl) (fun _ _ _ h => absurd rfl (h.1 _)) (.inl ⟨by kernel_rfl, ?_⟩) hS ?_
      rotate_left
      · (intro w' hw; have k3 := (K5.out.below' hw).cell 3; have x0 := (X5.out.below' hw).cell 0; have y1 := (Y5.out.below' hw).cell 1; have y2 := (Y5.out.below' hw).cell 2; have c0 := (hw.cell (p := ⟨ow, j, none⟩) HRW5.out.lt).trans HC0.out; go_simp; try with_reducible rfl)
      try simp only [put_laws]
      refine wpAnyT_take (i := 13) (v := ?_) rfl (by kernel_rfl) (by kernel_rfl) (by kernel_rfl) (by kernel_rfl) (by kernel_rfl) (fun _ _ _ h => absurd rfl (h.1 _)) (.inl ⟨by kernel_rfl, ?_⟩) hS ?_
      rotate_left
      · (intro w' hw; have k3 := (K5.out.below' hw).cell 3; have x0 := (X5.out.below' hw).cell 0; have y1 := (Y5.out.below' hw).cell 1; have y2 := (Y5.out.below' hw).cell 2; have c0 := (hw.cell (p := ⟨ow, j, none⟩) HRW5.out.lt).trans HC0.out; go_simp; try with_reducible rfl)
      try simp only [put_laws]
      refine wpAnyT_take (i := 14) (v := ?_) rfl (by kernel_rfl) (by kernel_rfl) (by kernel_rfl) (by kernel_rfl) (by kernel_rfl) (fun _ _ _ h => absurd rfl (h.1 _)) (.inl ⟨by kernel_rfl, ?_⟩) hS ?_
      rotate_left
      · (intro w' hw; have k3 := (K5.out.below' hw).cell 3; have x0 := (X5.out.below' hw).cell 0; have y1 := (Y5.out.below' hw).cell 1; have y2 := (Y5.out.below' hw).cell 2; have c0 := (hw.cell (p := ⟨ow, j, none⟩) HRW5.out.lt).trans HC0.out; go_simp; try with_reducible rfl)
      try simp only [put_laws]
      refine wpAnyT_take (i := 15) (v := ?_) rfl (by kernel_rfl) (by kernel_rfl) (by kernel_rfl) (by kernel_rfl) (by kernel_rfl) (fun _ _ _ h => absurd rfl (h.1 _)) (.inl ⟨by kernel_rfl, ?_⟩) hS ?_
      rotate_left
      · (intro w' hw; have k3 := (K5.out.below' hw).cell 3; have x0 := (X5.out.below' hw).cell 0; have y1 := (Y5.out.below' hw).cell 1; have y2 := (Y5.out.below' hw).cell 2; have c0 := (hw.cell (p := ⟨ow, j, none⟩) HRW5.out.lt).trans HC0.out; go_simp; try with_reducible rfl)
      try simp only [put_laws]
      refine wpAnyT_take (i := 16) (v := ?_) rfl (by kernel_rfl) (by kernel_rfl) (by kernel_rfl) (by kernel_rfl) (by kernel_rfl) (fun _ _ _ h => absurd rfl (h.1 _)) (.inl ⟨by kernel_rfl, ?_⟩) hS ?_
      rotate_left
      · (intro w' hw; have k3 := (K5.out.below' hw).cell 3; have x0 := (X5.out.below' hw).cell 0; have y1 := (Y5.out.below' hw).cell 1; have y2 := (Y5.out.below' hw).cell 2; have c0 := (hw.cell (p := ⟨ow, j, none⟩) HRW5.out.lt).trans HC0.out; go_simp; try with_reducible rfl)
      try simp only [put_laws]
      refine wpAnyT_take (i := 17) (v := ?_) rfl (by kernel_rfl) (by kernel_rfl) (by kernel_rfl) (by kernel_rfl) (by kernel_rfl) (fun _ _ _ h => absurd rfl (h.1 _)) (.inl ⟨by kernel_rfl, ?_⟩) hS ?_
      rotate_left
      · (intro w' hw; have k3 := (K5.out.below' hw).cell 3; have x0 := (X5.out.below' hw).cell 0; have y1 := (Y5.out.below' hw).cell 1; have y2 := (Y5.out.below' hw).cell 2; have c0 := (hw.cell (p := ⟨ow, j, none⟩) HRW5.out.lt).trans HC0.out; go_simp; try with_reducible rfl)
      try simp only [put_laws]
      refine wpAnyT_take (i := 18) (v := ?_) rfl (by kernel_rfl) (by kernel_rfl) (by kernel_rfl) (by kernel_rfl) (by kernel_rfl) (fun _ _ _ h => absurd rfl (h.1 _)) (.inl ⟨by kernel_rfl, ?_⟩) hS ?_
      rotate_left
      · (intro w' hw; have k3 := (K5.out.below' hw).cell 3; have x0 := (X5.out.below' hw).cell 0; have y1 := (Y5.out.below' hw).cell 1; have y2 := (Y5.out.below' hw).cell 2; have c0 := (hw.cell (p := ⟨ow, j, none⟩) HRW5.out.lt).trans HC0.out; go_simp; try with_reducible rfl)
      try simp only [put_laws]
      refine wpAnyT_take (i := 19) (v := ?_) rfl (by kernel_rfl) (by kernel_rfl) (by kernel_rfl) (by kernel_rfl) (by kernel_rfl) (fun _ _ _ h => absurd rfl (h.1 _)) (.inl ⟨by kernel_rfl, ?_⟩) hS ?_
      rotate_left
      · (intro w' hw; have k3 := (K5.out.below' hw).cell 3; have x0 := (X5.out.below' hw).cell 0; have y1 := (Y5.out.below' hw).cell 1; have y2 := (Y5.out.below' hw).cell 2; have c0 := (hw.cell (p := ⟨ow, j, none⟩) HRW5.out.lt).trans HC0.out; go_simp; try with_reducible rfl)
      try simp only [put_laws]
      refine wpAnyT_take (i := 20) (v := ?_) rfl (by kernel_rfl) (by kernel_rfl) (by kernel_rfl) (by kernel_rfl) (by kernel_rfl) (fun _ _ _ h => absurd rfl (h.1 _)) (.inl ⟨by kernel_rfl, ?_⟩) hS ?_
      rotate_left
      · (intro w' hw; have k3 := (K5.out.below' hw).cell 3; have x0 := (X5.out.below' hw).cell 0; have y1 := (Y5.out.below' hw).cell 1; have y2 := (Y5.out.below' hw).cell 2; have c0 := (hw.cell (p := ⟨ow, j, none⟩) HRW5.out.lt).trans HC0.out; go_simp; try with_reducible rfl)
      try simp only [put_laws]
      refine wpAnyT_take (i := 22) (v := ?_) rfl (by kernel_rfl) (by kernel_rfl) (by kernel_rfl) (by kernel_rfl) (by kernel_rfl) (fun _ _ _ h => absurd rfl (h.1 _)) (.inl ⟨by kernel_rfl, ?_⟩) hS ?_
      rotate_left
      · (intro w' hw; have k3 := (K5.out.below' hw).cell 3; have x0 := (X5.out.below' hw).cell 0; have y1 := (Y5.out.below' hw).cell 1; have y2 := (Y5.out.below' hw).cell 2; have c0 := (hw.cell (p := ⟨ow, j, none⟩) HRW5.out.lt).trans HC0.out; go_simp; try with_reducible rfl)
      try simp only [put_laws]
      refine wpAnyT_take (i := 23) (v := ?_) rfl (by kernel_rfl) (by kernel_rfl) (by kernel_rfl) (by kernel_rfl) (by kernel_rfl) (fun _ _ _ h => absurd rfl (h.1 _)) (.inl ⟨by kernel_rfl, ?_⟩) hS ?_
      rotate_left
      · (intro w' hw; have k3 := (K5.out.below' hw).cell 3; have x0 := (X5.out.below' hw).cell 0; have y1 := (Y5.out.below' hw).cell 1; have y2 := (Y5.out.below' hw).cell 2; have c0 := (hw.cell (p := ⟨ow, j, none⟩) HRW5.out.lt).trans HC0.out; go_simp; try with_reducible rfl)
      try simp only [put_laws]
      refine wpAnyT_one (i := 21) (by kernel_rfl) rfl ?_
      intro K' hK'
      go_simp
      refine (rin_list yA (pl j).length yc w5.heap.size (fun i => (pl j).getD i 0) c w5.drew (HPN.out j) HYD.out).mono ?_
      rintro e w6 ⟨rfl, hb⟩
      rw [anyTo_mem, decide_eq_true HIN.out]
      have HB6 := Lib.hid hb
      clear hb
      have hS := Below.trans hS (HB6.out.mono hS.size)
      refine hK'.out _ _ (.inr hS) ?_
      clear hK' K'
      try simp only [put_laws]
      refine wpAnyT_take (i := 24) (v := ?_) rfl (by kernel_rfl) (by kernel_rfl) (by kernel_rfl) (by kernel_rfl) (by kernel_rfl) (fun _ _ _ h => absurd rfl (h.1 _)) (.inl ⟨by kernel_rfl, ?_⟩) hS ?_
      rotate_left
      · (intro w' hw; have k3 := (K5.out.below' hw).cell 3; have x0 := (X5.out.below' hw).cell 0; have y1 := (Y5.out.below' hw).cell 1; have y2 := (Y5.out.below' hw).cell 2; have c0 := (hw.cell (p := ⟨ow, j, none⟩) HRW5.out.lt).trans HC0.out; go_simp; try with_reducible rfl)
      try simp only [put_laws]
      refine wpAnyT_one (i := 25) (by kernel_rfl) rfl ?_
      intro K' hK'
      go_simp
      refine hK'.out _ _ (.inl rfl) ?_
      clear hK' K'
      try simp only [put_laws]
      refine wpAnyT_done (by kernel_rfl) ?_ _
      refine ⟨fun x e => (by cases e), ?_⟩
      have HD6 := Lib.hid hS
      have HB6' := Lib.hid (HB5.out.trans (HD6.out.mono HB5.out.size))
      have K6 := Lib.hid (K5.out.below' HD6.out)
      have X6 := Lib.hid (X5.out.below' HD6.out)
      have Y6 := Lib.hid (Y5.out.below' HD6.out)
      clear hS HYD HC0 HIN HB6
      have HL6 := Lib.hid ((HL5.out.below HD6.out).more HD6.out.size)
      have hjl : j < L.length := by rw [HL.out.1]; exact hjm
      have hcj := HFA.out l _ HL.out.2.2
      have hL6 := HL6.out
      rcases hL6 with h0 | ⟨pb, po, rfl, hpb, hpc⟩
      · omega
      have HC1 := Lib.hid (show w6.cell? ⟨pb, po + j, none⟩ = some (.int .i64 c) from by rw [← hcj]; exact hpc j hjl)
      have HPB := Lib.hid hpb
      have HLR := Lib.hid (And.intro HL.out (show Rd1 w6.drew w6.drew.heap.size (some ⟨pb, po, none⟩) L.length (fun i => L.getD i 0) from HL6.out))
      have HB6d := Lib.hid (show Below w.heap.size w w6.drew from HB6'.out.drew)
      clear hcj hpb hpc HL5 HRW5 K5 X5 Y5 HD6 HB5 HFA
      go_wp2_with fail
      refine wp_nopanic ?_
      refine wp_region_T 24 (fun w' => Below w6.heap.size w6 w') (by kernel_rfl) (Below.refl _ _).drew ?_
      intro hS
      refine wpAnyT_take (i := 0) (v := ?_) rfl (by kernel_rfl) (by kernel_rfl) (by kernel_rfl) (by kernel_rfl) (by kernel_rfl) (fun _ _ _ h => absurd rfl (h.1 _)) (.inl ⟨by kernel_rfl, ?_⟩) hS ?_
      rotate_left
      · (intro w' hw; have k0 := (K6.out.below' hw).cell 0; have k1 := (K6.out.below' hw).cell 1; have k2 := (K6.out.below' hw).cell 2; have k3 := (K6.out.below' hw).cell 3; have k4 := (K6.out.below' hw).cell 4; have k5 := (K6.out.below' hw).cell 5; have k6 := (K6.out.below' hw).cell 6; have k7 := (K6.out.below' hw).cell 7; have x0 := (X6.out.below' hw).cell 0; have x1 := (X6.out.below' hw).cell 1; have x2 := (X6.out.below' hw).cell 2; have x3 := (X6.out.below' hw).cell 3; have y0 := (Y6.out.below' hw).cell 0; have y1 := (Y6.out.below' hw).cell 1; have y2 := (Y6.out.below' hw).cell 2; have c0 := (hw.cell (p := ⟨pb, po + j, none⟩) HPB.out).trans HC1.out; go_simp; try with_reducible rfl)
      try simp only [put_laws]
      refine wpAnyT_take (i := 1) (v := ?_) rfl (by kernel_rfl) (by kernel_rfl) (by kernel_rfl) (by kernel_rfl) (by kernel_rfl) (fun _ _ _ h => absurd rfl (h.1 _)) (.inl ⟨by kernel_rfl, ?_⟩) hS ?_
      rotate_left
      · (intro w' hw; have k0 := (K6.out.below' hw).cell 0; have k1 := (K6.out.below' hw).cell 1; have k2 := (K6.out.below' hw).cell 2; have k3 := (K6.out.below' hw).cell 3; have k4 := (K6.out.below' hw).cell 4; have k5 := (K6.out.below' hw).cell 5; have k6 := (K6.out.below' hw).cell 6; have k7 := (K6.out.below' hw).cell 7; have x0 := (X6.out.below' hw).cell 0; have x1 := (X6.out.below' hw).cell 1; have x2 := (X6.out.below' hw).cell 2; have x3 := (X6.out.below' hw).cell 3; have y0 := (Y6.out.below' hw).cell 0; have y1 := (Y6.out.below' hw).cell 1; have y2 := (Y6.out.below' hw).cell 2; have c0 := (hw.cell (p := ⟨pb, po + j, none⟩) HPB.out).trans HC1.out; go_simp; try with_reducible rfl)
      try simp only [put_laws]
      refine wpAnyT_take (i := 2) (v := ?_) rfl (by kernel_rfl) (by kernel_rfl) (by kernel_rfl) (by kernel_rfl) (by kernel_rfl) (fun _ _ _ h => absurd rfl (h.1 _)) (.inl ⟨by kernel_rfl, ?_⟩) hS ?_
      rotate_left
      · (intro w' hw; have k0 := (K6.out.below' hw).cell 0; have k1 := (K6.out.below' hw).cell 1; have k2 := (K6.out.below' hw).cell 2; have k3 := (K6.out.below' hw).cell 3; have k4 := (K6.out.below' hw).cell 4; have k5 := (K6.out.below' hw).cell 5; have k6 := (K6.out.below' hw).cell 6; have k7 := (K6.out.below' hw).cell 7; have x0 := (X6.out.below' hw).cell 0; have x1 := (X6.out.below' hw).cell 1; have x2 := (X6.out.below' hw).cell 2; have x3 := (X6.out.below' hw).cell 3; have y0 := (Y6.out.below' hw).cell 0; have y1 := (Y6.out.below' hw).cell 1; have y2 := (Y6.out.below' hw).cell 2; have c0 := (hw.cell (p := ⟨pb, po + j, none⟩) HPB.out).trans HC1.out; go_simp; try with_reducible rfl)
      try simp only [put_laws]
      refine wpAnyT_take (i := 3) (v := ?_) rfl (by kernel_rfl) (by kernel_rfl) (by kernel_rfl) (by kernel_rfl) (by kernel_rfl) (fun _ _ _ h => absurd rfl (h.1 _)) (.inl ⟨by kernel_rfl, ?_⟩) hS ?_
      rotate_left
      · (intro w' hw; have k0 := (K6.out.below' hw).cell 0; have k1 := (K6.out.below' hw).cell 1; have k2 := (K6.out.below' hw).cell 2; have k3 := (K6.out.below' hw).cell 3; have k4 := (K6.out.below' hw).cell 4; have k5 := (K6.out.below' hw).cell 5; have k6 := (K6.out.below' hw).cell 6; have k7 := (K6.out.below' hw).cell 7; have x0 := (X6.out.below' hw).cell 0; have x1 := (X6.out.below' hw).cell 1; have x2 := (X6.out.below' hw).cell 2; have x3 := (X6.out.below' hw).cell 3; have y0 := (Y6.out.below' hw).cell 0; have y1 := (Y6.out.below' hw).cell 1; have y2 := (Y6.out.below' hw).cell 2; have c0 := (hw.cell (p := ⟨pb, po + j, none⟩) HPB.out).trans HC1.out; go_simp; try with_reducible rfl)
      try simp only [put_laws]
      refine wpAnyT_take (i := 4) (v := ?_) rfl (by kernel_rfl) (by kernel_rfl) (by kernel_rfl) (by kernel_rfl) (by kernel_rfl) (fun _ _ _ h => absurd rfl (h.1 _)) (.inl ⟨by kernel_rfl, ?_⟩) hS ?_
      rotate_left
      · (intro w' hw; have k0 := (K6.out.below' hw).cell 0; have k1 := (K6.out.below' hw).cell 1; have k2 := (K6.out.below' hw).cell 2; have k3 := (K6.out.below' hw).cell 3; have k4 := (K6.out.below' hw).cell 4; have k5 := (K6.out.below' hw).cell 5; have k6 := (K6.out.below' hw).cell 6; have k7 := (K6.out.below' hw).cell 7; have x0 := (X6.out.below' hw).cell 0; have x1 := (X6.out.below' hw).cell 1; have x2 := (X6.out.below' hw).cell 2; have x3 := (X6.out.below' hw).cell 3; have y0 := (Y6.out.below' hw).cell 0; have y1 := (Y6.out.below' hw).cell 1; have y2 := (Y6.out.below' hw).cell 2; have c0 := (hw.cell (p := ⟨pb, po + j, none⟩) HPB.out).trans HC1.out; go_simp; try with_reducible rfl)
      try simp only [put_laws]
      refine wpAnyT_take (i := 5) (v := ?_) rfl (by kernel_rfl) (by kernel_rfl) (by kernel_rfl) (by kernel_rfl) (by kernel_rfl) (fun _ _ _ h => absurd rfl (h.1 _)) (.inl ⟨by kernel_rfl, ?_⟩) hS ?_
      rotate_left
      · (intro w' hw; have k0 := (K6.out.below' hw).cell 0; have k1 := (K6.out.below' hw).cell 1; have k2 := (K6.out.below' hw).cell 2; have k3 := (K6.out.below' hw).cell 3; have k4 := (K6.out.below' hw).cell 4; have k5 := (K6.out.below' hw).cell 5; have k6 := (K6.out.below' hw).cell 6; have k7 := (K6.out.below' hw).cell 7; have x0 := (X6.out.below' hw).cell 0; have x1 := (X6.out.below' hw).cell 1; have x2 := (X6.out.below' hw).cell 2; have x3 := (X6.out.below' hw).cell 3; have y0 := (Y6.out.below' hw).cell 0; have y1 := (Y6.out.below' hw).cell 1; have y2 := (Y6.out.below' hw).cell 2; have c0 := (hw.cell (p := ⟨pb, po + j, none⟩) HPB.out).trans HC1.out; go_simp; try with_reducible rfl)
      try simp only [put_laws]
      refine wpAnyT_take (i := 6) (v := ?_) rfl (by kernel_rfl) (by kernel_rfl) (by kernel_rfl) (by kernel_rfl) (by kernel_rfl) (fun _ _ _ h => absurd rfl (h.1 _)) (.inl ⟨by kernel_rfl, ?_⟩) hS ?_
      rotate_left
      · (intro w' hw; have k0 := (K6.out.below' hw).cell 0; have k1 := (K6.out.below' hw).cell 1; have k2 := (K6.out.below' hw).cell 2; have k3 := (K6.out.below' hw).cell 3; have k4 := (K6.out.below' hw).cell 4; have k5 := (K6.out.below' hw).cell 5; have k6 := (K6.out.below' hw).cell 6; have k7 := (K6.out.below' hw).cell 7; have x0 := (X6.out.below' hw).cell 0; have x1 := (X6.out.below' hw).cell 1; have x2 := (X6.out.below' hw).cell 2; have x3 := (X6.out.below' hw).cell 3; have y0 := (Y6.out.below' hw).cell 0; have y1 := (Y6.out.below' hw).cell 1; have y2 := (Y6.out.below' hw).cell 2; have c0 := (hw.cell (p := ⟨pb, po + j, none⟩) HPB.out).trans HC1.out; go_simp; try with_reducible rfl)
      try simp only [put_laws]
      refine wpAnyT_one (i := 7) (by kernel_rfl) rfl ?_
      intro K' hK'
      go_simp
      refine ((HPQ.out w6.drew HB6d.out _ _ _ _ HLR.out).mono ?_)
      rintro e w7 ⟨rfl, hb⟩
      have HB7 := Lib.hid hb
      clear hb
      have hS := Below.trans hS (HB7.out.mono hS.size)
      refine hK'.out _ _ (.inr hS) ?_
      clear hK' K'
      try simp only [put_laws]
      refine wpAnyT_take (i := 8) (v := ?_) rfl (by kernel_rfl) (by kernel_rfl) (by kernel_rfl) (by kernel_rfl) (by kernel_rfl) (fun _ _ _ h => absurd rfl (h.1 _)) (.inl ⟨by kernel_rfl, ?_⟩) hS ?_
      rotate_left
      · (intro w' hw; have k0 := (K6.out.below' hw).cell 0; have k1 := (K6.out.below' hw).cell 1; have k2 := (K6.out.below' hw).cell 2; have k3 := (K6.out.below' hw).cell 3; have k4 := (K6.out.below' hw).cell 4; have k5 := (K6.out.below' hw).cell 5; have k6 := (K6.out.below' hw).cell 6; have k7 := (K6.out.below' hw).cell 7; have x0 := (X6.out.below' hw).cell 0; have x1 := (X6.out.below' hw).cell 1; have x2 := (X6.out.below' hw).cell 2; have x3 := (X6.out.below' hw).cell 3; have y0 := (Y6.out.below' hw).cell 0; have y1 := (Y6.out.below' hw).cell 1; have y2 := (Y6.out.below' hw).cell 2; have c0 := (hw.cell (p := ⟨pb, po + j, none⟩) HPB.out).trans HC1.out; go_simp; try with_reducible rfl)
      try simp only [put_laws]
      refine wpAnyT_take (i := 9) (v := ?_) rfl (by kernel_rfl) (by kernel_rfl) (by kernel_rfl) (by kernel_rfl) (by kernel_rfl) (fun _ _ _ h => absurd rfl (h.1 _)) (.inl ⟨by kernel_rfl, ?_⟩) hS ?_
      rotate_left
      · (intro w' hw; have k0 := (K6.out.below' hw).cell 0; have k1 := (K6.out.below' hw).cell 1; have k2 := (K6.out.below' hw).cell 2; have k3 := (K6.out.below' hw).cell 3; have k4 := (K6.out.below' hw).cell 4; have k5 := (K6.out.below' hw).cell 5; have k6 := (K6.out.below' hw).cell 6; have k7 := (K6.out.below' hw).cell 7; have x0 := (X6.out.below' hw).cell 0; have x1 := (X6.out.below' hw).cell 1; have x2 := (X6.out.below' hw).cell 2; have x3 := (X6.out.below' hw).cell 3; have y0 := (Y6.out.below' hw).cell 0; have y1 := (Y6.out.below' hw).cell 1; have y2 := (Y6.out.below' hw).cell 2; have c0 := (hw.cell (p := ⟨pb, po + j, none⟩) HPB.out).trans HC1.out; go_simp; try with_reducible rfl)
      try simp only [put_laws]
      refine wpAnyT_take (i := 10) (v := ?_) rfl (by kernel_rfl) (by kernel_rfl) (by kernel_rfl) (by kernel_rfl) (by kernel_rfl) (fun _ _ _ h => absurd rfl (h.1 _)) (.inl ⟨by kernel_rfl, ?_⟩) hS ?_
      rotate_left
      · (intro w' hw; have k0 := (K6.out.below' hw).cell 0; have k1 := (K6.out.below' hw).cell 1; have k2 := (K6.out.below' hw).cell 2; have k3 := (K6.out.below' hw).cell 3; have k4 := (K6.out.below' hw).cell 4; have k5 := (K6.out.below' hw).cell 5; have k6 := (K6.out.below' hw).cell 6; have k7 := (K6.out.below' hw).cell 7; have x0 := (X6.out.below' hw).cell 0; have x1 := (X6.out.below' hw).cell 1; have x2 := (X6.out.below' hw).cell 2; have x3 := (X6.out.below' hw).cell 3; have y0 := (Y6.out.below' hw).cell 0; have y1 := (Y6.out.below' hw).cell 1; have y2 := (Y6.out.below' hw).cell 2; have c0 := (hw.cell (p := ⟨pb, po + j, none⟩) HPB.out).trans HC1.out; go_simp; try with_reducible rfl)
      try simp only [put_laws]
      refine wpAnyT_take (i := 11) (v := ?_) rfl (by kernel_rfl) (by kernel_rfl) (by kernel_rfl) (by kernel_rfl) (by kernel_rfl) (fun _ _ _ h => absurd rfl (h.1 _)) (.inl ⟨by kernel_rfl, ?_⟩) hS ?_
      rotate_left
      · (intro w' hw; have k0 := (K6.out.below' hw).cell 0; have k1 := (K6.out.below' hw).cell 1; have k2 := (K6.out.below' hw).cell 2; have k3 := (K6.out.below' hw).cell 3; have k4 := (K6.out.below' hw).cell 4; have k5 := (K6.out.below' hw).cell 5; have k6 := (K6.out.below' hw).cell 6; have k7 := (K6.out.below' hw).cell 7; have x0 := (X6.out.below' hw).cell 0; have x1 := (X6.out.below' hw).cell 1; have x2 := (X6.out.below' hw).cell 2; have x3 := (X6.out.below' hw).cell 3; have y0 := (Y6.out.below' hw).cell 0; have y1 := (Y6.out.below' hw).cell 1; have y2 := (Y6.out.below' hw).cell 2; have c0 := (hw.cell (p := ⟨pb, po + j, none⟩) HPB.out).trans HC1.out; go_simp; try with_reducible rfl)
      try simp only [put_laws]
      refine wpAnyT_take (i := 12) (v := ?_) rfl (by kernel_rfl) (by kernel_rfl) (by kernel_rfl) (by kernel_rfl) (by kernel_rfl) (fun _ _ _ h => absurd rfl (h.1 _)) (.inl ⟨by kernel_rfl, ?_⟩) hS ?_
      rotate_left
      · (intro w' hw; have k0 := (K6.out.below' hw).cell 0; have k1 := (K6.out.below' hw).cell 1; have k2 := (K6.out.below' hw).cell 2; have k3 := (K6.out.below' hw).cell 3; have k4 := (K6.out.below' hw).cell 4; have k5 := (K6.out.below' hw).cell 5; have k6 := (K6.out.below' hw).cell 6; have k7 := (K6.out.below' hw).cell 7; have x0 := (X6.out.below' hw).cell 0; have x1 := (X6.out.below' hw).cell 1; have x2 := (X6.out.below' hw).cell 2; have x3 := (X6.out.below' hw).cell 3; have y0 := (Y6.out.below' hw).cell 0; have y1 := (Y6.out.below' hw).cell 1; have y2 := (Y6.out.below' hw).cell 2; have c0 := (hw.cell (p := ⟨pb, po + j, none⟩) HPB.out).trans HC1.out; go_simp; try with_reducible rfl)
      try simp only [put_laws]
      refine wpAnyT_take (i := 13) (v := ?_) rfl (by kernel_rfl) (by kernel_rfl) (by kernel_rfl) (by kernel_rfl) (by kernel_rfl) (fun _ _ _ h => absurd rfl (h.1 _)) (.inl ⟨by kernel_rfl, ?_⟩) hS ?_
      rotate_left
      · (intro w' hw; have k0 := (K6.out.below' hw).cell 0; have k1 := (K6.out.below' hw).cell 1; have k2 := (K6.out.below' hw).cell 2; have k3 := (K6.out.below' hw).cell 3; have k4 := (K6.out.below' hw).cell 4; have k5 := (K6.out.below' hw).cell 5; have k6 := (K6.out.below' hw).cell 6; have k7 := (K6.out.below' hw).cell 7; have x0 := (X6.out.below' hw).cell 0; have x1 := (X6.out.below' hw).cell 1; have x2 := (X6.out.below' hw).cell 2; have x3 := (X6.out.below' hw).cell 3; have y0 := (Y6.out.below' hw).cell 0; have y1 := (Y6.out.below' hw).cell 1; have y2 := (Y6.out.below' hw).cell 2; have c0 := (hw.cell (p := ⟨pb, po + j, none⟩) HPB.out).trans HC1.out; go_simp; try with_reducible rfl)
      try simp only [put_laws]
      refine wpAnyT_take (i := 14) (v := ?_) rfl (by kernel_rfl) (by kernel_rfl) (by kernel_rfl) (by kernel_rfl) (by kernel_rfl) (fun _ _ _ h => absurd rfl (h.1 _)) (.inl ⟨by kernel_rfl, ?_⟩) hS ?_
      rotate_left
      · (intro w' hw; have k0 := (K6.out.below' hw).cell 0; have k1 := (K6.out.below' hw).cell 1; have k2 := (K6.out.below' hw).cell 2; have k3 := (K6.out.below' hw).cell 3; have k4 := (K6.out.below' hw).cell 4; have k5 := (K6.out.below' hw).cell 5; have k6 := (K6.out.below' hw).cell 6; have k7 := (K6.out.below' hw).cell 7; have x0 := (X6.out.below' hw).cell 0; have x1 := (X6.out.below' hw).cell 1; have x2 := (X6.out.below' hw).cell 2; have x3 := (X6.out.below' hw).cell 3; have y0 := (Y6.out.below' hw).cell 0; have y1 := (Y6.out.below' hw).cell 1; have y2 := (Y6.out.below' hw).cell 2; have c0 := (hw.cell (p := ⟨pb, po + j, none⟩) HPB.out).trans HC1.out; go_simp; try with_reducible rfl)
      try simp only [put_laws]
      refine wpAnyT_take (i := 15) (v := ?_) rfl (by kernel_rfl) (by kernel_rfl) (by kernel_rfl) (by kernel_rfl) (by kernel_rfl) (fun _ _ _ h => absurd rfl (h.1 _)) (.inl ⟨by kernel_rfl, ?_⟩) hS ?_
      rotate_left
      · (intro w' hw; have k0 := (K6.out.below' hw).cell 0; have k1 := (K6.out.below' hw).cell 1; have k2 := (K6.out.below' hw).cell 2; have k3 := (K6.out.below' hw).cell 3; have k4 := (K6.out.below' hw).cell 4; have k5 := (K6.out.below' hw).cell 5; have k6 := (K6.out.below' hw).cell 6; have k7 := (K6.out.below' hw).cell 7; have x0 := (X6.out.below' hw).cell 0; have x1 := (X6.out.below' hw).cell 1; have x2 := (X6.out.below' hw).cell 2; have x3 := (X6.out.below' hw).cell 3; have y0 := (Y6.out.below' hw).cell 0; have y1 := (Y6.out.below' hw).cell 1; have y2 := (Y6.out.below' hw).cell 2; have c0 := (hw.cell (p := ⟨pb, po + j, none⟩) HPB.out).trans HC1.out; go_simp; try with_reducible rfl)
      try simp only [put_laws]
      refine wpAnyT_take (i := 16) (v := ?_) rfl (by kernel_rfl) (by kernel_rfl) (by kernel_rfl) (by kernel_rfl) (by kernel_rfl) (fun _ _ _ h => absurd rfl (h.1 _)) (.inl ⟨by kernel_rfl, ?_⟩) hS ?_
      rotate_left
      · (intro w' hw; have k0 := (K6.out.below' hw).cell 0; have k1 := (K6.out.below' hw).cell 1; have k2 := (K6.out.below' hw).cell 2; have k3 := (K6.out.below' hw).cell 3; have k4 := (K6.out.below' hw).cell 4; have k5 := (K6.out.below' hw).cell 5; have k6 := (K6.out.below' hw).cell 6; have k7 := (K6.out.below' hw).cell 7; have x0 := (X6.out.below' hw).cell 0; have x1 := (X6.out.below' hw).cell 1; have x2 := (X6.out.below' hw).cell 2; have x3 := (X6.out.below' hw).cell 3; have y0 := (Y6.out.below' hw).cell 0; have y1 := (Y6.out.below' hw).cell 1; have y2 := (Y6.out.below' hw).cell 2; have c0 := (hw.cell (p := ⟨pb, po + j, none⟩) HPB.out).trans HC1.out; go_simp; try with_reducible rfl)
      try simp only [put_laws]
      refine wpAnyT_take (i := 17) (v := ?_) rfl (by kernel_rfl) (by kernel_rfl) (by kernel_rfl) (by kernel_rfl) (by kernel_rfl) (fun _ _ _ h => absurd rfl (h.1 _)) (.inl ⟨by kernel_rfl, ?_⟩) hS ?_
      rotate_left
      · (intro w' hw; have k0 := (K6.out.below' hw).cell 0; have k1 := (K6.out.below' hw).cell 1; have k2 := (K6.out.below' hw).cell 2; have k3 := (K6.out.below' hw).cell 3; have k4 := (K6.out.below' hw).cell 4; have k5 := (K6.out.below' hw).cell 5; have k6 := (K6.out.below' hw).cell 6; have k7 := (K6.out.below' hw).cell 7; have x0 := (X6.out.below' hw).cell 0; have x1 := (X6.out.below' hw).cell 1; have x2 := (X6.out.below' hw).cell 2; have x3 := (X6.out.below' hw).cell 3; have y0 := (Y6.out.below' hw).cell 0; have y1 := (Y6.out.below' hw).cell 1; have y2 := (Y6.out.below' hw).cell 2; have c0 := (hw.cell (p := ⟨pb, po + j, none⟩) HPB.out).trans HC1.out; go_simp; try with_reducible rfl)
      try simp only [put_laws]
      refine wpAnyT_take (i := 18) (v := ?_) rfl (by kernel_rfl) (by kernel_rfl) (by kernel_rfl) (by kernel_rfl) (by kernel_rfl) (fun _ _ _ h => absurd rfl (h.1 _)) (.inl ⟨by kernel_rfl, ?_⟩) hS ?_
      rotate_left
      · (intro w' hw; have k0 := (K6.out.below' hw).cell 0; have k1 := (K6.out.below' hw).cell 1; have k2 := (K6.out.below' hw).cell 2; have k3 := (K6.out.below' hw).cell 3; have k4 := (K6.out.below' hw).cell 4; have k5 := (K6.out.below' hw).cell 5; have k6 := (K6.out.below' hw).cell 6; have k7 := (K6.out.below' hw).cell 7; have x0 := (X6.out.below' hw).cell 0; have x1 := (X6.out.below' hw).cell 1; have x2 := (X6.out.below' hw).cell 2; have x3 := (X6.out.below' hw).cell 3; have y0 := (Y6.out.below' hw).cell 0; have y1 := (Y6.out.below' hw).cell 1; have y2 := (Y6.out.below' hw).cell 2; have c0 := (hw.cell (p := ⟨pb, po + j, none⟩) HPB.out).trans HC1.out; go_simp; try with_reducible rfl)
      try simp only [put_laws]
      refine wpAnyT_take (i := 19) (v := ?_) rfl (by kernel_rfl) (by kernel_rfl) (by kernel_rfl) (by kernel_rfl) (by kernel_rfl) (fun _ _ _ h => absurd rfl (h.1 _)) (.inl ⟨by kernel_rfl, ?_⟩) hS ?_
      rotate_left
      · (intro w' hw; have k0 := (K6.out.below' hw).cell 0; have k1 := (K6.out.below' hw).cell 1; have k2 := (K6.out.below' hw).cell 2; have k3 := (K6.out.below' hw).cell 3; have k4 := (K6.out.below' hw).cell 4; have k5 := (K6.out.below' hw).cell 5; have k6 := (K6.out.below' hw).cell 6; have k7 := (K6.out.below' hw).cell 7; have x0 := (X6.out.below' hw).cell 0; have x1 := (X6.out.below' hw).cell 1; have x2 := (X6.out.below' hw).cell 2; have x3 := (X6.out.below' hw).cell 3; have y0 := (Y6.out.below' hw).cell 0; have y1 := (Y6.out.below' hw).cell 1; have y2 := (Y6.out.below' hw).cell 2; have c0 := (hw.cell (p := ⟨pb, po + j, none⟩) HPB.out).trans HC1.out; go_simp; try with_reducible rfl)
      try simp only [put_laws]
      refine wpAnyT_take (i := 20) (v := ?_) rfl (by kernel_rfl) (by kernel_rfl) (by kernel_rfl) (by kernel_rfl) (by kernel_rfl) (fun _ _ _ h => absurd rfl (h.1 _)) (.inl ⟨by kernel_rfl, ?_⟩) hS ?_
      rotate_left
      · (intro w' hw; have k0 := (K6.out.below' hw).cell 0; have k1 := (K6.out.below' hw).cell 1; have k2 := (K6.out.below' hw).cell 2; have k3 := (K6.out.below' hw).cell 3; have k4 := (K6.out.below' hw).cell 4; have k5 := (K6.out.below' hw).cell 5; have k6 := (K6.out.below' hw).cell 6; have k7 := (K6.out.below' hw).cell 7; have x0 := (X6.out.below' hw).cell 0; have x1 := (X6.out.below' hw).cell 1; have x2 := (X6.out.below' hw).cell 2; have x3 := (X6.out.below' hw).cell 3; have y0 := (Y6.out.below' hw).cell 0; have y1 := (Y6.out.below' hw).cell 1; have y2 := (Y6.out.below' hw).cell 2; have c0 := (hw.cell (p := ⟨pb, po + j, none⟩) HPB.out).trans HC1.out; go_simp; try with_reducible rfl)
      try simp only [put_laws]
      refine wpAnyT_take (i := 21) (v := ?_) rfl (by kernel_rfl) (by kernel_rfl) (by kernel_rfl) (by kernel_rfl) (by kernel_rfl) (fun _ _ _ h => absurd rfl (h.1 _)) (.inl ⟨by kernel_rfl, ?_⟩) hS ?_
      rotate_left
      · (intro w' hw; have k0 := (K6.out.below' hw).cell 0; have k1 := (K6.out.below' hw).cell 1; have k2 := (K6.out.below' hw).cell 2; have k3 := (K6.out.below' hw).cell 3; have k4 := (K6.out.below' hw).cell 4; have k5 := (K6.out.below' hw).cell 5; have k6 := (K6.out.below' hw).cell 6; have k7 := (K6.out.below' hw).cell 7; have x0 := (X6.out.below' hw).cell 0; have x1 := (X6.out.below' hw).cell 1; have x2 := (X6.out.below' hw).cell 2; have x3 := (X6.out.below' hw).cell 3; have y0 := (Y6.out.below' hw).cell 0; have y1 := (Y6.out.below' hw).cell 1; have y2 := (Y6.out.below' hw).cell 2; have c0 := (hw.cell (p := ⟨pb, po + j, none⟩) HPB.out).trans HC1.out; go_simp; try with_reducible rfl)
      try simp only [put_laws]
      refine wpAnyT_one (i := 22) (by kernel_rfl) rfl ?_
      intro K' hK'
      go_simp
      refine ((HWK.out w7 (HB6'.out.trans (hS.mono HB6'.out.size))).mono ?_)
      rintro e w8 ⟨rfl, hb⟩
      have HB8 := Lib.hid hb
      clear hb
      have hS := Below.trans hS (HB8.out.mono hS.size)
      refine hK'.out _ _ (.inr hS) ?_
      clear hK' K'
      try simp only [put_laws]
      refine wpAnyT_take (i := 23) (v := ?_) rfl (by kernel_rfl) (by kernel_rfl) (by kernel_rfl) (by kernel_rfl) (by kernel_rfl) (fun _ _ _ h => absurd rfl (h.1 _)) (.inl ⟨by kernel_rfl, ?_⟩) hS ?_
      rotate_left
      · (intro w' hw; have k0 := (K6.out.below' hw).cell 0; have k1 := (K6.out.below' hw).cell 1; have k2 := (K6.out.below' hw).cell 2; have k3 := (K6.out.below' hw).cell 3; have k4 := (K6.out.below' hw).cell 4; have k5 := (K6.out.below' hw).cell 5; have k6 := (K6.out.below' hw).cell 6; have k7 := (K6.out.below' hw).cell 7; have x0 := (X6.out.below' hw).cell 0; have x1 := (X6.out.below' hw).cell 1; have x2 := (X6.out.below' hw).cell 2; have x3 := (X6.out.below' hw).cell 3; have y0 := (Y6.out.below' hw).cell 0; have y1 := (Y6.out.below' hw).cell 1; have y2 := (Y6.out.below' hw).cell 2; have c0 := (hw.cell (p := ⟨pb, po + j, none⟩) HPB.out).trans HC1.out; go_simp; try with_reducible rfl)
      try simp only [put_laws]
      refine wpAnyT_one (i := 24) (by kernel_rfl) rfl ?_
      intro K' hK'
      go_simp
      refine hK'.out _ _ (.inl rfl) ?_
      clear hK' K'
      try simp only [put_laws]
      refine wpAnyT_done (by kernel_rfl) ?_ _
      refine ⟨fun x e => (by cases e), ?_⟩
      have HBZ := Lib.hid (HB6'.out.trans (hS.mono HB6'.out.size))
      go_wp2_with fail
      go_ret
      exact ⟨rfl, HBZ.out⟩
end
end Go.Proofs.YtnbeembnnjdmdaaGreatDoor
