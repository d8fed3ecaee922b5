/- What a possible history is in: plain laws; possible, walked. -/
import Derived.Test.YtnbeembnnjdmdaaGreatDoorG7
import Derived.Test.YtnbeembnnjdmdaaGreatDoorG2
import Derived.Test.YtnbeembnnjdmdaaGreatDoorLaH
import Derived.Test.YtnbeembnnjdmdaaGreatDoorG5
import Derived.Test.YtnbeembnnjdmdaaGreatDoorG12
import Derived.Test.YtnbeembnnjdmdaaGreatDoorG4
import Derived.Test.YtnbeembnnjdmdaaGreatDoorG1
namespace Go.Proofs.YtnbeembnnjdmdaaGreatDoor
open Go.RowKit Go.Maps

theorem anyTo_mem {L : List Int} {x : Int} : M.anyTo L.length (fun i => decide (L.getD i 0 = x)) = decide (x ∈ L) := by
  rw [Bool.eq_iff_iff, M.anyTo_iff, decide_eq_true_eq]
  constructor
  · rintro ⟨i, hi, h⟩
    have h := of_decide_eq_true h
    rw [List.getD_eq_getElem?_getD, List.getElem?_eq_getElem hi, Option.getD_some] at h
    rw [← h]
    exact List.getElem_mem hi
  · intro h
    obtain ⟨i, hi, rfl⟩ := List.getElem_of_mem h
    exact ⟨i, hi, decide_eq_true (by rw [List.getD_eq_getElem?_getD, List.getElem?_eq_getElem hi, Option.getD_some])⟩
section
variable {d : M.Dr} {at_ lo hi lw : Int} {xL : List Int} {hn n : Nat} {Xs : Nat → SgV} {f : Nat → Int}
/-- a possible history's leeway is among the leeways, its cells are among the places -/
theorem his_in (hm : 1 ≤ d.s.nt - at_.toNat) (h : M.hisB d at_.toNat (d.s.nt - at_.toNat) lo hi xL (fun i => (Xs i).sg) hn lw n f = true) :
    n = d.s.nt - at_.toNat ∧ lw ∈ leeL d at_ lo hi xL hn Xs ∧ ∀ i, i < d.s.nt - at_.toNat → f i ∈ plcL d at_.toNat (d.s.nt - at_.toNat) hn xL Xs lo hi i := by
  obtain ⟨h1, h2, h3⟩ := (M.hisB_iff hm).1 h
  have h3 : M.Hist d at_.toNat lw (fun c => xL.contains c) (trFit Xs hn at_.toNat (-1) 0) (d.s.nt - at_.toNat - 1) f := h3
  refine ⟨h2, ?_, fun i hi => ?_⟩
  · unfold leeL leeP
    exact M.mem_spanL.2 ⟨h1, M.posB_iff.2 ⟨f, h3⟩⟩
  · unfold plcL
    have hb := h3.bd i (by omega)
    exact M.mem_listB.2 ⟨hb, (plcB_iff hi hb).2 ⟨lw, f, h1, h3, rfl⟩⟩
end
section
variable {d : M.Dr} {zA cA wA dA tA sA xA hA pA : Option Addr} {cl : Nat → Nat} {B dc tc sc zc cc wc xc hn hc pn pc : Nat} {lo hi lw : Int} {xL : List Int} {Xs : Nat → SgV} {pf : Nat → Int} {w : World}
set_option maxRecDepth 100000 in
set_option maxHeartbeats 6400000 in
theorem possible_past (hd : d.Ok) (hcl : ∀ i, i < d.nz → cl i + 1 = d.s.nt) (hR : RdD w B dA tA sA zA cA wA d.s.nd d.s.nt d.s.nt d.s.nd d.nz (d.s.nt - 1) d.s.dep d.s.tide d.s.sw d.z cl d.cu d.wd) (hB : B ≤ w.heap.size) (hx3 : Rd1 w B xA xL.length (fun k => xL.getD k 0)) (hx4 : xL.length ≤ maxLen) (hRS : RdS w B hA hn Xs) (hhn : hn ≤ maxLen)
    (ta : Nat) (hta : ta < d.s.nt) (hlo : 0 ≤ lo) (hhi : hi ≤ 8) (hP : Rd1 w B pA pn pf) (hpn : pn ≤ maxLen) :
    Calls Tryz.prog 33 #[.agg #[.int .i64 (d.s.W : Int), .int .i64 (d.s.H : Int), .slice dA d.s.nd dc, .slice tA d.s.nt tc, .slice sA d.s.nt sc, .slice zA d.s.nd zc, .slice cA d.nz cc, .slice wA (d.s.nt - 1) wc], .agg #[.int .i64 (ta : Int), .slice xA xL.length xc, .int .i64 lo, .int .i64 hi], .agg #[.slice hA hn hc, .int .i64 lw, .slice pA pn pc]] w fun e w' => e = .returned (.bool (M.hisB d ta (d.s.nt - ta) lo hi xL (fun i => (Xs i).sg) hn lw pn pf)) ∧ Below w.heap.size w w' := by
  have hnt := hd.s.t2
  have HB0 := Lib.hid (belowAlloc3 w (.cells #[.int .i64 (d.s.W : Int), .int .i64 (d.s.H : Int), .slice dA d.s.nd dc, .slice tA d.s.nt tc, .slice sA d.s.nt sc, .slice zA d.s.nd zc, .slice cA d.nz cc, .slice wA (d.s.nt - 1) wc] 29) (.cells #[.int .i64 (ta : Int), .slice xA xL.length xc, .int .i64 lo, .int .i64 hi] 44) (.cells #[.slice hA hn hc, .int .i64 lw, .slice pA pn pc] 61))
  have K0 := Lib.hid (((Blk.new w 29 #[.int .i64 (d.s.W : Int), .int .i64 (d.s.H : Int), .slice dA d.s.nd dc, .slice tA d.s.nt tc, .slice sA d.s.nt sc, .slice zA d.s.nd zc, .slice cA d.nz cc, .slice wA (d.s.nt - 1) wc]).alloc (.cells #[.int .i64 (ta : Int), .slice xA xL.length xc, .int .i64 lo, .int .i64 hi] 44)).alloc (.cells #[.slice hA hn hc, .int .i64 lw, .slice pA pn pc] 61))
  have X0 := Lib.hid ((Blk.new1 w (.cells #[.int .i64 (d.s.W : Int), .int .i64 (d.s.H : Int), .slice dA d.s.nd dc, .slice tA d.s.nt tc, .slice sA d.s.nt sc, .slice zA d.s.nd zc, .slice cA d.nz cc, .slice wA (d.s.nt - 1) wc] 29) 44 #[.int .i64 (ta : Int), .slice xA xL.length xc, .int .i64 lo, .int .i64 hi]).alloc (.cells #[.slice hA hn hc, .int .i64 lw, .slice pA pn pc] 61))
  have Y0 := Lib.hid (Blk.new2 w (.cells #[.int .i64 (d.s.W : Int), .int .i64 (d.s.H : Int), .slice dA d.s.nd dc, .slice tA d.s.nt tc, .slice sA d.s.nt sc, .slice zA d.s.nd zc, .slice cA d.nz cc, .slice wA (d.s.nt - 1) wc] 29) (.cells #[.int .i64 (ta : Int), .slice xA xL.length xc, .int .i64 lo, .int .i64 hi] 44) 61 #[.slice hA hn hc, .int .i64 lw, .slice pA pn pc])
  have HIH := Lib.hid (fun (V : World) (hb : Below w.heap.size w V) (h80 : pn ≤ 80) (h0 : 0 < pn) => rishist_any (dc := dc) (tc := tc) (sc := sc) (zc := zc) (cc := cc) (wc := wc) (xc := xc) (hc := hc) (pc := pc) (lw := lw) hd hcl (hR.below (hb.mono hB)) (Nat.le_trans hB hb.size) (hx3.below (hb.mono hB)) hx4 (hRS.below (hb.mono hB)) hhn ta hta hlo hhi (hP.below (hb.mono hB)) h80 h0)
  have HQ1 := Lib.hid (show ¬ (pn ≤ 80 ∧ 0 < pn) → M.hisB d ta (d.s.nt - ta) lo hi xL (fun i => (Xs i).sg) hn lw pn pf = false from fun h => by
    cases hq : M.hisB d ta (d.s.nt - ta) lo hi xL (fun i => (Xs i).sg) hn lw pn pf
    · rfl
    · have := ((M.hisB_iff (by omega)).1 hq).2.1; omega)
  clear hR hx3 hRS hP hd hcl
  go_enter Tryz.func33, Tryz.ntmps33
  go_upto_region 1 with fail
  generalize ((w.alloc (.cells #[.int .i64 (d.s.W : Int), .int .i64 (d.s.H : Int), .slice dA d.s.nd dc, .slice tA d.s.nt tc, .slice sA d.s.nt sc, .slice zA d.s.nd zc, .slice cA d.nz cc, .slice wA (d.s.nt - 1) wc] 29)).alloc (.cells #[.int .i64 (ta : Int), .slice xA xL.length xc, .int .i64 lo, .int .i64 hi] 44)).alloc (.cells #[.slice hA hn hc, .int .i64 lw, .slice pA pn pc] 61) = X at HB0 K0 X0 Y0 ⊢
  simp only [Nat.add_assoc, Nat.reduceAdd] at Y0 ⊢
  have HHX := Lib.hid (fun h80 h0 => HIH.out X HB0.out h80 h0)
  have k0 := K0.out.cell 0
  have k1 := K0.out.cell 1
  have k2 := K0.out.cell 2
  have k3 := K0.out.cell 3
  have k4 := K0.out.cell 4
  have k5 := K0.out.cell 5
  have k6 := K0.out.cell 6
  have k7 := K0.out.cell 7
  have x0 := X0.out.cell 0
  have x1 := X0.out.cell 1
  have x2 := X0.out.cell 2
  have x3 := X0.out.cell 3
  have y0 := Y0.out.cell 0
  have y1 := Y0.out.cell 1
  have y2 := Y0.out.cell 2
  unfold maxLen at hpn
  by_cases h80 : pn ≤ 80
  · by_cases h0 : 0 < pn
    · have g1 : decide (pn ≤ 80) = true := decide_eq_true h80
      have HHY := Lib.hid (HHX.out h80 h0)
      clear HHX HIH HQ1
      go_wp2_with fail
      refine HHY.out.mono ?_
      rintro e w2 ⟨rfl, hb⟩
      have HBZ := Lib.hid (HB0.out.trans (hb.mono HB0.out.size))
      clear hb
      go_wp2_with fail
      go_ret
      exact ⟨rfl, HBZ.out⟩
    · have h0 : pn = 0 := by omega
      have HF := Lib.hid (HQ1.out (by omega))
      clear HHX HIH HQ1
      subst h0
      go_wp2_with fail
      go_ret
      exact ⟨ret_bool HF.out.symm, HB0.out⟩
  · have HF := Lib.hid (HQ1.out (by omega))
    have g1 : decide (pn ≤ 80) = false := decide_eq_false h80
    clear HHX HIH HQ1
    go_wp2_with fail
    go_ret
    exact ⟨ret_bool HF.out.symm, HB0.out⟩
end
end Go.Proofs.YtnbeembnnjdmdaaGreatDoor
/- DriftWithin, walked. -/
namespace Go.Proofs.YtnbeembnnjdmdaaGreatDoor
open Go.RowKit Go.Maps

theorem leeL_nil {d : M.Dr} {at_ lo hi : Int} {xL : List Int} {hn : Nat} {Xs : Nat → SgV} : leeL d at_ lo hi xL hn Xs = [] ↔ strP d at_ lo hi xL hn Xs 0 (-1) = false := by
  unfold leeL strP
  constructor
  · intro h
    cases hs : M.spanTo lo hi (leeP d at_.toNat (d.s.nt - at_.toNat) hn xL Xs (-1) 0)
    · rfl
    · obtain ⟨x, h1, h2, h3⟩ := M.spanTo_iff.1 hs
      have h4 := M.mem_spanL.2 ⟨⟨h1, h2⟩, h3⟩
      rw [h] at h4
      cases h4
  · intro h
    refine List.eq_nil_iff_forall_not_mem.2 fun x hx => ?_
    obtain ⟨⟨h1, h2⟩, h3⟩ := M.mem_spanL.1 hx
    rw [M.spanTo_iff.2 ⟨x, h1, h2, h3⟩] at h
    cases h
/-- rows of ints that can be read -/
structure Rws (W : World) (ow m : Nat) (U : Nat → Value) (pl : Nat → List Int) : Prop where
  lt : ow < W.heap.size
  c : ∀ k, k < m → W.cell? ⟨ow, k, none⟩ = some (U k)
  r : ∀ k, k < m → ∃ A c, U k = .slice A (pl k).length c ∧ Rd1 W W.heap.size A (pl k).length (fun j => (pl k).getD j 0)
theorem Rws.below {W W' : World} {ow m : Nat} {U : Nat → Value} {pl : Nat → List Int} (h : Rws W ow m U pl) (hb : Below W.heap.size W W') : Rws W' ow m U pl :=
  ⟨Nat.lt_of_lt_of_le h.lt hb.size, fun k hk => (hb.cell (p := ⟨ow, k, none⟩) h.lt).trans (h.c k hk), fun k hk => by
    obtain ⟨A, c, e, hr⟩ := h.r k hk
    exact ⟨A, c, e, (hr.below hb).more hb.size⟩⟩
section
variable {d : M.Dr} {zA cA wA dA tA sA xA hA : Option Addr} {cl : Nat → Nat} {B dc tc sc zc cc wc xc hn hc ta : Nat} {lo hi : Int} {xL : List Int} {Xs : Nat → SgV} {w : World}
theorem plcs_rows (hd : d.Ok) (hcl : ∀ i, i < d.nz → cl i + 1 = d.s.nt) (hR : RdD w B dA tA sA zA cA wA d.s.nd d.s.nt d.s.nt d.s.nd d.nz (d.s.nt - 1) d.s.dep d.s.tide d.s.sw d.z cl d.cu d.wd) (hB : B ≤ w.heap.size) (hW : Ways w)
    (hx3 : Rd1 w B xA xL.length (fun k => xL.getD k 0)) (hx4 : xL.length ≤ maxLen) (hRS : RdS w B hA hn Xs) (hhn : hn ≤ maxLen) (hF : Fre w) (hX : chkX d.s.nd d.s.nt (ta : Int) lo hi xL = true) (hS : chkS d.s.nd d.s.nt (ta : Int) hn Xs = true) :
    Calls Tryz.prog 31 #[.agg #[.int .i64 (d.s.W : Int), .int .i64 (d.s.H : Int), .slice dA d.s.nd dc, .slice tA d.s.nt tc, .slice sA d.s.nt sc, .slice zA d.s.nd zc, .slice cA d.nz cc, .slice wA (d.s.nt - 1) wc], .agg #[.int .i64 (ta : Int), .slice xA xL.length xc, .int .i64 lo, .int .i64 hi], .slice hA hn hc] w fun e w' => Below w.heap.size w w' ∧ ((strP d (ta : Int) lo hi xL hn Xs 0 (-1) = false ∧ e = .returned (.tuple #[.slice none 0 0, .int .i64 3])) ∨
      (strP d (ta : Int) lo hi xL hn Xs 0 (-1) = true ∧ ∃ ow U, e = .returned (.tuple #[.slice (some ⟨ow, 0, none⟩) (d.s.nt - ta) (d.s.nt - ta), .int .i64 0]) ∧ Rws w' ow (d.s.nt - ta) U (plcL d ta (d.s.nt - ta) hn xL Xs lo hi))) :=
  (places_ok (dc := dc) (tc := tc) (sc := sc) (zc := zc) (cc := cc) (wc := wc) (xc := xc) (hc := hc) hd hcl hR hB hW hx3 hx4 hRS hhn hF hX hS).mono fun e w' h => ⟨h.1, h.2.imp (fun ⟨h1, h2⟩ => ⟨leeL_nil.1 h1, h2⟩) fun ⟨h1, ow, U, h2, h3, h4⟩ => ⟨by
    cases hq : strP d (ta : Int) lo hi xL hn Xs 0 (-1)
    · exact absurd (leeL_nil.2 hq) h1
    · rfl, ow, U, h2, (Own.block (g := ow) h3 rfl).2, fun k hk => Own.cell1 h3 hk, fun k hk => by
      have h5 := h4 k hk
      obtain ⟨A, c, e⟩ := Own.form h5
      refine ⟨A, c, e, ?_⟩
      rw [e] at h5
      exact IL.rd h5⟩⟩
theorem lees_list (hd : d.Ok) (hcl : ∀ i, i < d.nz → cl i + 1 = d.s.nt) (hR : RdD w B dA tA sA zA cA wA d.s.nd d.s.nt d.s.nt d.s.nd d.nz (d.s.nt - 1) d.s.dep d.s.tide d.s.sw d.z cl d.cu d.wd) (hB : B ≤ w.heap.size) (hW : Ways w)
    (hx3 : Rd1 w B xA xL.length (fun k => xL.getD k 0)) (hx4 : xL.length ≤ maxLen) (hRS : RdS w B hA hn Xs) (hhn : hn ≤ maxLen) (hF : Fre w) (hX : chkX d.s.nd d.s.nt (ta : Int) lo hi xL = true) (hS : chkS d.s.nd d.s.nt (ta : Int) hn Xs = true) :
    Calls Tryz.prog 32 #[.agg #[.int .i64 (d.s.W : Int), .int .i64 (d.s.H : Int), .slice dA d.s.nd dc, .slice tA d.s.nt tc, .slice sA d.s.nt sc, .slice zA d.s.nd zc, .slice cA d.nz cc, .slice wA (d.s.nt - 1) wc], .agg #[.int .i64 (ta : Int), .slice xA xL.length xc, .int .i64 lo, .int .i64 hi], .slice hA hn hc] w fun e w' => Below w.heap.size w w' ∧ ((strP d (ta : Int) lo hi xL hn Xs 0 (-1) = false ∧ e = .returned (.tuple #[.slice none 0 0, .int .i64 3])) ∨
      (strP d (ta : Int) lo hi xL hn Xs 0 (-1) = true ∧ ∃ A c, e = .returned (.tuple #[.slice A (leeL d (ta : Int) lo hi xL hn Xs).length c, .int .i64 0]) ∧ Rd1 w' w'.heap.size A (leeL d (ta : Int) lo hi xL hn Xs).length (fun j => (leeL d (ta : Int) lo hi xL hn Xs).getD j 0))) :=
  (leeways_ok (dc := dc) (tc := tc) (sc := sc) (zc := zc) (cc := cc) (wc := wc) (xc := xc) (hc := hc) hd hcl hR hB hW hx3 hx4 hRS hhn hF hX hS).mono fun e w' h => ⟨h.1, h.2.imp (fun ⟨h1, h2⟩ => ⟨leeL_nil.1 h1, h2⟩) fun ⟨h1, v, h2, h3⟩ => ⟨by
    cases hq : strP d (ta : Int) lo hi xL hn Xs 0 (-1)
    · exact absurd (leeL_nil.2 hq) h1
    · rfl, by
      obtain ⟨A, c, e⟩ := Own.form h3
      subst e
      exact ⟨A, c, h2, IL.rd h3⟩⟩⟩
end
section
variable {d : M.Dr} {ta hn j : Nat} {c t l lo hi : Int} {xL : List Int} {Xs : Nat → SgV} {f : Nat → Int}
theorem fit_sub {i : Nat} {x : Int} (h : trFit Xs hn ta t c i x = true) : trFit Xs hn ta (-1) 0 i x = true := by
  unfold trFit M.fitF at *
  rw [Bool.and_eq_true] at *
  refine ⟨h.1, ?_⟩
  unfold M.fixB
  rw [decide_eq_false (show ¬ ((ta : Int) + i = -1) by omega)]; rfl
theorem fit_at (h : trFit Xs hn ta t c j (f j) = true) (ht : t = ta + j) : f j = c := by
  unfold trFit M.fitF at h
  rw [Bool.and_eq_true] at h
  have h2 := h.2
  unfold M.fixB at h2
  rw [decide_eq_true ht.symm] at h2
  simpa using h2
theorem strP_iff {n : Nat} {ft fc : Int} : M.spanTo lo hi (leeP d ta n hn xL Xs ft fc) = true ↔ ∃ l f, (lo ≤ l ∧ l ≤ hi) ∧ M.Hist d ta l (fun c => xL.contains c) (trFit Xs hn ta ft fc) (n - 1) f := by
  unfold leeP
  exact spanTo_posB
theorem strP_free (h : strP d (ta : Int) lo hi xL hn Xs c t = true) : strP d (ta : Int) lo hi xL hn Xs 0 (-1) = true := by
  unfold strP at *
  rw [Int.toNat_natCast] at *
  obtain ⟨l, f, h1, h2⟩ := strP_iff.1 h
  exact strP_iff.2 ⟨l, f, h1, h2.mono rfl (fun _ hc => hc) (fun _ _ _ hc => fit_sub hc) (fun _ _ _ _ hc => hc)⟩
theorem strP_at (hj : j < d.s.nt - ta) (ht : t = ta + j) (hc : -1 ≤ c ∧ c < d.s.nd) : strP d (ta : Int) lo hi xL hn Xs c t = true ↔ c ∈ plcL d ta (d.s.nt - ta) hn xL Xs lo hi j := by
  unfold strP plcL
  rw [Int.toNat_natCast, strP_iff, M.mem_listB, plcB_iff hj hc]
  constructor
  · rintro ⟨l, f, h1, h2⟩
    exact ⟨hc, l, f, h1, h2.mono rfl (fun _ hc => hc) (fun _ _ _ hc => fit_sub hc) (fun _ _ _ _ hc => hc), fit_at (h2.fit j (by omega)) ht⟩
  · rintro ⟨_, l, f, h1, h2, h3⟩
    refine ⟨l, f, h1, h2.bd, h2.x0, fun i hi => ?_, h2.go⟩
    have h4 := h2.fit i hi
    unfold trFit M.fitF at *
    rw [Bool.and_eq_true] at *
    refine ⟨h4.1, ?_⟩
    unfold M.fixB
    by_cases e : i = j
    · subst e; rw [decide_eq_true h3]; simp
    · rw [decide_eq_false (show ¬ ((ta : Int) + i = t) by omega)]; rfl
theorem his_of {n : Nat} (hm : 1 ≤ d.s.nt - ta) (h1 : lo ≤ l ∧ l ≤ hi) (hn1 : n = d.s.nt - ta) (h2 : M.Hist d ta l (fun c => xL.contains c) (trFit Xs hn ta t c) (d.s.nt - ta - 1) f) : M.hisB d ta (d.s.nt - ta) lo hi xL (fun i => (Xs i).sg) hn l n f = true :=
  (M.hisB_iff hm).2 ⟨h1, hn1, h2.mono rfl (fun _ hc => hc) (fun _ _ _ hc => fit_sub hc) (fun _ _ _ _ hc => hc)⟩
end
end Go.Proofs.YtnbeembnnjdmdaaGreatDoor
