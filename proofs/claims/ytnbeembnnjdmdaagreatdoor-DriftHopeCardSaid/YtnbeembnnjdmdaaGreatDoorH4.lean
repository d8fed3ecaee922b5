/- What a possible history is in: plain laws; possible, walked. -/
import Derived.Test.YtnbeembnnjdmdaaGreatDoorLaH
import Derived.Test.YtnbeembnnjdmdaaGreatDoorG12
import Derived.Test.YtnbeembnnjdmdaaGreatDoorD31
import Derived.Test.YtnbeembnnjdmdaaGreatDoorCp
import Derived.Test.YtnbeembnnjdmdaaGreatDoorG3
import Derived.Test.YtnbeembnnjdmdaaGreatDoorD27
import Derived.Test.YtnbeembnnjdmdaaGreatDoorE9
import Derived.Test.YtnbeembnnjdmdaaGreatDoorG7
import Derived.Test.YtnbeembnnjdmdaaGreatDoorG2
import Derived.Test.YtnbeembnnjdmdaaGreatDoorG5
import Derived.Test.YtnbeembnnjdmdaaGreatDoorG4
namespace Go.Proofs.YtnbeembnnjdmdaaGreatDoor
open Go.RowKit Go.Maps

section
variable {d : M.Dr} {at_ lo hi lw : Int} {xL : List Int} {hn n : Nat} {Xs : Nat → SgV} {f : Nat → Int}
/-- a possible history's leeway is among the leeways, its cells are among the places -/
theorem his_in (hm : 1 ≤ d.s.nt - at_.toNat) (h : M.hisB d at_.toNat (d.s.nt - at_.toNat) lo hi xL (fun i => (Xs i).sg) hn lw n f = true) :
    n = d.s.nt - at_.toNat ∧ lw ∈ leeL d at_ lo hi xL hn Xs ∧ ∀ i, i < d.s.nt - at_.toNat → f i ∈ plcL d at_.toNat (d.s.nt - at_.toNat) hn xL Xs lo hi i := by
  obtain ⟨h1, h2, h3⟩ := (M.hisB_iff hm).1 h
  have h3 : M.Hist d at_.toNat lw (fun c => xL.contains c) (trFit Xs hn at_.toNat (-1) 0) (d.s.nt - at_.toNat - 1) f := h3
  refine ⟨h2, ?_, fun i hi => ?_⟩
  · unfold leeL leeP
    exact M.mem_spanL.2 ⟨h1, M.posB_iff.2 ⟨f, h3⟩⟩
  · unfold plcL
    have hb := h3.bd i (by omega)
    exact M.mem_listB.2 ⟨hb, (plcB_iff hi hb).2 ⟨lw, f, h1, h3, rfl⟩⟩
end
section
variable {d : M.Dr} {zA cA wA dA tA sA xA hA pA : Option Addr} {cl : Nat → Nat} {B dc tc sc zc cc wc xc hn hc pn pc : Nat} {lo hi lw : Int} {xL : List Int} {Xs : Nat → SgV} {pf : Nat → Int} {w : World}
set_option maxRecDepth 100000 in
set_option maxHeartbeats 6400000 in
theorem possible_past (hd : d.Ok) (hcl : ∀ i, i < d.nz → cl i + 1 = d.s.nt) (hR : RdD w B dA tA sA zA cA wA d.s.nd d.s.nt d.s.nt d.s.nd d.nz (d.s.nt - 1) d.s.dep d.s.tide d.s.sw d.z cl d.cu d.wd) (hB : B ≤ w.heap.size) (hx3 : Rd1 w B xA xL.length (fun k => xL.getD k 0)) (hx4 : xL.length ≤ maxLen) (hRS : RdS w B hA hn Xs) (hhn : hn ≤ maxLen)
    (ta : Nat) (hta : ta < d.s.nt) (hlo : 0 ≤ lo) (hhi : hi ≤ 8) (hP : Rd1 w B pA pn pf) (hpn : pn ≤ maxLen) :
    Calls Tryz.prog 33 #[.agg #[.int .i64 (d.s.W : Int), .int .i64 (d.s.H : Int), .slice dA d.s.nd dc, .slice tA d.s.nt tc, .slice sA d.s.nt sc, .slice zA d.s.nd zc, .slice cA d.nz cc, .slice wA (d.s.nt - 1) wc], .agg #[.int .i64 (ta : Int), .slice xA xL.length xc, .int .i64 lo, .int .i64 hi], .agg #[.slice hA hn hc, .int .i64 lw, .slice pA pn pc]] w fun e w' => e = .returned (.bool (M.hisB d ta (d.s.nt - ta) lo hi xL (fun i => (Xs i).sg) hn lw pn pf)) ∧ Below w.heap.size w w' := by
  have hnt := hd.s.t2
  have HB0 := Lib.hid (belowAlloc3 w (.cells #[.int .i64 (d.s.W : Int), .int .i64 (d.s.H : Int), .slice dA d.s.nd dc, .slice tA d.s.nt tc, .slice sA d.s.nt sc, .slice zA d.s.nd zc, .slice cA d.nz cc, .slice wA (d.s.nt - 1) wc] 29) (.cells #[.int .i64 (ta : Int), .slice xA xL.length xc, .int .i64 lo, .int .i64 hi] 44) (.cells #[.slice hA hn hc, .int .i64 lw, .slice pA pn pc] 61))
  have K0 := Lib.hid (((Blk.new w 29 #[.int .i64 (d.s.W : Int), .int .i64 (d.s.H : Int), .slice dA d.s.nd dc, .slice tA d.s.nt tc, .slice sA d.s.nt sc, .slice zA d.s.nd zc, .slice cA d.nz cc, .slice wA (d.s.nt - 1) wc]).alloc (.cells #[.int .i64 (ta : Int), .slice xA xL.length xc, .int .i64 lo, .int .i64 hi] 44)).alloc (.cells #[.slice hA hn hc, .int .i64 lw, .slice pA pn pc] 61))
  have X0 := Lib.hid ((Blk.new1 w (.cells #[.int .i64 (d.s.W : Int), .int .i64 (d.s.H : Int), .slice dA d.s.nd dc, .slice tA d.s.nt tc, .slice sA d.s.nt sc, .slice zA d.s.nd zc, .slice cA d.nz cc, .slice wA (d.s.nt - 1) wc] 29) 44 #[.int .i64 (ta : Int), .slice xA xL.length xc, .int .i64 lo, .int .i64 hi]).alloc (.cells #[.slice hA hn hc, .int .i64 lw, .slice pA pn pc] 61))
  have Y0 := Lib.hid (Blk.new2 w (.cells #[.int .i64 (d.s.W : Int), .int .i64 (d.s.H : Int), .slice dA d.s.nd dc, .slice tA d.s.nt tc, .slice sA d.s.nt sc, .slice zA d.s.nd zc, .slice cA d.nz cc, .slice wA (d.s.nt - 1) wc] 29) (.cells #[.int .i64 (ta : Int), .slice xA xL.length xc, .int .i64 lo, .int .i64 hi] 44) 61 #[.slice hA hn hc, .int .i64 lw, .slice pA pn pc])
  have HIH := Lib.hid (fun (V : World) (hb : Below w.heap.size w V) (h80 : pn ≤ 80) (h0 : 0 < pn) => rishist_any (dc := dc) (tc := tc) (sc := sc) (zc := zc) (cc := cc) (wc := wc) (xc := xc) (hc := hc) (pc := pc) (lw := lw) hd hcl (hR.below (hb.mono hB)) (Nat.le_trans hB hb.size) (hx3.below (hb.mono hB)) hx4 (hRS.below (hb.mono hB)) hhn ta hta hlo hhi (hP.below (hb.mono hB)) h80 h0)
  have HQ1 := Lib.hid (show ¬ (pn ≤ 80 ∧ 0 < pn) → M.hisB d ta (d.s.nt - ta) lo hi xL (fun i => (Xs i).sg) hn lw pn pf = false from fun h => by
    cases hq : M.hisB d ta (d.s.nt - ta) lo hi xL (fun i => (Xs i).sg) hn lw pn pf
    · rfl
    · have := ((M.hisB_iff (by omega)).1 hq).2.1; omega)
  clear hR hx3 hRS hP hd hcl
  go_enter Tryz.func33, Tryz.ntmps33
  go_upto_region 1 with fail
  generalize ((w.alloc (.cells #[.int .i64 (d.s.W : Int), .int .i64 (d.s.H : Int), .slice dA d.s.nd dc, .slice tA d.s.nt tc, .slice sA d.s.nt sc, .slice zA d.s.nd zc, .slice cA d.nz cc, .slice wA (d.s.nt - 1) wc] 29)).alloc (.cells #[.int .i64 (ta : Int), .slice xA xL.length xc, .int .i64 lo, .int .i64 hi] 44)).alloc (.cells #[.slice hA hn hc, .int .i64 lw, .slice pA pn pc] 61) = X at HB0 K0 X0 Y0 ⊢
  simp only [Nat.add_assoc, Nat.reduceAdd] at Y0 ⊢
  have HHX := Lib.hid (fun h80 h0 => HIH.out X HB0.out h80 h0)
  have k0 := K0.out.cell 0
  have k1 := K0.out.cell 1
  have k2 := K0.out.cell 2
  have k3 := K0.out.cell 3
  have k4 := K0.out.cell 4
  have k5 := K0.out.cell 5
  have k6 := K0.out.cell 6
  have k7 := K0.out.cell 7
  have x0 := X0.out.cell 0
  have x1 := X0.out.cell 1
  have x2 := X0.out.cell 2
  have x3 := X0.out.cell 3
  have y0 := Y0.out.cell 0
  have y1 := Y0.out.cell 1
  have y2 := Y0.out.cell 2
  unfold maxLen at hpn
  by_cases h80 : pn ≤ 80
  · by_cases h0 : 0 < pn
    · have g1 : decide (pn ≤ 80) = true := decide_eq_true h80
      have HHY := Lib.hid (HHX.out h80 h0)
      clear HHX HIH HQ1
      go_wp2_with fail
      refine HHY.out.mono ?_
      rintro e w2 ⟨rfl, hb⟩
      have HBZ := Lib.hid (HB0.out.trans (hb.mono HB0.out.size))
      clear hb
      go_wp2_with fail
      go_ret
      exact ⟨rfl, HBZ.out⟩
    · have h0 : pn = 0 := by omega
      have HF := Lib.hid (HQ1.out (by omega))
      clear HHX HIH HQ1
      subst h0
      go_wp2_with fail
      go_ret
      exact ⟨ret_bool HF.out.symm, HB0.out⟩
  · have HF := Lib.hid (HQ1.out (by omega))
    have g1 : decide (pn ≤ 80) = false := decide_eq_false h80
    clear HHX HIH HQ1
    go_wp2_with fail
    go_ret
    exact ⟨ret_bool HF.out.symm, HB0.out⟩
end
end Go.Proofs.YtnbeembnnjdmdaaGreatDoor
/- DriftWithin, walked. -/
namespace Go.Proofs.YtnbeembnnjdmdaaGreatDoor
open Go.RowKit Go.Maps

section
variable {d : M.Dr} {zA cA wA dA tA sA xA hA : Option Addr} {cl : Nat → Nat} {B dc tc sc zc cc wc xc hn hc ta : Nat} {lo hi : Int} {xL : List Int} {Xs : Nat → SgV} {w : World}
end
section
variable {d : M.Dr} {ta hn j : Nat} {c t l lo hi : Int} {xL : List Int} {Xs : Nat → SgV} {f : Nat → Int}
end
end Go.Proofs.YtnbeembnnjdmdaaGreatDoor
