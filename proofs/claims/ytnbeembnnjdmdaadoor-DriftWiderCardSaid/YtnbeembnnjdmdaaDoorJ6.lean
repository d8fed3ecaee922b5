/- drift: Places, Leeways and Conflict of what is not valid. -/
import Derived.Test.YtnbeembnnjdmdaaDoorD31
import Derived.Test.YtnbeembnnjdmdaaDoorG3
import Derived.Test.YtnbeembnnjdmdaaDoorG8
import Derived.Test.YtnbeembnnjdmdaaDoorE10
namespace Go.Proofs.YtnbeembnnjdmdaaDoor
open Go.RowKit Go.Maps

section
variable {W H : Int} {dA tA sA zA cA wA xA hA : Option Addr} {nd dc nt tc ns sc zn zc cn cc wn wc xc hn hc B : Nat} {at_ lo hi : Int} {dep : Nat → Int} {tide : Nat → Nat → Int} {sw z : Nat → Int} {cl : Nat → Nat} {cu : Nat → Nat → Nat → Int} {wd : Nat → Nat → Int} {xL : List Int} {Xs : Nat → SgV} {w : World}
theorem begin_err (hnd : nd ≤ maxLen) (hnt : nt ≤ maxLen) (hns : ns ≤ maxLen) (hzn : zn ≤ maxLen) (hcn : cn ≤ maxLen) (hwn : wn ≤ maxLen) (hR : RdD w B dA tA sA zA cA wA nd nt ns zn cn wn dep tide sw z cl cu wd) (hB : B ≤ w.heap.size) (hW : Ways w)
  (hx3 : Rd1 w B xA xL.length (fun k => xL.getD k 0)) (hx4 : xL.length ≤ maxLen) (hRS : RdS w B hA hn Xs) (hhn : hn ≤ maxLen) (hE : (begE (M.chkD (M.chkC W H nd nt ns dep tide sw) nd nt zn cn wn z cl cu wd) (chkX nd nt at_ lo hi xL) (chkS nd nt at_ hn Xs)) ≠ 0) :
  Calls Tryd.prog 20 #[.agg #[.int .i64 W, .int .i64 H, .slice dA nd dc, .slice tA nt tc, .slice sA ns sc, .slice zA zn zc, .slice cA cn cc, .slice wA wn wc], .agg #[.int .i64 at_, .slice xA xL.length xc, .int .i64 lo, .int .i64 hi], .slice hA hn hc] w fun e w' => e = .returned (.tuple #[.agg #[.pointer none, .int .i64 0, .slice none 0 0, .int .i64 0, .int .i64 0, .slice none 0 0], .int .i64 (begE (M.chkD (M.chkC W H nd nt ns dep tide sw) nd nt zn cn wn z cl cu wd) (chkX nd nt at_ lo hi xL) (chkS nd nt at_ hn Xs))]) ∧ Below w.heap.size w w' := by
 cases hq : M.chkD (M.chkC W H nd nt ns dep tide sw) nd nt zn cn wn z cl cu wd
 · exact begin_bad hnd hnt hns hzn hcn hwn hR hB hq
 ·
  obtain ⟨d, hd, rfl, rfl, rfl, rfl, rfl, rfl, rfl, rfl, rfl, rfl, rfl, rfl, rfl, rfl, hcl⟩ := M.chkD_form hq
  rw [hq] at hE
  refine (begin_ok (at_ := at_) (lo := lo) (hi := hi) (xc := xc) (hc := hc) (dc := dc) (tc := tc) (sc := sc) (zc := zc) (cc := cc) (wc := wc) hd hcl hR hB hW hx3 hx4 hRS hhn).mono fun e w' h => ?_
  obtain ⟨hb, h⟩ := h
  rcases h with ⟨h1, h2⟩ | ⟨h1, h2, h3⟩ | ⟨h1, h2, _⟩
  ·
   rw [h1]
   exact ⟨h2, hb⟩
  ·
   rw [h1, h2]
   exact ⟨h3, hb⟩
  ·
   rw [h1, h2] at hE
   exact absurd rfl hE
end
end Go.Proofs.YtnbeembnnjdmdaaDoor
/- coblelaw02.copied; what the program and the reference answer for any drift, drifter and sightings. -/
namespace Go.Proofs.YtnbeembnnjdmdaaDoor
open Go.RowKit Go.Maps

section
variable {xA : Option Addr} {n xc B : Nat} {f : Nat → Int} {at_ lo hi : Int} {w : World}
set_option maxRecDepth 100000 in
theorem rcopied_any (hx : Rd1 w B xA n f) (hn : n ≤ 1048576) (hB : B ≤ w.heap.size) :
  Calls Tryd.prog 8 #[.agg #[.int .i64 at_, .slice xA n xc, .int .i64 lo, .int .i64 hi]] w fun e w' => (∃ A c, e = .returned (.agg #[.int .i64 at_, .slice A n c, .int .i64 lo, .int .i64 hi]) ∧ Own w' w.heap.size 3 1 (.slice A n c) n (ints f)) ∧ Below w.heap.size w w' := by
 have HB0 := Lib.hid (belowAlloc2 w (.cells #[.int .i64 at_, .slice xA n xc, .int .i64 lo, .int .i64 hi] 33) (.cells #[.int .i64 0, .slice none 0 0, .int .i64 0, .int .i64 0] 33))
 have K0 := Lib.hid ((Blk.new w 33 #[.int .i64 at_, .slice xA n xc, .int .i64 lo, .int .i64 hi]).alloc (.cells #[.int .i64 0, .slice none 0 0, .int .i64 0, .int .i64 0] 33))
 have Z0 := Lib.hid (Blk.new1 w (.cells #[.int .i64 at_, .slice xA n xc, .int .i64 lo, .int .i64 hi] 33) 33 #[.int .i64 0, .slice none 0 0, .int .i64 0, .int .i64 0])
 have HR := Lib.hid (show RdV ((w.alloc (.cells #[.int .i64 at_, .slice xA n xc, .int .i64 lo, .int .i64 hi] 33)).alloc (.cells #[.int .i64 0, .slice none 0 0, .int .i64 0, .int .i64 0] 33)) w.heap.size xA 1 n (ints f) from by
  rcases (hx.more hB).below HB0.out with h | ⟨b, off, e, hb, hc⟩
  · exact .inl h
  ·
   refine .inr ⟨b, off, e, hb, fun i j hi hj => ?_⟩
   obtain rfl : j = 0 := by omega
   rw [Nat.mul_one, Nat.add_zero]
   exact hc i hi)
 have hsz : ((w.alloc (.cells #[.int .i64 at_, .slice xA n xc, .int .i64 lo, .int .i64 hi] 33)).alloc (.cells #[.int .i64 0, .slice none 0 0, .int .i64 0, .int .i64 0] 33)).heap.size = w.heap.size + 2 := by simp
 obtain ⟨i0, ji, jz0, jz1, jz2⟩ := info_parts int_info
 have MI := Lib.hid (And.intro ji (And.intro jz0 (And.intro jz1 jz2)))
 clear ji jz0 jz1 jz2 hx hB
 go_enter Tryd.func8, Tryd.ntmps8
 go_upto_region 1 with fail
 generalize (w.alloc (.cells #[.int .i64 at_, .slice xA n xc, .int .i64 lo, .int .i64 hi] 33)).alloc (.cells #[.int .i64 0, .slice none 0 0, .int .i64 0, .int .i64 0] 33) = X at HB0 K0 Z0 HR hsz ⊢
 have HSZ := Lib.hid (show w.heap.size + 2 ≤ X.heap.size by omega)
 clear hsz
 have k1 := K0.out.cell 1
 have hk := K0.out.lt
 go_upto_region 2 with (at_builtin; go_must (refine wpList_copy rfl (.tmp 3) (.tmp 5) 22 rfl 3 i0 _ 1 8 Tryd.underlying22 MI.out.1 MI.out.2.1 MI.out.2.2.1 MI.out.2.2.2 rfl (by decide) (by decide) (g := X.heap.size) rfl (Blk.new X 3 #[]) (fun _ _ => rfl) rfl (HR.out.below ((belowAlloc X _).mono HB0.out.size)) (by omega) ?_); intro A7 z7 w7 o7 hb7; have B7 := Lib.hid (show Below X.heap.size X w7 from (belowAlloc X _).trans (hb7.mono (by simp))); have O7 := Lib.hid o7; have K7 := Lib.hid (K0.out.below' B7.out); have Z7 := Lib.hid (Z0.out.below' B7.out); clear o7 hb7 k1; have k1 := K7.out.cell 1; have f1 := K7.out.frz 1)
 clear k1 f1
 have K8 := Lib.hid (show Blk (w7.setCell ⟨w.heap.size, 1, none⟩ (.slice A7 n z7)) w.heap.size 33 #[.int .i64 at_, .slice A7 n z7, .int .i64 lo, .int .i64 hi] from K7.out.set_ 1 (.slice A7 n z7))
 have Z8 := Lib.hid (Z7.out.far (p := ⟨w.heap.size, 1, none⟩) (show w.heap.size + 1 ≠ w.heap.size by omega) (.slice A7 n z7))
 have O8 := Lib.hid (Own.setCell (p := ⟨w.heap.size, 1, none⟩) O7.out (Own.ne_blk O7.out K7.out (by decide)) (.slice A7 n z7))
 have B8 := Lib.hid ((HB0.out.trans (B7.out.mono HB0.out.size)).setCell (p := ⟨w.heap.size, 1, none⟩) (Nat.le_refl _) (.slice A7 n z7))
 generalize w7.setCell ⟨w.heap.size, 1, none⟩ (.slice A7 n z7) = Y at K8 Z8 O8 B8 ⊢
 clear K7 Z7 O7 B7 K0 Z0 HB0 HR
 have k0 := K8.out.cell 0
 have k1 := K8.out.cell 1
 have k2 := K8.out.cell 2
 have k3 := K8.out.cell 3
 have z0 := Z8.out.cell 0
 have z1 := Z8.out.cell 1
 have z2 := Z8.out.cell 2
 have z3 := Z8.out.cell 3
 have f0 := Z8.out.frz 0
 have f1 := Z8.out.frz 1
 have f2 := Z8.out.frz 2
 have f3 := Z8.out.frz 3
 have hl := Z8.out.lt
 go_wp2_with fail
 have RZ : Blk ((((Y.setCell ⟨w.heap.size + 1, 0, none⟩ (.int .i64 at_)).setCell ⟨w.heap.size + 1, 1, none⟩ (.slice A7 n z7)).setCell ⟨w.heap.size + 1, 2, none⟩ (.int .i64 lo)).setCell ⟨w.heap.size + 1, 3, none⟩ (.int .i64 hi)) (w.heap.size + 1) 33 #[.int .i64 at_, .slice A7 n z7, .int .i64 lo, .int .i64 hi] := (((Z8.out.set_ 0 _).set_ 1 _).set_ 2 _).set_ 3 _
 have hgr : Y.grownBy ((((Y.setCell ⟨w.heap.size + 1, 0, none⟩ (.int .i64 at_)).setCell ⟨w.heap.size + 1, 1, none⟩ (.slice A7 n z7)).setCell ⟨w.heap.size + 1, 2, none⟩ (.int .i64 lo)).setCell ⟨w.heap.size + 1, 3, none⟩ (.int .i64 hi)) (some (w.heap.size + 1)) := gset (gset (gset (gset (World.grownBy.refl _ _))))
 refine bodyPost_ret (results_cell_row rfl _ _ (w.heap.size + 1) 33 #[.int .i64 at_, .slice A7 n z7, .int .i64 lo, .int .i64 hi] (0, 0) _ rfl RZ Tryd.underlying33 rfl drifter_size) rfl ⟨⟨A7, z7, rfl, ?_⟩, B8.out.grown hgr B8.out.size fun r e => by cases e; omega⟩
 exact (Own.less O8.out (by have := HSZ.out; omega)).grown hgr (.inr (Own.ne_blk O8.out Z8.out (by decide)))
end
/-- a list of numbers that can be read -/
def LstV (V : World) (v : Value) (L : List Int) : Prop := ∃ A c, v = .slice A L.length c ∧ Rd1 V V.heap.size A L.length (fun i => L.getD i 0)
theorem LstV.nil_ (V : World) : LstV V (.slice none 0 0) [] := ⟨none, 0, rfl, .inl rfl⟩
theorem LstV.below {V V' : World} {v : Value} {L : List Int} (h : LstV V v L) (hb : Below V.heap.size V V') : LstV V' v L := by
 obtain ⟨A, c, e, hr⟩ := h
 exact ⟨A, c, e, (hr.below hb).more hb.size⟩
theorem LstV.of_il {V : World} {B : Nat} {v : Value} {L : List Int} (h : IL V B v L) : LstV V v L := by
 obtain ⟨A, c, rfl⟩ := Own.form h
 exact ⟨A, c, rfl, IL.rd h⟩
/-- the same sightings, their cells elsewhere -/
theorem chkS_at {nd nt hn : Nat} {at_ : Int} {Xs : Nat → SgV} {U : Nat → Value} : chkS nd nt at_ hn (fun i => (Xs i).at_ (U i)) = chkS nd nt at_ hn Xs := by
 unfold chkS
 simp only [SgV.at_tk, SgV.at_L]
theorem trFit_at {hn ta : Nat} {ft fc : Int} {Xs : Nat → SgV} {U : Nat → Value} : trFit (fun i => (Xs i).at_ (U i)) hn ta ft fc = trFit Xs hn ta ft fc := by
 unfold trFit
 simp only [SgV.at_sg]
theorem leeP_at_ {d : M.Dr} {ta n hn : Nat} {xL : List Int} {ft fc : Int} {Xs : Nat → SgV} {U : Nat → Value} : leeP d ta n hn xL (fun i => (Xs i).at_ (U i)) ft fc = leeP d ta n hn xL Xs ft fc := by
 unfold leeP
 rw [trFit_at]
/-- what is valid, in numbers that are not below 0 -/
theorem beg_ok {W H : Int} {nd nt ns zn cn wn hn : Nat} {at_ lo hi : Int} {dep : Nat → Int} {tide : Nat → Nat → Int} {sw z : Nat → Int} {cl : Nat → Nat} {cu : Nat → Nat → Nat → Int} {wd : Nat → Nat → Int} {xL : List Int} {Xs : Nat → SgV} (h : (begE (M.chkD (M.chkC W H nd nt ns dep tide sw) nd nt zn cn wn z cl cu wd) (chkX nd nt at_ lo hi xL) (chkS nd nt at_ hn Xs)) = 0) :
  M.chkD (M.chkC W H nd nt ns dep tide sw) nd nt zn cn wn z cl cu wd = true ∧ chkX nd nt at_ lo hi xL = true ∧ chkS nd nt at_ hn Xs = true := by
 revert h
 cases M.chkD (M.chkC W H nd nt ns dep tide sw) nd nt zn cn wn z cl cu wd <;> cases chkX nd nt at_ lo hi xL <;> cases chkS nd nt at_ hn Xs <;> simp [begE]
theorem strP_at_ {d : M.Dr} {at_ lo hi : Int} {xL : List Int} {hn : Nat} {Xs : Nat → SgV} {U : Nat → Value} {c t : Int} : strP d at_ lo hi xL hn (fun i => (Xs i).at_ (U i)) c t = strP d at_ lo hi xL hn Xs c t := by
 unfold strP
 rw [leeP_at_]
end Go.Proofs.YtnbeembnnjdmdaaDoor
/- What the copies at a statement's start leave, whatever the order. -/
namespace Go.Proofs.YtnbeembnnjdmdaaDoor
open Go.RowKit Go.Maps

section
variable {V V' : World} {b dc tc sc zc cc wc nd nt ns zn cn wn g t : Nat} {cs : Array Value} {dA tA sA zA cA wA : Option Addr} {dep : Nat → Int} {tide : Nat → Nat → Int} {sw z : Nat → Int} {cl : Nat → Nat} {cu : Nat → Nat → Nat → Int} {wd : Nat → Nat → Int} {R : Nat → Value}
theorem OwnD.grown (h : OwnD V b dA dc tA tc sA sc zA zc cA cc wA wc nd nt ns zn cn wn dep tide sw z cl cu wd R) (hg : V.grownBy V' (some g)) (hb : Blk V g t cs) (h1 : 3 ≠ t) (h2 : 31 ≠ t) (h3 : 27 ≠ t) (h4 : 42 ≠ t) : OwnD V' b dA dc tA tc sA sc zA zc cA cc wA wc nd nt ns zn cn wn dep tide sw z cl cu wd R :=
 ⟨h.d.grown hg (.inr (Own.ne_blk h.d hb h1)), h.t.grown hg (.inr (Own.ne_blk h.t hb h2)), h.s.grown hg (.inr (Own.ne_blk h.s hb h1)), h.z.grown hg (.inr (Own.ne_blk h.z hb h1)), h.c.grown hg (.inr (Own.ne_blk h.c hb h3)), fun j hj => (h.r j hj).grown hg (.inr (Own.ne_blk (h.r j hj) hb h4)), h.w.grown hg (.inr (Own.ne_blk h.w hb h4)), h.dis⟩
theorem OwnD.less (h : OwnD V b dA dc tA tc sA sc zA zc cA cc wA wc nd nt ns zn cn wn dep tide sw z cl cu wd R) {b' : Nat} (hb : b' ≤ b) : OwnD V b' dA dc tA tc sA sc zA zc cA cc wA wc nd nt ns zn cn wn dep tide sw z cl cu wd R :=
 ⟨h.d.less hb, h.t.less hb, h.s.less hb, h.z.less hb, h.c.less hb, fun j hj => (h.r j hj).less hb, h.w.less hb, h.dis⟩
theorem CS.grown {n : Nat} {v : Value} {X : Nat → SgV} (h : CS V b v n X) (hg : V.grownBy V' (some g)) (hb : Blk V g t cs) (h1 : 3 ≠ t) (h2 : 75 ≠ t) : CS V' b v n X := by
 obtain ⟨U, h3, h4⟩ := h
 exact ⟨U, h3.grown hg (.inr (Own.ne_blk h3 hb h2)), fun i hi => Own.grown (h4 i hi) hg (.inr (Own.ne_blk (h4 i hi) hb h1))⟩
theorem blk_ne' {g' t' : Nat} {cs' : Array Value} (h : Blk V g t cs) (h' : Blk V g' t' cs') (ht : t ≠ t') : g ≠ g' := by
 rintro rfl
 have e := Option.some.inj (h.symm.trans h')
 injection e with _ e2
 exact ht e2
end
/-- the copies, as they are made -/
structure CpyI (X : World) (W H : Int) (nd nt ns zn cn wn : Nat) (dep : Nat → Int) (tide : Nat → Nat → Int) (sw z : Nat → Int) (cl : Nat → Nat) (cu : Nat → Nat → Nat → Int) (wd : Nat → Nat → Int) (at_ lo hi : Int) (xL : List Int) (hn : Nat) (Xs : Nat → SgV) (bc bx bs b7 b8 d7 d8 ba : Bool) (xc xx xs x7 x8 x9 : Value) (V : World) : Prop where
 b : Below X.heap.size X V
 hc : bc = true → ∃ dA dc tA tc sA sc zA zc cA cc wA wc R, xc = .agg #[.int .i64 W, .int .i64 H, .slice dA nd dc, .slice tA nt tc, .slice sA ns sc, .slice zA zn zc, .slice cA cn cc, .slice wA wn wc] ∧ OwnD V X.heap.size dA dc tA tc sA sc zA zc cA cc wA wc nd nt ns zn cn wn dep tide sw z cl cu wd R
 hx : bx = true → ∃ A c, xx = .agg #[.int .i64 at_, .slice A xL.length c, .int .i64 lo, .int .i64 hi] ∧ IL V X.heap.size (.slice A xL.length c) xL
 hs : bs = true → CS V X.heap.size xs hn Xs
 h7 : b7 = true → ∃ g cs, X.heap.size ≤ g ∧ x7 = .pointer (some ⟨g, 0, none⟩) ∧ Blk V g 29 cs ∧ (d7 = false → cs = zero8) ∧ (d7 = true → xc = .agg cs)
 h8 : b8 = true → ∃ g cs, X.heap.size ≤ g ∧ x8 = .pointer (some ⟨g, 0, none⟩) ∧ Blk V g 33 cs ∧ (d8 = false → cs = #[.int .i64 0, .slice none 0 0, .int .i64 0, .int .i64 0]) ∧ (d8 = true → xx = .agg cs)
 ha : ba = true → x9 = xs
 c7 : d7 = true → bc = true ∧ b7 = true
 c8 : d8 = true → bx = true ∧ b8 = true
 ca : ba = true → bs = true
section
variable {X V V' : World} {W H : Int} {nd nt ns zn cn wn hn : Nat} {dep : Nat → Int} {tide : Nat → Nat → Int} {sw z : Nat → Int} {cl : Nat → Nat} {cu : Nat → Nat → Nat → Int} {wd : Nat → Nat → Int} {at_ lo hi : Int} {xL : List Int} {Xs : Nat → SgV} {bc bx bs b7 b8 d7 d8 ba : Bool} {xc xx xs x7 x8 x9 : Value}
theorem CpyI.start (hb : Below X.heap.size X V) : CpyI X W H nd nt ns zn cn wn dep tide sw z cl cu wd at_ lo hi xL hn Xs false false false false false false false false xc xx xs x7 x8 x9 V :=
 ⟨hb, fun h => (by cases h), fun h => (by cases h), fun h => (by cases h), fun h => (by cases h), fun h => (by cases h), fun h => (by cases h), fun h => (by cases h), fun h => (by cases h), fun h => (by cases h)⟩
theorem CpyI.below (h : CpyI X W H nd nt ns zn cn wn dep tide sw z cl cu wd at_ lo hi xL hn Xs bc bx bs b7 b8 d7 d8 ba xc xx xs x7 x8 x9 V) (hb : Below V.heap.size V V') : CpyI X W H nd nt ns zn cn wn dep tide sw z cl cu wd at_ lo hi xL hn Xs bc bx bs b7 b8 d7 d8 ba xc xx xs x7 x8 x9 V' := by
 refine ⟨h.b.trans (hb.mono h.b.size), fun q => ?_, fun q => ?_, fun q => (h.hs q).below hb, fun q => ?_, fun q => ?_, h.ha, h.c7, h.c8, h.ca⟩
 ·
  obtain ⟨dA, dc, tA, tc, sA, sc, zA, zc, cA, cc, wA, wc, R, h1, h2⟩ := h.hc q
  exact ⟨dA, dc, tA, tc, sA, sc, zA, zc, cA, cc, wA, wc, R, h1, h2.below hb⟩
 ·
  obtain ⟨A, c, h1, h2⟩ := h.hx q
  exact ⟨A, c, h1, Own.below h2 hb⟩
 ·
  obtain ⟨g, cs, h1, h2, h3, h4⟩ := h.h7 q
  exact ⟨g, cs, h1, h2, h3.below' hb, h4⟩
 ·
  obtain ⟨g, cs, h1, h2, h3, h4⟩ := h.h8 q
  exact ⟨g, cs, h1, h2, h3.below' hb, h4⟩
/-- a store to the block of one of the two boxes -/
theorem CpyI.grown {g t : Nat} {cs : Array Value} (h : CpyI X W H nd nt ns zn cn wn dep tide sw z cl cu wd at_ lo hi xL hn Xs bc bx bs b7 b8 d7 d8 ba xc xx xs x7 x8 x9 V) (hg : V.grownBy V' (some g)) (hb : Blk V g t cs) (hgX : X.heap.size ≤ g) (ht : t = 29 ∨ t = 33) :
  Below X.heap.size X V' ∧ (bc = true → ∃ dA dc tA tc sA sc zA zc cA cc wA wc R, xc = .agg #[.int .i64 W, .int .i64 H, .slice dA nd dc, .slice tA nt tc, .slice sA ns sc, .slice zA zn zc, .slice cA cn cc, .slice wA wn wc] ∧ OwnD V' X.heap.size dA dc tA tc sA sc zA zc cA cc wA wc nd nt ns zn cn wn dep tide sw z cl cu wd R) ∧ (bx = true → ∃ A c, xx = .agg #[.int .i64 at_, .slice A xL.length c, .int .i64 lo, .int .i64 hi] ∧ IL V' X.heap.size (.slice A xL.length c) xL) ∧ (bs = true → CS V' X.heap.size xs hn Xs) := by
 have n1 : 3 ≠ t := by rcases ht with rfl | rfl <;> decide
 have n2 : 31 ≠ t := by rcases ht with rfl | rfl <;> decide
 have n3 : 27 ≠ t := by rcases ht with rfl | rfl <;> decide
 have n4 : 42 ≠ t := by rcases ht with rfl | rfl <;> decide
 have n5 : 75 ≠ t := by rcases ht with rfl | rfl <;> decide
 refine ⟨h.b.grown hg h.b.size fun r e => by cases e; exact hgX, fun q => ?_, fun q => ?_, fun q => (h.hs q).grown hg hb n1 n5⟩
 ·
  obtain ⟨dA, dc, tA, tc, sA, sc, zA, zc, cA, cc, wA, wc, R, h1, h2⟩ := h.hc q
  exact ⟨dA, dc, tA, tc, sA, sc, zA, zc, cA, cc, wA, wc, R, h1, h2.grown hg hb n1 n2 n3 n4⟩
 ·
  obtain ⟨A, c, h1, h2⟩ := h.hx q
  exact ⟨A, c, h1, Own.grown h2 hg (.inr (Own.ne_blk h2 hb n1))⟩
theorem CpyI.callc (h : CpyI X W H nd nt ns zn cn wn dep tide sw z cl cu wd at_ lo hi xL hn Xs false bx bs b7 b8 d7 d8 ba xc xx xs x7 x8 x9 V) (hb : Below V.heap.size V V') {u : Value} (hu : ∃ dA dc tA tc sA sc zA zc cA cc wA wc R, u = .agg #[.int .i64 W, .int .i64 H, .slice dA nd dc, .slice tA nt tc, .slice sA ns sc, .slice zA zn zc, .slice cA cn cc, .slice wA wn wc] ∧ OwnD V' V.heap.size dA dc tA tc sA sc zA zc cA cc wA wc nd nt ns zn cn wn dep tide sw z cl cu wd R) : CpyI X W H nd nt ns zn cn wn dep tide sw z cl cu wd at_ lo hi xL hn Xs true bx bs b7 b8 d7 d8 ba u xx xs x7 x8 x9 V' := by
 obtain rfl : d7 = false := by
  cases q : d7
  · rfl
  · have := (h.c7 q).1; cases this
 have k := h.below hb
 refine ⟨k.b, fun _ => ?_, k.hx, k.hs, fun q => ?_, k.h8, k.ha, fun q => (by cases q), k.c8, k.ca⟩
 ·
  obtain ⟨dA, dc, tA, tc, sA, sc, zA, zc, cA, cc, wA, wc, R, h1, h2⟩ := hu
  exact ⟨dA, dc, tA, tc, sA, sc, zA, zc, cA, cc, wA, wc, R, h1, h2.less h.b.size⟩
 ·
  obtain ⟨g, cs, h1, h2, h3, h4, _⟩ := k.h7 q
  exact ⟨g, cs, h1, h2, h3, h4, fun q => (by cases q)⟩
theorem CpyI.callx (h : CpyI X W H nd nt ns zn cn wn dep tide sw z cl cu wd at_ lo hi xL hn Xs bc false bs b7 b8 d7 d8 ba xc xx xs x7 x8 x9 V) (hb : Below V.heap.size V V') {A : Option Addr} {c : Nat} (hu : IL V' V.heap.size (.slice A xL.length c) xL) : CpyI X W H nd nt ns zn cn wn dep tide sw z cl cu wd at_ lo hi xL hn Xs bc true bs b7 b8 d7 d8 ba xc (.agg #[.int .i64 at_, .slice A xL.length c, .int .i64 lo, .int .i64 hi]) xs x7 x8 x9 V' := by
 obtain rfl : d8 = false := by
  cases q : d8
  · rfl
  · have := (h.c8 q).1; cases this
 have k := h.below hb
 refine ⟨k.b, k.hc, fun _ => ⟨A, c, rfl, Own.less hu h.b.size⟩, k.hs, k.h7, fun q => ?_, k.ha, k.c7, fun q => (by cases q), k.ca⟩
 obtain ⟨g, cs, h1, h2, h3, h4, _⟩ := k.h8 q
 exact ⟨g, cs, h1, h2, h3, h4, fun q => (by cases q)⟩
theorem CpyI.calls (h : CpyI X W H nd nt ns zn cn wn dep tide sw z cl cu wd at_ lo hi xL hn Xs bc bx false b7 b8 d7 d8 ba xc xx xs x7 x8 x9 V) (hb : Below V.heap.size V V') {u : Value} (hu : CS V' V.heap.size u hn Xs) : CpyI X W H nd nt ns zn cn wn dep tide sw z cl cu wd at_ lo hi xL hn Xs bc bx true b7 b8 d7 d8 ba xc xx u x7 x8 x9 V' := by
 obtain rfl : ba = false := by
  cases q : ba
  · rfl
  · have := h.ca q; cases this
 have k := h.below hb
 exact ⟨k.b, k.hc, k.hx, fun _ => hu.less h.b.size, k.h7, k.h8, fun q => (by cases q), k.c7, k.c8, fun q => (by cases q)⟩
theorem CpyI.alloc7 {t : Nat} (h : CpyI X W H nd nt ns zn cn wn dep tide sw z cl cu wd at_ lo hi xL hn Xs bc bx bs false b8 d7 d8 ba xc xx xs x7 x8 x9 V) (ht : t = 29) : CpyI X W H nd nt ns zn cn wn dep tide sw z cl cu wd at_ lo hi xL hn Xs bc bx bs true b8 d7 d8 ba xc xx xs (.pointer (some ⟨V.heap.size, 0, none⟩)) x8 x9 (V.alloc (.cells zero8 t)) := by
 subst ht
 obtain rfl : d7 = false := by
  cases q : d7
  · rfl
  · have := (h.c7 q).2; cases this
 have k := h.below (belowAlloc V (.cells zero8 29))
 exact ⟨k.b, k.hc, k.hx, k.hs, fun _ => ⟨_, _, h.b.size, rfl, Blk.new _ _ _, fun _ => rfl, fun q => (by cases q)⟩, k.h8, k.ha, fun q => (by cases q), k.c8, k.ca⟩
theorem CpyI.alloc8 {t : Nat} (h : CpyI X W H nd nt ns zn cn wn dep tide sw z cl cu wd at_ lo hi xL hn Xs bc bx bs b7 false d7 d8 ba xc xx xs x7 x8 x9 V) (ht : t = 33) : CpyI X W H nd nt ns zn cn wn dep tide sw z cl cu wd at_ lo hi xL hn Xs bc bx bs b7 true d7 d8 ba xc xx xs x7 (.pointer (some ⟨V.heap.size, 0, none⟩)) x9 (V.alloc (.cells #[.int .i64 0, .slice none 0 0, .int .i64 0, .int .i64 0] t)) := by
 subst ht
 obtain rfl : d8 = false := by
  cases q : d8
  · rfl
  · have := (h.c8 q).2; cases this
 have k := h.below (belowAlloc V (.cells #[.int .i64 0, .slice none 0 0, .int .i64 0, .int .i64 0] 33))
 exact ⟨k.b, k.hc, k.hx, k.hs, k.h7, fun _ => ⟨_, _, h.b.size, rfl, Blk.new _ _ _, fun _ => rfl, fun q => (by cases q)⟩, k.ha, k.c7, fun q => (by cases q), k.ca⟩
theorem CpyI.store7 {g : Nat} {cs cs' : Array Value} (h : CpyI X W H nd nt ns zn cn wn dep tide sw z cl cu wd at_ lo hi xL hn Xs bc bx bs b7 b8 false d8 ba xc xx xs (.pointer (some ⟨g, 0, none⟩)) x8 x9 V) (hbc : bc = true) (hb7 : b7 = true) (hgX : X.heap.size ≤ g) (hb : Blk V g 29 cs) (hg : V.grownBy V' (some g)) (hb' : Blk V' g 29 cs') (e : xc = .agg cs') : CpyI X W H nd nt ns zn cn wn dep tide sw z cl cu wd at_ lo hi xL hn Xs bc bx bs b7 b8 true d8 ba xc xx xs (.pointer (some ⟨g, 0, none⟩)) x8 x9 V' := by
 obtain ⟨k1, k2, k3, k4⟩ := h.grown hg hb hgX (.inl rfl)
 refine ⟨k1, k2, k3, k4, fun _ => ⟨g, cs', hgX, rfl, hb', fun q => (by cases q), fun _ => e⟩, fun q => ?_, h.ha, fun _ => ⟨hbc, hb7⟩, h.c8, h.ca⟩
 obtain ⟨g', cs2, h1, h2, h3, h4⟩ := h.h8 q
 exact ⟨g', cs2, h1, h2, h3.grown hg (fun e => blk_ne' h3 hb (by decide) (by injection e)), h4⟩
theorem CpyI.store8 {g : Nat} {cs cs' : Array Value} (h : CpyI X W H nd nt ns zn cn wn dep tide sw z cl cu wd at_ lo hi xL hn Xs bc bx bs b7 b8 d7 false ba xc xx xs x7 (.pointer (some ⟨g, 0, none⟩)) x9 V) (hbx : bx = true) (hb8 : b8 = true) (hgX : X.heap.size ≤ g) (hb : Blk V g 33 cs) (hg : V.grownBy V' (some g)) (hb' : Blk V' g 33 cs') (e : xx = .agg cs') : CpyI X W H nd nt ns zn cn wn dep tide sw z cl cu wd at_ lo hi xL hn Xs bc bx bs b7 b8 d7 true ba xc xx xs x7 (.pointer (some ⟨g, 0, none⟩)) x9 V' := by
 obtain ⟨k1, k2, k3, k4⟩ := h.grown hg hb hgX (.inr rfl)
 refine ⟨k1, k2, k3, k4, fun q => ?_, fun _ => ⟨g, cs', hgX, rfl, hb', fun q => (by cases q), fun _ => e⟩, h.ha, h.c7, fun _ => ⟨hbx, hb8⟩, h.ca⟩
 obtain ⟨g', cs2, h1, h2, h3, h4⟩ := h.h7 q
 exact ⟨g', cs2, h1, h2, h3.grown hg (fun e => blk_ne' h3 hb (by decide) (by injection e)), h4⟩
theorem CpyI.assign (h : CpyI X W H nd nt ns zn cn wn dep tide sw z cl cu wd at_ lo hi xL hn Xs bc bx bs b7 b8 d7 d8 ba xc xx xs x7 x8 x9 V) (hbs : bs = true) : CpyI X W H nd nt ns zn cn wn dep tide sw z cl cu wd at_ lo hi xL hn Xs bc bx bs b7 b8 d7 d8 true xc xx xs x7 x8 xs V :=
 ⟨h.b, h.hc, h.hx, h.hs, h.h7, h.h8, fun _ => rfl, h.c7, h.c8, fun _ => hbs⟩
end
end Go.Proofs.YtnbeembnnjdmdaaDoor
