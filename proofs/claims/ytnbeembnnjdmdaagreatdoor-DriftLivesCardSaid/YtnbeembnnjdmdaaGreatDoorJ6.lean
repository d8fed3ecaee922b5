/- drift: Places, Leeways and Conflict of what is not valid. -/
import Derived.Test.YtnbeembnnjdmdaaGreatDoorD31
import Derived.Test.YtnbeembnnjdmdaaGreatDoorG3
import Derived.Test.YtnbeembnnjdmdaaGreatDoorG8
import Derived.Test.YtnbeembnnjdmdaaGreatDoorE10
namespace Go.Proofs.YtnbeembnnjdmdaaGreatDoor
open Go.RowKit Go.Maps

section
variable {W H : Int} {dA tA sA zA cA wA xA hA : Option Addr} {nd dc nt tc ns sc zn zc cn cc wn wc xc hn hc B : Nat} {at_ lo hi : Int} {dep : Nat → Int} {tide : Nat → Nat → Int} {sw z : Nat → Int} {cl : Nat → Nat} {cu : Nat → Nat → Nat → Int} {wd : Nat → Nat → Int} {xL : List Int} {Xs : Nat → SgV} {w : World}
theorem begin_err (hnd : nd ≤ maxLen) (hnt : nt ≤ maxLen) (hns : ns ≤ maxLen) (hzn : zn ≤ maxLen) (hcn : cn ≤ maxLen) (hwn : wn ≤ maxLen) (hR : RdD w B dA tA sA zA cA wA nd nt ns zn cn wn dep tide sw z cl cu wd) (hB : B ≤ w.heap.size) (hW : Ways w)
  (hx3 : Rd1 w B xA xL.length (fun k => xL.getD k 0)) (hx4 : xL.length ≤ maxLen) (hRS : RdS w B hA hn Xs) (hhn : hn ≤ maxLen) (hE : (begE (M.chkD (M.chkC W H nd nt ns dep tide sw) nd nt zn cn wn z cl cu wd) (chkX nd nt at_ lo hi xL) (chkS nd nt at_ hn Xs)) ≠ 0) :
  Calls Tryz.prog 55 #[.agg #[.int .i64 W, .int .i64 H, .slice dA nd dc, .slice tA nt tc, .slice sA ns sc, .slice zA zn zc, .slice cA cn cc, .slice wA wn wc], .agg #[.int .i64 at_, .slice xA xL.length xc, .int .i64 lo, .int .i64 hi], .slice hA hn hc] w fun e w' => e = .returned (.tuple #[.agg #[.pointer none, .int .i64 0, .slice none 0 0, .int .i64 0, .int .i64 0, .slice none 0 0], .int .i64 (begE (M.chkD (M.chkC W H nd nt ns dep tide sw) nd nt zn cn wn z cl cu wd) (chkX nd nt at_ lo hi xL) (chkS nd nt at_ hn Xs))]) ∧ Below w.heap.size w w' := by
 cases hq : M.chkD (M.chkC W H nd nt ns dep tide sw) nd nt zn cn wn z cl cu wd
 · exact begin_bad hnd hnt hns hzn hcn hwn hR hB hq
 ·
  obtain ⟨d, hd, rfl, rfl, rfl, rfl, rfl, rfl, rfl, rfl, rfl, rfl, rfl, rfl, rfl, rfl, hcl⟩ := M.chkD_form hq
  rw [hq] at hE
  refine (begin_ok (at_ := at_) (lo := lo) (hi := hi) (xc := xc) (hc := hc) (dc := dc) (tc := tc) (sc := sc) (zc := zc) (cc := cc) (wc := wc) hd hcl hR hB hW hx3 hx4 hRS hhn).mono fun e w' h => ?_
  obtain ⟨hb, h⟩ := h
  rcases h with ⟨h1, h2⟩ | ⟨h1, h2, h3⟩ | ⟨h1, h2, _⟩
  ·
   rw [h1]
   exact ⟨h2, hb⟩
  ·
   rw [h1, h2]
   exact ⟨h3, hb⟩
  ·
   rw [h1, h2] at hE
   exact absurd rfl hE
end
end Go.Proofs.YtnbeembnnjdmdaaGreatDoor
/- coblelaw02.copied; what the program and the reference answer for any drift, drifter and sightings. -/
namespace Go.Proofs.YtnbeembnnjdmdaaGreatDoor
open Go.RowKit Go.Maps

section
variable {xA : Option Addr} {n xc B : Nat} {f : Nat → Int} {at_ lo hi : Int} {w : World}
set_option maxRecDepth 100000 in
theorem rcopied_any (hx : Rd1 w B xA n f) (hn : n ≤ 1048576) (hB : B ≤ w.heap.size) :
  Calls Tryz.prog 21 #[.agg #[.int .i64 at_, .slice xA n xc, .int .i64 lo, .int .i64 hi]] w fun e w' => (∃ A c, e = .returned (.agg #[.int .i64 at_, .slice A n c, .int .i64 lo, .int .i64 hi]) ∧ Own w' w.heap.size 3 1 (.slice A n c) n (ints f)) ∧ Below w.heap.size w w' := by
 have HB0 := Lib.hid (belowAlloc2 w (.cells #[.int .i64 at_, .slice xA n xc, .int .i64 lo, .int .i64 hi] 44) (.cells #[.int .i64 0, .slice none 0 0, .int .i64 0, .int .i64 0] 44))
 have K0 := Lib.hid ((Blk.new w 44 #[.int .i64 at_, .slice xA n xc, .int .i64 lo, .int .i64 hi]).alloc (.cells #[.int .i64 0, .slice none 0 0, .int .i64 0, .int .i64 0] 44))
 have Z0 := Lib.hid (Blk.new1 w (.cells #[.int .i64 at_, .slice xA n xc, .int .i64 lo, .int .i64 hi] 44) 44 #[.int .i64 0, .slice none 0 0, .int .i64 0, .int .i64 0])
 have HR := Lib.hid (show RdV ((w.alloc (.cells #[.int .i64 at_, .slice xA n xc, .int .i64 lo, .int .i64 hi] 44)).alloc (.cells #[.int .i64 0, .slice none 0 0, .int .i64 0, .int .i64 0] 44)) w.heap.size xA 1 n (ints f) from by
  rcases (hx.more hB).below HB0.out with h | ⟨b, off, e, hb, hc⟩
  · exact .inl h
  ·
   refine .inr ⟨b, off, e, hb, fun i j hi hj => ?_⟩
   obtain rfl : j = 0 := by omega
   rw [Nat.mul_one, Nat.add_zero]
   exact hc i hi)
 have hsz : ((w.alloc (.cells #[.int .i64 at_, .slice xA n xc, .int .i64 lo, .int .i64 hi] 44)).alloc (.cells #[.int .i64 0, .slice none 0 0, .int .i64 0, .int .i64 0] 44)).heap.size = w.heap.size + 2 := by simp
 obtain ⟨i0, ji, jz0, jz1, jz2⟩ := info_parts int_info
 have MI := Lib.hid (And.intro ji (And.intro jz0 (And.intro jz1 jz2)))
 clear ji jz0 jz1 jz2 hx hB
 go_enter Tryz.func21, Tryz.ntmps21
 go_upto_region 1 with fail
 generalize (w.alloc (.cells #[.int .i64 at_, .slice xA n xc, .int .i64 lo, .int .i64 hi] 44)).alloc (.cells #[.int .i64 0, .slice none 0 0, .int .i64 0, .int .i64 0] 44) = X at HB0 K0 Z0 HR hsz ⊢
 have HSZ := Lib.hid (show w.heap.size + 2 ≤ X.heap.size by omega)
 clear hsz
 have k1 := K0.out.cell 1
 have hk := K0.out.lt
 go_upto_region 2 with (at_builtin; go_must (refine wpList_copy rfl (.tmp 3) (.tmp 5) 22 rfl 3 i0 _ 1 8 Tryz.underlying22 MI.out.1 MI.out.2.1 MI.out.2.2.1 MI.out.2.2.2 rfl (by decide) (by decide) (g := X.heap.size) rfl (Blk.new X 3 #[]) (fun _ _ => rfl) rfl (HR.out.below ((belowAlloc X _).mono HB0.out.size)) (by omega) ?_); intro A7 z7 w7 o7 hb7; have B7 := Lib.hid (show Below X.heap.size X w7 from (belowAlloc X _).trans (hb7.mono (by simp))); have O7 := Lib.hid o7; have K7 := Lib.hid (K0.out.below' B7.out); have Z7 := Lib.hid (Z0.out.below' B7.out); clear o7 hb7 k1; have k1 := K7.out.cell 1; have f1 := K7.out.frz 1)
 clear k1 f1
 have K8 := Lib.hid (show Blk (w7.setCell ⟨w.heap.size, 1, none⟩ (.slice A7 n z7)) w.heap.size 44 #[.int .i64 at_, .slice A7 n z7, .int .i64 lo, .int .i64 hi] from K7.out.set_ 1 (.slice A7 n z7))
 have Z8 := Lib.hid (Z7.out.far (p := ⟨w.heap.size, 1, none⟩) (show w.heap.size + 1 ≠ w.heap.size by omega) (.slice A7 n z7))
 have O8 := Lib.hid (Own.setCell (p := ⟨w.heap.size, 1, none⟩) O7.out (Own.ne_blk O7.out K7.out (by decide)) (.slice A7 n z7))
 have B8 := Lib.hid ((HB0.out.trans (B7.out.mono HB0.out.size)).setCell (p := ⟨w.heap.size, 1, none⟩) (Nat.le_refl _) (.slice A7 n z7))
 generalize w7.setCell ⟨w.heap.size, 1, none⟩ (.slice A7 n z7) = Y at K8 Z8 O8 B8 ⊢
 clear K7 Z7 O7 B7 K0 Z0 HB0 HR
 obtain ⟨k0, k1, k2, k3⟩ := K8.out.c4
 obtain ⟨z0, z1, z2, z3⟩ := Z8.out.c4
 have f0 := Z8.out.frz 0
 have f1 := Z8.out.frz 1
 have f2 := Z8.out.frz 2
 have f3 := Z8.out.frz 3
 have hl := Z8.out.lt
 go_wp2_with fail
 have RZ : Blk ((((Y.setCell ⟨w.heap.size + 1, 0, none⟩ (.int .i64 at_)).setCell ⟨w.heap.size + 1, 1, none⟩ (.slice A7 n z7)).setCell ⟨w.heap.size + 1, 2, none⟩ (.int .i64 lo)).setCell ⟨w.heap.size + 1, 3, none⟩ (.int .i64 hi)) (w.heap.size + 1) 44 #[.int .i64 at_, .slice A7 n z7, .int .i64 lo, .int .i64 hi] := (((Z8.out.set_ 0 _).set_ 1 _).set_ 2 _).set_ 3 _
 have hgr : Y.grownBy ((((Y.setCell ⟨w.heap.size + 1, 0, none⟩ (.int .i64 at_)).setCell ⟨w.heap.size + 1, 1, none⟩ (.slice A7 n z7)).setCell ⟨w.heap.size + 1, 2, none⟩ (.int .i64 lo)).setCell ⟨w.heap.size + 1, 3, none⟩ (.int .i64 hi)) (some (w.heap.size + 1)) := gset (gset (gset (gset (World.grownBy.refl _ _))))
 refine bodyPost_ret (results_cell_row rfl _ _ (w.heap.size + 1) 44 #[.int .i64 at_, .slice A7 n z7, .int .i64 lo, .int .i64 hi] (0, 0) _ rfl RZ Tryz.underlying44 rfl drifter_size) rfl ⟨⟨A7, z7, rfl, ?_⟩, B8.out.grown hgr B8.out.size fun r e => by cases e; omega⟩
 exact (Own.less O8.out (by have := HSZ.out; omega)).grown hgr (.inr (Own.ne_blk O8.out Z8.out (by decide)))
end
theorem chkS_at {nd nt hn : Nat} {at_ : Int} {Xs : Nat → SgV} {U : Nat → Value} : chkS nd nt at_ hn (fun i => (Xs i).at_ (U i)) = chkS nd nt at_ hn Xs := by
 unfold chkS
 simp only [SgV.at_tk, SgV.at_L]
theorem trFit_at {hn ta : Nat} {ft fc : Int} {Xs : Nat → SgV} {U : Nat → Value} : trFit (fun i => (Xs i).at_ (U i)) hn ta ft fc = trFit Xs hn ta ft fc := by
 unfold trFit
 simp only [SgV.at_sg]
theorem leeP_at_ {d : M.Dr} {ta n hn : Nat} {xL : List Int} {ft fc : Int} {Xs : Nat → SgV} {U : Nat → Value} : leeP d ta n hn xL (fun i => (Xs i).at_ (U i)) ft fc = leeP d ta n hn xL Xs ft fc := by
 unfold leeP
 rw [trFit_at]
theorem beg_ok {W H : Int} {nd nt ns zn cn wn hn : Nat} {at_ lo hi : Int} {dep : Nat → Int} {tide : Nat → Nat → Int} {sw z : Nat → Int} {cl : Nat → Nat} {cu : Nat → Nat → Nat → Int} {wd : Nat → Nat → Int} {xL : List Int} {Xs : Nat → SgV} (h : (begE (M.chkD (M.chkC W H nd nt ns dep tide sw) nd nt zn cn wn z cl cu wd) (chkX nd nt at_ lo hi xL) (chkS nd nt at_ hn Xs)) = 0) :
  M.chkD (M.chkC W H nd nt ns dep tide sw) nd nt zn cn wn z cl cu wd = true ∧ chkX nd nt at_ lo hi xL = true ∧ chkS nd nt at_ hn Xs = true := by
 revert h
 cases M.chkD (M.chkC W H nd nt ns dep tide sw) nd nt zn cn wn z cl cu wd <;> cases chkX nd nt at_ lo hi xL <;> cases chkS nd nt at_ hn Xs <;> simp [begE]
end Go.Proofs.YtnbeembnnjdmdaaGreatDoor
/- What the copies at a statement's start leave, whatever the order. -/
namespace Go.Proofs.YtnbeembnnjdmdaaGreatDoor
open Go.RowKit Go.Maps

section
variable {V V' : World} {b dc tc sc zc cc wc nd nt ns zn cn wn g t : Nat} {cs : Array Value} {dA tA sA zA cA wA : Option Addr} {dep : Nat → Int} {tide : Nat → Nat → Int} {sw z : Nat → Int} {cl : Nat → Nat} {cu : Nat → Nat → Nat → Int} {wd : Nat → Nat → Int} {R : Nat → Value}
end
section
variable {X V V' : World} {W H : Int} {nd nt ns zn cn wn hn : Nat} {dep : Nat → Int} {tide : Nat → Nat → Int} {sw z : Nat → Int} {cl : Nat → Nat} {cu : Nat → Nat → Nat → Int} {wd : Nat → Nat → Int} {at_ lo hi : Int} {xL : List Int} {Xs : Nat → SgV} {bc bx bs b7 b8 d7 d8 ba : Bool} {xc xx xs x7 x8 x9 : Value}
end
end Go.Proofs.YtnbeembnnjdmdaaGreatDoor
