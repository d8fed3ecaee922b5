/- With one more sighting: plain laws of DriftFewer. -/
import Derived.Test.YtnbeembnnjdmdaaGreatDoorH4
import Derived.Test.YtnbeembnnjdmdaaGreatDoorG8
import Derived.Test.YtnbeembnnjdmdaaGreatDoorG12
import Derived.Test.YtnbeembnnjdmdaaGreatDoorG4
import Derived.Test.YtnbeembnnjdmdaaGreatDoorG5
import Derived.Test.YtnbeembnnjdmdaaGreatDoorG1
import Derived.Test.YtnbeembnnjdmdaaGreatDoorE12
namespace Go.Proofs.YtnbeembnnjdmdaaGreatDoor
open Go.RowKit Go.Maps

section
variable {d : M.Dr} {ta hn n j : Nat} {c t l lo hi : Int} {xL : List Int} {Xs Ys : Nat → SgV} {f : Nat → Int}
theorem fit_more (hX : ∀ k, k < hn → (Ys k).sg = (Xs k).sg) {ft fc : Int} {i : Nat} {x : Int} (h : trFit Ys (hn + 1) ta ft fc i x = true) : trFit Xs hn ta ft fc i x = true := by
  unfold trFit at *
  have h := fitF_some.1 h
  refine fitF_some.2 ⟨fun k hk => ?_, h.2⟩
  have h1 : M.agr (Ys k).sg _ _ = true := h.1 k (by omega)
  rw [hX k hk] at h1
  exact h1
/-- no leeway is added -/
theorem lee_more (hX : ∀ k, k < hn → (Ys k).sg = (Xs k).sg) {x : Int} (h : x ∈ leeL d (ta : Int) lo hi xL (hn + 1) Ys) : x ∈ leeL d (ta : Int) lo hi xL hn Xs := by
  unfold leeL leeP at *
  rw [Int.toNat_natCast] at *
  obtain ⟨h1, h2⟩ := M.mem_spanL.1 h
  obtain ⟨f, h3⟩ := M.posB_iff.1 h2
  exact M.mem_spanL.2 ⟨h1, M.posB_iff.2 ⟨f, h3.mono rfl (fun _ hc => hc) (fun _ _ _ hc => fit_more hX hc) (fun _ _ _ _ hc => hc)⟩⟩
/-- no place is added -/
theorem plc_more (hX : ∀ k, k < hn → (Ys k).sg = (Xs k).sg) (hj : j < n) {x : Int} (h : x ∈ plcL d ta n (hn + 1) xL Ys lo hi j) : x ∈ plcL d ta n hn xL Xs lo hi j := by
  unfold plcL at *
  obtain ⟨h1, h2⟩ := M.mem_listB.1 h
  obtain ⟨l, f, h3, h4, h5⟩ := (plcB_iff hj h1).1 h2
  exact M.mem_listB.2 ⟨h1, (plcB_iff hj h1).2 ⟨l, f, h3, h4.mono rfl (fun _ hc => hc) (fun _ _ _ hc => fit_more hX hc) (fun _ _ _ _ hc => hc), h5⟩⟩
/-- if something is possible with it, something was without it -/
theorem strP_more (hX : ∀ k, k < hn → (Ys k).sg = (Xs k).sg) (h : strP d (ta : Int) lo hi xL (hn + 1) Ys c t = true) : strP d (ta : Int) lo hi xL hn Xs c t = true := by
  unfold strP at *
  rw [Int.toNat_natCast] at *
  obtain ⟨l, f, h1, h2⟩ := strP_iff.1 h
  exact strP_iff.2 ⟨l, f, h1, h2.mono rfl (fun _ hc => hc) (fun _ _ _ hc => fit_more hX hc) (fun _ _ _ _ hc => hc)⟩
end
end Go.Proofs.YtnbeembnnjdmdaaGreatDoor
/- DriftFewer, walked. -/
namespace Go.Proofs.YtnbeembnnjdmdaaGreatDoor
open Go.RowKit Go.Maps

/-- a sighting's cells -/
def sgC (x : SgV) : Nat → Nat → Value := fun _ j => x.cs.getD j (.int .i64 0)
theorem sgC_one (x : SgV) (i j : Nat) : (sgC x i j).oneCell' = true := by
  unfold sgC
  match j with
  | 0 => rfl
  | 1 => rfl
  | 2 => rfl
  | k + 3 => rfl
theorem sgC_rd {W : World} {g : Nat} {x : SgV} (h : Blk W g 68 #[.int .i64 x.tk, .slice x.A x.L.length x.c, .bool x.seen]) : RdV W W.heap.size (some ⟨g, 0, none⟩) 3 1 (sgC x) := rdV_blk h fun i j hi hj => by
  obtain rfl : i = 0 := by omega
  match j, hj with
  | 0, _ => rfl
  | 1, _ => rfl
  | 2, _ => rfl
/-- sightings that a call has copied, and one more behind them -/
structure CS1 (W : World) (base : Nat) (v : Value) (n : Nat) (X : Nat → SgV) (x : SgV) (V : Nat → Value) : Prop where
  o : Own W base 68 3 v (n + 1) (catF n (sgVV X V) (sgC x))
  l : ∀ i, i < n → IL W base (V i) (X i).L
theorem CS1.below {W W' : World} {base n : Nat} {v : Value} {X : Nat → SgV} {x : SgV} {V : Nat → Value} (h : CS1 W base v n X x V) (hb : Below W.heap.size W W') : CS1 W' base v n X x V := ⟨h.o.below hb, fun i hi => Own.below (h.l i hi) hb⟩
theorem CS1.form {W : World} {base n : Nat} {v : Value} {X : Nat → SgV} {x : SgV} {V : Nat → Value} (h : CS1 W base v n X x V) : ∃ A c, v = .slice A (n + 1) c := h.o.form
/-- a store elsewhere -/
theorem CS1.set_ {W : World} {base n g t : Nat} {cs : Array Value} {v : Value} {X : Nat → SgV} {x : SgV} {V : Nat → Value} (h : CS1 W base v n X x V) (hg : Blk W g t cs) (h1 : 68 ≠ t) (h2 : 3 ≠ t) (k : Nat) (u : Value) : CS1 (W.setCell ⟨g, k, none⟩ u) base v n X x V :=
  ⟨h.o.setCell (p := ⟨g, k, none⟩) (Own.ne_blk h.o hg h1) u, fun i hi => Own.setCell (p := ⟨g, k, none⟩) (h.l i hi) (Own.ne_blk (h.l i hi) hg h2) u⟩
/-- the sightings as they then lie -/
def moreX (n : Nat) (X : Nat → SgV) (V : Nat → Value) (x : SgV) : Nat → SgV := fun i => if i < n then (X i).at_ (V i) else x
theorem CS1.rd {W : World} {base n c : Nat} {A : Option Addr} {X : Nat → SgV} {x : SgV} {V : Nat → Value} (h : CS1 W base (.slice A (n + 1) c) n X x V) (hl : ∀ i, i < n → (X i).L.length ≤ maxLen) (hx : Rd1 W W.heap.size x.A x.L.length (fun k => x.L.getD k 0)) (hxl : x.L.length ≤ maxLen) : RdS W W.heap.size A (n + 1) (moreX n X V x) := by
  obtain ⟨h1, h2⟩ := h
  obtain ⟨g, c', e⟩ := Own.nz h1 (by omega)
  cases e
  refine .inr ⟨g, 0, rfl, (Own.block h1 rfl).2, fun i hi => ?_⟩
  have c0 := Own.cell h1 hi (show 0 < 3 by omega)
  have c1 := Own.cell h1 hi (show 1 < 3 by omega)
  have c2 := Own.cell h1 hi (show 2 < 3 by omega)
  unfold moreX
  by_cases h0 : i < n
  · simp only [catF, if_pos h0] at c0 c1 c2
    have hi2 := h2 i h0
    obtain ⟨A', c', e⟩ := Own.form hi2
    rw [if_pos h0, SgV.at_tk, SgV.at_L, SgV.at_seen]
    have e' : (X i).at_ (V i) = ⟨(X i).tk, A', c', (X i).L, (X i).seen⟩ := by rw [e]; rfl
    rw [e']
    have hrd := Own.rd1' (show Own W base 3 1 (.slice A' (X i).L.length c') (X i).L.length (ints fun j => (X i).L.getD j 0) from by rw [← e]; exact hi2)
    refine ⟨⟨?_, ?_, ?_⟩, hrd, hl i h0⟩
    · rw [Nat.zero_add]; exact c0
    · rw [Nat.zero_add, ← e]; exact c1
    · rw [Nat.zero_add]; exact c2
  · simp only [catF, if_neg h0] at c0 c1 c2
    rw [if_neg h0]
    refine ⟨⟨?_, ?_, ?_⟩, hx, hxl⟩
    · rw [Nat.zero_add]; exact c0
    · rw [Nat.zero_add]; exact c1
    · rw [Nat.zero_add]; exact c2
theorem moreX_sg (n : Nat) (X : Nat → SgV) (V : Nat → Value) (x : SgV) (k : Nat) (hk : k < n) : (moreX n X V x k).sg = (X k).sg := by unfold moreX; rw [if_pos hk, SgV.at_sg]
theorem blk_ne {W : World} {g g' t t' : Nat} {cs cs' : Array Value} (h : Blk W g t cs) (h' : Blk W g' t' cs') (ht : t ≠ t') : g ≠ g' := by
  rintro rfl
  have e := Option.some.inj (h.symm.trans h')
  injection e with _ e2
  exact ht e2
/-- three cells of a block stored -/
def set3 (W : World) (g : Nat) (a b c : Value) : World := ((W.setCell ⟨g, 0, none⟩ a).setCell ⟨g, 1, none⟩ b).setCell ⟨g, 2, none⟩ c
theorem Blk.set3 {W : World} {g t : Nat} {x y z a b c : Value} (h : Blk W g t #[x, y, z]) : Blk (set3 W g a b c) g t #[a, b, c] := ((h.set_ 0 a).set_ 1 b).set_ 2 c
theorem Blk.far3 {W : World} {g g' t : Nat} {cs : Array Value} {a b c : Value} (h : Blk W g' t cs) (hg : g' ≠ g) : Blk (Go.Proofs.YtnbeembnnjdmdaaGreatDoor.set3 W g a b c) g' t cs := ((h.far (p := ⟨g, 0, none⟩) hg a).far (p := ⟨g, 1, none⟩) hg b).far (p := ⟨g, 2, none⟩) hg c
theorem below_set3 {B g : Nat} {X W : World} {a b c : Value} (h : Below B X W) (hg : B ≤ g) : Below B X (set3 W g a b c) := ((h.setCell (p := ⟨g, 0, none⟩) hg a).setCell (p := ⟨g, 1, none⟩) hg b).setCell (p := ⟨g, 2, none⟩) hg c
/-- the past, and the sighting, laid -/
structure FwI (X : World) (p0 p1 p2 s0 s1 s2 : Value) (b4 b5 b6 b7 : Bool) (x7 x8 : Value) (V : World) : Prop where
  b : Below X.heap.size X V
  h4 : b4 = true → ∃ g, X.heap.size ≤ g ∧ x7 = .pointer (some ⟨g, 0, none⟩) ∧ Blk V g 61 (if b6 = true then #[p0, p1, p2] else #[.slice none 0 0, .int .i64 0, .slice none 0 0])
  h5 : b5 = true → ∃ g, X.heap.size ≤ g ∧ x8 = .pointer (some ⟨g, 0, none⟩) ∧ Blk V g 68 (if b7 = true then #[s0, s1, s2] else #[.int .i64 0, .slice none 0 0, .bool false])
  c6 : b6 = true → b4 = true
  c7 : b7 = true → b5 = true
section
variable {X V V' : World} {p0 p1 p2 s0 s1 s2 : Value} {b4 b5 b6 b7 : Bool} {x7 x8 : Value}
theorem FwI.alloc4 {t : Nat} (h : FwI X p0 p1 p2 s0 s1 s2 false b5 b6 b7 x7 x8 V) (ht : t = 61) : FwI X p0 p1 p2 s0 s1 s2 true b5 b6 b7 (.pointer (some ⟨V.heap.size, 0, none⟩)) x8 (V.alloc (.cells #[.slice none 0 0, .int .i64 0, .slice none 0 0] t)) := by
  subst ht
  obtain rfl : b6 = false := by
    cases hb : b6
    · rfl
    · have := h.c6 hb; cases this
  exact ⟨h.b.alloc h.b.size _, fun _ => ⟨_, h.b.size, rfl, Blk.new _ _ _⟩, fun q => by obtain ⟨g, h1, h2, h3⟩ := h.h5 q; exact ⟨g, h1, h2, h3.alloc _⟩, fun q => (by cases q), h.c7⟩
theorem FwI.alloc5 {t : Nat} (h : FwI X p0 p1 p2 s0 s1 s2 b4 false b6 b7 x7 x8 V) (ht : t = 68) : FwI X p0 p1 p2 s0 s1 s2 b4 true b6 b7 x7 (.pointer (some ⟨V.heap.size, 0, none⟩)) (V.alloc (.cells #[.int .i64 0, .slice none 0 0, .bool false] t)) := by
  subst ht
  obtain rfl : b7 = false := by
    cases hb : b7
    · rfl
    · have := h.c7 hb; cases this
  exact ⟨h.b.alloc h.b.size _, fun q => by obtain ⟨g, h1, h2, h3⟩ := h.h4 q; exact ⟨g, h1, h2, h3.alloc _⟩, fun _ => ⟨_, h.b.size, rfl, Blk.new _ _ _⟩, h.c6, fun q => (by cases q)⟩
theorem FwI.set6 {g : Nat} (h : FwI X p0 p1 p2 s0 s1 s2 b4 b5 false b7 (.pointer (some ⟨g, 0, none⟩)) x8 V) (hb : b4 = true) : FwI X p0 p1 p2 s0 s1 s2 b4 b5 true b7 (.pointer (some ⟨g, 0, none⟩)) x8 (set3 V g p0 p1 p2) := by
  obtain ⟨g', h1, h2, h3⟩ := h.h4 hb
  obtain rfl : g' = g := by injection h2 with h2; injection h2 with h2; injection h2 with h2; exact h2.symm
  rw [if_neg (by simp)] at h3
  exact ⟨below_set3 h.b h1, fun _ => ⟨g', h1, rfl, by rw [if_pos rfl]; exact h3.set3⟩, fun q => by obtain ⟨k, k1, k2, k3⟩ := h.h5 q; exact ⟨k, k1, k2, k3.far3 (blk_ne k3 h3 (by decide))⟩, fun _ => hb, h.c7⟩
theorem FwI.set7 {g : Nat} (h : FwI X p0 p1 p2 s0 s1 s2 b4 b5 b6 false x7 (.pointer (some ⟨g, 0, none⟩)) V) (hb : b5 = true) : FwI X p0 p1 p2 s0 s1 s2 b4 b5 b6 true x7 (.pointer (some ⟨g, 0, none⟩)) (set3 V g s0 s1 s2) := by
  obtain ⟨g', h1, h2, h3⟩ := h.h5 hb
  obtain rfl : g' = g := by injection h2 with h2; injection h2 with h2; injection h2 with h2; exact h2.symm
  rw [if_neg (by simp)] at h3
  exact ⟨below_set3 h.b h1, fun q => by obtain ⟨k, k1, k2, k3⟩ := h.h4 q; exact ⟨k, k1, k2, k3.far3 (blk_ne k3 h3 (by decide))⟩, fun _ => ⟨g', h1, rfl, by rw [if_pos rfl]; exact h3.set3⟩, h.c6, fun _ => hb⟩
end
/-- .. and the sightings copied, with it behind them -/
structure FwJ (Y : World) (hn : Nat) (Xs : Nat → SgV) (x : SgV) (b2 b4 b5 b6 : Bool) (x27 x29 x30 x9 : Value) (V : World) : Prop where
  b : Below Y.heap.size Y V
  h2 : b2 = true → b5 = false → CS V Y.heap.size x27 hn Xs
  h4 : b4 = true → ∃ g, Y.heap.size ≤ g ∧ x29 = .slice (some ⟨g, 0, none⟩) 1 1 ∧ (b5 = false → Blk V g 68 #[.int .i64 x.tk, .slice x.A x.L.length x.c, .bool x.seen])
  h5 : b5 = true → ∃ U, CS1 V Y.heap.size x30 hn Xs x U
  h6 : b6 = true → x9 = x30
  c5 : b5 = true → b2 = true ∧ b4 = true
  c6 : b6 = true → b5 = true
theorem FwJ.below {Y V V' : World} {hn : Nat} {Xs : Nat → SgV} {x : SgV} {b2 b4 b5 b6 : Bool} {x27 x29 x30 x9 : Value} (h : FwJ Y hn Xs x b2 b4 b5 b6 x27 x29 x30 x9 V) (hb : Below V.heap.size V V') : FwJ Y hn Xs x b2 b4 b5 b6 x27 x29 x30 x9 V' :=
  ⟨h.b.trans (hb.mono h.b.size), fun p q => (h.h2 p q).below hb, fun p => by obtain ⟨g, h1, h2, h3⟩ := h.h4 p; exact ⟨g, h1, h2, fun q => (h3 q).below' hb⟩, fun p => (by obtain ⟨U, h1⟩ := h.h5 p; exact ⟨U, h1.below hb⟩), h.h6, h.c5, h.c6⟩
section
variable {d : M.Dr} {zA cA wA dA tA sA xA hA : Option Addr} {cl : Nat → Nat} {B dc tc sc zc cc wc xc hn hc ta : Nat} {lo hi : Int} {xL : List Int} {Xs : Nat → SgV} {w : World}
theorem lees_own (hd : d.Ok) (hcl : ∀ i, i < d.nz → cl i + 1 = d.s.nt) (hR : RdD w B dA tA sA zA cA wA d.s.nd d.s.nt d.s.nt d.s.nd d.nz (d.s.nt - 1) d.s.dep d.s.tide d.s.sw d.z cl d.cu d.wd) (hB : B ≤ w.heap.size) (hW : Ways w)
    (hx3 : Rd1 w B xA xL.length (fun k => xL.getD k 0)) (hx4 : xL.length ≤ maxLen) (hRS : RdS w B hA hn Xs) (hhn : hn ≤ maxLen) (hF : Fre w) (hX : chkX d.s.nd d.s.nt (ta : Int) lo hi xL = true) (hS : chkS d.s.nd d.s.nt (ta : Int) hn Xs = true) :
    Calls Tryz.prog 32 #[.agg #[.int .i64 (d.s.W : Int), .int .i64 (d.s.H : Int), .slice dA d.s.nd dc, .slice tA d.s.nt tc, .slice sA d.s.nt sc, .slice zA d.s.nd zc, .slice cA d.nz cc, .slice wA (d.s.nt - 1) wc], .agg #[.int .i64 (ta : Int), .slice xA xL.length xc, .int .i64 lo, .int .i64 hi], .slice hA hn hc] w fun e w' => Below w.heap.size w w' ∧ ((strP d (ta : Int) lo hi xL hn Xs 0 (-1) = false ∧ e = .returned (.tuple #[.slice none 0 0, .int .i64 3])) ∨
      (strP d (ta : Int) lo hi xL hn Xs 0 (-1) = true ∧ ∃ A c, e = .returned (.tuple #[.slice A (leeL d (ta : Int) lo hi xL hn Xs).length c, .int .i64 0]) ∧ IL w' 0 (.slice A (leeL d (ta : Int) lo hi xL hn Xs).length c) (leeL d (ta : Int) lo hi xL hn Xs))) :=
  (leeways_ok (dc := dc) (tc := tc) (sc := sc) (zc := zc) (cc := cc) (wc := wc) (xc := xc) (hc := hc) hd hcl hR hB hW hx3 hx4 hRS hhn hF hX hS).mono fun e w' h => ⟨h.1, h.2.imp (fun ⟨h1, h2⟩ => ⟨leeL_nil.1 h1, h2⟩) fun ⟨h1, v, h2, h3⟩ => ⟨by
    cases hq : strP d (ta : Int) lo hi xL hn Xs 0 (-1)
    · exact absurd (leeL_nil.2 hq) h1
    · rfl, by
      obtain ⟨A, c, e⟩ := Own.form h3
      subst e
      exact ⟨A, c, h2, Own.less h3 (Nat.zero_le _)⟩⟩⟩
end
section
variable {W H : Int} {dA tA sA zA cA wA xA hA pA : Option Addr} {nd dc nt tc ns sc zn zc cn cc wn wc xc hn hc pn pc B : Nat} {at_ lo hi lw : Int} {pf : Nat → Int} {x : SgV} {dep : Nat → Int} {tide : Nat → Nat → Int} {sw z : Nat → Int} {cl : Nat → Nat} {cu : Nat → Nat → Nat → Int} {wd : Nat → Nat → Int} {xL : List Int} {Xs : Nat → SgV} {w : World}
set_option maxRecDepth 100000 in
set_option maxHeartbeats 12800000 in
theorem driftFewer_any (hnd : nd ≤ maxLen) (hnt : nt ≤ maxLen) (hns : ns ≤ maxLen) (hzn : zn ≤ maxLen) (hcn : cn ≤ maxLen) (hwn : wn ≤ maxLen) (hR : RdD w B dA tA sA zA cA wA nd nt ns zn cn wn dep tide sw z cl cu wd) (hB : B ≤ w.heap.size) (hW : Ways w)
    (hx3 : Rd1 w B xA xL.length (fun k => xL.getD k 0)) (hx4 : xL.length ≤ maxLen) (hRS : RdS w B hA hn Xs) (hhb : hn ≤ 3518437208780) (hhl : ∀ i, i < hn → (Xs i).L.length ≤ 17592186043904) (hP : Rd1 w B pA pn pf) (hpn : pn ≤ maxLen) (hxr : Rd1 w B x.A x.L.length (fun k => x.L.getD k 0)) (hxl : x.L.length ≤ maxLen) (hF : Fre w) :
    Calls Tryz.prog 7 #[.agg #[.int .i64 W, .int .i64 H, .slice dA nd dc, .slice tA nt tc, .slice sA ns sc, .slice zA zn zc, .slice cA cn cc, .slice wA wn wc], .agg #[.int .i64 at_, .slice xA xL.length xc, .int .i64 lo, .int .i64 hi], .agg #[.slice hA hn hc, .int .i64 lw, .slice pA pn pc, .int .i64 x.tk, .slice x.A x.L.length x.c, .bool x.seen]] w fun e w' => e = .returned (.bool true) ∧ Below w.heap.size w w' := by
  have hhn : hn ≤ maxLen := by unfold maxLen; omega
  have HB0 := Lib.hid (belowAlloc3 w (.cells #[.int .i64 W, .int .i64 H, .slice dA nd dc, .slice tA nt tc, .slice sA ns sc, .slice zA zn zc, .slice cA cn cc, .slice wA wn wc] 29) (.cells #[.int .i64 at_, .slice xA xL.length xc, .int .i64 lo, .int .i64 hi] 44) (.cells #[.slice hA hn hc, .int .i64 lw, .slice pA pn pc, .int .i64 x.tk, .slice x.A x.L.length x.c, .bool x.seen] 70))
  have K0 := Lib.hid (((Blk.new w 29 #[.int .i64 W, .int .i64 H, .slice dA nd dc, .slice tA nt tc, .slice sA ns sc, .slice zA zn zc, .slice cA cn cc, .slice wA wn wc]).alloc (.cells #[.int .i64 at_, .slice xA xL.length xc, .int .i64 lo, .int .i64 hi] 44)).alloc (.cells #[.slice hA hn hc, .int .i64 lw, .slice pA pn pc, .int .i64 x.tk, .slice x.A x.L.length x.c, .bool x.seen] 70))
  have X0 := Lib.hid ((Blk.new1 w (.cells #[.int .i64 W, .int .i64 H, .slice dA nd dc, .slice tA nt tc, .slice sA ns sc, .slice zA zn zc, .slice cA cn cc, .slice wA wn wc] 29) 44 #[.int .i64 at_, .slice xA xL.length xc, .int .i64 lo, .int .i64 hi]).alloc (.cells #[.slice hA hn hc, .int .i64 lw, .slice pA pn pc, .int .i64 x.tk, .slice x.A x.L.length x.c, .bool x.seen] 70))
  have Y0 := Lib.hid (Blk.new2 w (.cells #[.int .i64 W, .int .i64 H, .slice dA nd dc, .slice tA nt tc, .slice sA ns sc, .slice zA zn zc, .slice cA cn cc, .slice wA wn wc] 29) (.cells #[.int .i64 at_, .slice xA xL.length xc, .int .i64 lo, .int .i64 hi] 44) 70 #[.slice hA hn hc, .int .i64 lw, .slice pA pn pc, .int .i64 x.tk, .slice x.A x.L.length x.c, .bool x.seen])
  have HVA := Lib.hid (fun (V : World) (hb : Below w.heap.size w V) => valid_any (dc := dc) (tc := tc) (sc := sc) (zc := zc) (cc := cc) (wc := wc) (xc := xc) (hc := hc) (W := W) (H := H) (at_ := at_) (lo := lo) (hi := hi) hnd hnt hns hzn hcn hwn (hR.below (hb.mono hB)) (Nat.le_trans hB hb.size) (hx3.below (hb.mono hB)) hx4 (hRS.below (hb.mono hB)) hhn)
  have HWK := Lib.hid (fun (V : World) (hb : Below w.heap.size w V) => works_any V (hW.below hb))
  have HWY := Lib.hid (fun (V : World) (hb : Below w.heap.size w V) => hW.below hb)
  have HRR := Lib.hid (fun (V : World) (hb : Below w.heap.size w V) => hR.below (hb.mono hB))
  have HRX := Lib.hid (fun (V : World) (hb : Below w.heap.size w V) => hx3.below (hb.mono hB))
  have HRH := Lib.hid (fun (V : World) (hb : Below w.heap.size w V) => hRS.below (hb.mono hB))
  have HFR := Lib.hid (fun (V : World) (hb : Below w.heap.size w V) => hF.below hb)
  have HRP := Lib.hid (fun (V : World) (hb : Below w.heap.size w V) => hP.below (hb.mono hB))
  have HRY := Lib.hid (fun (V : World) (hb : Below w.heap.size w V) => hxr.below (hb.mono hB))
  have HHL := Lib.hid hhl
  have HHM := Lib.hid (show ∀ i, i < hn → (Xs i).L.length ≤ maxLen from fun i hi => by have := hhl i hi; unfold maxLen; omega)
  obtain ⟨i0, ji, jz0, jz1, jz2⟩ := info_parts sg_info
  have MI := Lib.hid (And.intro ji (And.intro jz0 (And.intro jz1 jz2)))
  clear ji jz0 jz1 jz2 hhl hR hW hx3 hRS hF hP hxr
  go_enter Tryz.func7, Tryz.ntmps7
  go_upto_region 1 with fail
  generalize ((w.alloc (.cells #[.int .i64 W, .int .i64 H, .slice dA nd dc, .slice tA nt tc, .slice sA ns sc, .slice zA zn zc, .slice cA cn cc, .slice wA wn wc] 29)).alloc (.cells #[.int .i64 at_, .slice xA xL.length xc, .int .i64 lo, .int .i64 hi] 44)).alloc (.cells #[.slice hA hn hc, .int .i64 lw, .slice pA pn pc, .int .i64 x.tk, .slice x.A x.L.length x.c, .bool x.seen] 70) = X at HB0 K0 X0 Y0 ⊢
  simp only [Nat.add_assoc, Nat.reduceAdd] at Y0 ⊢
  refine wp_nopanic ?_
  refine wp_region_T 7 (fun w' => Below X.heap.size X w') (by kernel_rfl) (Below.refl _ _).drew ?_
  intro hS
  refine wpAnyT_take (i := 0) (v := ?_) rfl (by kernel_rfl) (by kernel_rfl) (by kernel_rfl) (by kernel_rfl) (by kernel_rfl) (fun _ _ _ h => absurd rfl (h.1 _)) (.inl ⟨by kernel_rfl, ?_⟩) hS ?_
  rotate_left
  · (intro w' hw; have y0 := (Y0.out.below' hw).cell 0; have y1 := (Y0.out.below' hw).cell 1; have y2 := (Y0.out.below' hw).cell 2; have y3 := (Y0.out.below' hw).cell 3; have y4 := (Y0.out.below' hw).cell 4; have y5 := (Y0.out.below' hw).cell 5; go_simp; try with_reducible rfl)
  try simp only [put_laws]
  refine wpAnyT_take (i := 1) (v := ?_) rfl (by kernel_rfl) (by kernel_rfl) (by kernel_rfl) (by kernel_rfl) (by kernel_rfl) (fun _ _ _ h => absurd rfl (h.1 _)) (.inl ⟨by kernel_rfl, ?_⟩) hS ?_
  rotate_left
  · (intro w' hw; have y0 := (Y0.out.below' hw).cell 0; have y1 := (Y0.out.below' hw).cell 1; have y2 := (Y0.out.below' hw).cell 2; have y3 := (Y0.out.below' hw).cell 3; have y4 := (Y0.out.below' hw).cell 4; have y5 := (Y0.out.below' hw).cell 5; go_simp; try with_reducible rfl)
  try simp only [put_laws]
  refine wpAnyT_take (i := 2) (v := ?_) rfl (by kernel_rfl) (by kernel_rfl) (by kernel_rfl) (by kernel_rfl) (by kernel_rfl) (fun _ _ _ h => absurd rfl (h.1 _)) (.inl ⟨by kernel_rfl, ?_⟩) hS ?_
  rotate_left
  · (intro w' hw; have y0 := (Y0.out.below' hw).cell 0; have y1 := (Y0.out.below' hw).cell 1; have y2 := (Y0.out.below' hw).cell 2; have y3 := (Y0.out.below' hw).cell 3; have y4 := (Y0.out.below' hw).cell 4; have y5 := (Y0.out.below' hw).cell 5; go_simp; try with_reducible rfl)
  try simp only [put_laws]
  refine wpAnyT_take (i := 3) (v := ?_) rfl (by kernel_rfl) (by kernel_rfl) (by kernel_rfl) (by kernel_rfl) (by kernel_rfl) (fun _ _ _ h => absurd rfl (h.1 _)) (.inl ⟨by kernel_rfl, ?_⟩) hS ?_
  rotate_left
  · (intro w' hw; have y0 := (Y0.out.below' hw).cell 0; have y1 := (Y0.out.below' hw).cell 1; have y2 := (Y0.out.below' hw).cell 2; have y3 := (Y0.out.below' hw).cell 3; have y4 := (Y0.out.below' hw).cell 4; have y5 := (Y0.out.below' hw).cell 5; go_simp; try with_reducible rfl)
  try simp only [put_laws]
  refine wpAnyT_inv (fun listed a V => ∃ (b4 b5 b6 b7 : Bool) (x7 x8 : Value), listed = #[true, true, true, true, b4, b5, b6, b7] ∧ a = { tmps := List.toArray (.agg #[.int .i64 W, .int .i64 H, .slice dA nd dc, .slice tA nt tc, .slice sA ns sc, .slice zA zn zc, .slice cA cn cc, .slice wA wn wc] :: .agg #[.int .i64 at_, .slice xA xL.length xc, .int .i64 lo, .int .i64 hi] :: .agg #[.slice hA hn hc, .int .i64 lw, .slice pA pn pc, .int .i64 x.tk, .slice x.A x.L.length x.c, .bool x.seen] :: .pointer (some ⟨w.heap.size, 0, none⟩) :: .pointer (some ⟨w.heap.size + 1, 0, none⟩) :: .pointer (some ⟨w.heap.size + 2, 0, none⟩) :: .bool false :: x7 :: x8 :: undef :: undef :: undef :: undef :: undef :: undef :: undef :: undef :: undef :: undef :: undef :: undef :: .pointer (some ⟨w.heap.size + 2, 0, none⟩) :: .agg #[.slice hA hn hc, .int .i64 lw, .slice pA pn pc] :: .pointer (some ⟨w.heap.size + 2, 3, none⟩) :: .agg #[.int .i64 x.tk, .slice x.A x.L.length x.c, .bool x.seen] :: undef :: undef :: undef :: undef :: undef :: undef :: undef :: undef :: undef :: undef :: undef :: undef :: undef :: undef :: undef :: undef :: undef :: undef :: undef :: undef :: undef :: undef :: undef :: undef :: undef :: undef :: undef :: undef :: undef :: undef :: undef :: undef :: undef :: undef :: undef :: undef :: undef :: undef :: undef :: undef :: undef :: undef :: undef :: undef :: undef :: undef :: undef :: undef :: undef :: undef :: undef :: undef :: undef :: undef :: undef :: undef :: undef :: undef :: undef :: undef :: undef :: undef :: undef :: undef :: undef :: undef :: undef :: undef :: undef :: undef :: undef :: undef :: undef :: undef :: undef :: undef :: undef :: undef :: undef :: undef :: undef :: undef :: undef :: undef :: undef :: undef :: undef :: undef :: undef :: undef :: undef :: undef :: undef :: undef :: undef :: undef :: undef :: undef :: undef :: undef :: undef :: undef :: undef :: undef :: undef :: undef :: undef :: undef :: undef :: undef :: undef :: undef :: undef :: undef :: undef :: undef :: undef :: undef :: undef :: undef :: undef :: undef :: undef :: undef :: undef :: undef :: undef :: undef :: undef :: undef :: undef :: undef :: undef :: undef :: undef :: undef :: undef :: undef :: undef :: undef :: undef :: undef :: undef :: undef :: []), defers := [] } ∧ FwI X (.slice hA hn hc) (.int .i64 lw) (.slice pA pn pc) (.int .i64 x.tk) (.slice x.A x.L.length x.c) (.bool x.seen) b4 b5 b6 b7 x7 x8 V) ?_ ?_ _ _ _ _ (of_decide_eq_true (by kernel_rfl)) ?_
  rotate_left 2
  · exact ⟨false, false, false, false, undef, undef, rfl, rfl, ⟨hS, fun h => (by cases h), fun h => (by cases h), fun h => (by cases h), fun h => (by cases h)⟩⟩
  rotate_left
  · rintro listed a V i o hlt hun hall ho ⟨b4, b5, b6, b7, x7, x8, rfl, rfl, hI⟩ K' hK'
    have hi : i = 0 ∨ i = 1 ∨ i = 2 ∨ i = 3 ∨ i = 4 ∨ i = 5 ∨ i = 6 ∨ i = 7 := by have hlt' : i < 8 := hlt; omega
    rcases hi with rfl | rfl | rfl | rfl | rfl | rfl | rfl | rfl
    · exact absurd hun (by simp)
    · exact absurd hun (by simp)
    · exact absurd hun (by simp)
    · exact absurd hun (by simp)
    · obtain rfl : b4 = false := hun
      have ho' := Option.some.inj ho
      subst ho'
      go_simp
      try simp only [put_laws]
      exact hK'.out _ _ (.inr (hI.b.alloc hI.b.size _)) ⟨true, b5, b6, b7, _, _, rfl, rfl, hI.alloc4 rfl⟩
    · obtain rfl : b5 = false := hun
      have ho' := Option.some.inj ho
      subst ho'
      go_simp
      try simp only [put_laws]
      exact hK'.out _ _ (.inr (hI.b.alloc hI.b.size _)) ⟨b4, true, b6, b7, _, _, rfl, rfl, hI.alloc5 rfl⟩
    · obtain rfl : b6 = false := hun
      have ho' := Option.some.inj ho
      subst ho'
      have hc : b4 = true := hall _ (Array.mem_of_getElem? (i := 0) rfl) rfl
      obtain ⟨g, hg, rfl, hbk⟩ := hI.h4 hc
      rw [if_neg (by simp)] at hbk
      have c0 := hbk.cell 0
      have c1 := hbk.cell 1
      have c2 := hbk.cell 2
      have f0 := hbk.frz 0
      have f1 := hbk.frz 1
      have f2 := hbk.frz 2
      have hgl := hbk.lt
      go_simp
      try simp only [put_laws]
      exact hK'.out _ _ (.inr ((hI.set6 hc).b)) ⟨b4, b5, true, b7, _, _, rfl, rfl, hI.set6 hc⟩
    · obtain rfl : b7 = false := hun
      have ho' := Option.some.inj ho
      subst ho'
      have hc : b5 = true := hall _ (Array.mem_of_getElem? (i := 0) rfl) rfl
      obtain ⟨g, hg, rfl, hbk⟩ := hI.h5 hc
      rw [if_neg (by simp)] at hbk
      have c0 := hbk.cell 0
      have c1 := hbk.cell 1
      have c2 := hbk.cell 2
      have f0 := hbk.frz 0
      have f1 := hbk.frz 1
      have f2 := hbk.frz 2
      have hgl := hbk.lt
      go_simp
      try simp only [put_laws]
      exact hK'.out _ _ (.inl rfl) ⟨b4, b5, b6, true, _, _, rfl, rfl, hI.set7 hc⟩
  rintro listed a V hr ⟨b4, b5, b6, b7, x7, x8, rfl, rfl, hI⟩
  have hall : b4 = true ∧ b5 = true ∧ b6 = true ∧ b7 = true := by
    clear hI
    cases b4 <;> cases b5 <;> cases b6 <;> cases b7 <;> first | exact ⟨rfl, rfl, rfl, rfl⟩ | exact absurd hr (of_decide_eq_false (by kernel_rfl))
  obtain ⟨rfl, rfl, rfl, rfl⟩ := hall
  refine ⟨fun x e => (by cases e), ?_⟩
  obtain ⟨g7, hg7, rfl, hP7⟩ := hI.h4 rfl
  obtain ⟨g8, hg8, rfl, hS8⟩ := hI.h5 rfl
  rw [if_pos rfl] at hP7 hS8
  have HB1 := Lib.hid (HB0.out.trans (hI.b.mono HB0.out.size))
  have K1 := Lib.hid (K0.out.below' hI.b)
  have X1 := Lib.hid (X0.out.below' hI.b)
  have P1 := Lib.hid hP7
  have S1 := Lib.hid hS8
  have HG7 := Lib.hid (show w.heap.size ≤ g7 from Nat.le_trans HB0.out.size hg7)
  clear hP7 hS8 hg7 hg8 hr hS hI K0 X0 Y0 HB0
  clear X
  go_upto_region 2 with fail
  refine wp_nopanic ?_
  refine wp_region_T 6 (fun w' => Below V.heap.size V w') (by kernel_rfl) (Below.refl _ _).drew ?_
  intro hS
  refine wpAnyT_take (i := 0) (v := ?_) rfl (by kernel_rfl) (by kernel_rfl) (by kernel_rfl) (by kernel_rfl) (by kernel_rfl) (fun _ _ _ h => absurd rfl (h.1 _)) (.inl ⟨by kernel_rfl, ?_⟩) hS ?_
  rotate_left
  · (intro w' hw; have p0 := (P1.out.below' hw).cell 0; have s0 := (S1.out.below' hw).cell 0; have s1 := (S1.out.below' hw).cell 1; have s2 := (S1.out.below' hw).cell 2; go_simp; try with_reducible rfl)
  try simp only [put_laws]
  refine wpAnyT_take (i := 1) (v := ?_) rfl (by kernel_rfl) (by kernel_rfl) (by kernel_rfl) (by kernel_rfl) (by kernel_rfl) (fun _ _ _ h => absurd rfl (h.1 _)) (.inl ⟨by kernel_rfl, ?_⟩) hS ?_
  rotate_left
  · (intro w' hw; have p0 := (P1.out.below' hw).cell 0; have s0 := (S1.out.below' hw).cell 0; have s1 := (S1.out.below' hw).cell 1; have s2 := (S1.out.below' hw).cell 2; go_simp; try with_reducible rfl)
  try simp only [put_laws]
  refine wpAnyT_take (i := 3) (v := ?_) rfl (by kernel_rfl) (by kernel_rfl) (by kernel_rfl) (by kernel_rfl) (by kernel_rfl) (fun _ _ _ h => absurd rfl (h.1 _)) (.inl ⟨by kernel_rfl, ?_⟩) hS ?_
  rotate_left
  · (intro w' hw; have p0 := (P1.out.below' hw).cell 0; have s0 := (S1.out.below' hw).cell 0; have s1 := (S1.out.below' hw).cell 1; have s2 := (S1.out.below' hw).cell 2; go_simp; try with_reducible rfl)
  try simp only [put_laws]
  refine wpAnyT_inv (fun listed a Z => ∃ (b2 b4 b5 b6 : Bool) (x27 x29 x30 x9 : Value), listed = #[true, true, b2, true, b4, b5, b6] ∧ a = { tmps := List.toArray (.agg #[.int .i64 W, .int .i64 H, .slice dA nd dc, .slice tA nt tc, .slice sA ns sc, .slice zA zn zc, .slice cA cn cc, .slice wA wn wc] :: .agg #[.int .i64 at_, .slice xA xL.length xc, .int .i64 lo, .int .i64 hi] :: .agg #[.slice hA hn hc, .int .i64 lw, .slice pA pn pc, .int .i64 x.tk, .slice x.A x.L.length x.c, .bool x.seen] :: .pointer (some ⟨w.heap.size, 0, none⟩) :: .pointer (some ⟨w.heap.size + 1, 0, none⟩) :: .pointer (some ⟨w.heap.size + 2, 0, none⟩) :: .bool false :: .pointer (some ⟨g7, 0, none⟩) :: .pointer (some ⟨g8, 0, none⟩) :: x9 :: undef :: undef :: undef :: undef :: undef :: undef :: undef :: undef :: undef :: undef :: undef :: .pointer (some ⟨w.heap.size + 2, 0, none⟩) :: .agg #[.slice hA hn hc, .int .i64 lw, .slice pA pn pc] :: .pointer (some ⟨w.heap.size + 2, 3, none⟩) :: .agg #[.int .i64 x.tk, .slice x.A x.L.length x.c, .bool x.seen] :: .pointer (some ⟨g7, 0, none⟩) :: .slice hA hn hc :: x27 :: .agg #[.int .i64 x.tk, .slice x.A x.L.length x.c, .bool x.seen] :: x29 :: x30 :: undef :: undef :: undef :: undef :: undef :: undef :: undef :: undef :: undef :: undef :: undef :: undef :: undef :: undef :: undef :: undef :: undef :: undef :: undef :: undef :: undef :: undef :: undef :: undef :: undef :: undef :: undef :: undef :: undef :: undef :: undef :: undef :: undef :: undef :: undef :: undef :: undef :: undef :: undef :: undef :: undef :: undef :: undef :: undef :: undef :: undef :: undef :: undef :: undef :: undef :: undef :: undef :: undef :: undef :: undef :: undef :: undef :: undef :: undef :: undef :: undef :: undef :: undef :: undef :: undef :: undef :: undef :: undef :: undef :: undef :: undef :: undef :: undef :: undef :: undef :: undef :: undef :: undef :: undef :: undef :: undef :: undef :: undef :: undef :: undef :: undef :: undef :: undef :: undef :: undef :: undef :: undef :: undef :: undef :: undef :: undef :: undef :: undef :: undef :: undef :: undef :: undef :: undef :: undef :: undef :: undef :: undef :: undef :: undef :: undef :: undef :: undef :: undef :: undef :: undef :: undef :: undef :: undef :: undef :: undef :: undef :: undef :: undef :: undef :: undef :: undef :: undef :: undef :: undef :: undef :: undef :: undef :: undef :: undef :: undef :: undef :: undef :: undef :: []), defers := [] } ∧ FwJ V hn Xs x b2 b4 b5 b6 x27 x29 x30 x9 Z) ?_ ?_ _ _ _ _ (of_decide_eq_true (by kernel_rfl)) ?_
  rotate_left 2
  · exact ⟨false, false, false, false, undef, undef, undef, undef, rfl, rfl, ⟨hS, fun h => (by cases h), fun h => (by cases h), fun h => (by cases h), fun h => (by cases h), fun h => (by cases h), fun h => (by cases h)⟩⟩
  rotate_left
  · rintro listed a Z i o hlt hun hall ho ⟨b2, b4, b5, b6, x27, x29, x30, x9, rfl, rfl, hI⟩ K' hK'
    have hi : i = 0 ∨ i = 1 ∨ i = 2 ∨ i = 3 ∨ i = 4 ∨ i = 5 ∨ i = 6 := by have hlt' : i < 7 := hlt; omega
    rcases hi with rfl | rfl | rfl | rfl | rfl | rfl | rfl
    · exact absurd hun (by simp)
    · exact absurd hun (by simp)
    · obtain rfl : b2 = false := hun
      obtain rfl : b5 = false := by
        cases hb : b5
        · rfl
        · have := (hI.c5 hb).1; cases this
      obtain rfl : b6 = false := by
        cases hb : b6
        · rfl
        · have := hI.c6 hb; cases this
      have ho' := Option.some.inj ho
      subst ho'
      go_simp
      refine (rcopyseen_any hA hn hc B Xs Z (HRH.out Z (HB1.out.trans (hI.b.mono HB1.out.size))) (Nat.le_trans hB (Nat.le_trans HB1.out.size hI.b.size)) (by omega) (fun i hi => Nat.le_trans (HHL.out i hi) (by omega))).mono ?_
      rintro e w2 ⟨⟨v2, rfl, hcs⟩, hb⟩
      try simp only
      exact hK'.out _ _ (.inr (hI.b.trans (hb.mono hI.b.size))) ⟨true, b4, false, false, _, _, _, _, rfl, rfl, { hI.below hb with h2 := fun _ _ => hcs.less hI.b.size, c5 := fun h => (by cases h), h5 := fun h => (by cases h) }⟩
    · exact absurd hun (by simp)
    · obtain rfl : b4 = false := hun
      obtain rfl : b5 = false := by
        cases hb : b5
        · rfl
        · have := (hI.c5 hb).2; cases this
      obtain rfl : b6 = false := by
        cases hb : b6
        · rfl
        · have := hI.c6 hb; cases this
      have ho' := Option.some.inj ho
      subst ho'
      go_simp
      try simp only [put_laws]
      exact hK'.out _ _ (.inr (hI.b.alloc hI.b.size _)) ⟨b2, true, false, false, _, _, _, _, rfl, rfl, { hI.below (belowAlloc _ _) with h4 := fun _ => ⟨_, hI.b.size, rfl, fun _ => Blk.new _ _ _⟩, c5 := fun h => (by cases h), h5 := fun h => (by cases h) }⟩
    · obtain rfl : b5 = false := hun
      obtain rfl : b6 = false := by
        cases hb : b6
        · rfl
        · have := hI.c6 hb; cases this
      have ho' := Option.some.inj ho
      subst ho'
      have hc2 : b2 = true := hall _ (Array.mem_of_getElem? (i := 0) rfl) rfl
      have hc4 : b4 = true := hall _ (Array.mem_of_getElem? (i := 1) rfl) rfl
      obtain ⟨g, hg, rfl, hbk⟩ := hI.h4 hc4
      have hbk := hbk rfl
      obtain ⟨U, ho1, hl1⟩ := hI.h2 hc2 rfl
      refine step_catB (by rfl) (.tmp 27) (.tmp 29) 45 (by rfl) 68 i0 _ 3 40 Tryz.underlying45 MI.out.1 MI.out.2.1 MI.out.2.2.1 MI.out.2.2.2 rfl (by omega) (by rfl) ho1 (by omega) hI.b.size (sgC_one x) (by rfl) (sgC_rd hbk) (by omega) (by omega) ?_
      intro v5 w5 ho5 hg5 _
      try simp only [put_laws]
      have hb5 : Below V.heap.size V w5 := hI.b.grown hg5 hI.b.size fun r e => (Own.block ho1 e).1
      exact hK'.out _ _ (.inr hb5) ⟨b2, b4, true, false, _, _, _, _, rfl, rfl, ⟨hb5, fun _ h => (by cases h), fun _ => ⟨g, hg, rfl, fun h => (by cases h)⟩, fun _ => ⟨U, ho5, fun i hi => Own.apart_grown (hl1 i hi) (ho1.apart_type (hl1 i hi) (by decide)) hg5⟩, fun h => (by cases h), fun _ => ⟨hc2, hc4⟩, fun h => (by cases h)⟩⟩
    · obtain rfl : b6 = false := hun
      have ho' := Option.some.inj ho
      subst ho'
      have hc5 : b5 = true := hall _ (Array.mem_of_getElem? (i := 0) rfl) rfl
      go_simp
      try simp only [put_laws]
      exact hK'.out _ _ (.inl rfl) ⟨b2, b4, b5, true, _, _, _, _, rfl, rfl, ⟨hI.b, hI.h2, hI.h4, hI.h5, fun _ => rfl, hI.c5, fun _ => hc5⟩⟩
  rintro listed a Z hr ⟨b2, b4, b5, b6, x27, x29, x30, x9, rfl, rfl, hI⟩
  have hall : b2 = true ∧ b4 = true ∧ b5 = true ∧ b6 = true := by
    clear hI
    cases b2 <;> cases b4 <;> cases b5 <;> cases b6 <;> first | exact ⟨rfl, rfl, rfl, rfl⟩ | exact absurd hr (of_decide_eq_false (by kernel_rfl))
  obtain ⟨rfl, rfl, rfl, rfl⟩ := hall
  refine ⟨fun x e => (by cases e), ?_⟩
  obtain ⟨U, hC⟩ := hI.h5 rfl
  obtain ⟨A9, c9, rfl⟩ := hC.form
  obtain rfl := hI.h6 rfl
  have HC2 := Lib.hid hC
  have HB2 := Lib.hid (HB1.out.trans (hI.b.mono HB1.out.size))
  have K2 := Lib.hid (K1.out.below' hI.b)
  have X2 := Lib.hid (X1.out.below' hI.b)
  have P2 := Lib.hid (P1.out.below' hI.b)
  have S2 := Lib.hid (S1.out.below' hI.b)
  have HB9 := Lib.hid (show w.heap.size ≤ V.heap.size from HB1.out.size)
  clear hr hS hI hC K1 X1 P1 S1 HB1
  generalize V.heap.size = B9 at HC2 HB9
  clear V
  obtain ⟨w2, rfl⟩ : ∃ w2, w2 = Z := ⟨_, rfl⟩
  obtain ⟨C2, -⟩ : Hid (CS1 w2 B9 (.slice A9 (hn + 1) c9) hn Xs x U) ∧ True := ⟨HC2, trivial⟩
  clear HC2
  obtain ⟨Ys, hYs⟩ : ∃ Y, Y = moreX hn Xs U x := ⟨_, rfl⟩
  have HRS9 := Lib.hid (fun (V : World) (hc : CS1 V B9 (.slice A9 (hn + 1) c9) hn Xs x U) (hb : Below w.heap.size w V) => (show RdS V V.heap.size A9 (hn + 1) Ys from by rw [hYs]; exact hc.rd HHM.out ((HRY.out V hb).more (Nat.le_trans hB hb.size)) hxl))
  have HSG := Lib.hid (show ∀ k, k < hn → (Ys k).sg = (Xs k).sg from fun k hk => by rw [hYs]; exact moreX_sg hn Xs U x k hk)
  have HVB := Lib.hid (fun (V : World) (hb : Below w.heap.size w V) (A : Option Addr) (c n : Nat) (Zs : Nat → SgV) (hr : RdS V V.heap.size A n Zs) (hn' : n ≤ maxLen) => valid_any (dc := dc) (tc := tc) (sc := sc) (zc := zc) (cc := cc) (wc := wc) (xc := xc) (hc := c) (hn := n) (hA := A) (Xs := Zs) (B := V.heap.size) (W := W) (H := H) (at_ := at_) (lo := lo) (hi := hi) hnd hnt hns hzn hcn hwn ((HRR.out V hb).more (Nat.le_trans hB hb.size)) (Nat.le_refl _) ((HRX.out V hb).more (Nat.le_trans hB hb.size)) hx4 hr hn')
  clear hYs HVA HRY HHL HHM
  have k0 := K2.out.cell 0
  have k1 := K2.out.cell 1
  have k2 := K2.out.cell 2
  have k3 := K2.out.cell 3
  have k4 := K2.out.cell 4
  have k5 := K2.out.cell 5
  have k6 := K2.out.cell 6
  have k7 := K2.out.cell 7
  have x0 := X2.out.cell 0
  have x1 := X2.out.cell 1
  have x2 := X2.out.cell 2
  have x3 := X2.out.cell 3
  have p0 := P2.out.cell 0
  have s1 := S2.out.cell 1
  unfold maxLen at hxl
  by_cases hl2 : 200 < x.L.length
  · skip
    have g1 : decide (200 < x.L.length) = true := decide_eq_true hl2
    have g2 : decide ((200 : Int) < (x.L.length : Int)) = true := decide_eq_true (by omega)
    clear HRS9 HVB
    have HWX := Lib.hid (HWK.out w2 HB2.out)
    go_wp2_with fail
    refine HWX.out.mono ?_
    rintro e wz ⟨rfl, hb⟩
    have HBZ := Lib.hid (HB2.out.trans (hb.mono HB2.out.size))
    clear hb
    go_wp2_with fail
    go_ret
    exact ⟨rfl, HBZ.out⟩
  · skip
    have g1 : decide (200 < x.L.length) = false := decide_eq_false hl2
    have g2 : decide ((200 : Int) < (x.L.length : Int)) = false := decide_eq_false (by omega)
    have HVX := Lib.hid (HVB.out w2 HB2.out hA hc hn Xs ((HRH.out w2 HB2.out).more (Nat.le_trans hB HB2.out.size)) hhn)
    go_wp2_with fail
    refine HVX.out.mono ?_
    rintro e w3 ⟨⟨q, rfl, hq⟩, hb⟩
    have HB3 := Lib.hid (HB2.out.trans (hb.mono HB2.out.size))
    have K3 := Lib.hid (K2.out.below' hb)
    have X3 := Lib.hid (X2.out.below' hb)
    have P3 := Lib.hid (P2.out.below' hb)
    have C3 := Lib.hid (C2.out.below hb)
    have HQ := Lib.hid hq
    clear hq HVX S2 s1
    clear k0 k1 k2 k3 k4 k5 k6 k7 x0 x1 x2 x3 p0
    clear hb
    cases q
    · skip
      clear K3 X3 P3
      have HWX := Lib.hid (HWK.out w3 HB3.out)
      go_wp2_with fail
      refine HWX.out.mono ?_
      rintro e wz ⟨rfl, hb⟩
      have HBZ := Lib.hid (HB3.out.trans (hb.mono HB3.out.size))
      clear hb
      go_wp2_with fail
      go_ret
      exact ⟨rfl, HBZ.out⟩
    have HQA := Lib.hid (HQ.out rfl)
    clear HQ
    have h6 := HQA.out.six
    have HVY := Lib.hid (HVB.out w3 HB3.out A9 c9 (hn + 1) Ys (HRS9.out w3 C3.out HB3.out) (by unfold maxLen; omega))
    have k0 := K3.out.cell 0
    have k1 := K3.out.cell 1
    have k2 := K3.out.cell 2
    have k3 := K3.out.cell 3
    have k4 := K3.out.cell 4
    have k5 := K3.out.cell 5
    have k6 := K3.out.cell 6
    have k7 := K3.out.cell 7
    have x0 := X3.out.cell 0
    have x1 := X3.out.cell 1
    have x2 := X3.out.cell 2
    have x3 := X3.out.cell 3
    go_wp2_with fail
    refine HVY.out.mono ?_
    rintro e w4 ⟨⟨q, rfl, hq⟩, hb⟩
    have HB4 := Lib.hid (HB3.out.trans (hb.mono HB3.out.size))
    have K4 := Lib.hid (K3.out.below' hb)
    have X4 := Lib.hid (X3.out.below' hb)
    have P4 := Lib.hid (P3.out.below' hb)
    have C4 := Lib.hid (C3.out.below hb)
    have HQ2 := Lib.hid hq
    clear hq HVY HVB
    clear k0 k1 k2 k3 k4 k5 k6 k7 x0 x1 x2 x3
    clear hb
    cases q
    · skip
      clear K4 X4 P4
      have HWX := Lib.hid (HWK.out w4 HB4.out)
      go_wp2_with fail
      refine HWX.out.mono ?_
      rintro e wz ⟨rfl, hb⟩
      have HBZ := Lib.hid (HB4.out.trans (hb.mono HB4.out.size))
      clear hb
      go_wp2_with fail
      go_ret
      exact ⟨rfl, HBZ.out⟩
    obtain ⟨hok, hxo, hso, hfar, hfars, _⟩ := HQA.out
    obtain ⟨_, _, hso2, _, _, h62⟩ := HQ2.out rfl
    clear HQA HQ2
    obtain ⟨d, hd, rfl, rfl, rfl, rfl, rfl, rfl, rfl, rfl, rfl, rfl, rfl, rfl, rfl, rfl, hcl⟩ := M.chkD_form hok
    have h60 := hd.s.t2
    have h1n := hd.s.t1
    have hnd2 := hd.s.nd1
    obtain ⟨⟨ha1, ha2⟩, hxl2, ⟨hx1, hx2⟩, hl1, hl2', hl3⟩ := chkX_bd hxo
    obtain ⟨ta, rfl⟩ : ∃ n : Nat, at_ = (n : Int) := ⟨at_.toNat, by omega⟩
    have HVL := Lib.hid (And.intro hd (And.intro hcl (And.intro hxo (And.intro hso hso2))))
    clear hok hxo hso hso2 hfar hfars hxl2 hx1 hx2
    have HPE := Lib.hid (fun (V : World) (hb : Below w.heap.size w V) (A : Option Addr) (c n : Nat) (Zs : Nat → SgV) (hr : RdS V V.heap.size A n Zs) (hn' : n ≤ maxLen) (hs : chkS d.s.nd d.s.nt (ta : Int) n Zs = true) => plcs_rows (dc := dc) (tc := tc) (sc := sc) (zc := zc) (cc := cc) (wc := wc) (xc := xc) (hc := c) (hn := n) (hA := A) (Xs := Zs) (B := V.heap.size) HVL.out.1 HVL.out.2.1 ((HRR.out V hb).more (Nat.le_trans hB hb.size)) (Nat.le_refl _) (HWY.out V hb) ((HRX.out V hb).more (Nat.le_trans hB hb.size)) hx4 hr hn' (HFR.out V hb) HVL.out.2.2.1 hs)
    have HLE := Lib.hid (fun (V : World) (hb : Below w.heap.size w V) (A : Option Addr) (c n : Nat) (Zs : Nat → SgV) (hr : RdS V V.heap.size A n Zs) (hn' : n ≤ maxLen) (hs : chkS d.s.nd d.s.nt (ta : Int) n Zs = true) => lees_list (dc := dc) (tc := tc) (sc := sc) (zc := zc) (cc := cc) (wc := wc) (xc := xc) (hc := c) (hn := n) (hA := A) (Xs := Zs) (B := V.heap.size) HVL.out.1 HVL.out.2.1 ((HRR.out V hb).more (Nat.le_trans hB hb.size)) (Nat.le_refl _) (HWY.out V hb) ((HRX.out V hb).more (Nat.le_trans hB hb.size)) hx4 hr hn' (HFR.out V hb) HVL.out.2.2.1 hs)
    have HLO := Lib.hid (fun (V : World) (hb : Below w.heap.size w V) (A : Option Addr) (c n : Nat) (Zs : Nat → SgV) (hr : RdS V V.heap.size A n Zs) (hn' : n ≤ maxLen) (hs : chkS d.s.nd d.s.nt (ta : Int) n Zs = true) => lees_own (dc := dc) (tc := tc) (sc := sc) (zc := zc) (cc := cc) (wc := wc) (xc := xc) (hc := c) (hn := n) (hA := A) (Xs := Zs) (B := V.heap.size) HVL.out.1 HVL.out.2.1 ((HRR.out V hb).more (Nat.le_trans hB hb.size)) (Nat.le_refl _) (HWY.out V hb) ((HRX.out V hb).more (Nat.le_trans hB hb.size)) hx4 hr hn' (HFR.out V hb) HVL.out.2.2.1 hs)
    have HPP := Lib.hid (fun (V : World) (hb : Below w.heap.size w V) (hr : RdS V V.heap.size A9 (hn + 1) Ys) => possible_past (dc := dc) (tc := tc) (sc := sc) (zc := zc) (cc := cc) (wc := wc) (xc := xc) (hc := c9) (hn := hn + 1) (hA := A9) (Xs := Ys) (B := V.heap.size) (pc := pc) (lw := lw) (lo := lo) (hi := hi) HVL.out.1 HVL.out.2.1 ((HRR.out V hb).more (Nat.le_trans hB hb.size)) (Nat.le_refl _) ((HRX.out V hb).more (Nat.le_trans hB hb.size)) hx4 hr (by unfold maxLen; omega) ta (by omega) hl1 hl3 ((HRP.out V hb).more (Nat.le_trans hB hb.size)) hpn)
    have HIS := Lib.hid (his_in (d := d) (at_ := (ta : Int)) (lo := lo) (hi := hi) (lw := lw) (xL := xL) (hn := hn + 1) (n := pn) (Xs := Ys) (f := pf) (show 1 ≤ d.s.nt - ta by omega))
    have HS2 := Lib.hid (show strP d (ta : Int) lo hi xL (hn + 1) Ys 0 (-1) = true → strP d (ta : Int) lo hi xL hn Xs 0 (-1) = true from strP_more HSG.out)
    obtain ⟨m, hm⟩ : ∃ m, m = d.s.nt - ta := ⟨_, rfl⟩
    have HM1 := Lib.hid (show ta + m = d.s.nt by omega)
    rw [Int.toNat_natCast, ← hm] at HIS
    obtain ⟨pl1, hpl1⟩ : ∃ f, f = plcL d ta m hn xL Xs lo hi := ⟨_, rfl⟩
    obtain ⟨pl2, hpl2⟩ : ∃ f, f = plcL d ta m (hn + 1) xL Ys lo hi := ⟨_, rfl⟩
    obtain ⟨L1, hL1⟩ : ∃ f, f = leeL d (ta : Int) lo hi xL hn Xs := ⟨_, rfl⟩
    obtain ⟨L2, hL2⟩ : ∃ f, f = leeL d (ta : Int) lo hi xL (hn + 1) Ys := ⟨_, rfl⟩
    have HPN1 := Lib.hid (show ∀ k, (pl1 k).length ≤ maxLen from fun k => by rw [hpl1]; have := M.listB_len d.s.nd (plcB d ta m hn xL Xs lo hi k); show (M.listB _ _).length ≤ _; unfold maxLen; omega)
    have HPN2 := Lib.hid (show ∀ k, (pl2 k).length ≤ 1000 from fun k => by rw [hpl2]; have := M.listB_len d.s.nd (plcB d ta m (hn + 1) xL Ys lo hi k); show (M.listB _ _).length ≤ _; omega)
    have HLN1 := Lib.hid (show L1.length ≤ maxLen from by rw [hL1]; unfold leeL; have := M.spanL_len (lo := lo) (hi := hi) (p := leeP d (ta : Int).toNat (d.s.nt - (ta : Int).toNat) hn xL Xs (-1) 0); unfold maxLen; omega)
    have HLN2 := Lib.hid (show L2.length ≤ 1000 from by rw [hL2]; unfold leeL; have := M.spanL_len (lo := lo) (hi := hi) (p := leeP d (ta : Int).toNat (d.s.nt - (ta : Int).toNat) (hn + 1) xL Ys (-1) 0); omega)
    have HSU := Lib.hid (show ∀ k, k < m → ∀ q, q < (pl2 k).length → (pl2 k).getD q 0 ∈ pl1 k from fun k hk q hq => by
      rw [hpl1]
      refine plc_more HSG.out hk ?_
      rw [← hpl2, List.getD_eq_getElem?_getD, List.getElem?_eq_getElem hq, Option.getD_some]
      exact List.getElem_mem hq)
    have HSL := Lib.hid (show ∀ q, q < L2.length → L2.getD q 0 ∈ L1 from fun q hq => by
      rw [hL1]
      refine lee_more HSG.out ?_
      rw [← hL2, List.getD_eq_getElem?_getD, List.getElem?_eq_getElem hq, Option.getD_some]
      exact List.getElem_mem hq)
    have HLE2 := Lib.hid (show strP d (ta : Int) lo hi xL (hn + 1) Ys 0 (-1) = false → L2 = [] from fun h => by rw [hL2]; exact leeL_nil.2 h)
    have HP1 := Lib.hid (fun (V : World) (hb : Below w.heap.size w V) => HPE.out V hb hA hc hn Xs ((HRH.out V hb).more (Nat.le_trans hB hb.size)) hhn HVL.out.2.2.2.1)
    have HP2 := Lib.hid (fun (V : World) (hb : Below w.heap.size w V) (hC : CS1 V B9 (.slice A9 (hn + 1) c9) hn Xs x U) => HPE.out V hb A9 c9 (hn + 1) Ys (HRS9.out V hC hb) (by unfold maxLen; omega) HVL.out.2.2.2.2)
    have HL1 := Lib.hid (fun (V : World) (hb : Below w.heap.size w V) => HLE.out V hb hA hc hn Xs ((HRH.out V hb).more (Nat.le_trans hB hb.size)) hhn HVL.out.2.2.2.1)
    have HL2 := Lib.hid (fun (V : World) (hb : Below w.heap.size w V) (hC : CS1 V B9 (.slice A9 (hn + 1) c9) hn Xs x U) => HLO.out V hb A9 c9 (hn + 1) Ys (HRS9.out V hC hb) (by unfold maxLen; omega) HVL.out.2.2.2.2)
    rw [← hm, ← hpl1] at HP1
    rw [← hm, ← hpl2] at HP2
    rw [← hL1] at HL1
    rw [← hL2] at HL2
    rw [← hpl2, ← hL2] at HIS
    rw [← hm] at HPP
    obtain ⟨hb9, hhb⟩ : ∃ q, q = M.hisB d ta m lo hi xL (fun i => (Ys i).sg) (hn + 1) lw pn pf := ⟨_, rfl⟩
    rw [← hhb] at HIS HPP
    clear hm hpl1 hpl2 hL1 hL2 hhb hd hcl HPE HLE HLO HSG
    cases hq2 : strP d (ta : Int) lo hi xL (hn + 1) Ys 0 (-1)
    · skip
      cases hq1 : strP d (ta : Int) lo hi xL hn Xs 0 (-1)
      · skip
        have HSX := Lib.hid (show Calls Tryz.prog 31 #[.agg #[.int .i64 (d.s.W : Int), .int .i64 (d.s.H : Int), .slice dA d.s.nd dc, .slice tA d.s.nt tc, .slice sA d.s.nt sc, .slice zA d.s.nd zc, .slice cA d.nz cc, .slice wA (d.s.nt - 1) wc], .agg #[.int .i64 (ta : Int), .slice xA xL.length xc, .int .i64 lo, .int .i64 hi], .slice hA hn hc] w4 fun e w' => e = .returned (.tuple #[.slice none 0 0, .int .i64 3]) ∧ Below w4.heap.size w4 w' from (HP1.out w4 HB4.out).mono fun e w' h => by
          obtain ⟨hb, h⟩ := h
          rcases h with ⟨_, h1⟩ | ⟨h1, _⟩
          · exact ⟨h1, hb⟩
          · rw [hq1] at h1; cases h1)
        have k0 := K4.out.cell 0
        have k1 := K4.out.cell 1
        have k2 := K4.out.cell 2
        have k3 := K4.out.cell 3
        have k4 := K4.out.cell 4
        have k5 := K4.out.cell 5
        have k6 := K4.out.cell 6
        have k7 := K4.out.cell 7
        have x0 := X4.out.cell 0
        have x1 := X4.out.cell 1
        have x2 := X4.out.cell 2
        have x3 := X4.out.cell 3
        have p0 := P4.out.cell 0
        go_wp2_with fail
        refine HSX.out.mono ?_
        rintro e w5 ⟨rfl, hb⟩
        have HB5 := Lib.hid (HB4.out.trans (hb.mono HB4.out.size))
        have K5 := Lib.hid (K4.out.below' hb)
        have X5 := Lib.hid (X4.out.below' hb)
        have P5 := Lib.hid (P4.out.below' hb)
        have C5 := Lib.hid (C4.out.below hb)
        clear HSX HP1
        clear k0 k1 k2 k3 k4 k5 k6 k7 x0 x1 x2 x3 p0
        clear hb
        have HSX := Lib.hid (show Calls Tryz.prog 31 #[.agg #[.int .i64 (d.s.W : Int), .int .i64 (d.s.H : Int), .slice dA d.s.nd dc, .slice tA d.s.nt tc, .slice sA d.s.nt sc, .slice zA d.s.nd zc, .slice cA d.nz cc, .slice wA (d.s.nt - 1) wc], .agg #[.int .i64 (ta : Int), .slice xA xL.length xc, .int .i64 lo, .int .i64 hi], .slice A9 (hn + 1) c9] w5 fun e w' => e = .returned (.tuple #[.slice none 0 0, .int .i64 3]) ∧ Below w5.heap.size w5 w' from (HP2.out w5 HB5.out C5.out).mono fun e w' h => by
          obtain ⟨hb, h⟩ := h
          rcases h with ⟨_, h1⟩ | ⟨h1, _⟩
          · exact ⟨h1, hb⟩
          · rw [hq2] at h1; cases h1)
        have k0 := K5.out.cell 0
        have k1 := K5.out.cell 1
        have k2 := K5.out.cell 2
        have k3 := K5.out.cell 3
        have k4 := K5.out.cell 4
        have k5 := K5.out.cell 5
        have k6 := K5.out.cell 6
        have k7 := K5.out.cell 7
        have x0 := X5.out.cell 0
        have x1 := X5.out.cell 1
        have x2 := X5.out.cell 2
        have x3 := X5.out.cell 3
        go_wp2_with fail
        refine HSX.out.mono ?_
        rintro e w6 ⟨rfl, hb⟩
        have HB6 := Lib.hid (HB5.out.trans (hb.mono HB5.out.size))
        have K6 := Lib.hid (K5.out.below' hb)
        have X6 := Lib.hid (X5.out.below' hb)
        have P6 := Lib.hid (P5.out.below' hb)
        have C6 := Lib.hid (C5.out.below hb)
        clear HSX HP2
        clear k0 k1 k2 k3 k4 k5 k6 k7 x0 x1 x2 x3
        clear hb
        have HSX := Lib.hid (show Calls Tryz.prog 32 #[.agg #[.int .i64 (d.s.W : Int), .int .i64 (d.s.H : Int), .slice dA d.s.nd dc, .slice tA d.s.nt tc, .slice sA d.s.nt sc, .slice zA d.s.nd zc, .slice cA d.nz cc, .slice wA (d.s.nt - 1) wc], .agg #[.int .i64 (ta : Int), .slice xA xL.length xc, .int .i64 lo, .int .i64 hi], .slice hA hn hc] w6 fun e w' => e = .returned (.tuple #[.slice none 0 0, .int .i64 3]) ∧ Below w6.heap.size w6 w' from (HL1.out w6 HB6.out).mono fun e w' h => by
          obtain ⟨hb, h⟩ := h
          rcases h with ⟨_, h1⟩ | ⟨h1, _⟩
          · exact ⟨h1, hb⟩
          · rw [hq1] at h1; cases h1)
        have k0 := K6.out.cell 0
        have k1 := K6.out.cell 1
        have k2 := K6.out.cell 2
        have k3 := K6.out.cell 3
        have k4 := K6.out.cell 4
        have k5 := K6.out.cell 5
        have k6 := K6.out.cell 6
        have k7 := K6.out.cell 7
        have x0 := X6.out.cell 0
        have x1 := X6.out.cell 1
        have x2 := X6.out.cell 2
        have x3 := X6.out.cell 3
        have p0 := P6.out.cell 0
        go_wp2_with fail
        refine HSX.out.mono ?_
        rintro e w7 ⟨rfl, hb⟩
        have HB7 := Lib.hid (HB6.out.trans (hb.mono HB6.out.size))
        have K7 := Lib.hid (K6.out.below' hb)
        have X7 := Lib.hid (X6.out.below' hb)
        have P7 := Lib.hid (P6.out.below' hb)
        have C7 := Lib.hid (C6.out.below hb)
        clear HSX HL1
        clear k0 k1 k2 k3 k4 k5 k6 k7 x0 x1 x2 x3 p0
        clear hb
        have HSX := Lib.hid (show Calls Tryz.prog 32 #[.agg #[.int .i64 (d.s.W : Int), .int .i64 (d.s.H : Int), .slice dA d.s.nd dc, .slice tA d.s.nt tc, .slice sA d.s.nt sc, .slice zA d.s.nd zc, .slice cA d.nz cc, .slice wA (d.s.nt - 1) wc], .agg #[.int .i64 (ta : Int), .slice xA xL.length xc, .int .i64 lo, .int .i64 hi], .slice A9 (hn + 1) c9] w7 fun e w' => e = .returned (.tuple #[.slice none 0 0, .int .i64 3]) ∧ Below w7.heap.size w7 w' from (HL2.out w7 HB7.out C7.out).mono fun e w' h => by
          obtain ⟨hb, h⟩ := h
          rcases h with ⟨_, h1⟩ | ⟨h1, _⟩
          · exact ⟨h1, hb⟩
          · rw [hq2] at h1; cases h1)
        have k0 := K7.out.cell 0
        have k1 := K7.out.cell 1
        have k2 := K7.out.cell 2
        have k3 := K7.out.cell 3
        have k4 := K7.out.cell 4
        have k5 := K7.out.cell 5
        have k6 := K7.out.cell 6
        have k7 := K7.out.cell 7
        have x0 := X7.out.cell 0
        have x1 := X7.out.cell 1
        have x2 := X7.out.cell 2
        have x3 := X7.out.cell 3
        go_wp2_with fail
        refine HSX.out.mono ?_
        rintro e w8 ⟨rfl, hb⟩
        have HB8 := Lib.hid (HB7.out.trans (hb.mono HB7.out.size))
        have K8 := Lib.hid (K7.out.below' hb)
        have X8 := Lib.hid (X7.out.below' hb)
        have P8 := Lib.hid (P7.out.below' hb)
        have C8 := Lib.hid (C7.out.below hb)
        clear HSX HL2
        clear k0 k1 k2 k3 k4 k5 k6 k7 x0 x1 x2 x3
        clear hb
        have hbf : hb9 = false := by
          cases hb9
          · rfl
          · have h1 := (HIS.out rfl).2.1
            rw [HLE2.out hq2] at h1; cases h1
        subst hbf
        go_wp2_with fail
        go_loopw [18] (fun i wr => i = .int .i64 0 ∧ wr = w8) (fun _ _ => 0)
        case atStart => exact ⟨rfl, rfl⟩
        case round =>
          obtain ⟨rfl, hwr⟩ := hrel
          obtain rfl := hwr
          go_wp2_with fail
          go_loopw [20] (fun i wq => i = .int .i64 0 ∧ wq = wr) (fun _ _ => 0)
          case atStart => exact ⟨rfl, rfl⟩
          case round =>
            obtain ⟨rfl, hwr⟩ := hrel
            obtain rfl := hwr
            have p0 := P8.out.cell 0
            have f0 := P8.out.frz 0
            have hgl := P8.out.lt
            go_upto_region 25 with fail
            have HB9 := Lib.hid (HB8.out.setCell (p := ⟨g7, 0, none⟩) HG7.out (.slice A9 (hn + 1) c9))
            have K9 := Lib.hid (K8.out.far (p := ⟨g7, 0, none⟩) (blk_ne K8.out P8.out (by decide)) (.slice A9 (hn + 1) c9))
            have X9 := Lib.hid (X8.out.far (p := ⟨g7, 0, none⟩) (blk_ne X8.out P8.out (by decide)) (.slice A9 (hn + 1) c9))
            have C9 := Lib.hid (C8.out.set_ P8.out (by decide) (by decide) 0 (.slice A9 (hn + 1) c9))
            have P9 := Lib.hid (show Blk (wr.setCell ⟨g7, 0, none⟩ (.slice A9 (hn + 1) c9)) g7 61 #[.slice A9 (hn + 1) c9, .int .i64 lw, .slice pA pn pc] from P8.out.set_ 0 (.slice A9 (hn + 1) c9))
            generalize wr.setCell ⟨g7, 0, none⟩ (.slice A9 (hn + 1) c9) = w9 at HB9 K9 X9 C9 P9 ⊢
            clear p0 f0 hgl HB8 K8 X8 C8 P8
            have k0 := K9.out.cell 0
            have k1 := K9.out.cell 1
            have k2 := K9.out.cell 2
            have k3 := K9.out.cell 3
            have k4 := K9.out.cell 4
            have k5 := K9.out.cell 5
            have k6 := K9.out.cell 6
            have k7 := K9.out.cell 7
            have x0 := X9.out.cell 0
            have x1 := X9.out.cell 1
            have x2 := X9.out.cell 2
            have x3 := X9.out.cell 3
            have p0 := P9.out.cell 0
            have p1 := P9.out.cell 1
            have p2 := P9.out.cell 2
            have HPQ := Lib.hid (HPP.out w9 HB9.out (HRS9.out w9 C9.out HB9.out))
            go_wp2_with fail
            refine HPQ.out.mono ?_
            rintro e w10 ⟨rfl, hb⟩
            have HB10 := Lib.hid (HB9.out.trans (hb.mono HB9.out.size))
            have K10 := Lib.hid (K9.out.below' hb)
            have X10 := Lib.hid (X9.out.below' hb)
            have P10 := Lib.hid (P9.out.below' hb)
            have C10 := Lib.hid (C9.out.below hb)
            clear HPQ HPP
            clear k0 k1 k2 k3 k4 k5 k6 k7 x0 x1 x2 x3 p0 p1 p2
            clear hb
            have HWX := Lib.hid (HWK.out w10 HB10.out)
            go_wp2_with fail
            refine HWX.out.mono ?_
            rintro e wz ⟨rfl, hb⟩
            have HBZ := Lib.hid (HB10.out.trans (hb.mono HB10.out.size))
            clear hb
            go_wp2_with fail
            go_ret
            exact ⟨rfl, HBZ.out⟩
      · skip
        have HSX := Lib.hid (show Calls Tryz.prog 31 #[.agg #[.int .i64 (d.s.W : Int), .int .i64 (d.s.H : Int), .slice dA d.s.nd dc, .slice tA d.s.nt tc, .slice sA d.s.nt sc, .slice zA d.s.nd zc, .slice cA d.nz cc, .slice wA (d.s.nt - 1) wc], .agg #[.int .i64 (ta : Int), .slice xA xL.length xc, .int .i64 lo, .int .i64 hi], .slice hA hn hc] w4 fun e w' => (∃ ow U, e = .returned (.tuple #[.slice (some ⟨ow, 0, none⟩) m m, .int .i64 0]) ∧ Rws w' ow m U pl1) ∧ Below w4.heap.size w4 w' from (HP1.out w4 HB4.out).mono fun e w' h => by
          obtain ⟨hb, h⟩ := h
          rcases h with ⟨h1, _⟩ | ⟨_, h1⟩
          · rw [hq1] at h1; cases h1
          · exact ⟨h1, hb⟩)
        have k0 := K4.out.cell 0
        have k1 := K4.out.cell 1
        have k2 := K4.out.cell 2
        have k3 := K4.out.cell 3
        have k4 := K4.out.cell 4
        have k5 := K4.out.cell 5
        have k6 := K4.out.cell 6
        have k7 := K4.out.cell 7
        have x0 := X4.out.cell 0
        have x1 := X4.out.cell 1
        have x2 := X4.out.cell 2
        have x3 := X4.out.cell 3
        have p0 := P4.out.cell 0
        go_wp2_with fail
        refine HSX.out.mono ?_
        rintro e w5 ⟨⟨ow1, U1, rfl, hr⟩, hb⟩
        have HB5 := Lib.hid (HB4.out.trans (hb.mono HB4.out.size))
        have K5 := Lib.hid (K4.out.below' hb)
        have X5 := Lib.hid (X4.out.below' hb)
        have P5 := Lib.hid (P4.out.below' hb)
        have C5 := Lib.hid (C4.out.below hb)
        have R1 := Lib.hid hr
        clear hr
        clear HSX HP1
        clear k0 k1 k2 k3 k4 k5 k6 k7 x0 x1 x2 x3 p0
        clear hb
        have HSX := Lib.hid (show Calls Tryz.prog 31 #[.agg #[.int .i64 (d.s.W : Int), .int .i64 (d.s.H : Int), .slice dA d.s.nd dc, .slice tA d.s.nt tc, .slice sA d.s.nt sc, .slice zA d.s.nd zc, .slice cA d.nz cc, .slice wA (d.s.nt - 1) wc], .agg #[.int .i64 (ta : Int), .slice xA xL.length xc, .int .i64 lo, .int .i64 hi], .slice A9 (hn + 1) c9] w5 fun e w' => e = .returned (.tuple #[.slice none 0 0, .int .i64 3]) ∧ Below w5.heap.size w5 w' from (HP2.out w5 HB5.out C5.out).mono fun e w' h => by
          obtain ⟨hb, h⟩ := h
          rcases h with ⟨_, h1⟩ | ⟨h1, _⟩
          · exact ⟨h1, hb⟩
          · rw [hq2] at h1; cases h1)
        have k0 := K5.out.cell 0
        have k1 := K5.out.cell 1
        have k2 := K5.out.cell 2
        have k3 := K5.out.cell 3
        have k4 := K5.out.cell 4
        have k5 := K5.out.cell 5
        have k6 := K5.out.cell 6
        have k7 := K5.out.cell 7
        have x0 := X5.out.cell 0
        have x1 := X5.out.cell 1
        have x2 := X5.out.cell 2
        have x3 := X5.out.cell 3
        go_wp2_with fail
        refine HSX.out.mono ?_
        rintro e w6 ⟨rfl, hb⟩
        have HB6 := Lib.hid (HB5.out.trans (hb.mono HB5.out.size))
        have K6 := Lib.hid (K5.out.below' hb)
        have X6 := Lib.hid (X5.out.below' hb)
        have P6 := Lib.hid (P5.out.below' hb)
        have C6 := Lib.hid (C5.out.below hb)
        have R1 := Lib.hid (R1.out.below hb)
        clear HSX HP2
        clear k0 k1 k2 k3 k4 k5 k6 k7 x0 x1 x2 x3
        clear hb
        have HSX := Lib.hid (show Calls Tryz.prog 32 #[.agg #[.int .i64 (d.s.W : Int), .int .i64 (d.s.H : Int), .slice dA d.s.nd dc, .slice tA d.s.nt tc, .slice sA d.s.nt sc, .slice zA d.s.nd zc, .slice cA d.nz cc, .slice wA (d.s.nt - 1) wc], .agg #[.int .i64 (ta : Int), .slice xA xL.length xc, .int .i64 lo, .int .i64 hi], .slice hA hn hc] w6 fun e w' => (∃ A c, e = .returned (.tuple #[.slice A L1.length c, .int .i64 0]) ∧ Rd1 w' w'.heap.size A L1.length (fun j => L1.getD j 0)) ∧ Below w6.heap.size w6 w' from (HL1.out w6 HB6.out).mono fun e w' h => by
          obtain ⟨hb, h⟩ := h
          rcases h with ⟨h1, _⟩ | ⟨_, h1⟩
          · rw [hq1] at h1; cases h1
          · exact ⟨h1, hb⟩)
        have k0 := K6.out.cell 0
        have k1 := K6.out.cell 1
        have k2 := K6.out.cell 2
        have k3 := K6.out.cell 3
        have k4 := K6.out.cell 4
        have k5 := K6.out.cell 5
        have k6 := K6.out.cell 6
        have k7 := K6.out.cell 7
        have x0 := X6.out.cell 0
        have x1 := X6.out.cell 1
        have x2 := X6.out.cell 2
        have x3 := X6.out.cell 3
        have p0 := P6.out.cell 0
        go_wp2_with fail
        refine HSX.out.mono ?_
        rintro e w7 ⟨⟨l1A, l1c, rfl, hr⟩, hb⟩
        have HB7 := Lib.hid (HB6.out.trans (hb.mono HB6.out.size))
        have K7 := Lib.hid (K6.out.below' hb)
        have X7 := Lib.hid (X6.out.below' hb)
        have P7 := Lib.hid (P6.out.below' hb)
        have C7 := Lib.hid (C6.out.below hb)
        have R1 := Lib.hid (R1.out.below hb)
        have M1 := Lib.hid hr
        clear hr
        clear HSX HL1
        clear k0 k1 k2 k3 k4 k5 k6 k7 x0 x1 x2 x3 p0
        clear hb
        have HSX := Lib.hid (show Calls Tryz.prog 32 #[.agg #[.int .i64 (d.s.W : Int), .int .i64 (d.s.H : Int), .slice dA d.s.nd dc, .slice tA d.s.nt tc, .slice sA d.s.nt sc, .slice zA d.s.nd zc, .slice cA d.nz cc, .slice wA (d.s.nt - 1) wc], .agg #[.int .i64 (ta : Int), .slice xA xL.length xc, .int .i64 lo, .int .i64 hi], .slice A9 (hn + 1) c9] w7 fun e w' => e = .returned (.tuple #[.slice none 0 0, .int .i64 3]) ∧ Below w7.heap.size w7 w' from (HL2.out w7 HB7.out C7.out).mono fun e w' h => by
          obtain ⟨hb, h⟩ := h
          rcases h with ⟨_, h1⟩ | ⟨h1, _⟩
          · exact ⟨h1, hb⟩
          · rw [hq2] at h1; cases h1)
        have k0 := K7.out.cell 0
        have k1 := K7.out.cell 1
        have k2 := K7.out.cell 2
        have k3 := K7.out.cell 3
        have k4 := K7.out.cell 4
        have k5 := K7.out.cell 5
        have k6 := K7.out.cell 6
        have k7 := K7.out.cell 7
        have x0 := X7.out.cell 0
        have x1 := X7.out.cell 1
        have x2 := X7.out.cell 2
        have x3 := X7.out.cell 3
        go_wp2_with fail
        refine HSX.out.mono ?_
        rintro e w8 ⟨rfl, hb⟩
        have HB8 := Lib.hid (HB7.out.trans (hb.mono HB7.out.size))
        have K8 := Lib.hid (K7.out.below' hb)
        have X8 := Lib.hid (X7.out.below' hb)
        have P8 := Lib.hid (P7.out.below' hb)
        have C8 := Lib.hid (C7.out.below hb)
        have R1 := Lib.hid (R1.out.below hb)
        have M1 := Lib.hid ((M1.out.below hb).more hb.size)
        clear HSX HL2
        clear k0 k1 k2 k3 k4 k5 k6 k7 x0 x1 x2 x3
        clear hb
        have hbf : hb9 = false := by
          cases hb9
          · rfl
          · have h1 := (HIS.out rfl).2.1
            rw [HLE2.out hq2] at h1; cases h1
        subst hbf
        go_wp2_with fail
        go_loopw [18] (fun i wr => i = .int .i64 0 ∧ wr = w8) (fun _ _ => 0)
        case atStart => exact ⟨rfl, rfl⟩
        case round =>
          obtain ⟨rfl, hwr⟩ := hrel
          obtain rfl := hwr
          go_wp2_with fail
          go_loopw [20] (fun i wq => i = .int .i64 0 ∧ wq = wr) (fun _ _ => 0)
          case atStart => exact ⟨rfl, rfl⟩
          case round =>
            obtain ⟨rfl, hwr⟩ := hrel
            obtain rfl := hwr
            have p0 := P8.out.cell 0
            have f0 := P8.out.frz 0
            have hgl := P8.out.lt
            go_upto_region 25 with fail
            have HB9 := Lib.hid (HB8.out.setCell (p := ⟨g7, 0, none⟩) HG7.out (.slice A9 (hn + 1) c9))
            have K9 := Lib.hid (K8.out.far (p := ⟨g7, 0, none⟩) (blk_ne K8.out P8.out (by decide)) (.slice A9 (hn + 1) c9))
            have X9 := Lib.hid (X8.out.far (p := ⟨g7, 0, none⟩) (blk_ne X8.out P8.out (by decide)) (.slice A9 (hn + 1) c9))
            have C9 := Lib.hid (C8.out.set_ P8.out (by decide) (by decide) 0 (.slice A9 (hn + 1) c9))
            have P9 := Lib.hid (show Blk (wr.setCell ⟨g7, 0, none⟩ (.slice A9 (hn + 1) c9)) g7 61 #[.slice A9 (hn + 1) c9, .int .i64 lw, .slice pA pn pc] from P8.out.set_ 0 (.slice A9 (hn + 1) c9))
            generalize wr.setCell ⟨g7, 0, none⟩ (.slice A9 (hn + 1) c9) = w9 at HB9 K9 X9 C9 P9 ⊢
            clear p0 f0 hgl HB8 K8 X8 C8 P8
            have k0 := K9.out.cell 0
            have k1 := K9.out.cell 1
            have k2 := K9.out.cell 2
            have k3 := K9.out.cell 3
            have k4 := K9.out.cell 4
            have k5 := K9.out.cell 5
            have k6 := K9.out.cell 6
            have k7 := K9.out.cell 7
            have x0 := X9.out.cell 0
            have x1 := X9.out.cell 1
            have x2 := X9.out.cell 2
            have x3 := X9.out.cell 3
            have p0 := P9.out.cell 0
            have p1 := P9.out.cell 1
            have p2 := P9.out.cell 2
            have HPQ := Lib.hid (HPP.out w9 HB9.out (HRS9.out w9 C9.out HB9.out))
            go_wp2_with fail
            refine HPQ.out.mono ?_
            rintro e w10 ⟨rfl, hb⟩
            have HB10 := Lib.hid (HB9.out.trans (hb.mono HB9.out.size))
            have K10 := Lib.hid (K9.out.below' hb)
            have X10 := Lib.hid (X9.out.below' hb)
            have P10 := Lib.hid (P9.out.below' hb)
            have C10 := Lib.hid (C9.out.below hb)
            clear HPQ HPP
            clear k0 k1 k2 k3 k4 k5 k6 k7 x0 x1 x2 x3 p0 p1 p2
            clear hb
            have HWX := Lib.hid (HWK.out w10 HB10.out)
            go_wp2_with fail
            refine HWX.out.mono ?_
            rintro e wz ⟨rfl, hb⟩
            have HBZ := Lib.hid (HB10.out.trans (hb.mono HB10.out.size))
            clear hb
            go_wp2_with fail
            go_ret
            exact ⟨rfl, HBZ.out⟩
    · skip
      have hq1 : strP d (ta : Int) lo hi xL hn Xs 0 (-1) = true := HS2.out hq2
      have HSX := Lib.hid (show Calls Tryz.prog 31 #[.agg #[.int .i64 (d.s.W : Int), .int .i64 (d.s.H : Int), .slice dA d.s.nd dc, .slice tA d.s.nt tc, .slice sA d.s.nt sc, .slice zA d.s.nd zc, .slice cA d.nz cc, .slice wA (d.s.nt - 1) wc], .agg #[.int .i64 (ta : Int), .slice xA xL.length xc, .int .i64 lo, .int .i64 hi], .slice hA hn hc] w4 fun e w' => (∃ ow U, e = .returned (.tuple #[.slice (some ⟨ow, 0, none⟩) m m, .int .i64 0]) ∧ Rws w' ow m U pl1) ∧ Below w4.heap.size w4 w' from (HP1.out w4 HB4.out).mono fun e w' h => by
        obtain ⟨hb, h⟩ := h
        rcases h with ⟨h1, _⟩ | ⟨_, h1⟩
        · rw [hq1] at h1; cases h1
        · exact ⟨h1, hb⟩)
      have k0 := K4.out.cell 0
      have k1 := K4.out.cell 1
      have k2 := K4.out.cell 2
      have k3 := K4.out.cell 3
      have k4 := K4.out.cell 4
      have k5 := K4.out.cell 5
      have k6 := K4.out.cell 6
      have k7 := K4.out.cell 7
      have x0 := X4.out.cell 0
      have x1 := X4.out.cell 1
      have x2 := X4.out.cell 2
      have x3 := X4.out.cell 3
      have p0 := P4.out.cell 0
      go_wp2_with fail
      refine HSX.out.mono ?_
      rintro e w5 ⟨⟨ow1, U1, rfl, hr⟩, hb⟩
      have HB5 := Lib.hid (HB4.out.trans (hb.mono HB4.out.size))
      have K5 := Lib.hid (K4.out.below' hb)
      have X5 := Lib.hid (X4.out.below' hb)
      have P5 := Lib.hid (P4.out.below' hb)
      have C5 := Lib.hid (C4.out.below hb)
      have R1 := Lib.hid hr
      clear hr
      clear HSX HP1
      clear k0 k1 k2 k3 k4 k5 k6 k7 x0 x1 x2 x3 p0
      clear hb
      have HSX := Lib.hid (show Calls Tryz.prog 31 #[.agg #[.int .i64 (d.s.W : Int), .int .i64 (d.s.H : Int), .slice dA d.s.nd dc, .slice tA d.s.nt tc, .slice sA d.s.nt sc, .slice zA d.s.nd zc, .slice cA d.nz cc, .slice wA (d.s.nt - 1) wc], .agg #[.int .i64 (ta : Int), .slice xA xL.length xc, .int .i64 lo, .int .i64 hi], .slice A9 (hn + 1) c9] w5 fun e w' => (∃ ow U, e = .returned (.tuple #[.slice (some ⟨ow, 0, none⟩) m m, .int .i64 0]) ∧ Rws w' ow m U pl2) ∧ Below w5.heap.size w5 w' from (HP2.out w5 HB5.out C5.out).mono fun e w' h => by
        obtain ⟨hb, h⟩ := h
        rcases h with ⟨h1, _⟩ | ⟨_, h1⟩
        · rw [hq2] at h1; cases h1
        · exact ⟨h1, hb⟩)
      have k0 := K5.out.cell 0
      have k1 := K5.out.cell 1
      have k2 := K5.out.cell 2
      have k3 := K5.out.cell 3
      have k4 := K5.out.cell 4
      have k5 := K5.out.cell 5
      have k6 := K5.out.cell 6
      have k7 := K5.out.cell 7
      have x0 := X5.out.cell 0
      have x1 := X5.out.cell 1
      have x2 := X5.out.cell 2
      have x3 := X5.out.cell 3
      go_wp2_with fail
      refine HSX.out.mono ?_
      rintro e w6 ⟨⟨ow2, U2, rfl, hr⟩, hb⟩
      have HB6 := Lib.hid (HB5.out.trans (hb.mono HB5.out.size))
      have K6 := Lib.hid (K5.out.below' hb)
      have X6 := Lib.hid (X5.out.below' hb)
      have P6 := Lib.hid (P5.out.below' hb)
      have C6 := Lib.hid (C5.out.below hb)
      have R1 := Lib.hid (R1.out.below hb)
      have R2 := Lib.hid hr
      clear hr
      clear HSX HP2
      clear k0 k1 k2 k3 k4 k5 k6 k7 x0 x1 x2 x3
      clear hb
      have HSX := Lib.hid (show Calls Tryz.prog 32 #[.agg #[.int .i64 (d.s.W : Int), .int .i64 (d.s.H : Int), .slice dA d.s.nd dc, .slice tA d.s.nt tc, .slice sA d.s.nt sc, .slice zA d.s.nd zc, .slice cA d.nz cc, .slice wA (d.s.nt - 1) wc], .agg #[.int .i64 (ta : Int), .slice xA xL.length xc, .int .i64 lo, .int .i64 hi], .slice hA hn hc] w6 fun e w' => (∃ A c, e = .returned (.tuple #[.slice A L1.length c, .int .i64 0]) ∧ Rd1 w' w'.heap.size A L1.length (fun j => L1.getD j 0)) ∧ Below w6.heap.size w6 w' from (HL1.out w6 HB6.out).mono fun e w' h => by
        obtain ⟨hb, h⟩ := h
        rcases h with ⟨h1, _⟩ | ⟨_, h1⟩
        · rw [hq1] at h1; cases h1
        · exact ⟨h1, hb⟩)
      have k0 := K6.out.cell 0
      have k1 := K6.out.cell 1
      have k2 := K6.out.cell 2
      have k3 := K6.out.cell 3
      have k4 := K6.out.cell 4
      have k5 := K6.out.cell 5
      have k6 := K6.out.cell 6
      have k7 := K6.out.cell 7
      have x0 := X6.out.cell 0
      have x1 := X6.out.cell 1
      have x2 := X6.out.cell 2
      have x3 := X6.out.cell 3
      have p0 := P6.out.cell 0
      go_wp2_with fail
      refine HSX.out.mono ?_
      rintro e w7 ⟨⟨l1A, l1c, rfl, hr⟩, hb⟩
      have HB7 := Lib.hid (HB6.out.trans (hb.mono HB6.out.size))
      have K7 := Lib.hid (K6.out.below' hb)
      have X7 := Lib.hid (X6.out.below' hb)
      have P7 := Lib.hid (P6.out.below' hb)
      have C7 := Lib.hid (C6.out.below hb)
      have R1 := Lib.hid (R1.out.below hb)
      have R2 := Lib.hid (R2.out.below hb)
      have M1 := Lib.hid hr
      clear hr
      clear HSX HL1
      clear k0 k1 k2 k3 k4 k5 k6 k7 x0 x1 x2 x3 p0
      clear hb
      have HSX := Lib.hid (show Calls Tryz.prog 32 #[.agg #[.int .i64 (d.s.W : Int), .int .i64 (d.s.H : Int), .slice dA d.s.nd dc, .slice tA d.s.nt tc, .slice sA d.s.nt sc, .slice zA d.s.nd zc, .slice cA d.nz cc, .slice wA (d.s.nt - 1) wc], .agg #[.int .i64 (ta : Int), .slice xA xL.length xc, .int .i64 lo, .int .i64 hi], .slice A9 (hn + 1) c9] w7 fun e w' => (∃ A c, e = .returned (.tuple #[.slice A L2.length c, .int .i64 0]) ∧ IL w' 0 (.slice A L2.length c) L2) ∧ Below w7.heap.size w7 w' from (HL2.out w7 HB7.out C7.out).mono fun e w' h => by
        obtain ⟨hb, h⟩ := h
        rcases h with ⟨h1, _⟩ | ⟨_, h1⟩
        · rw [hq2] at h1; cases h1
        · exact ⟨h1, hb⟩)
      have k0 := K7.out.cell 0
      have k1 := K7.out.cell 1
      have k2 := K7.out.cell 2
      have k3 := K7.out.cell 3
      have k4 := K7.out.cell 4
      have k5 := K7.out.cell 5
      have k6 := K7.out.cell 6
      have k7 := K7.out.cell 7
      have x0 := X7.out.cell 0
      have x1 := X7.out.cell 1
      have x2 := X7.out.cell 2
      have x3 := X7.out.cell 3
      go_wp2_with fail
      refine HSX.out.mono ?_
      rintro e w8 ⟨⟨l2A, l2c, rfl, hr⟩, hb⟩
      have HB8 := Lib.hid (HB7.out.trans (hb.mono HB7.out.size))
      have K8 := Lib.hid (K7.out.below' hb)
      have X8 := Lib.hid (X7.out.below' hb)
      have P8 := Lib.hid (P7.out.below' hb)
      have C8 := Lib.hid (C7.out.below hb)
      have R1 := Lib.hid (R1.out.below hb)
      have R2 := Lib.hid (R2.out.below hb)
      have M1 := Lib.hid ((M1.out.below hb).more hb.size)
      have M2 := Lib.hid hr
      clear hr
      clear HSX HL2
      clear k0 k1 k2 k3 k4 k5 k6 k7 x0 x1 x2 x3
      clear hb
      clear HS2 HLE2 hq1 hq2
      have HI8 := Lib.hid (show Below w.heap.size w w8 ∧ Blk w8 w.heap.size 29 #[.int .i64 (d.s.W : Int), .int .i64 (d.s.H : Int), .slice dA d.s.nd dc, .slice tA d.s.nt tc, .slice sA d.s.nt sc, .slice zA d.s.nd zc, .slice cA d.nz cc, .slice wA (d.s.nt - 1) wc] ∧ Blk w8 (w.heap.size + 1) 44 #[.int .i64 (ta : Int), .slice xA xL.length xc, .int .i64 lo, .int .i64 hi] ∧ Blk w8 g7 61 #[.slice hA hn hc, .int .i64 lw, .slice pA pn pc] ∧ CS1 w8 B9 (.slice A9 (hn + 1) c9) hn Xs x U ∧ Rws w8 ow1 m U1 pl1 ∧ Rws w8 ow2 m U2 pl2 ∧ Rd1 w8 w8.heap.size l1A L1.length (fun j => L1.getD j 0) ∧ IL w8 0 (.slice l2A L2.length l2c) L2 from ⟨HB8.out, K8.out, X8.out, P8.out, C8.out, R1.out, R2.out, M1.out, M2.out⟩)
      clear HB8 K8 X8 P8 C8 R1 R2 M1 M2
      go_wp2_with fail
      go_loopw [18] (fun i wr => ∃ k : Nat, k ≤ m ∧ i = .int .i64 (k : Int) ∧ Hid (Below w.heap.size w wr ∧ Blk wr w.heap.size 29 #[.int .i64 (d.s.W : Int), .int .i64 (d.s.H : Int), .slice dA d.s.nd dc, .slice tA d.s.nt tc, .slice sA d.s.nt sc, .slice zA d.s.nd zc, .slice cA d.nz cc, .slice wA (d.s.nt - 1) wc] ∧ Blk wr (w.heap.size + 1) 44 #[.int .i64 (ta : Int), .slice xA xL.length xc, .int .i64 lo, .int .i64 hi] ∧ Blk wr g7 61 #[.slice hA hn hc, .int .i64 lw, .slice pA pn pc] ∧ CS1 wr B9 (.slice A9 (hn + 1) c9) hn Xs x U ∧ Rws wr ow1 m U1 pl1 ∧ Rws wr ow2 m U2 pl2 ∧ Rd1 wr wr.heap.size l1A L1.length (fun j => L1.getD j 0) ∧ IL wr 0 (.slice l2A L2.length l2c) L2)) (fun i _ => m - (intOf i).toNat)
      case atStart => exact ⟨0, Nat.zero_le _, rfl, HI8⟩
      case round =>
        obtain ⟨k, hk, rfl, HS⟩ := hrel
        clear HI8
        have hm60 : m ≤ 60 := by have := HM1.out; omega
        by_cases hlt : k < m
        · skip
          have g1 : decide (k < m) = true := decide_eq_true hlt
          have HKM := Lib.hid hlt
          go_wp2_with fail
          go_loopw [19] (fun i wr => ∃ q : Nat, q ≤ (pl2 k).length ∧ i = .int .i64 (q : Int) ∧ Hid (Below w.heap.size w wr ∧ Blk wr w.heap.size 29 #[.int .i64 (d.s.W : Int), .int .i64 (d.s.H : Int), .slice dA d.s.nd dc, .slice tA d.s.nt tc, .slice sA d.s.nt sc, .slice zA d.s.nd zc, .slice cA d.nz cc, .slice wA (d.s.nt - 1) wc] ∧ Blk wr (w.heap.size + 1) 44 #[.int .i64 (ta : Int), .slice xA xL.length xc, .int .i64 lo, .int .i64 hi] ∧ Blk wr g7 61 #[.slice hA hn hc, .int .i64 lw, .slice pA pn pc] ∧ CS1 wr B9 (.slice A9 (hn + 1) c9) hn Xs x U ∧ Rws wr ow1 m U1 pl1 ∧ Rws wr ow2 m U2 pl2 ∧ Rd1 wr wr.heap.size l1A L1.length (fun j => L1.getD j 0) ∧ IL wr 0 (.slice l2A L2.length l2c) L2)) (fun i _ => (pl2 k).length - (intOf i).toNat)
          case atStart => exact ⟨0, Nat.zero_le _, rfl, HS⟩
          case round =>
            obtain ⟨q, hq, rfl, HT⟩ := hrel
            clear HS
            obtain ⟨yA, yc, hy, hyr⟩ := HT.out.2.2.2.2.2.2.1.r k hlt
            have c0 : wr.cell? ⟨ow2, k, none⟩ = some (.slice yA (pl2 k).length yc) := by rw [← hy]; exact HT.out.2.2.2.2.2.2.1.c k hlt
            have hpn2 := HPN2.out k
            by_cases hlq : q < (pl2 k).length
            · skip
              have g2 : decide (q < (pl2 k).length) = true := decide_eq_true hlq
              obtain ⟨aA, ac, ha, har⟩ := HT.out.2.2.2.2.2.1.r k hlt
              have c1 : wr.cell? ⟨ow1, k, none⟩ = some (.slice aA (pl1 k).length ac) := by rw [← ha]; exact HT.out.2.2.2.2.2.1.c k hlt
              obtain ⟨yb, yo, rfl, hyb, c2o⟩ := hyr.at_ hlq
              obtain ⟨z, hz⟩ : ∃ z, z = (pl2 k).getD q 0 := ⟨_, rfl⟩
              have HZM := Lib.hid (show z ∈ pl1 k from by rw [hz]; exact HSU.out k HKM.out q hlq)
              have c2 : wr.cell? ⟨yb, yo + q, none⟩ = some (.int .i64 z) := by rw [hz]; exact c2o
              clear hz c2o
              have HYD := Lib.hid (show Rd1 wr.drew wr.drew.heap.size aA (pl1 k).length (fun j => (pl1 k).getD j 0) from har)
              have HLT := Lib.hid (show ow1 < wr.drew.heap.size ∧ ow2 < wr.drew.heap.size ∧ yb < wr.drew.heap.size from ⟨HT.out.2.2.2.2.2.1.lt, HT.out.2.2.2.2.2.2.1.lt, hyb⟩)
              have HC := Lib.hid (And.intro c1 (And.intro c0 c2))
              clear hy hyr ha har hyb
              go_upto_region 17 with fail
              refine wp_nopanic ?_
              refine wp_region_T 12 (fun Z2 => Z2.cell? ⟨ow1, k, none⟩ = some (.slice aA (pl1 k).length ac) ∧ Z2.cell? ⟨ow2, k, none⟩ = some (.slice (some ⟨yb, yo, none⟩) (pl2 k).length yc) ∧ Z2.cell? ⟨yb, yo + q, none⟩ = some (.int .i64 z)) (by kernel_rfl) HC.out ?_
              clear c0 c1 c2
              intro hS
              refine wpAnyT_take (i := 0) (v := ?_) rfl (by kernel_rfl) (by kernel_rfl) (by kernel_rfl) (by kernel_rfl) (by kernel_rfl) (fun _ _ _ h => absurd rfl (h.1 _)) (.inl ⟨by kernel_rfl, ?_⟩) hS ?_
              rotate_left
              · (intro w' hw; obtain ⟨h1, h2, h3⟩ := hw; go_simp; try with_reducible rfl)
              try simp only [put_laws]
              refine wpAnyT_take (i := 1) (v := ?_) rfl (by kernel_rfl) (by kernel_rfl) (by kernel_rfl) (by kernel_rfl) (by kernel_rfl) (fun _ _ _ h => absurd rfl (h.1 _)) (.inl ⟨by kernel_rfl, ?_⟩) hS ?_
              rotate_left
              · (intro w' hw; obtain ⟨h1, h2, h3⟩ := hw; go_simp; try with_reducible rfl)
              try simp only [put_laws]
              refine wpAnyT_take (i := 2) (v := ?_) rfl (by kernel_rfl) (by kernel_rfl) (by kernel_rfl) (by kernel_rfl) (by kernel_rfl) (fun _ _ _ h => absurd rfl (h.1 _)) (.inl ⟨by kernel_rfl, ?_⟩) hS ?_
              rotate_left
              · (intro w' hw; obtain ⟨h1, h2, h3⟩ := hw; go_simp; try with_reducible rfl)
              try simp only [put_laws]
              refine wpAnyT_take (i := 3) (v := ?_) rfl (by kernel_rfl) (by kernel_rfl) (by kernel_rfl) (by kernel_rfl) (by kernel_rfl) (fun _ _ _ h => absurd rfl (h.1 _)) (.inl ⟨by kernel_rfl, ?_⟩) hS ?_
              rotate_left
              · (intro w' hw; obtain ⟨h1, h2, h3⟩ := hw; go_simp; try with_reducible rfl)
              try simp only [put_laws]
              refine wpAnyT_take (i := 4) (v := ?_) rfl (by kernel_rfl) (by kernel_rfl) (by kernel_rfl) (by kernel_rfl) (by kernel_rfl) (fun _ _ _ h => absurd rfl (h.1 _)) (.inl ⟨by kernel_rfl, ?_⟩) hS ?_
              rotate_left
              · (intro w' hw; obtain ⟨h1, h2, h3⟩ := hw; go_simp; try with_reducible rfl)
              try simp only [put_laws]
              refine wpAnyT_take (i := 5) (v := ?_) rfl (by kernel_rfl) (by kernel_rfl) (by kernel_rfl) (by kernel_rfl) (by kernel_rfl) (fun _ _ _ h => absurd rfl (h.1 _)) (.inl ⟨by kernel_rfl, ?_⟩) hS ?_
              rotate_left
              · (intro w' hw; obtain ⟨h1, h2, h3⟩ := hw; go_simp; try with_reducible rfl)
              try simp only [put_laws]
              refine wpAnyT_take (i := 6) (v := ?_) rfl (by kernel_rfl) (by kernel_rfl) (by kernel_rfl) (by kernel_rfl) (by kernel_rfl) (fun _ _ _ h => absurd rfl (h.1 _)) (.inl ⟨by kernel_rfl, ?_⟩) hS ?_
              rotate_left
              · (intro w' hw; obtain ⟨h1, h2, h3⟩ := hw; go_simp; try with_reducible rfl)
              try simp only [put_laws]
              refine wpAnyT_take (i := 7) (v := ?_) rfl (by kernel_rfl) (by kernel_rfl) (by kernel_rfl) (by kernel_rfl) (by kernel_rfl) (fun _ _ _ h => absurd rfl (h.1 _)) (.inl ⟨by kernel_rfl, ?_⟩) hS ?_
              rotate_left
              · (intro w' hw; obtain ⟨h1, h2, h3⟩ := hw; go_simp; try with_reducible rfl)
              try simp only [put_laws]
              refine wpAnyT_take (i := 8) (v := ?_) rfl (by kernel_rfl) (by kernel_rfl) (by kernel_rfl) (by kernel_rfl) (by kernel_rfl) (fun _ _ _ h => absurd rfl (h.1 _)) (.inl ⟨by kernel_rfl, ?_⟩) hS ?_
              rotate_left
              · (intro w' hw; obtain ⟨h1, h2, h3⟩ := hw; go_simp; try with_reducible rfl)
              try simp only [put_laws]
              refine wpAnyT_take (i := 9) (v := ?_) rfl (by kernel_rfl) (by kernel_rfl) (by kernel_rfl) (by kernel_rfl) (by kernel_rfl) (fun _ _ _ h => absurd rfl (h.1 _)) (.inl ⟨by kernel_rfl, ?_⟩) hS ?_
              rotate_left
              · (intro w' hw; obtain ⟨h1, h2, h3⟩ := hw; go_simp; try with_reducible rfl)
              try simp only [put_laws]
              refine wpAnyT_take (i := 10) (v := ?_) rfl (by kernel_rfl) (by kernel_rfl) (by kernel_rfl) (by kernel_rfl) (by kernel_rfl) (fun _ _ _ h => absurd rfl (h.1 _)) (.inl ⟨by kernel_rfl, ?_⟩) hS ?_
              rotate_left
              · (intro w' hw; obtain ⟨h1, h2, h3⟩ := hw; go_simp; try with_reducible rfl)
              try simp only [put_laws]
              refine wpAnyT_one (i := 11) (by kernel_rfl) rfl ?_
              intro K' hK'
              go_simp
              refine (rin_list aA (pl1 k).length ac wr.drew.heap.size (fun j => (pl1 k).getD j 0) z wr.drew (HPN1.out k) HYD.out).mono ?_
              rintro e w6 ⟨rfl, hb⟩
              rw [anyTo_mem, decide_eq_true HZM.out]
              have HB6 := Lib.hid hb
              clear hb
              refine hK'.out _ _ (.inr ⟨(HB6.out.cell HLT.out.1).trans hS.1, (HB6.out.cell HLT.out.2.1).trans hS.2.1, (HB6.out.cell HLT.out.2.2).trans hS.2.2⟩) ?_
              clear hK' K'
              try simp only [put_laws]
              refine wpAnyT_one (i := 12) (by kernel_rfl) rfl ?_
              intro K' hK'
              go_simp
              refine hK'.out _ _ (.inl rfl) ?_
              clear hK' K'
              try simp only [put_laws]
              refine wpAnyT_done (by kernel_rfl) ?_ _
              refine ⟨fun x e => (by cases e), ?_⟩
              have HD6 := Lib.hid (show Below wr.heap.size wr w6 from (Below.refl _ wr).drew.trans (HB6.out.mono (Nat.le_refl _)))
              have hIV := (show Hid (Below w.heap.size w w6 ∧ Blk w6 w.heap.size 29 #[.int .i64 (d.s.W : Int), .int .i64 (d.s.H : Int), .slice dA d.s.nd dc, .slice tA d.s.nt tc, .slice sA d.s.nt sc, .slice zA d.s.nd zc, .slice cA d.nz cc, .slice wA (d.s.nt - 1) wc] ∧ Blk w6 (w.heap.size + 1) 44 #[.int .i64 (ta : Int), .slice xA xL.length xc, .int .i64 lo, .int .i64 hi] ∧ Blk w6 g7 61 #[.slice hA hn hc, .int .i64 lw, .slice pA pn pc] ∧ CS1 w6 B9 (.slice A9 (hn + 1) c9) hn Xs x U ∧ Rws w6 ow1 m U1 pl1 ∧ Rws w6 ow2 m U2 pl2 ∧ Rd1 w6 w6.heap.size l1A L1.length (fun j => L1.getD j 0) ∧ IL w6 0 (.slice l2A L2.length l2c) L2) from Lib.hid ⟨(HT.out.1).trans ((HD6.out).mono (HT.out.1).size), (HT.out.2.1).below' HD6.out, (HT.out.2.2.1).below' HD6.out, (HT.out.2.2.2.1).below' HD6.out, (HT.out.2.2.2.2.1).below HD6.out, (HT.out.2.2.2.2.2.1).below HD6.out, (HT.out.2.2.2.2.2.2.1).below HD6.out, ((HT.out.2.2.2.2.2.2.2.1).below HD6.out).more (HD6.out).size, Own.below (HT.out.2.2.2.2.2.2.2.2) HD6.out⟩)
              clear HT HC HYD HLT HB6 HD6 hS
              go_wp2_with fail
              go_roundw
              case rel => exact ⟨q + 1, by omega, by go_num, hIV⟩
              case measure => simp [intOf]; omega
            · skip
              obtain rfl : q = (pl2 k).length := by omega
              have g2 : decide ((pl2 k).length < (pl2 k).length) = false := decide_eq_false (Nat.lt_irrefl _)
              go_wp2_with fail
              go_roundw
              case rel => exact ⟨k + 1, by omega, by go_num, HT⟩
              case measure => simp [intOf]; omega
        · skip
          obtain rfl : k = m := by omega
          have g1 : decide (k < k) = false := decide_eq_false (Nat.lt_irrefl _)
          go_wp2_with fail
          go_loopw [20] (fun i wr => ∃ q : Nat, q ≤ L2.length ∧ i = .int .i64 (q : Int) ∧ Hid (Below w.heap.size w wr ∧ Blk wr w.heap.size 29 #[.int .i64 (d.s.W : Int), .int .i64 (d.s.H : Int), .slice dA d.s.nd dc, .slice tA d.s.nt tc, .slice sA d.s.nt sc, .slice zA d.s.nd zc, .slice cA d.nz cc, .slice wA (d.s.nt - 1) wc] ∧ Blk wr (w.heap.size + 1) 44 #[.int .i64 (ta : Int), .slice xA xL.length xc, .int .i64 lo, .int .i64 hi] ∧ Blk wr g7 61 #[.slice hA hn hc, .int .i64 lw, .slice pA pn pc] ∧ CS1 wr B9 (.slice A9 (hn + 1) c9) hn Xs x U ∧ Rws wr ow1 k U1 pl1 ∧ Rws wr ow2 k U2 pl2 ∧ Rd1 wr wr.heap.size l1A L1.length (fun j => L1.getD j 0) ∧ IL wr 0 (.slice l2A L2.length l2c) L2)) (fun i _ => L2.length - (intOf i).toNat)
          case atStart => exact ⟨0, Nat.zero_le _, rfl, HS⟩
          case round =>
            obtain ⟨q, hq, rfl, HT⟩ := hrel
            clear HS
            have hln2 := HLN2.out
            by_cases hlq : q < L2.length
            · skip
              have g2 : decide (q < L2.length) = true := decide_eq_true hlq
              obtain ⟨yb, yo, rfl, hyb, c2o⟩ := (IL.rd HT.out.2.2.2.2.2.2.2.2).at_ hlq
              obtain ⟨z, hz⟩ : ∃ z, z = L2.getD q 0 := ⟨_, rfl⟩
              have HZM := Lib.hid (show z ∈ L1 from by rw [hz]; exact HSL.out q hlq)
              have c2 : wr.cell? ⟨yb, yo + q, none⟩ = some (.int .i64 z) := by rw [hz]; exact c2o
              clear hz c2o
              have HIX := Lib.hid (show Calls Tryz.prog 34 #[.slice l1A L1.length l1c, .int .i64 z] wr fun e w' => e = .returned (.bool true) ∧ Below wr.heap.size wr w' from (rin_list l1A L1.length l1c wr.heap.size (fun j => L1.getD j 0) z wr HLN1.out HT.out.2.2.2.2.2.2.2.1).mono fun e w' h => by
                rw [anyTo_mem, decide_eq_true HZM.out] at h
                exact h)
              clear hyb
              go_wp2_with fail
              refine HIX.out.mono ?_
              rintro e w6 ⟨rfl, hb⟩
              have hIV := (show Hid (Below w.heap.size w w6 ∧ Blk w6 w.heap.size 29 #[.int .i64 (d.s.W : Int), .int .i64 (d.s.H : Int), .slice dA d.s.nd dc, .slice tA d.s.nt tc, .slice sA d.s.nt sc, .slice zA d.s.nd zc, .slice cA d.nz cc, .slice wA (d.s.nt - 1) wc] ∧ Blk w6 (w.heap.size + 1) 44 #[.int .i64 (ta : Int), .slice xA xL.length xc, .int .i64 lo, .int .i64 hi] ∧ Blk w6 g7 61 #[.slice hA hn hc, .int .i64 lw, .slice pA pn pc] ∧ CS1 w6 B9 (.slice A9 (hn + 1) c9) hn Xs x U ∧ Rws w6 ow1 k U1 pl1 ∧ Rws w6 ow2 k U2 pl2 ∧ Rd1 w6 w6.heap.size l1A L1.length (fun j => L1.getD j 0) ∧ IL w6 0 (.slice (some ⟨yb, yo, none⟩) L2.length l2c) L2) from Lib.hid ⟨(HT.out.1).trans ((hb).mono (HT.out.1).size), (HT.out.2.1).below' hb, (HT.out.2.2.1).below' hb, (HT.out.2.2.2.1).below' hb, (HT.out.2.2.2.2.1).below hb, (HT.out.2.2.2.2.2.1).below hb, (HT.out.2.2.2.2.2.2.1).below hb, ((HT.out.2.2.2.2.2.2.2.1).below hb).more (hb).size, Own.below (HT.out.2.2.2.2.2.2.2.2) hb⟩)
              clear HT HIX hb c2
              go_wp2_with fail
              go_roundw
              case rel => exact ⟨q + 1, by omega, by go_num, hIV⟩
              case measure => simp [intOf]; omega
            · skip
              obtain rfl : q = L2.length := by omega
              have g2 : decide (L2.length < L2.length) = false := decide_eq_false (Nat.lt_irrefl _)
              have HBr := Lib.hid (HT.out.1)
              have Kr := Lib.hid (HT.out.2.1)
              have Xr := Lib.hid (HT.out.2.2.1)
              have Pr := Lib.hid (HT.out.2.2.2.1)
              have Cr := Lib.hid (HT.out.2.2.2.2.1)
              have R1r := Lib.hid (HT.out.2.2.2.2.2.1)
              have R2r := Lib.hid (HT.out.2.2.2.2.2.2.1)
              have M1r := Lib.hid (HT.out.2.2.2.2.2.2.2.1)
              have M2r := Lib.hid (HT.out.2.2.2.2.2.2.2.2)
              have M2r' := M2r
              clear HT R1r R2r M1r M2r'
              have p0 := Pr.out.cell 0
              have f0 := Pr.out.frz 0
              have hgl := Pr.out.lt
              go_upto_region 25 with fail
              have HB9 := Lib.hid (HBr.out.setCell (p := ⟨g7, 0, none⟩) HG7.out (.slice A9 (hn + 1) c9))
              have K9 := Lib.hid (Kr.out.far (p := ⟨g7, 0, none⟩) (blk_ne Kr.out Pr.out (by decide)) (.slice A9 (hn + 1) c9))
              have X9 := Lib.hid (Xr.out.far (p := ⟨g7, 0, none⟩) (blk_ne Xr.out Pr.out (by decide)) (.slice A9 (hn + 1) c9))
              have C9 := Lib.hid (Cr.out.set_ Pr.out (by decide) (by decide) 0 (.slice A9 (hn + 1) c9))
              have P9 := Lib.hid (show Blk (wr.setCell ⟨g7, 0, none⟩ (.slice A9 (hn + 1) c9)) g7 61 #[.slice A9 (hn + 1) c9, .int .i64 lw, .slice pA pn pc] from Pr.out.set_ 0 (.slice A9 (hn + 1) c9))
              have M9 := Lib.hid (show IL (wr.setCell ⟨g7, 0, none⟩ (.slice A9 (hn + 1) c9)) 0 (.slice l2A L2.length l2c) L2 from Own.setCell (p := ⟨g7, 0, none⟩) M2r.out (Own.ne_blk M2r.out Pr.out (by decide)) (.slice A9 (hn + 1) c9))
              generalize wr.setCell ⟨g7, 0, none⟩ (.slice A9 (hn + 1) c9) = w9 at HB9 K9 X9 C9 P9 M9 ⊢
              clear p0 f0 hgl HBr Kr Xr Cr Pr M2r
              have k0 := K9.out.cell 0
              have k1 := K9.out.cell 1
              have k2 := K9.out.cell 2
              have k3 := K9.out.cell 3
              have k4 := K9.out.cell 4
              have k5 := K9.out.cell 5
              have k6 := K9.out.cell 6
              have k7 := K9.out.cell 7
              have x0 := X9.out.cell 0
              have x1 := X9.out.cell 1
              have x2 := X9.out.cell 2
              have x3 := X9.out.cell 3
              have p0 := P9.out.cell 0
              have p1 := P9.out.cell 1
              have p2 := P9.out.cell 2
              have HPQ := Lib.hid (HPP.out w9 HB9.out (HRS9.out w9 C9.out HB9.out))
              go_wp2_with fail
              refine HPQ.out.mono ?_
              rintro e w10 ⟨rfl, hb⟩
              have HB10 := Lib.hid (HB9.out.trans (hb.mono HB9.out.size))
              have K10 := Lib.hid (K9.out.below' hb)
              have X10 := Lib.hid (X9.out.below' hb)
              have P10 := Lib.hid (P9.out.below' hb)
              have C10 := Lib.hid (C9.out.below hb)
              have M10 := Lib.hid (Own.below M9.out hb)
              clear HPQ HPP
              clear k0 k1 k2 k3 k4 k5 k6 k7 x0 x1 x2 x3 p0 p1 p2
              clear hb
              cases hb9
              · skip
                clear K10 X10 P10
                have HWX := Lib.hid (HWK.out w10 HB10.out)
                go_wp2_with fail
                refine HWX.out.mono ?_
                rintro e wz ⟨rfl, hb⟩
                have HBZ := Lib.hid (HB10.out.trans (hb.mono HB10.out.size))
                clear hb
                go_wp2_with fail
                go_ret
                exact ⟨rfl, HBZ.out⟩
              obtain ⟨-, hlw, -⟩ := HIS.out rfl
              have HIX := Lib.hid (show Calls Tryz.prog 34 #[.slice l2A L2.length l2c, .int .i64 lw] w10 fun e w' => e = .returned (.bool true) ∧ Below w10.heap.size w10 w' from (rin_list l2A L2.length l2c w10.heap.size (fun j => L2.getD j 0) lw w10 (Nat.le_trans HLN2.out (by unfold maxLen; omega)) (IL.rd M10.out)).mono fun e w' h => by
                rw [anyTo_mem, decide_eq_true hlw] at h
                exact h)
              have p1 := P10.out.cell 1
              go_wp2_with fail
              refine HIX.out.mono ?_
              rintro e w11 ⟨rfl, hb⟩
              have HB11 := Lib.hid (HB10.out.trans (hb.mono HB10.out.size))
              clear hb p1
              have HWX := Lib.hid (HWK.out w11 HB11.out)
              go_wp2_with fail
              refine HWX.out.mono ?_
              rintro e wz ⟨rfl, hb⟩
              have HBZ := Lib.hid (HB11.out.trans (hb.mono HB11.out.size))
              clear hb
              go_wp2_with fail
              go_ret
              exact ⟨rfl, HBZ.out⟩
end
end Go.Proofs.YtnbeembnnjdmdaaGreatDoor
