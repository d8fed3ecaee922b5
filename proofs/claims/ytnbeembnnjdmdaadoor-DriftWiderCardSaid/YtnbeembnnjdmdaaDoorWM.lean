/- DriftWider: what stands in memory while the drift is widened. -/
import Derived.Test.YtnbeembnnjdmdaaDoorW1
import Derived.Test.YtnbeembnnjdmdaaDoorD10
namespace Go.Proofs.YtnbeembnnjdmdaaDoor
open Go.RowKit Go.Maps

/-- a value's own block is older -/
def OldV (S2 : Nat) (v : Value) : Prop := ∀ g, v.ownBlock = some g → g < S2
theorem OldV.ne {S2 : Nat} {v : Value} {row : Option Nat} (h : OldV S2 v) (hr : ∀ r, row = some r → S2 ≤ r) : v.ownBlock = none ∨ v.ownBlock ≠ row := by
  cases hv : v.ownBlock with
  | none => exact .inl rfl
  | some g => exact .inr fun e => by have := h g hv; have := hr g e.symm; omega
structure OldD (S2 : Nat) (dA : Option Addr) (nd dc : Nat) (tA : Option Addr) (nt tc : Nat) (sA : Option Addr) (sc : Nat) (zA : Option Addr) (zc : Nat) (cA : Option Addr) (cn cc : Nat) (wA : Option Addr) (wn wc : Nat) (R : Nat → Value) : Prop where
  d : OldV S2 (.slice dA nd dc)
  t : OldV S2 (.slice tA nt tc)
  s : OldV S2 (.slice sA nt sc)
  z : OldV S2 (.slice zA nd zc)
  c : OldV S2 (.slice cA cn cc)
  r : ∀ i, i < cn → OldV S2 (R i)
  w : OldV S2 (.slice wA wn wc)
section
variable {V V' : World} {b dc tc sc zc cc wc nd nt cn wn S2 : Nat} {dA tA sA zA cA wA : Option Addr} {dep : Nat → Int} {tide : Nat → Nat → Int} {sw z : Nat → Int} {cl : Nat → Nat} {cu : Nat → Nat → Nat → Int} {wd : Nat → Nat → Int} {R : Nat → Value}
theorem OwnD.old (h : OwnD V b dA dc tA tc sA sc zA zc cA cc wA wc nd nt nt nd cn wn dep tide sw z cl cu wd R) : OldD V.heap.size dA nd dc tA nt tc sA sc zA zc cA cn cc wA wn wc R :=
  ⟨fun _ e => (Own.block h.d e).2, fun _ e => (Own.block h.t e).2, fun _ e => (Own.block h.s e).2, fun _ e => (Own.block h.z e).2, fun _ e => (Own.block h.c e).2, fun i hi _ e => (Own.block (h.r i hi) e).2, fun _ e => (Own.block h.w e).2⟩
theorem OwnD.grownO (h : OwnD V b dA dc tA tc sA sc zA zc cA cc wA wc nd nt nt nd cn wn dep tide sw z cl cu wd R) (hold : OldD S2 dA nd dc tA nt tc sA sc zA zc cA cn cc wA wn wc R) {row : Option Nat} (hg : V.grownBy V' row) (hr : ∀ r, row = some r → S2 ≤ r) : OwnD V' b dA dc tA tc sA sc zA zc cA cc wA wc nd nt nt nd cn wn dep tide sw z cl cu wd R :=
  ⟨Own.grown h.d hg (hold.d.ne hr), Own.grown h.t hg (hold.t.ne hr), Own.grown h.s hg (hold.s.ne hr), Own.grown h.z hg (hold.z.ne hr), Own.grown h.c hg (hold.c.ne hr), fun i hi => Own.grown (h.r i hi) hg ((hold.r i hi).ne hr), Own.grown h.w hg (hold.w.ne hr), h.dis⟩
end
theorem Blk.farO {W : World} {g t b t2 k n q : Nat} {cs : Array Value} {v : Value} {F : Nat → Nat → Value} (h : Blk W g t cs) (ho : Own W b t2 k v n F) (hv : v.ownBlock = some q) (ht : t2 ≠ t) (i : Nat) (u : Value) : Blk (W.setCell ⟨q, i, none⟩ u) g t cs := h.far (p := ⟨q, i, none⟩) (fun e => Own.ne_blk ho h ht (by rw [hv]; exact congrArg some e.symm)) u
theorem blk_nt' {W : World} {g g' t t' : Nat} {cs cs' : Array Value} (h : Blk W g t cs) (h' : Blk W g' t' cs') (ht : t ≠ t') : g' ≠ g := by
  rintro rfl
  have e := Option.some.inj (h.symm.trans h')
  injection e with _ e2
  exact ht e2
structure WdM (d : M.Dr) (zA cA wA dA tA sA xA hA zA' cA' wA' dA' tA' sA' : Option Addr) (cl : Nat → Nat) (dc tc sc zc cc wc xc xn hn hc ta dc' tc' sc' zc' cc' wc' cq P3 P4 P5 P7 P8 bO : Nat) (lo hi ylo yhi D S : Int) (R : Nat → Value) (w : World) (Y : Array Value) (cu : Nat → Nat → Nat → Int) (wd : Nat → Nat → Int) (V : World) : Prop where
  b : Below w.heap.size w V
  k : Blk V P3 29 #[.int .i64 (d.s.W : Int), .int .i64 (d.s.H : Int), .slice dA d.s.nd dc, .slice tA d.s.nt tc, .slice sA d.s.nt sc, .slice zA d.s.nd zc, .slice cA d.nz cc, .slice wA (d.s.nt - 1) wc]
  x : Blk V P4 33 #[.int .i64 (ta : Int), .slice xA xn xc, .int .i64 lo, .int .i64 hi]
  z : Blk V P5 36 #[.slice hA hn hc, .int .i64 D, .int .i64 S, .int .i64 (cq : Int), .int .i64 ylo, .int .i64 yhi]
  c : Blk V P7 29 #[.int .i64 (d.s.W : Int), .int .i64 (d.s.H : Int), .slice dA' d.s.nd dc', .slice tA' d.s.nt tc', .slice sA' d.s.nt sc', .slice zA' d.s.nd zc', .slice cA' d.nz cc', .slice wA' (d.s.nt - 1) wc']
  y : Blk V P8 33 Y
  o : OwnD V bO dA' dc' tA' tc' sA' sc' zA' zc' cA' cc' wA' wc' d.s.nd d.s.nt d.s.nt d.s.nd d.nz (d.s.nt - 1) d.s.dep d.s.tide d.s.sw d.z cl cu wd R
  ho : w.heap.size ≤ bO
  h8 : w.heap.size ≤ P8
  n4 : P4 ≠ P8
section
variable {d : M.Dr} {zA cA wA dA tA sA xA hA zA' cA' wA' dA' tA' sA' : Option Addr} {cl : Nat → Nat} {dc tc sc zc cc wc xc xn hn hc ta dc' tc' sc' zc' cc' wc' cq P3 P4 P5 P7 P8 bO : Nat} {lo hi ylo yhi D S : Int} {R : Nat → Value} {w : World} {Y : Array Value} {cu cu' : Nat → Nat → Nat → Int} {wd wd' : Nat → Nat → Int} {V V' : World}
theorem WdM.store8 (h : WdM d zA cA wA dA tA sA xA hA zA' cA' wA' dA' tA' sA' cl dc tc sc zc cc wc xc xn hn hc ta dc' tc' sc' zc' cc' wc' cq P3 P4 P5 P7 P8 bO lo hi ylo yhi D S R w (Y) (cu) (wd) V) (i : Nat) (u : Value) : WdM d zA cA wA dA tA sA xA hA zA' cA' wA' dA' tA' sA' cl dc tc sc zc cc wc xc xn hn hc ta dc' tc' sc' zc' cc' wc' cq P3 P4 P5 P7 P8 bO lo hi ylo yhi D S R w (Y.setIfInBounds i u) (cu) (wd) (V.setCell ⟨P8, i, none⟩ u) :=
  ⟨h.b.setCell (p := ⟨P8, i, none⟩) h.h8 u, h.k.far (p := ⟨P8, i, none⟩) (blk_nt' h.y h.k (by decide)) u, h.x.far (p := ⟨P8, i, none⟩) h.n4 u, h.z.far (p := ⟨P8, i, none⟩) (blk_nt' h.y h.z (by decide)) u, h.c.far (p := ⟨P8, i, none⟩) (blk_nt' h.y h.c (by decide)) u, h.y.set_ i u, h.o.far h.y (by decide) (by decide) (by decide) (by decide), h.ho, h.h8, h.n4⟩
theorem WdM.below (h : WdM d zA cA wA dA tA sA xA hA zA' cA' wA' dA' tA' sA' cl dc tc sc zc cc wc xc xn hn hc ta dc' tc' sc' zc' cc' wc' cq P3 P4 P5 P7 P8 bO lo hi ylo yhi D S R w (Y) (cu) (wd) V) (hb : Below V.heap.size V V') : WdM d zA cA wA dA tA sA xA hA zA' cA' wA' dA' tA' sA' cl dc tc sc zc cc wc xc xn hn hc ta dc' tc' sc' zc' cc' wc' cq P3 P4 P5 P7 P8 bO lo hi ylo yhi D S R w (Y) (cu) (wd) V' :=
  ⟨h.b.trans (hb.mono h.b.size), h.k.below' hb, h.x.below' hb, h.z.below' hb, h.c.below' hb, h.y.below' hb, h.o.below hb, h.ho, h.h8, h.n4⟩
theorem WdM.grown (h : WdM d zA cA wA dA tA sA xA hA zA' cA' wA' dA' tA' sA' cl dc tc sc zc cc wc xc xn hn hc ta dc' tc' sc' zc' cc' wc' cq P3 P4 P5 P7 P8 bO lo hi ylo yhi D S R w (Y) (cu) (wd) V) {S2 : Nat} (hold : OldD S2 dA' d.s.nd dc' tA' d.s.nt tc' sA' sc' zA' zc' cA' d.nz cc' wA' (d.s.nt - 1) wc' R) (hP : P3 < S2 ∧ P4 < S2 ∧ P5 < S2 ∧ P7 < S2 ∧ P8 < S2) (hw : w.heap.size ≤ S2) {row : Option Nat} (hg : V.grownBy V' row) (hr : ∀ r, row = some r → S2 ≤ r) : WdM d zA cA wA dA tA sA xA hA zA' cA' wA' dA' tA' sA' cl dc tc sc zc cc wc xc xn hn hc ta dc' tc' sc' zc' cc' wc' cq P3 P4 P5 P7 P8 bO lo hi ylo yhi D S R w (Y) (cu) (wd) V' :=
  ⟨h.b.grown hg h.b.size (fun r e => Nat.le_trans hw (hr r e)), h.k.grown hg (fun e => by have := hr _ e.symm; omega), h.x.grown hg (fun e => by have := hr _ e.symm; omega), h.z.grown hg (fun e => by have := hr _ e.symm; omega), h.c.grown hg (fun e => by have := hr _ e.symm; omega), h.y.grown hg (fun e => by have := hr _ e.symm; omega), h.o.grownO hold hg hr, h.ho, h.h8, h.n4⟩
theorem WdM.cong (h : WdM d zA cA wA dA tA sA xA hA zA' cA' wA' dA' tA' sA' cl dc tc sc zc cc wc xc xn hn hc ta dc' tc' sc' zc' cc' wc' cq P3 P4 P5 P7 P8 bO lo hi ylo yhi D S R w (Y) (cu) (wd) V) (hcu : ∀ i, i < d.nz → ∀ a, a < cl i → ∀ j, j < 3 → cu i a j = cu' i a j) (hwd : ∀ a, a < d.s.nt - 1 → ∀ j, j < 3 → wd a j = wd' a j) : WdM d zA cA wA dA tA sA xA hA zA' cA' wA' dA' tA' sA' cl dc tc sc zc cc wc xc xn hn hc ta dc' tc' sc' zc' cc' wc' cq P3 P4 P5 P7 P8 bO lo hi ylo yhi D S R w (Y) (cu') (wd') V := ⟨h.b, h.k, h.x, h.z, h.c, h.y, h.o.cong hcu hwd, h.ho, h.h8, h.n4⟩
/-- a number of a current, written -/
theorem WdM.setc (h : WdM d zA cA wA dA tA sA xA hA zA' cA' wA' dA' tA' sA' cl dc tc sc zc cc wc xc xn hn hc ta dc' tc' sc' zc' cc' wc' cq P3 P4 P5 P7 P8 bO lo hi ylo yhi D S R w (Y) (cu) (wd) V) {g c q : Nat} (hq : q < d.nz) (hg : R q = .slice (some ⟨g, 0, none⟩) (cl q) c) (k : Nat) {j : Nat} (hj : j < 3) (u : Int) : WdM d zA cA wA dA tA sA xA hA zA' cA' wA' dA' tA' sA' cl dc tc sc zc cc wc xc xn hn hc ta dc' tc' sc' zc' cc' wc' cq P3 P4 P5 P7 P8 bO lo hi ylo yhi D S R w (Y) (fun i => if i = q then setI (cu i) k j u else cu i) (wd) (V.setCell ⟨g, k * 3 + j, none⟩ (.int .i64 u)) := by
  have ho := h.o.r q hq
  have hv : (R q).ownBlock = some g := by rw [hg]; rfl
  exact ⟨h.b.setCell (p := ⟨g, k * 3 + j, none⟩) (Nat.le_trans h.ho (Own.block ho hv).1) _, h.k.farO ho hv (by decide) _ _, h.x.farO ho hv (by decide) _ _, h.z.farO ho hv (by decide) _ _, h.c.farO ho hv (by decide) _ _, h.y.farO ho hv (by decide) _ _, h.o.setc hq hg k hj u, h.ho, h.h8, h.n4⟩
end
section
variable {d : M.Dr} {zA cA wA dA tA sA xA hA zA' cA' dA' tA' sA' : Option Addr} {cl : Nat → Nat} {dc tc sc zc cc wc xc xn hn hc ta dc' tc' sc' zc' cc' wc' cq P3 P4 P5 P7 P8 bO : Nat} {lo hi ylo yhi D S : Int} {R : Nat → Value} {w : World} {Y : Array Value} {cu : Nat → Nat → Nat → Int} {wd : Nat → Nat → Int} {V : World} {g : Nat}
/-- a number of the wind, written -/
theorem WdM.setw (h : WdM d zA cA wA dA tA sA xA hA zA' cA' (some ⟨g, 0, none⟩) dA' tA' sA' cl dc tc sc zc cc wc xc xn hn hc ta dc' tc' sc' zc' cc' wc' cq P3 P4 P5 P7 P8 bO lo hi ylo yhi D S R w (Y) (cu) (wd) V) (k : Nat) {j : Nat} (hj : j < 3) (u : Int) : WdM d zA cA wA dA tA sA xA hA zA' cA' (some ⟨g, 0, none⟩) dA' tA' sA' cl dc tc sc zc cc wc xc xn hn hc ta dc' tc' sc' zc' cc' wc' cq P3 P4 P5 P7 P8 bO lo hi ylo yhi D S R w (Y) (cu) (setI wd k j u) (V.setCell ⟨g, k * 3 + j, none⟩ (.int .i64 u)) := by
  have ho := h.o.w
  exact ⟨h.b.setCell (p := ⟨g, k * 3 + j, none⟩) (Nat.le_trans h.ho (Own.block (g := g) ho rfl).1) _, h.k.farO ho rfl (by decide) _ _, h.x.farO ho rfl (by decide) _ _, h.z.farO ho rfl (by decide) _ _, h.c.farO ho rfl (by decide) _ _, h.y.farO ho rfl (by decide) _ _, h.o.setw k hj u, h.ho, h.h8, h.n4⟩
end
end Go.Proofs.YtnbeembnnjdmdaaDoor
