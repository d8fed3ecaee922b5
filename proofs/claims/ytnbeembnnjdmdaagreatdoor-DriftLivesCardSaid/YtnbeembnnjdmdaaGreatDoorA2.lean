/- drift.Alive: what stands in memory while it gathers the losses. -/
import Derived.Test.YtnbeembnnjdmdaaGreatDoorG12
import Derived.Test.YtnbeembnnjdmdaaGreatDoorS1
import Derived.Test.YtnbeembnnjdmdaaGreatDoorLaL
namespace Go.Proofs.YtnbeembnnjdmdaaGreatDoor
open Go.RowKit Go.Maps Go.Shelf

def putF (f : Nat → Int) (k : Nat) (u : Int) : Nat → Int := fun i => if i = k then u else f i
theorem upd_ints (f : Nat → Int) (k : Nat) (u : Int) (i j : Nat) : upd (ints f) k (fun _ => .int .i64 u) i j = ints (putF f k u) i j := by
 unfold upd ints putF
 by_cases h : i = k <;> simp [h]
structure AlB (d : M.Dr) (zA cA wA dA tA sA : Option Addr) (cl : Nat → Nat) (B P m1 m2 dc tc sc zc cc wc : Nat) (cb fb B' ta xc hn hc : Nat) (xL : List Int) (lo hi fc ft fl : Int) (xA hA : Option Addr) (Xs : Nat → SgV) (bA : Option Addr) (bn bc : Nat) (s0 s1 : Int) (w : World) (b11 b7 b13 b14 b15 lb mb base m : Nat) (q : Bool) (f g : Nat → Int) (A : World) : Prop where
 ch : ChI d zA cA wA dA tA sA cl B P m1 m2 dc tc sc zc cc wc cb fb B' ta xc hn hc xL lo hi fc ft fl xA hA Xs A
 bw : Below w.heap.size w A
 k11 : Blk A b11 105 #[.pointer (some ⟨P, 0, none⟩), .int .i64 (ta : Int), .slice xA xL.length xc, .int .i64 lo, .int .i64 hi, .slice hA hn hc]
 k7 : Blk A b7 73 #[.slice bA bn bc, .int .i64 s0, .int .i64 s1]
 k13 : Blk A b13 22 #[.slice (some ⟨lb, 0, none⟩) m m]
 k14 : Blk A b14 22 #[.slice (some ⟨mb, 0, none⟩) m m]
 k15 : Blk A b15 4 #[.bool q]
 l : Own A base 3 1 (.slice (some ⟨lb, 0, none⟩) m m) m (ints f)
 mm : Own A base 3 1 (.slice (some ⟨mb, 0, none⟩) m m) m (ints g)
 nl : ¬ TS P m1 m2 A lb
 nm : ¬ TS P m1 m2 A mb
 ne : lb ≠ mb
structure AlC (B B' w0 b15 base : Nat) : Prop where
 b : B ≤ base
 b' : B' ≤ base
 w : w0 ≤ base
 k15w : w0 ≤ b15
 k15B : B ≤ b15
 k15B' : B' ≤ b15
section
variable {d : M.Dr} {zA cA wA dA tA sA : Option Addr} {cl : Nat → Nat} {B P m1 m2 dc tc sc zc cc wc : Nat} {cb fb B' ta xc hn hc : Nat} {xL : List Int} {lo hi fc ft fl : Int} {xA hA : Option Addr} {Xs : Nat → SgV} {bA : Option Addr} {bn bc : Nat} {s0 s1 : Int} {w : World} {b11 b7 b13 b14 b15 lb mb base m : Nat} {q : Bool} {f g f' g' : Nat → Int} {A A' : World}
theorem AlB.congr (h : AlB d zA cA wA dA tA sA cl B P m1 m2 dc tc sc zc cc wc cb fb B' ta xc hn hc xL lo hi fc ft fl xA hA Xs bA bn bc s0 s1 w b11 b7 b13 b14 b15 lb mb base m (q) (f) (g) A) (hf : ∀ k, k < m → f k = f' k) (hg : ∀ k, k < m → g k = g' k) : AlB d zA cA wA dA tA sA cl B P m1 m2 dc tc sc zc cc wc cb fb B' ta xc hn hc xL lo hi fc ft fl xA hA Xs bA bn bc s0 s1 w b11 b7 b13 b14 b15 lb mb base m (q) (f') (g') A :=
 ⟨h.ch, h.bw, h.k11, h.k7, h.k13, h.k14, h.k15, h.l.congr (fun i j hi _ => by unfold ints; rw [hf i hi]), h.mm.congr (fun i j hi _ => by unfold ints; rw [hg i hi]), h.nl, h.nm, h.ne⟩
theorem AlB.grown (h : AlB d zA cA wA dA tA sA cl B P m1 m2 dc tc sc zc cc wc cb fb B' ta xc hn hc xL lo hi fc ft fl xA hA Xs bA bn bc s0 s1 w b11 b7 b13 b14 b15 lb mb base m (q) (f) (g) A) {row : Option Nat} (hg : A.grownBy A' row) (hr : ∀ r, row = some r → w.heap.size ≤ r ∧ B ≤ r ∧ B' ≤ r ∧ ¬ TS P m1 m2 A r ∧ r ≠ cb ∧ r ≠ fb ∧ r ≠ b11 ∧ r ≠ b7 ∧ r ≠ b13 ∧ r ≠ b14 ∧ r ≠ b15 ∧ r ≠ lb ∧ r ≠ mb) : AlB d zA cA wA dA tA sA cl B P m1 m2 dc tc sc zc cc wc cb fb B' ta xc hn hc xL lo hi fc ft fl xA hA Xs bA bn bc s0 s1 w b11 b7 b13 b14 b15 lb mb base m (q) (f) (g) A' := by
 have ht := (SeaT.grown h.ch.sm hg fun r e => ⟨(hr r e).2.1, (hr r e).2.2.2.1⟩).2
 refine ⟨h.ch.grown hg fun r e => ?_, h.bw.grown hg h.bw.size fun r e => (hr r e).1, h.k11.grown hg fun e => ?_, h.k7.grown hg fun e => ?_, h.k13.grown hg fun e => ?_, h.k14.grown hg fun e => ?_, h.k15.grown hg fun e => ?_, Own.grown h.l hg (.inr fun e => ?_), Own.grown h.mm hg (.inr fun e => ?_), fun e => h.nl (ht _ e), fun e => h.nm (ht _ e), h.ne⟩
 · obtain ⟨a1, a2, a3, a4, a5, a6, _⟩ := hr r e; exact ⟨a2, a4, a5, a6, a3⟩
 · obtain ⟨_, _, _, _, _, _, a, _⟩ := hr _ e.symm; exact a rfl
 · obtain ⟨_, _, _, _, _, _, _, a, _⟩ := hr _ e.symm; exact a rfl
 · obtain ⟨_, _, _, _, _, _, _, _, a, _⟩ := hr _ e.symm; exact a rfl
 · obtain ⟨_, _, _, _, _, _, _, _, _, a, _⟩ := hr _ e.symm; exact a rfl
 · obtain ⟨_, _, _, _, _, _, _, _, _, _, a, _⟩ := hr _ e.symm; exact a rfl
 · obtain ⟨_, _, _, _, _, _, _, _, _, _, _, a, _⟩ := hr lb e.symm; exact a rfl
 · obtain ⟨_, _, _, _, _, _, _, _, _, _, _, _, a⟩ := hr mb e.symm; exact a rfl
theorem AlB.ab (h : AlB d zA cA wA dA tA sA cl B P m1 m2 dc tc sc zc cc wc cb fb B' ta xc hn hc xL lo hi fc ft fl xA hA Xs bA bn bc s0 s1 w b11 b7 b13 b14 b15 lb mb base m (q) (f) (g) A) (hab : AbT d zA cA wA dA tA sA cl B P m1 m2 dc tc sc zc cc wc A A') (h1 : w.heap.size ≤ m1) (h2 : w.heap.size ≤ m2) : AlB d zA cA wA dA tA sA cl B P m1 m2 dc tc sc zc cc wc cb fb B' ta xc hn hc xL lo hi fc ft fl xA hA Xs bA bn bc s0 s1 w b11 b7 b13 b14 b15 lb mb base m (q) (f) (g) A' := by
 have t1 := h.ch.sm.map1
 have t2 := h.ch.sm.map2
 have ht := (hab.2 h.ch.sm).2
 exact ⟨h.ch.ab hab, h.bw.trans (hab.1.below h1 h2 h.bw.size), h.k11.mv hab.1 t1 t2, h.k7.mv hab.1 t1 t2, h.k13.mv hab.1 t1 t2, h.k14.mv hab.1 t1 t2, h.k15.mv hab.1 t1 t2, Own.mv h.l hab.1 t1 t2, Own.mv h.mm hab.1 t1 t2, fun e => (ht _ e).elim h.nl fun h3 => by have := (Own.block (g := lb) h.l rfl).2; omega, fun e => (ht _ e).elim h.nm fun h3 => by have := (Own.block (g := mb) h.mm rfl).2; omega, h.ne⟩
theorem AlB.below (h : AlB d zA cA wA dA tA sA cl B P m1 m2 dc tc sc zc cc wc cb fb B' ta xc hn hc xL lo hi fc ft fl xA hA Xs bA bn bc s0 s1 w b11 b7 b13 b14 b15 lb mb base m (q) (f) (g) A) (hb : Below A.heap.size A A') : AlB d zA cA wA dA tA sA cl B P m1 m2 dc tc sc zc cc wc cb fb B' ta xc hn hc xL lo hi fc ft fl xA hA Xs bA bn bc s0 s1 w b11 b7 b13 b14 b15 lb mb base m (q) (f) (g) A' := h.grown (row := none) (below_grown hb none) fun r e => by cases e
theorem AlB.notes (h : AlB d zA cA wA dA tA sA cl B P m1 m2 dc tc sc zc cc wc cb fb B' ta xc hn hc xL lo hi fc ft fl xA hA Xs bA bn bc s0 s1 w b11 b7 b13 b14 b15 lb mb base m (q) (f) (g) A) (hal : AlC B B' w.heap.size b15 base) {Zs : Nat} (hz : base ≤ Zs) (h1 : m1 < Zs) (h2 : m2 < Zs) {row : Option Nat} (hg : A.grownBy A' row) (hr : ∀ r, row = some r → Zs ≤ r ∧ ∃ o, A.heap[r]? = some o ∧ o.isCells = false) : AlB d zA cA wA dA tA sA cl B P m1 m2 dc tc sc zc cc wc cb fb B' ta xc hn hc xL lo hi fc ft fl xA hA Xs bA bn bc s0 s1 w b11 b7 b13 b14 b15 lb mb base m (q) (f) (g) A' := by
 obtain ⟨c1, c2, c5, c11, c12, c13⟩ := hal
 refine h.grown hg fun r e => ?_
 obtain ⟨h3, o, ho, hn⟩ := hr r e
 have ne : ∀ {b t : Nat} {cs : Array Value}, Blk A b t cs → r ≠ b := fun hb e => by
  subst e
  rw [show A.heap[r]? = _ from hb] at ho
  cases ho; cases hn
 obtain ⟨_, hlb⟩ := Own.blk h.l
 obtain ⟨_, hmb⟩ := Own.blk h.mm
 exact ⟨by omega, by omega, by omega, ts_notes h.ch.sm h3 ho hn h1 h2, ne h.ch.kc, ne h.ch.kf, ne h.k11, ne h.k7, ne h.k13, ne h.k14, ne h.k15, ne hlb, ne hmb⟩
theorem grown_set (V : World) (b i : Nat) (u : Value) : V.grownBy (V.setCell ⟨b, i, none⟩ u) (some b) := ⟨rfl, rfl, rfl, (KeepsWalks.setCell _ _ _).size, fun q _ hq => Below.heap_setCell _ _ _ q (fun e => hq (by rw [e]))⟩
theorem AlB.setL (h : AlB d zA cA wA dA tA sA cl B P m1 m2 dc tc sc zc cc wc cb fb B' ta xc hn hc xL lo hi fc ft fl xA hA Xs bA bn bc s0 s1 w b11 b7 b13 b14 b15 lb mb base m (q) (f) (g) A) (hal : AlC B B' w.heap.size b15 base) (k : Nat) (u : Int) : AlB d zA cA wA dA tA sA cl B P m1 m2 dc tc sc zc cc wc cb fb B' ta xc hn hc xL lo hi fc ft fl xA hA Xs bA bn bc s0 s1 w b11 b7 b13 b14 b15 lb mb base m (q) (putF f k u) (g) (A.setCell ⟨lb, k, none⟩ (.int .i64 u)) := by
 obtain ⟨c1, c2, c5, c11, c12, c13⟩ := hal
 have hlb := (Own.block (g := lb) h.l rfl).1
 have hg := grown_set A lb k (.int .i64 u)
 have n : ∀ {b t : Nat} {cs : Array Value}, Blk A b t cs → 3 ≠ t → b ≠ lb := fun hb hne e => Own.ne_blk h.l hb hne (by subst e; rfl)
 have ht := (SeaT.grown h.ch.sm hg fun r e => by cases e; exact ⟨by omega, h.nl⟩).2
 exact ⟨h.ch.grown hg fun r e => by cases e; exact ⟨by omega, h.nl, (n h.ch.kc (by decide)).symm, (n h.ch.kf (by decide)).symm, by omega⟩, h.bw.setCell (p := ⟨lb, k, none⟩) (by show w.heap.size ≤ lb; omega) _, h.k11.far (p := ⟨lb, k, none⟩) (n h.k11 (by decide)) _, h.k7.far (p := ⟨lb, k, none⟩) (n h.k7 (by decide)) _, h.k13.far (p := ⟨lb, k, none⟩) (n h.k13 (by decide)) _, h.k14.far (p := ⟨lb, k, none⟩) (n h.k14 (by decide)) _, h.k15.far (p := ⟨lb, k, none⟩) (n h.k15 (by decide)) _, Own.congr (Own.set1 h.l k _) fun i j _ _ => upd_ints f k u i j, Own.setCell h.mm (p := ⟨lb, k, none⟩) (fun e => h.ne (by injection e with e; exact e.symm)) _, fun e => h.nl (ht _ e), fun e => h.nm (ht _ e), h.ne⟩
theorem AlB.setM (h : AlB d zA cA wA dA tA sA cl B P m1 m2 dc tc sc zc cc wc cb fb B' ta xc hn hc xL lo hi fc ft fl xA hA Xs bA bn bc s0 s1 w b11 b7 b13 b14 b15 lb mb base m (q) (f) (g) A) (hal : AlC B B' w.heap.size b15 base) (k : Nat) (u : Int) : AlB d zA cA wA dA tA sA cl B P m1 m2 dc tc sc zc cc wc cb fb B' ta xc hn hc xL lo hi fc ft fl xA hA Xs bA bn bc s0 s1 w b11 b7 b13 b14 b15 lb mb base m (q) (f) (putF g k u) (A.setCell ⟨mb, k, none⟩ (.int .i64 u)) := by
 obtain ⟨c1, c2, c5, c11, c12, c13⟩ := hal
 have hmb := (Own.block (g := mb) h.mm rfl).1
 have hg := grown_set A mb k (.int .i64 u)
 have n : ∀ {b t : Nat} {cs : Array Value}, Blk A b t cs → 3 ≠ t → b ≠ mb := fun hb hne e => Own.ne_blk h.mm hb hne (by subst e; rfl)
 have ht := (SeaT.grown h.ch.sm hg fun r e => by cases e; exact ⟨by omega, h.nm⟩).2
 exact ⟨h.ch.grown hg fun r e => by cases e; exact ⟨by omega, h.nm, (n h.ch.kc (by decide)).symm, (n h.ch.kf (by decide)).symm, by omega⟩, h.bw.setCell (p := ⟨mb, k, none⟩) (by show w.heap.size ≤ mb; omega) _, h.k11.far (p := ⟨mb, k, none⟩) (n h.k11 (by decide)) _, h.k7.far (p := ⟨mb, k, none⟩) (n h.k7 (by decide)) _, h.k13.far (p := ⟨mb, k, none⟩) (n h.k13 (by decide)) _, h.k14.far (p := ⟨mb, k, none⟩) (n h.k14 (by decide)) _, h.k15.far (p := ⟨mb, k, none⟩) (n h.k15 (by decide)) _, Own.setCell h.l (p := ⟨mb, k, none⟩) (fun e => h.ne (by injection e)) _, Own.congr (Own.set1 h.mm k _) fun i j _ _ => upd_ints g k u i j, fun e => h.nl (ht _ e), fun e => h.nm (ht _ e), h.ne⟩
theorem AlB.setS (h : AlB d zA cA wA dA tA sA cl B P m1 m2 dc tc sc zc cc wc cb fb B' ta xc hn hc xL lo hi fc ft fl xA hA Xs bA bn bc s0 s1 w b11 b7 b13 b14 b15 lb mb base m (q) (f) (g) A) (hal : AlC B B' w.heap.size b15 base) : AlB d zA cA wA dA tA sA cl B P m1 m2 dc tc sc zc cc wc cb fb B' ta xc hn hc xL lo hi fc ft fl xA hA Xs bA bn bc s0 s1 w b11 b7 b13 b14 b15 lb mb base m (true) (f) (g) (A.setCell ⟨b15, 0, none⟩ (.bool true)) := by
 obtain ⟨c1, c2, c5, c11, c12, c13⟩ := hal
 have hg := grown_set A b15 0 (.bool true)
 have nt := not_ts h.ch.sm h.k15 (by decide) (by decide)
 have ht := (SeaT.grown h.ch.sm hg fun r e => by cases e; exact ⟨by omega, nt⟩).2
 have hlb := (Own.block (g := lb) h.l rfl).1
 have hmb := (Own.block (g := mb) h.mm rfl).1
 have n : ∀ {b t : Nat} {cs : Array Value}, Blk A b t cs → t ≠ 4 → b ≠ b15 := fun hb hne e => by
  subst e
  have e := Option.some.inj (hb.symm.trans h.k15)
  injection e with _ e2
  exact hne e2
 exact ⟨h.ch.grown hg fun r e => by cases e; exact ⟨by omega, nt, (n h.ch.kc (by decide)).symm, (n h.ch.kf (by decide)).symm, by omega⟩, h.bw.setCell (p := ⟨b15, 0, none⟩) c11 _, h.k11.far (p := ⟨b15, 0, none⟩) (n h.k11 (by decide)) _, h.k7.far (p := ⟨b15, 0, none⟩) (n h.k7 (by decide)) _, h.k13.far (p := ⟨b15, 0, none⟩) (n h.k13 (by decide)) _, h.k14.far (p := ⟨b15, 0, none⟩) (n h.k14 (by decide)) _, h.k15.set_ 0 _, Own.setCell h.l (p := ⟨b15, 0, none⟩) (Own.ne_blk h.l h.k15 (by decide)) _, Own.setCell h.mm (p := ⟨b15, 0, none⟩) (Own.ne_blk h.mm h.k15 (by decide)) _, fun e => h.nl (ht _ e), fun e => h.nm (ht _ e), h.ne⟩
end
theorem SpM.mv {W W' : World} {b n m1 m2 : Nat} {v : Int → Option (Int × Int)} (h : SpM W b n v) (hv : Mv m1 m2 W W') (h1 : b ≠ m1) (h2 : b ≠ m2) : SpM W' b n v := h.same (hv.block b h.lt h1 h2)
theorem RgM.mv {W W' : World} {b r n m1 m2 : Nat} {v : Int → Option (Int × Int)} {vis : List Int} (h : RgM W b r n v vis) (hv : Mv m1 m2 W W') (h1 : b ≠ m1) (h2 : b ≠ m2) (h3 : r ≠ m1) (h4 : r ≠ m2) : RgM W' b r n v vis := h.same (hv.block b h.owns.lt h1 h2) (hv.block r h.lt h3 h4)
theorem RgM.grown {W W' : World} {b r n : Nat} {v : Int → Option (Int × Int)} {vis : List Int} {row : Option Nat} (h : RgM W b r n v vis) (hg : W.grownBy W' row) (h1 : some b ≠ row) (h2 : some r ≠ row) : RgM W' b r n v vis := h.same (hg.block b h.owns.lt h1) (hg.block r h.lt h2)
def RgN (W : World) (b r n : Nat) (v : Int → Option (Int × Int)) (vis : List Int) (N : Nat) : Prop := RgM W b r n v vis ∧ W.rangeLeft b r = N
theorem RgN.mv {W W' : World} {b r n m1 m2 N : Nat} {v : Int → Option (Int × Int)} {vis : List Int} (h : RgN W b r n v vis N) (hv : Mv m1 m2 W W') (h1 : b ≠ m1) (h2 : b ≠ m2) (h3 : r ≠ m1) (h4 : r ≠ m2) : RgN W' b r n v vis N := ⟨h.1.mv hv h1 h2 h3 h4, by rw [← h.2]; exact RgM.left_same (hv.block b h.1.owns.lt h1 h2) (hv.block r h.1.lt h3 h4)⟩
theorem RgN.grown {W W' : World} {b r n N : Nat} {v : Int → Option (Int × Int)} {vis : List Int} {row : Option Nat} (h : RgN W b r n v vis N) (hg : W.grownBy W' row) (h1 : some b ≠ row) (h2 : some r ≠ row) : RgN W' b r n v vis N := ⟨h.1.grown hg h1 h2, by rw [← h.2]; exact RgM.left_same (hg.block b h.1.owns.lt h1) (hg.block r h.1.lt h2)⟩
end Go.Proofs.YtnbeembnnjdmdaaGreatDoor
