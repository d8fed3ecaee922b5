/- drift.History of a valid drift, drifter and sightings, at a cell and a tick that may be asked for. -/
import Derived.Test.YtnbeembnnjdmdaaGreatDoorG10
import Derived.Test.YtnbeembnnjdmdaaGreatDoorMixIn
namespace Go.Proofs.YtnbeembnnjdmdaaGreatDoor
open Go.RowKit Go.Maps Go.Shelf

/-- three results that lie in cells -/
theorem results_h3 {fn : Func} {p q r : Tmp} (h : fn.results = #[.cell p 3, .cell q 22, .cell r 35]) (tmps : Array Value) (w : World) (g1 g2 g3 : Nat) (n e : Int) (v : Value) (hp : tmps.getD p undef = .pointer (some ⟨g1, 0, none⟩)) (hq : tmps.getD q undef = .pointer (some ⟨g2, 0, none⟩)) (hr : tmps.getD r undef = .pointer (some ⟨g3, 0, none⟩))
    (h1 : w.cell? ⟨g1, 0, none⟩ = some (.int .i64 n)) (h2 : w.cell? ⟨g2, 0, none⟩ = some v) (h3 : w.cell? ⟨g3, 0, none⟩ = some (.int .i64 e)) : (results fn tmps).run Tryz.prog w = .ok (.tuple #[.int .i64 n, v, .int .i64 e]) w := by
  have hp' : tmps[p]?.getD undef = .pointer (some ⟨g1, 0, none⟩) := by simpa using hp
  have hq' : tmps[q]?.getD undef = .pointer (some ⟨g2, 0, none⟩) := by simpa using hq
  have hr' : tmps[r]?.getD undef = .pointer (some ⟨g3, 0, none⟩) := by simpa using hr
  have a1 := Tryz.isAgg3 w
  simp [results, h, hp', hq', hr', asAddr, loadVar, a1, h1, h2, h3, go_sem]
/-- the result's boxes -/
structure HsK (N : Nat) (n : Int) (v : Value) (A : World) : Prop where
  k10 : Blk A (N + 2) 3 #[.int .i64 n]
  k11 : Blk A (N + 3) 22 #[v]
  k12 : Blk A (N + 4) 35 #[.int .i64 0]
theorem HsK.grown {N : Nat} {n : Int} {v : Value} {A A' : World} {row : Option Nat} (h : HsK N n v A) (hg : A.grownBy A' row) (hr : ∀ r, row = some r → N + 5 ≤ r) : HsK N n v A' :=
  ⟨h.k10.grown hg fun e => by have := hr _ e.symm; omega, h.k11.grown hg fun e => by have := hr _ e.symm; omega, h.k12.grown hg fun e => by have := hr _ e.symm; omega⟩
/-- what stands in the body: the rows of the leeway, the cells so far -/
structure HsB (d : M.Dr) (zA cA wA dA tA sA : Option Addr) (cl : Nat → Nat) (B P m1 m2 dc tc sc zc cc wc : Nat) (cb fb B' ta xc hn hc : Nat) (xL : List Int) (lo hi fc ft fl : Int) (xA hA : Option Addr) (Xs : Nat → SgV) (w : World) (sb rb lo0 gr m : Nat) (V : Nat → Value) (R : Nat → List Int) (L : List Int) (v : Value) (A : World) : Prop where
  ch : ChI d zA cA wA dA tA sA cl B P m1 m2 dc tc sc zc cc wc cb fb B' ta xc hn hc xL lo hi fc ft fl xA hA Xs A
  bw : Below w.heap.size w A
  k : HsK w.heap.size 0 v A
  kd : Blk A sb 105 #[.pointer (some ⟨P, 0, none⟩), .int .i64 (ta : Int), .slice xA xL.length xc, .int .i64 lo, .int .i64 hi, .slice hA hn hc]
  kr : Blk A rb 62 #[.slice (some ⟨gr, 0, none⟩) m m]
  il : IL A (rb + 1) v L
  nt : ∀ g, v.ownBlock = some g → ¬ TS P m1 m2 A g
  ro : Own A lo0 22 1 (.slice (some ⟨gr, 0, none⟩) m m) m (fun i _ => V i)
  rl : ∀ k, k < m → IL A lo0 (V k) (R k)
  ts5 : ∀ k, TS P m1 m2 A k → w.heap.size + 5 ≤ k
  rlt : (gr < rb ∧ w.heap.size + 3 < sb ∧ sb < rb) ∧ ∀ k, k < m → ∀ g, (V k).ownBlock = some g → g < rb
section
variable {d : M.Dr} {zA cA wA dA tA sA : Option Addr} {cl : Nat → Nat} {B P m1 m2 dc tc sc zc cc wc : Nat} {cb fb B' ta xc hn hc m : Nat} {xL : List Int} {lo hi fc ft fl : Int} {xA hA : Option Addr} {Xs : Nat → SgV} {w A A' : World} {sb rb lo0 gr : Nat} {V : Nat → Value} {R : Nat → List Int} {L : List Int} {v : Value}
/-- another block grows, made later than the rows -/
theorem HsB.grown {row : Option Nat} (h : HsB d zA cA wA dA tA sA cl B P m1 m2 dc tc sc zc cc wc cb fb B' ta xc hn hc xL lo hi fc ft fl xA hA Xs w sb rb lo0 gr m V R L v A) (hg : A.grownBy A' row) (hr : ∀ r, row = some r → rb < r ∧ ¬ TS P m1 m2 A r ∧ v.ownBlock ≠ some r) (hB : B ≤ rb) (hB' : B' ≤ rb) (hcb : cb < rb) (hfb : fb < rb) (hw : w.heap.size + 5 ≤ rb) : HsB d zA cA wA dA tA sA cl B P m1 m2 dc tc sc zc cc wc cb fb B' ta xc hn hc xL lo hi fc ft fl xA hA Xs w sb rb lo0 gr m V R L v A' := by
  have hne : ∀ b, b ≤ rb → some b ≠ row := fun b hb e => by have := (hr b e.symm).1; omega
  have hts := (SeaT.grown h.ch.sm hg fun r e => ⟨by have := (hr r e).1; omega, (hr r e).2.1⟩).2
  refine ⟨h.ch.grown hg fun r e => ⟨by have := (hr r e).1; omega, (hr r e).2.1, by have := (hr r e).1; omega, by have := (hr r e).1; omega, by have := (hr r e).1; omega⟩, h.bw.grown hg h.bw.size fun r e => by have := (hr r e).1; omega, h.k.grown hg fun r e => by have := (hr r e).1; omega, h.kd.grown hg (hne _ (Nat.le_of_lt h.rlt.1.2.2)), h.kr.grown hg (hne _ (Nat.le_refl _)), Own.grown h.il hg ?_, fun g e ht => ?_, Own.grown h.ro hg (.inr (hne _ (Nat.le_of_lt h.rlt.1.1))), fun k hk => Own.grown (h.rl k hk) hg ?_, fun k hk => h.ts5 k (hts k hk), h.rlt⟩
  · cases hv : v.ownBlock with
    | none => exact .inl rfl
    | some g => exact .inr fun e => (hr g e.symm).2.2 hv
  · exact h.nt g e ((SeaT.grown h.ch.sm hg fun r e => ⟨by have := (hr r e).1; omega, (hr r e).2.1⟩).2 g ht)
  · cases hv : (V k).ownBlock with
    | none => exact .inl rfl
    | some g => exact .inr (hne g (Nat.le_of_lt (h.rlt.2 k hk g hv)))
theorem HsB.below (h : HsB d zA cA wA dA tA sA cl B P m1 m2 dc tc sc zc cc wc cb fb B' ta xc hn hc xL lo hi fc ft fl xA hA Xs w sb rb lo0 gr m V R L v A) (hb : Below A.heap.size A A') : HsB d zA cA wA dA tA sA cl B P m1 m2 dc tc sc zc cc wc cb fb B' ta xc hn hc xL lo hi fc ft fl xA hA Xs w sb rb lo0 gr m V R L v A' := by
  have hg := below_grown hb none
  exact ⟨h.ch.below hb, h.bw.trans (hb.mono h.bw.size), h.k.grown hg (fun r e => (by cases e)), h.kd.below' hb, h.kr.below' hb, Own.below h.il hb, fun g e ht => h.nt g e ((SeaT.grown h.ch.sm hg fun r e => (by cases e)).2 g ht), Own.below h.ro hb, fun k hk => Own.below (h.rl k hk) hb, fun k hk => h.ts5 k ((SeaT.grown h.ch.sm hg fun r e => (by cases e)).2 k hk), h.rlt⟩
/-- a step: the maps turn, new blocks are the drift's own -/
theorem HsB.ab (h : HsB d zA cA wA dA tA sA cl B P m1 m2 dc tc sc zc cc wc cb fb B' ta xc hn hc xL lo hi fc ft fl xA hA Xs w sb rb lo0 gr m V R L v A) (hab : AbT d zA cA wA dA tA sA cl B P m1 m2 dc tc sc zc cc wc A A') (h1 : w.heap.size ≤ m1) (h2 : w.heap.size ≤ m2) : HsB d zA cA wA dA tA sA cl B P m1 m2 dc tc sc zc cc wc cb fb B' ta xc hn hc xL lo hi fc ft fl xA hA Xs w sb rb lo0 gr m V R L v A' := by
  have e1 := h.ch.sm.map1
  have e2 := h.ch.sm.map2
  refine ⟨h.ch.ab hab, h.bw.trans (hab.1.below h1 h2 h.bw.size), ⟨h.k.k10.mv hab.1 e1 e2, h.k.k11.mv hab.1 e1 e2, h.k.k12.mv hab.1 e1 e2⟩, h.kd.mv hab.1 e1 e2, h.kr.mv hab.1 e1 e2, Own.mv h.il hab.1 e1 e2, fun g e ht => ?_, Own.mv h.ro hab.1 e1 e2, fun k hk => Own.mv (h.rl k hk) hab.1 e1 e2, fun k hk => ?_, h.rlt⟩
  rotate_left
  · rcases (hab.2 h.ch.sm).2 k hk with h3 | h3
    · exact h.ts5 k h3
    · have := h.k.k12.lt; omega
  rcases (hab.2 h.ch.sm).2 g ht with h3 | h3
  · exact h.nt g e h3
  · have := (Own.block h.il e).2; omega
/-- one more cell: the list grows, its box is set -/
theorem HsB.app {L' : List Int} {v' : Value} (h : HsB d zA cA wA dA tA sA cl B P m1 m2 dc tc sc zc cc wc cb fb B' ta xc hn hc xL lo hi fc ft fl xA hA Xs w sb rb lo0 gr m V R L v A) (hg : A.grownBy A' v.ownBlock) (hil' : IL A' (rb + 1) v' L') (hat : v'.ownBlock = v.ownBlock ∨ ∃ g, v'.ownBlock = some g ∧ A.heap.size ≤ g) (hB : B ≤ w.heap.size + 3) (hB' : B' ≤ w.heap.size + 3) (hcb : w.heap.size + 3 < cb) (hfb : w.heap.size + 3 < fb) (hcr : cb < rb) (hfr : fb < rb) (hw : w.heap.size + 5 ≤ rb) (hlo : w.heap.size + 5 ≤ lo0) : HsB d zA cA wA dA tA sA cl B P m1 m2 dc tc sc zc cc wc cb fb B' ta xc hn hc xL lo hi fc ft fl xA hA Xs w sb rb lo0 gr m V R L' v' (A'.setCell ⟨w.heap.size + 3, 0, none⟩ v') := by
  have hvr : ∀ r, v.ownBlock = some r → rb < r := fun r e => by have := (Own.block h.il e).1; omega
  have hne : ∀ b, b ≤ rb → some b ≠ v.ownBlock := fun b hb e => by have := hvr b e.symm; omega
  have hch : ChI d zA cA wA dA tA sA cl B P m1 m2 dc tc sc zc cc wc cb fb B' ta xc hn hc xL lo hi fc ft fl xA hA Xs A' := h.ch.grown hg fun r e => ⟨by have := hvr r e; omega, h.nt r e, by have := hvr r e; omega, by have := hvr r e; omega, by have := hvr r e; omega⟩
  have hk := h.k.grown hg fun r e => by have := hvr r e; omega
  have hno : ¬ TS P m1 m2 A' (w.heap.size + 3) := not_ts hch.sm hk.k11 (by decide) (by decide)
  have hgs := grownBy_setCell' A' (w.heap.size + 3) v'
  have hnv : v'.ownBlock ≠ some (w.heap.size + 3) := Own.ne_blk hil' hk.k11 (by decide)
  refine ⟨hch.grown hgs fun r e => by cases e; exact ⟨hB, hno, by omega, by omega, hB'⟩, (h.bw.grown hg h.bw.size fun r e => by have := hvr r e; omega).setCell (p := ⟨w.heap.size + 3, 0, none⟩) (by show w.heap.size ≤ w.heap.size + 3; omega) _,
    ⟨hk.k10.grown hgs (by simp), hk.k11.set_ 0 _, hk.k12.grown hgs (by simp)⟩, (h.kd.grown hg (hne _ (Nat.le_of_lt h.rlt.1.2.2))).grown hgs (by have := h.rlt.1.2.1; simp; omega), (h.kr.grown hg (hne _ (Nat.le_refl _))).grown hgs (by simp; omega), Own.setCell hil' hnv (p := ⟨w.heap.size + 3, 0, none⟩) _, fun g e ht => ?_, ?_, fun k hk' => ?_, fun k hk' => h.ts5 k ((SeaT.grown h.ch.sm hg fun r e => ⟨by have := hvr r e; omega, h.nt r e⟩).2 k ((SeaT.grown hch.sm hgs fun r e => by cases e; exact ⟨hB, hno⟩).2 k hk')), h.rlt⟩
  · have ht1 := (SeaT.grown hch.sm hgs fun r e => by cases e; exact ⟨hB, hno⟩).2 g ht
    have ht0 := (SeaT.grown h.ch.sm hg fun r e => ⟨by have := hvr r e; omega, h.nt r e⟩).2 g ht1
    rcases hat with e2 | ⟨g2, e2, h2⟩
    · exact h.nt g (e2 ▸ e) ht0
    · rw [e] at e2; cases e2
      have := (h.ch.sm.t.2.2.2 g ht0).2; omega
  · have h1 := Own.grown h.ro hg (.inr (hne _ (Nat.le_of_lt h.rlt.1.1)))
    exact Own.setCell h1 (p := ⟨w.heap.size + 3, 0, none⟩) (fun e => by have h3 : gr = w.heap.size + 3 := by simpa [Value.ownBlock] using e
                                                                        have := (Own.block (g := gr) h.ro rfl).1; omega) _
  · have h1 := Own.grown (h.rl k hk') hg (by
      cases hv : (V k).ownBlock with
      | none => exact .inl rfl
      | some g => exact .inr (hne g (Nat.le_of_lt (h.rlt.2 k hk' g hv))))
    exact Own.setCell h1 (p := ⟨w.heap.size + 3, 0, none⟩) (fun e => by have h3 := (Own.block h1 e).1; simp at h3; omega) _
/-- the result's boxes are set -/
theorem HsB.fin (h : HsB d zA cA wA dA tA sA cl B P m1 m2 dc tc sc zc cc wc cb fb B' ta xc hn hc xL lo hi fc ft fl xA hA Xs w sb rb lo0 gr m V R L v A) (n : Int) (hB : B ≤ w.heap.size) (hB' : B' ≤ w.heap.size) (hcb : w.heap.size + 5 ≤ cb) (hfb : w.heap.size + 5 ≤ fb) (C : Nat) :
    ChI d zA cA wA dA tA sA cl B P m1 m2 dc tc sc zc cc wc cb fb B' ta xc hn hc xL lo hi fc ft fl xA hA Xs ((((A.setCell ⟨w.heap.size + 2, 0, none⟩ (.int .i64 n)).setCell ⟨w.heap.size + 3, 0, none⟩ v).setCell ⟨w.heap.size + 4, 0, none⟩ (.int .i64 0)).drew) ∧ Below w.heap.size w ((((A.setCell ⟨w.heap.size + 2, 0, none⟩ (.int .i64 n)).setCell ⟨w.heap.size + 3, 0, none⟩ v).setCell ⟨w.heap.size + 4, 0, none⟩ (.int .i64 0)).drew) ∧
      HsK w.heap.size n v ((((A.setCell ⟨w.heap.size + 2, 0, none⟩ (.int .i64 n)).setCell ⟨w.heap.size + 3, 0, none⟩ v).setCell ⟨w.heap.size + 4, 0, none⟩ (.int .i64 0)).drew) ∧ IL ((((A.setCell ⟨w.heap.size + 2, 0, none⟩ (.int .i64 n)).setCell ⟨w.heap.size + 3, 0, none⟩ v).setCell ⟨w.heap.size + 4, 0, none⟩ (.int .i64 0)).drew) (rb + 1) v L ∧
      KeepsFrom C A ((((A.setCell ⟨w.heap.size + 2, 0, none⟩ (.int .i64 n)).setCell ⟨w.heap.size + 3, 0, none⟩ v).setCell ⟨w.heap.size + 4, 0, none⟩ (.int .i64 0)).drew) := by
  have g1 := grownBy_setCell' A (w.heap.size + 2) (.int .i64 n)
  have g2 := grownBy_setCell' (A.setCell ⟨w.heap.size + 2, 0, none⟩ (.int .i64 n)) (w.heap.size + 3) v
  have g3 := grownBy_setCell' ((A.setCell ⟨w.heap.size + 2, 0, none⟩ (.int .i64 n)).setCell ⟨w.heap.size + 3, 0, none⟩ v) (w.heap.size + 4) (.int .i64 0)
  have n1 : ¬ TS P m1 m2 A (w.heap.size + 2) := fun h1 => by have := h.ts5 _ h1; omega
  have s1 := SeaT.grown h.ch.sm g1 fun r e => by cases e; exact ⟨by omega, n1⟩
  have n2 : ¬ TS P m1 m2 (A.setCell ⟨w.heap.size + 2, 0, none⟩ (.int .i64 n)) (w.heap.size + 3) := fun h1 => by have := h.ts5 _ (s1.2 _ h1); omega
  have s2 := SeaT.grown s1.1 g2 fun r e => by cases e; exact ⟨by omega, n2⟩
  have n3 : ¬ TS P m1 m2 ((A.setCell ⟨w.heap.size + 2, 0, none⟩ (.int .i64 n)).setCell ⟨w.heap.size + 3, 0, none⟩ v) (w.heap.size + 4) := fun h1 => by have := h.ts5 _ (s1.2 _ (s2.2 _ h1)); omega
  have c1 := h.ch.grown g1 fun r e => by cases e; exact ⟨by omega, n1, by omega, by omega, by omega⟩
  have c2 := c1.grown g2 fun r e => by cases e; exact ⟨by omega, n2, by omega, by omega, by omega⟩
  have c3 := c2.grown g3 fun r e => by cases e; exact ⟨by omega, n3, by omega, by omega, by omega⟩
  have k10 := ((h.k.k10.set_ 0 (.int .i64 n)).grown g2 (by simp)).grown g3 (by simp)
  have k11 := ((h.k.k11.grown g1 (by simp)).set_ 0 v).grown g3 (by simp)
  have k12 := ((h.k.k12.grown g1 (by simp)).grown g2 (by simp)).set_ 0 (.int .i64 0)
  have hlt := h.k.k12.lt
  have hrb := h.rlt.1
  have hil : ∀ {X : World} {q : Nat} {u : Value}, IL X (rb + 1) v L → q ≤ rb → IL (X.setCell ⟨q, 0, none⟩ u) (rb + 1) v L := fun {X q u} hx hq => Own.setCell hx (p := ⟨q, 0, none⟩) (fun e => by have h9 : rb + 1 ≤ q := (Own.block hx e).1; omega) u
  have hd : ∀ {X : World}, Below X.heap.size X X.drew := fun {X} => (Below.refl _ _).drew
  refine ⟨c3.below hd, ((((h.bw.setCell (p := ⟨w.heap.size + 2, 0, none⟩) (by show w.heap.size ≤ w.heap.size + 2; omega) _).setCell (p := ⟨w.heap.size + 3, 0, none⟩) (by show w.heap.size ≤ w.heap.size + 3; omega) _).setCell (p := ⟨w.heap.size + 4, 0, none⟩) (by show w.heap.size ≤ w.heap.size + 4; omega) _)).drew, ⟨k10, k11, k12⟩, Own.drew (hil (hil (hil h.il (by omega)) (by omega)) (by omega)), ?_⟩
  have f1 := Blk.keepsSet h.k.k10 0 (.int .i64 n) C
  have f2 := Blk.keepsSet (h.k.k11.grown g1 (by simp)) 0 v C
  have f3 := Blk.keepsSet ((h.k.k12.grown g1 (by simp)).grown g2 (by simp)) 0 (.int .i64 0) C
  exact ((f1.trans f2).trans f3).trans (KeepsFrom.of_grownBy (below_grown hd none) fun _ e => by cases e)
theorem blk_note {b t : Nat} {cs : Array Value} {row : Option Nat} (hb : Blk A b t cs) (hr : ∀ r, row = some r → ∃ o, A.heap[r]? = some o ∧ o.isCells = false) : some b ≠ row := fun e => by
  obtain ⟨o, ho, hc⟩ := hr b e.symm
  rw [show A.heap[b]? = _ from hb] at ho
  cases ho; cases hc
theorem HsK.notes {N : Nat} {n : Int} {row : Option Nat} (h : HsK N n v A) (hg : A.grownBy A' row) (hr : ∀ r, row = some r → ∃ o, A.heap[r]? = some o ∧ o.isCells = false) : HsK N n v A' :=
  ⟨h.k10.grown hg (blk_note h.k10 hr), h.k11.grown hg (blk_note h.k11 hr), h.k12.grown hg (blk_note h.k12 hr)⟩
theorem HsK.mv {N : Nat} {n : Int} (h : HsK N n v A) (hv : Mv m1 m2 A A') (h1 : IsMap' A m1) (h2 : IsMap' A m2) : HsK N n v A' := ⟨h.k10.mv hv h1 h2, h.k11.mv hv h1 h2, h.k12.mv hv h1 h2⟩
/-- the loop's own notes -/
theorem HsB.notes {row : Option Nat} {Zs : Nat} (h : HsB d zA cA wA dA tA sA cl B P m1 m2 dc tc sc zc cc wc cb fb B' ta xc hn hc xL lo hi fc ft fl xA hA Xs w sb rb lo0 gr m V R L v A) (hg : A.grownBy A' row) (hr : ∀ r, row = some r → Zs ≤ r ∧ ∃ o, A.heap[r]? = some o ∧ o.isCells = false) (hB : B ≤ Zs) (hB' : B' ≤ Zs) (h1 : m1 < Zs) (h2 : m2 < Zs) (hw : w.heap.size ≤ Zs) : HsB d zA cA wA dA tA sA cl B P m1 m2 dc tc sc zc cc wc cb fb B' ta xc hn hc xL lo hi fc ft fl xA hA Xs w sb rb lo0 gr m V R L v A' := by
  have hr2 := fun r e => (hr r e).2
  have hts := (SeaT.grown h.ch.sm hg fun r e => ⟨by have := (hr r e).1; omega, by
      obtain ⟨h3, o, ho, hc⟩ := hr r e
      exact ts_notes h.ch.sm h3 ho hc h1 h2⟩).2
  refine ⟨h.ch.notes hg hr hB hB' h1 h2, h.bw.grown hg h.bw.size fun r e => by have := (hr r e).1; omega, h.k.notes hg hr2, h.kd.grown hg (blk_note h.kd hr2), h.kr.grown hg (blk_note h.kr hr2), Own.grown h.il hg (own_notes h.il hr), fun g e ht => ?_, Own.grown h.ro hg (own_notes h.ro hr), fun k hk => Own.grown (h.rl k hk) hg (own_notes (h.rl k hk) hr), fun k hk => h.ts5 k (hts k hk), h.rlt⟩
  exact h.nt g e (hts g ht)
/-- before the range: nothing has been yielded -/
structure HsI (d : M.Dr) (zA cA wA dA tA sA : Option Addr) (cl : Nat → Nat) (B P m1 m2 dc tc sc zc cc wc : Nat) (cb fb B' ta xc hn hc : Nat) (xL : List Int) (lo hi fc ft fl : Int) (xA hA : Option Addr) (Xs : Nat → SgV) (w : World) (sb : Nat) (s : List (Int × Nat × (Nat → Value))) (A : World) : Prop where
  s : s = []
  ch : ChI d zA cA wA dA tA sA cl B P m1 m2 dc tc sc zc cc wc cb fb B' ta xc hn hc xL lo hi fc ft fl xA hA Xs A
  bw : Below w.heap.size w A
  k : HsK w.heap.size 0 (.slice none 0 0) A
  kd : Blk A sb 105 #[.pointer (some ⟨P, 0, none⟩), .int .i64 (ta : Int), .slice xA xL.length xc, .int .i64 lo, .int .i64 hi, .slice hA hn hc]
  ts5 : ∀ k, TS P m1 m2 A k → w.heap.size + 5 ≤ k
theorem HsI.own {Zs : Nat} (hB : B ≤ Zs) (hB' : B' ≤ Zs) (h1 : m1 < Zs) (h2 : m2 < Zs) (hw : w.heap.size ≤ Zs) : OwnFrom Zs (HsI d zA cA wA dA tA sA cl B P m1 m2 dc tc sc zc cc wc cb fb B' ta xc hn hc xL lo hi fc ft fl xA hA Xs w sb) := fun _ _ _ _ h hg hr =>
  ⟨h.s, h.ch.notes hg hr hB hB' h1 h2, h.bw.grown hg h.bw.size (fun r e => by have := (hr r e).1; omega), h.k.notes hg fun r e => (hr r e).2, h.kd.grown hg (blk_note h.kd fun r e => (hr r e).2), fun k hk => h.ts5 k ((SeaT.grown h.ch.sm hg fun r e => ⟨by have := (hr r e).1; omega, by
      obtain ⟨h3, o, ho, hc⟩ := hr r e
      exact ts_notes h.ch.sm h3 ho hc h1 h2⟩).2 k hk)⟩
theorem HsI.ab {s : List (Int × Nat × (Nat → Value))} (h : HsI d zA cA wA dA tA sA cl B P m1 m2 dc tc sc zc cc wc cb fb B' ta xc hn hc xL lo hi fc ft fl xA hA Xs w sb s A) (hab : AbT d zA cA wA dA tA sA cl B P m1 m2 dc tc sc zc cc wc A A') (h1 : w.heap.size ≤ m1) (h2 : w.heap.size ≤ m2) : HsI d zA cA wA dA tA sA cl B P m1 m2 dc tc sc zc cc wc cb fb B' ta xc hn hc xL lo hi fc ft fl xA hA Xs w sb s A' :=
  ⟨h.s, h.ch.ab hab, h.bw.trans (hab.1.below h1 h2 h.bw.size), h.k.mv hab.1 h.ch.sm.map1 h.ch.sm.map2, h.kd.mv hab.1 h.ch.sm.map1 h.ch.sm.map2, fun k hk => by
    rcases (hab.2 h.ch.sm).2 k hk with h3 | h3
    · exact h.ts5 k h3
    · have := h.k.k12.lt; omega⟩
/-- a history has been found -/
structure HsX (d : M.Dr) (zA cA wA dA tA sA : Option Addr) (cl : Nat → Nat) (B P m1 m2 dc tc sc zc cc wc : Nat) (cb fb B' ta xc hn hc : Nat) (xL : List Int) (lo hi fc ft fl : Int) (xA hA : Option Addr) (Xs : Nat → SgV) (w : World) (m : Nat) (H : Int → (Nat → Int) → Prop) (A : World) : Prop where
  ch : ChI d zA cA wA dA tA sA cl B P m1 m2 dc tc sc zc cc wc cb fb B' ta xc hn hc xL lo hi fc ft fl xA hA Xs A
  bw : Below w.heap.size w A
  x : ∃ (l : Int) (v : Value) (L : List Int), HsK w.heap.size l v A ∧ (lo ≤ l ∧ l ≤ hi) ∧ IL A w.heap.size v L ∧ L.length = m ∧ H l (fun i => L.getD i 0)
theorem HsX.own {Zs : Nat} {H : Int → (Nat → Int) → Prop} (hB : B ≤ Zs) (hB' : B' ≤ Zs) (h1 : m1 < Zs) (h2 : m2 < Zs) (hw : w.heap.size ≤ Zs) : OwnFrom Zs (fun (_ : List (Int × Nat × (Nat → Value))) => HsX d zA cA wA dA tA sA cl B P m1 m2 dc tc sc zc cc wc cb fb B' ta xc hn hc xL lo hi fc ft fl xA hA Xs w m H) := fun _ _ _ _ h hg hr => by
  obtain ⟨l, v, L, k1, k2, k3, k4, k5⟩ := h.x
  exact ⟨h.ch.notes hg hr hB hB' h1 h2, h.bw.grown hg h.bw.size (fun r e => by have := (hr r e).1; omega), l, v, L, k1.notes hg fun r e => (hr r e).2, k2, Own.grown k3 hg (own_notes k3 hr), k4, k5⟩
theorem HsX.ab {H : Int → (Nat → Int) → Prop} (h : HsX d zA cA wA dA tA sA cl B P m1 m2 dc tc sc zc cc wc cb fb B' ta xc hn hc xL lo hi fc ft fl xA hA Xs w m H A) (hab : AbT d zA cA wA dA tA sA cl B P m1 m2 dc tc sc zc cc wc A A') (h1 : w.heap.size ≤ m1) (h2 : w.heap.size ≤ m2) : HsX d zA cA wA dA tA sA cl B P m1 m2 dc tc sc zc cc wc cb fb B' ta xc hn hc xL lo hi fc ft fl xA hA Xs w m H A' := by
  obtain ⟨l, v, L, k1, k2, k3, k4, k5⟩ := h.x
  exact ⟨h.ch.ab hab, h.bw.trans (hab.1.below h1 h2 h.bw.size), l, v, L, k1.mv hab.1 h.ch.sm.map1 h.ch.sm.map2, k2, Own.mv k3 hab.1 h.ch.sm.map1 h.ch.sm.map2, k4, k5⟩
end
section
variable {d : M.Dr} {zA cA wA dA tA sA xA hA : Option Addr} {cl : Nat → Nat} {B dc tc sc zc cc wc xc hn hc : Nat} {at_ lo hi : Int} {xL : List Int} {Xs : Nat → SgV} {w : World}
attribute [local go_sem] Oper.semAt_some
/-- what History answers: a leeway, and cells that are a possible history in a place -/
def HstR (d : M.Dr) (at_ lo hi : Int) (xL : List Int) (hn : Nat) (Xs : Nat → SgV) (c t : Int) (w : World) (e : Ending) (w' : World) : Prop :=
  ∃ (l : Int) (v : Value) (L : List Int), e = .returned (.tuple #[.int .i64 l, v, .int .i64 0]) ∧ (lo ≤ l ∧ l ≤ hi) ∧ IL w' w.heap.size v L ∧ L.length = d.s.nt - at_.toNat ∧ M.Hist d at_.toNat l (fun c => xL.contains c) (trFit Xs hn at_.toNat t c) (d.s.nt - at_.toNat - 1) (fun i => L.getD i 0)
set_option maxRecDepth 100000 in
set_option maxHeartbeats 12800000 in
theorem history_ok (hd : d.Ok) (hcl : ∀ i, i < d.nz → cl i + 1 = d.s.nt) (hR : RdD w B dA tA sA zA cA wA d.s.nd d.s.nt d.s.nt d.s.nd d.nz (d.s.nt - 1) d.s.dep d.s.tide d.s.sw d.z cl d.cu d.wd) (hB : B ≤ w.heap.size) (hW : Ways w)
    (hx3 : Rd1 w B xA xL.length (fun k => xL.getD k 0)) (hx4 : xL.length ≤ maxLen) (hRS : RdS w B hA hn Xs) (hhn : hn ≤ maxLen) (c t : Int) (hX : chkX d.s.nd d.s.nt at_ lo hi xL = true) (hS : chkS d.s.nd d.s.nt at_ hn Xs = true) (hq : askB d.s.nd d.s.nt at_ c t = true) :
    Calls Tryz.prog 29 #[.agg #[.int .i64 (d.s.W : Int), .int .i64 (d.s.H : Int), .slice dA d.s.nd dc, .slice tA d.s.nt tc, .slice sA d.s.nt sc, .slice zA d.s.nd zc, .slice cA d.nz cc, .slice wA (d.s.nt - 1) wc], .agg #[.int .i64 at_, .slice xA xL.length xc, .int .i64 lo, .int .i64 hi], .slice hA hn hc, .int .i64 c, .int .i64 t] w fun e w' => Below w.heap.size w w' ∧
      ((strP d at_ lo hi xL hn Xs c t = false ∧ e = .returned (.tuple #[.int .i64 0, .slice none 0 0, .int .i64 3])) ∨ (strP d at_ lo hi xL hn Xs c t = true ∧ HstR d at_ lo hi xL hn Xs c t w e w')) := by
  obtain ⟨⟨ha1, ha2⟩, hxl, ⟨hx1, hx2⟩, hl1, hl2, hl3⟩ := chkX_bd hX
  obtain ⟨ta, rfl⟩ : ∃ n : Nat, at_ = (n : Int) := ⟨at_.toNat, by omega⟩
  have h60 := hd.s.t2
  have h1n := hd.s.t1
  have hnd := hd.s.nd1
  have hxm : xL.length ≤ 1048576 := by have := M.asc_len hx1 (fun x hx => ⟨by have := hx2 x hx; omega, (hx2 x hx).2⟩); omega
  unfold strP HstR
  rw [Int.toNat_natCast]
  obtain ⟨m, hm⟩ : ∃ m, m = d.s.nt - ta := ⟨_, rfl⟩
  rw [← hm]
  have hm1 : ta + m = d.s.nt := by omega
  have hm2 : 1 ≤ m := by omega
  have hm60 : m ≤ 60 := by omega
  have HD := Lib.hid hd
  have hbY := ((belowAlloc3 w (.cells #[.int .i64 (d.s.W : Int), .int .i64 (d.s.H : Int), .slice dA d.s.nd dc, .slice tA d.s.nt tc, .slice sA d.s.nt sc, .slice zA d.s.nd zc, .slice cA d.nz cc, .slice wA (d.s.nt - 1) wc] 29) (.cells #[.int .i64 (ta : Int), .slice xA xL.length xc, .int .i64 lo, .int .i64 hi] 44) (.cells #[.int .i64 0] 3)).alloc (by simp; omega) (.cells #[.slice none 0 0] 22)).alloc (by simp; omega) (.cells #[.int .i64 0] 35)
  have hO := begin_ok (at_ := (ta : Int)) (lo := lo) (hi := hi) (xc := xc) (hc := hc) (dc := dc) (tc := tc) (sc := sc) (zc := zc) (cc := cc) (wc := wc) hd hcl (hR.below (hbY.mono hB)) (Nat.le_trans hB hbY.size) (hW.below hbY) (hx3.below (hbY.mono hB)) hx4 (hRS.below (hbY.mono hB)) hhn
  have K0 := Lib.hid (show HsK w.heap.size 0 (.slice none 0 0) (((((w.alloc (.cells #[.int .i64 (d.s.W : Int), .int .i64 (d.s.H : Int), .slice dA d.s.nd dc, .slice tA d.s.nt tc, .slice sA d.s.nt sc, .slice zA d.s.nd zc, .slice cA d.nz cc, .slice wA (d.s.nt - 1) wc] 29)).alloc (.cells #[.int .i64 (ta : Int), .slice xA xL.length xc, .int .i64 lo, .int .i64 hi] 44)).alloc (.cells #[.int .i64 0] 3)).alloc (.cells #[.slice none 0 0] 22)).alloc (.cells #[.int .i64 0] 35)) from
    ⟨((Blk.new2 w _ _ 3 #[.int .i64 0]).alloc _).alloc _, (Blk.new3 w _ _ _ 22 #[.slice none 0 0]).alloc _, by have := Blk.new ((((w.alloc (.cells #[.int .i64 (d.s.W : Int), .int .i64 (d.s.H : Int), .slice dA d.s.nd dc, .slice tA d.s.nt tc, .slice sA d.s.nt sc, .slice zA d.s.nd zc, .slice cA d.nz cc, .slice wA (d.s.nt - 1) wc] 29)).alloc (.cells #[.int .i64 (ta : Int), .slice xA xL.length xc, .int .i64 lo, .int .i64 hi] 44)).alloc (.cells #[.int .i64 0] 3)).alloc (.cells #[.slice none 0 0] 22)) 35 #[.int .i64 0]; simpa using this⟩)
  have HBY := Lib.hid hbY
  have D0 := Lib.hid (show Blk (((((w.alloc (.cells #[.int .i64 (d.s.W : Int), .int .i64 (d.s.H : Int), .slice dA d.s.nd dc, .slice tA d.s.nt tc, .slice sA d.s.nt sc, .slice zA d.s.nd zc, .slice cA d.nz cc, .slice wA (d.s.nt - 1) wc] 29)).alloc (.cells #[.int .i64 (ta : Int), .slice xA xL.length xc, .int .i64 lo, .int .i64 hi] 44)).alloc (.cells #[.int .i64 0] 3)).alloc (.cells #[.slice none 0 0] 22)).alloc (.cells #[.int .i64 0] 35)) w.heap.size 29 #[.int .i64 (d.s.W : Int), .int .i64 (d.s.H : Int), .slice dA d.s.nd dc, .slice tA d.s.nt tc, .slice sA d.s.nt sc, .slice zA d.s.nd zc, .slice cA d.nz cc, .slice wA (d.s.nt - 1) wc] from ((((Blk.new w 29 #[.int .i64 (d.s.W : Int), .int .i64 (d.s.H : Int), .slice dA d.s.nd dc, .slice tA d.s.nt tc, .slice sA d.s.nt sc, .slice zA d.s.nd zc, .slice cA d.nz cc, .slice wA (d.s.nt - 1) wc]).alloc _).alloc _).alloc _).alloc _)
  have X0 := Lib.hid (show Blk (((((w.alloc (.cells #[.int .i64 (d.s.W : Int), .int .i64 (d.s.H : Int), .slice dA d.s.nd dc, .slice tA d.s.nt tc, .slice sA d.s.nt sc, .slice zA d.s.nd zc, .slice cA d.nz cc, .slice wA (d.s.nt - 1) wc] 29)).alloc (.cells #[.int .i64 (ta : Int), .slice xA xL.length xc, .int .i64 lo, .int .i64 hi] 44)).alloc (.cells #[.int .i64 0] 3)).alloc (.cells #[.slice none 0 0] 22)).alloc (.cells #[.int .i64 0] 35)) (w.heap.size + 1) 44 #[.int .i64 (ta : Int), .slice xA xL.length xc, .int .i64 lo, .int .i64 hi] from (((Blk.new1 w _ 44 _).alloc _).alloc _).alloc _)
  have HO := Lib.hid (hO.mono (R' := fun e w' => ∃ B2 P m1 m2, w.heap.size + 5 ≤ B2 ∧ Below (w.heap.size + 5) (((((w.alloc (.cells #[.int .i64 (d.s.W : Int), .int .i64 (d.s.H : Int), .slice dA d.s.nd dc, .slice tA d.s.nt tc, .slice sA d.s.nt sc, .slice zA d.s.nd zc, .slice cA d.nz cc, .slice wA (d.s.nt - 1) wc] 29)).alloc (.cells #[.int .i64 (ta : Int), .slice xA xL.length xc, .int .i64 lo, .int .i64 hi] 44)).alloc (.cells #[.int .i64 0] 3)).alloc (.cells #[.slice none 0 0] 22)).alloc (.cells #[.int .i64 0] 35)) w' ∧ e = .returned (.tuple #[.agg #[.pointer (some ⟨P, 0, none⟩), .int .i64 (ta : Int), .slice xA xL.length xc, .int .i64 lo, .int .i64 hi, .slice hA hn hc], .int .i64 0]) ∧ SeaM d zA cA wA dA tA sA cl w.heap.size P m1 m2 #[.int .i64 (d.s.W : Int), .int .i64 (d.s.H : Int), .slice dA d.s.nd dc, .slice tA d.s.nt tc, .slice sA d.s.nt sc, .slice zA d.s.nd zc, .slice cA d.nz cc, .slice wA (d.s.nt - 1) wc, .map (some m1), .map (some m2)] (own3 P m1 m2) w' ∧ B2 ≤ P ∧ B2 ≤ m1 ∧ B2 ≤ m2) fun e w' h => by
    obtain ⟨hb, h⟩ := h
    rcases h with ⟨h1, h2⟩ | ⟨h1, h2, h3⟩ | ⟨h1, h2, B2, P, m1, m2, h3, h4, h5⟩
    · rw [hX] at h1; cases h1
    · rw [hS] at h2; cases h2
    · exact ⟨B2, P, m1, m2, by simpa using h3, by simpa using hb, h4, h5.base (by simp at h3; omega) ((hR.below ((hbY.trans (hb.mono hbY.size)).mono hB)).more hB) hW.2, h5.b.1, h5.b.2.1, h5.b.2.2.1⟩)
  have HSQ := Lib.hid (fun (B2 P m1 m2 cb fb : Nat) => leeways1_seq (zA := zA) (cA := cA) (wA := wA) (dA := dA) (tA := tA) (sA := sA) (cl := cl) (B := B2) (P := P) (m1 := m1) (m2 := m2) (dc := dc) (tc := tc) (sc := sc) (zc := zc) (cc := cc) (wc := wc) (cb := cb) (fb := fb) (B' := B) (xc := xc) (hc := hc) (xA := xA) (hA := hA) (Xs := Xs) (fc := c) (ft := t) (fl := 0) hd hhn hx1 hx2 hxm hm1 hm2 hl1 hl3 hl2)
  have HAS := Lib.hid (fun (P : Nat) (V : World) (h2 : V.cell? ⟨P, 2, none⟩ = some (.slice dA d.s.nd dc)) (h3 : V.cell? ⟨P, 3, none⟩ = some (.slice tA d.s.nt tc)) => asked_any (P := P) (ta := ta) (xA := xA) (xc := xc) (xL := xL) (lo := lo) (hi := hi) (hA := hA) (hn := hn) (hc := hc) c t V h2 h3 (by unfold maxLen; omega) (by unfold maxLen; omega))
  unfold askB at hq
  rw [hq] at HAS
  obtain ⟨fit, hfit⟩ : ∃ fit, fit = trFit Xs hn ta t c := ⟨_, rfl⟩
  obtain ⟨lp, hlp⟩ : ∃ q, q = leeP d ta m hn xL Xs t c := ⟨_, rfl⟩
  have HLP := Lib.hid (show ∀ l, lp l = M.posB d ta l (fun c => xL.contains c) fit (m - 1) from fun l => by rw [hlp, hfit]; rfl)
  rw [← hlp, ← hfit]
  rw [← hlp] at HSQ
  have HFT := Lib.hid hfit
  have HLE2 := Lib.hid hlp
  have HRS := Lib.hid hRS
  have HX3 := Lib.hid hx3
  have hll : hi ≤ lo + 8 := by omega
  clear hO hbY hlp hfit hR hd hcl hW hx3 hRS hx1 hx2 hX hS hm hq
  refine (callsIn_wide (n := 4)).1 ?_
  refine callsIn_of_wp_marks Tryz.func29 rfl trivial ?_ rfl
  simp only [Tryz.ntmps29, List.size_toArray, List.length_cons, List.length_nil, Nat.reduceAdd, Nat.reduceSub, Array.replicate_succ, Array.replicate_zero, List.push_toArray, List.append_toArray, List.nil_append, List.cons_append]
  refine wpIn_wide.2 ?_
  go_upto_region 1 with fail
  generalize ((((w.alloc (.cells #[.int .i64 (d.s.W : Int), .int .i64 (d.s.H : Int), .slice dA d.s.nd dc, .slice tA d.s.nt tc, .slice sA d.s.nt sc, .slice zA d.s.nd zc, .slice cA d.nz cc, .slice wA (d.s.nt - 1) wc] 29)).alloc (.cells #[.int .i64 (ta : Int), .slice xA xL.length xc, .int .i64 lo, .int .i64 hi] 44)).alloc (.cells #[.int .i64 0] 3)).alloc (.cells #[.slice none 0 0] 22)).alloc (.cells #[.int .i64 0] 35) = X at HO K0 HBY D0 X0 ⊢
  simp only [Nat.add_assoc, Nat.reduceAdd]
  have d0 := D0.out.cell 0
  have d1 := D0.out.cell 1
  have d2 := D0.out.cell 2
  have d3 := D0.out.cell 3
  have d4 := D0.out.cell 4
  have d5 := D0.out.cell 5
  have d6 := D0.out.cell 6
  have d7 := D0.out.cell 7
  have x0 := X0.out.cell 0
  have x1 := X0.out.cell 1
  have x2 := X0.out.cell 2
  have x3 := X0.out.cell 3
  have k12 := K0.out.k12.cell 0
  have f12 := K0.out.k12.frz 0
  go_upto_region 2 with (go_at_call 55; refine HO.out.mono ?_; rintro e w1 ⟨B2, P, m1, m2, hB2, hb, rfl, hM, hPB, hm1B, hm2B⟩; have HB1 := Lib.hid (show Below w.heap.size w w1 from HBY.out.trans (hb.mono (by omega))); have HM1 := Lib.hid hM; have HB2 := Lib.hid (And.intro hB2 (And.intro hPB (And.intro hm1B hm2B))); have K1 := Lib.hid (show HsK w.heap.size 0 (.slice none 0 0) w1 from ⟨K0.out.k10.below hb (by omega), K0.out.k11.below hb (by omega), K0.out.k12.below hb (by omega)⟩); have HSX := Lib.hid (show w.heap.size + 5 ≤ w1.heap.size from Nat.le_trans (by have := HM1.out.b.2.1; have := (HM1.out.t.2.2.2 m1 HM1.out.t.2.1).2; omega) (Nat.le_refl _)); clear hb hM hB2 hPB hm1B hm2B k12 f12 d0 d1 d2 d3 d4 d5 d6 d7 x0 x1 x2 x3; have k12 := K1.out.k12.cell 0; have f12 := K1.out.k12.frz 0; have l12 : w.heap.size + 4 < w1.heap.size := K1.out.k12.lt)
  have hBs := HB2.out
  have HG := Lib.hid (grownBy_setCell' w1 (w.heap.size + 4) (.int .i64 0))
  have HMS := Lib.hid (HM1.out.grown HG.out fun r e => by cases e; exact ⟨by omega, fun h => by rcases h with h | h | h <;> omega⟩)
  have HM2 := Lib.hid (HMS.out.alloc (.cells #[.pointer (some ⟨P, 0, none⟩), .int .i64 (ta : Int), .slice xA xL.length xc, .int .i64 lo, .int .i64 hi, .slice hA hn hc] 105))
  have K2 := Lib.hid (show HsK w.heap.size 0 (.slice none 0 0) ((w1.setCell ⟨w.heap.size + 4, 0, none⟩ (.int .i64 0)).alloc (.cells #[.pointer (some ⟨P, 0, none⟩), .int .i64 (ta : Int), .slice xA xL.length xc, .int .i64 lo, .int .i64 hi, .slice hA hn hc] 105)) from ⟨(K1.out.k10.grown HG.out (by simp)).alloc _, (K1.out.k11.grown HG.out (by simp)).alloc _, (K1.out.k12.set_ 0 (.int .i64 0)).alloc _⟩)
  have HBX := Lib.hid ((HB1.out.setCell (p := ⟨w.heap.size + 4, 0, none⟩) (by show w.heap.size ≤ w.heap.size + 4; omega) (.int .i64 0)).alloc (by simp; omega) (.cells #[.pointer (some ⟨P, 0, none⟩), .int .i64 (ta : Int), .slice xA xL.length xc, .int .i64 lo, .int .i64 hi, .slice hA hn hc] 105))
  have KC := Lib.hid (show Blk ((w1.setCell ⟨w.heap.size + 4, 0, none⟩ (.int .i64 0)).alloc (.cells #[.pointer (some ⟨P, 0, none⟩), .int .i64 (ta : Int), .slice xA xL.length xc, .int .i64 lo, .int .i64 hi, .slice hA hn hc] 105)) w1.heap.size 105 #[.pointer (some ⟨P, 0, none⟩), .int .i64 (ta : Int), .slice xA xL.length xc, .int .i64 lo, .int .i64 hi, .slice hA hn hc] from by have := Blk.new (w1.setCell ⟨w.heap.size + 4, 0, none⟩ (.int .i64 0)) 105 #[.pointer (some ⟨P, 0, none⟩), .int .i64 (ta : Int), .slice xA xL.length xc, .int .i64 lo, .int .i64 hi, .slice hA hn hc]; simpa using this)
  have hszY : ((w1.setCell ⟨w.heap.size + 4, 0, none⟩ (.int .i64 0)).alloc (.cells #[.pointer (some ⟨P, 0, none⟩), .int .i64 (ta : Int), .slice xA xL.length xc, .int .i64 lo, .int .i64 hi, .slice hA hn hc] 105)).heap.size = w1.heap.size + 1 := by simp
  generalize (w1.setCell ⟨w.heap.size + 4, 0, none⟩ (.int .i64 0)).alloc (.cells #[.pointer (some ⟨P, 0, none⟩), .int .i64 (ta : Int), .slice xA xL.length xc, .int .i64 lo, .int .i64 hi, .slice hA hn hc] 105) = Y at HM2 K2 HBX KC hszY ⊢
  have HSX' := HSX.out
  generalize w1.heap.size = S at KC hszY HSX' ⊢
  have HSZ := Lib.hid hszY
  clear hszY HG HMS K1 HM1 HB1 HSX k12 f12 l12
  have k0 := KC.out.cell 0
  have k1 := KC.out.cell 1
  have k2 := KC.out.cell 2
  have k3 := KC.out.cell 3
  have k4 := KC.out.cell 4
  have k5 := KC.out.cell 5
  have k12 := K2.out.k12.cell 0
  go_upto_region 6 with (go_at_call 62; go_must (refine (HAS.out P Y (HM2.out.box.cell 2) (HM2.out.box.cell 3)).mono ?_); rintro e w2 ⟨rfl, hb⟩; have HB3 := Lib.hid hb; clear hb)
  have HM3 := Lib.hid (HM2.out.below HB3.out)
  have KD := Lib.hid (KC.out.below' HB3.out)
  have K3 := Lib.hid (K2.out.grown (below_grown HB3.out none) fun r e => (by cases e))
  have HBX3 := Lib.hid (HBX.out.trans (HB3.out.mono HBX.out.size))
  have hS2 : S + 1 ≤ w2.heap.size := by rw [← HSZ.out]; exact HB3.out.size
  clear k0 k1 k2 k3 k4 k5 k12 HM2 KC K2 HBX HAS HB3 HSZ
  have k0 := KD.out.cell 0
  have k1 := KD.out.cell 1
  have k2 := KD.out.cell 2
  have k3 := KD.out.cell 3
  have k4 := KD.out.cell 4
  have k5 := KD.out.cell 5
  have HLE := Lib.hid (leeways_any (P := P) (ta := ta) (xA := xA) (xL := xL) (xc := xc) (lo := lo) (hi := hi) (hA := hA) (hn := hn) (hc := hc) (fc := c) (ft := t) (fl := 0) w2)
  go_wp2_with (go_at_call 64; go_must (refine HLE.out.mono ?_); rintro e Z ⟨rfl, hk0, hk1, hbz, hzs⟩; have G0 := Lib.hid hk0; have G1 := Lib.hid hk1; have HBZ := Lib.hid hbz; have HZS := Lib.hid hzs; clear hk0 hk1 hbz hzs k0 k1 k2 k3 k4 k5)
  have hBs := HB2.out
  have hsm := HM3.out
  have hm1w : w.heap.size ≤ m1 := by omega
  have hm2w : w.heap.size ≤ m2 := by omega
  have hm1S : m1 < w2.heap.size := (hsm.t.2.2.2 m1 hsm.t.2.1).2
  have hm2S : m2 < w2.heap.size := (hsm.t.2.2.2 m2 hsm.t.2.2.1).2
  have HWZ := Lib.hid (HBX3.out.trans (HBZ.out.mono (by omega)))
  have HSMZ := Lib.hid (SeaT.grown hsm.canon (below_grown HBZ.out none) fun _ e => by cases e).1
  have HCH := Lib.hid (show ChI d zA cA wA dA tA sA cl w.heap.size P m1 m2 dc tc sc zc cc wc w2.heap.size (w2.heap.size + 1) B ta xc hn hc xL lo hi c t 0 xA hA Xs Z from ⟨HSMZ.out, G0.out, G1.out, HRS.out.below (HWZ.out.mono hB), HX3.out.below (HWZ.out.mono hB), Nat.le_trans hB HWZ.out.size⟩)
  have HKZ := Lib.hid (K3.out.grown (below_grown HBZ.out none) fun r e => (by cases e))
  have HZS2 := HZS.out
  have HT5Z := Lib.hid (show ∀ k, TS P m1 m2 Z k → w.heap.size + 5 ≤ k from fun k hk => by
    rcases hsm.ts_sub ((SeaT.grown hsm.canon (below_grown HBZ.out none) fun _ e => by cases e).2 k hk) with h | h | h <;> omega)
  have KDZ := Lib.hid (KD.out.below' HBZ.out)
  clear hsm HLE G0 G1 HBZ HM3 K3 HSMZ HBX3 KD HBY HO HZS
  generalize w2.heap.size = S2 at HCH HZS2 hm1S hm2S hS2 ⊢
  obtain ⟨HH, hHH⟩ : ∃ HH : Int → (Nat → Int) → Prop, HH = fun l f => M.Hist d ta l (fun c => xL.contains c) fit (m - 1) f := ⟨_, rfl⟩
  have HHE := Lib.hid (show ∀ l f, HH l f ↔ M.Hist d ta l (fun c => xL.contains c) fit (m - 1) f from fun l f => by rw [hHH])
  clear hHH
  have HI0 := Lib.hid (show HsI d zA cA wA dA tA sA cl w.heap.size P m1 m2 dc tc sc zc cc wc S2 (S2 + 1) B ta xc hn hc xL lo hi c t 0 xA hA Xs w S [] Z from ⟨rfl, HCH.out, HWZ.out, HKZ.out, KDZ.out, HT5Z.out⟩)
  have HOWN := Lib.hid (show OwnFrom Z.heap.size (HsI d zA cA wA dA tA sA cl w.heap.size P m1 m2 dc tc sc zc cc wc S2 (S2 + 1) B ta xc hn hc xL lo hi c t 0 xA hA Xs w S) from by rw [HZS2]; exact HsI.own (by omega) (by omega) (by omega) (by omega) (by omega))
  have HOWX := Lib.hid (show OwnFrom Z.heap.size (fun (_ : List (Int × Nat × (Nat → Value))) => HsX d zA cA wA dA tA sA cl w.heap.size P m1 m2 dc tc sc zc cc wc S2 (S2 + 1) B ta xc hn hc xL lo hi c t 0 xA hA Xs w m HH) from by rw [HZS2]; exact HsX.own (by omega) (by omega) (by omega) (by omega) (by omega))
  clear HCH HWZ HKZ KDZ HT5Z
  obtain ⟨AX, hAX⟩ : ∃ AX : Int × Nat × (Nat → Value) → Nat → Act, AX = fun x rb => { tmps := #[.agg #[.int .i64 (d.s.W : Int), .int .i64 (d.s.H : Int), .slice dA d.s.nd dc, .slice tA d.s.nt tc, .slice sA d.s.nt sc, .slice zA d.s.nd zc, .slice cA d.nz cc, .slice wA (d.s.nt - 1) wc], .agg #[.int .i64 (ta : Int), .slice xA xL.length xc, .int .i64 lo, .int .i64 hi], .slice hA hn hc, .int .i64 c, .int .i64 t, .pointer (some ⟨w.heap.size, 0, none⟩), .pointer (some ⟨w.heap.size + 1, 0, none⟩), undef, undef, undef, .pointer (some ⟨w.heap.size + 2, 0, none⟩), .pointer (some ⟨w.heap.size + 3, 0, none⟩), .pointer (some ⟨w.heap.size + 4, 0, none⟩), .pointer (some ⟨S, 0, none⟩), .int .i64 x.1, .pointer (some ⟨rb, 0, none⟩), undef, undef, undef, .tuple #[.agg #[.pointer (some ⟨P, 0, none⟩), .int .i64 (ta : Int), .slice xA xL.length xc, .int .i64 lo, .int .i64 hi, .slice hA hn hc], .int .i64 0], .agg #[.int .i64 (d.s.W : Int), .int .i64 (d.s.H : Int), .slice dA d.s.nd dc, .slice tA d.s.nt tc, .slice sA d.s.nt sc, .slice zA d.s.nd zc, .slice cA d.nz cc, .slice wA (d.s.nt - 1) wc], .agg #[.int .i64 (ta : Int), .slice xA xL.length xc, .int .i64 lo, .int .i64 hi], .slice hA hn hc, .tuple #[.agg #[.pointer (some ⟨P, 0, none⟩), .int .i64 (ta : Int), .slice xA xL.length xc, .int .i64 lo, .int .i64 hi, .slice hA hn hc], .int .i64 0], .agg #[.pointer (some ⟨P, 0, none⟩), .int .i64 (ta : Int), .slice xA xL.length xc, .int .i64 lo, .int .i64 hi, .slice hA hn hc], .int .i64 0, .int .i64 0, .bool false, undef, .agg #[.pointer (some ⟨P, 0, none⟩), .int .i64 (ta : Int), .slice xA xL.length xc, .int .i64 lo, .int .i64 hi, .slice hA hn hc], .int .i64 c, .int .i64 t, .bool true, .bool false, .agg #[.pointer (some ⟨P, 0, none⟩), .int .i64 (ta : Int), .slice xA xL.length xc, .int .i64 lo, .int .i64 hi, .slice hA hn hc], .int .i64 c, .int .i64 t, .agg #[.int .i64 c, .int .i64 t, .int .i64 0], .func (.func 102) #[] #[.pointer (some ⟨S2, 0, none⟩), .pointer (some ⟨S2 + 1, 0, none⟩)], .int .i64 x.1, .slice (some ⟨x.2.1, 0, none⟩) m m, undef, undef, undef, undef, undef, undef, undef, undef, undef, undef, undef, undef, undef, undef, undef, undef, undef, undef, undef, undef, undef, undef, undef, undef, undef, undef, undef, undef, undef, undef, undef, undef, undef, undef, undef, undef, undef, undef, undef, undef, undef, undef, undef], defers := [] } := ⟨_, rfl⟩
  refine (wpIn_wide (n := 4)).1 ?_
  refine wpIn_rangeFunc_Y (F := Fence.wide) (n := 4) rfl (by omega) (gf := 102) (lb := #[.pointer (some ⟨S2, 0, none⟩), .pointer (some ⟨S2 + 1, 0, none⟩)]) rfl trivial (enters_of Tryz.func102 (by kernel_rfl) rfl) (HSQ.out w.heap.size P m1 m2 S2 (S2 + 1)) (fun _ => rfl)
    (HsI d zA cA wA dA tA sA cl w.heap.size P m1 m2 dc tc sc zc cc wc S2 (S2 + 1) B ta xc hn hc xL lo hi c t 0 xA hA Xs w S) (fun c' _ A => c' = .ret ∧ HsX d zA cA wA dA tA sA cl w.heap.size P m1 m2 dc tc sc zc cc wc S2 (S2 + 1) B ta xc hn hc xL lo hi c t 0 xA hA Xs w m HH A) HOWN.out (fun _ s X Y row h hg hr => ⟨h.1, HOWX.out s X Y row h.2 hg hr⟩) (fun A C h => h.1.keeps (by omega) (by omega)) (fun s A C h hab => h.ab hab hm1w hm2w) (fun _ _ A C h hab => ⟨h.1, h.2.ab hab hm1w hm2w⟩) (fun s A h => h.ch) HI0.out
    (fun W0 x a' W => ∃ rb, a' = AX x rb ∧ (lo ≤ x.1 ∧ x.1 ≤ hi) ∧ lp x.1 = true ∧ S2 + 2 ≤ W0.heap.size ∧ W0.heap.size ≤ rb ∧ HsB d zA cA wA dA tA sA cl w.heap.size P m1 m2 dc tc sc zc cc wc S2 (S2 + 1) B ta xc hn hc xL lo hi c t 0 xA hA Xs w S rb W0.heap.size x.2.1 m x.2.2 (M.rwL d ta x.1 (fun c => xL.contains c) fit (m - 1)) [] (.slice none 0 0) W)
    (fun W0 x a' s X Y row h hg hr => by
      obtain ⟨rb, h1, h2, h3, h4, h5, h6⟩ := h
      exact ⟨rb, h1, h2, h3, h4, h5, h6.notes (Zs := Z.heap.size) hg hr (by omega) (by omega) (by omega) (by omega) (by omega)⟩) ?has ?hbody ?hdone ?hstop
  case has =>
    intro l pre x W0 V K hi0 hab hyd hI2 hK
    have hW0 : S2 + 2 ≤ W0.heap.size := by have := hi0.ch.kf.lt; omega
    have hgA := World.grownBy_alloc V (.cells #[.slice (some ⟨x.2.1, 0, none⟩) m m] 62) none
    have hbA := belowAlloc V (.cells #[.slice (some ⟨x.2.1, 0, none⟩) m m] 62)
    have hna : ∀ r, (none : Option Nat) = some r → False := fun r e => by cases e
    have HK := Lib.hid (hK (AX x V.heap.size) (V.alloc (.cells #[.slice (some ⟨x.2.1, 0, none⟩) m m] 62)) (KeepsFrom.of_grownBy hgA fun _ e => by cases e) ⟨hI2.s, hI2.ch.below hbA, hI2.bw.trans (hbA.mono hI2.bw.size), hI2.k.grown hgA fun r e => (hna r e).elim, hI2.kd.alloc _, fun k hk => hI2.ts5 k ((SeaT.grown hI2.ch.sm hgA fun r e => (hna r e).elim).2 k hk)⟩
      ⟨V.heap.size, rfl, hyd.l, by rw [HLE2.out]; exact hyd.p, hW0, hab.1.size, ⟨hI2.ch.below hbA, hI2.bw.trans (hbA.mono hI2.bw.size), hI2.k.grown hgA (fun r e => (hna r e).elim), hI2.kd.alloc _, Blk.new _ _ _, Own.nil_, fun g e => by simp [Value.ownBlock] at e, Own.alloc hyd.o _, fun k hk => by rw [HFT.out]; exact Own.alloc (hyd.r k hk) _, fun k hk => hI2.ts5 k ((SeaT.grown hI2.ch.sm hgA fun r e => (hna r e).elim).2 k hk), ⟨(Own.block hyd.o rfl).2, by omega, hI2.kd.lt⟩, fun k hk g e => (Own.block (hyd.r k hk) e).2⟩⟩)
    clear hK
    rw [hAX] at HK
    gi_wp2_with fail
    have h := HK.out
    refine Eq.mp (congrArg (fun a => K a _) ?_) h
    simp
  case hbody =>
    intro l pre x a' W0 V hl hlp' hi0 hI2 ha hlen
    obtain ⟨rb, rfl, hxl, hxp, hW0, hrb, hbI⟩ := ha
    clear hI2 hi0
    rw [hAX]
    obtain ⟨RW0, hRW⟩ : ∃ f, f = (M.rwL d ta x.1 (fun c => xL.contains c) fit (m - 1)) := ⟨_, rfl⟩
    have hpos : 0 < (RW0 0).length := by
      rw [hRW]
      rcases Nat.eq_zero_or_pos ((M.rwL d ta x.1 (fun c => xL.contains c) fit (m - 1)) 0).length with h0 | h0
      · have h1 := M.posB_len.1 h0
        rw [← HLP.out, hxp] at h1; cases h1
      · exact h0
    have hRl : ∀ k, (RW0 k).length ≤ 145 := fun k => by rw [hRW]; have := M.listB_len d.s.nd (M.rowB d ta x.1 (fun c => xL.contains c) fit (m - 1) k); unfold M.rwL; omega
    rw [← hRW] at hbI
    have HRW := Lib.hid hRW
    clear hRW
    obtain ⟨g0, c0, hV0⟩ := Own.nz (hbI.rl 0 (by omega)) hpos
    obtain ⟨gr, hgr⟩ : ∃ g, g = x.2.1 := ⟨_, rfl⟩
    obtain ⟨y0, hy0⟩ : ∃ y, y = (RW0 0).getD 0 0 := ⟨_, rfl⟩
    obtain ⟨n0, hn0⟩ : ∃ y, y = (RW0 0).length := ⟨_, rfl⟩
    dsimp only
    rw [← hgr] at hbI ⊢
    have e1 : V.cell? ⟨gr, 0, none⟩ = some (.slice (some ⟨g0, 0, none⟩) n0 c0) := by rw [hn0, ← hV0]; exact Own.cell1 hbI.ro (by omega)
    have e2 : V.cell? ⟨g0, 0, none⟩ = some (.int .i64 y0) := by
      have h1 := hbI.rl 0 (by omega)
      rw [hV0] at h1
      rw [hy0]; exact Own.cell1 h1 hpos
    have hgl : gr < V.heap.size ∧ g0 < V.heap.size := ⟨(Own.block hbI.ro rfl).2, (Own.block (hbI.rl 0 (by omega)) (by rw [hV0]; rfl)).2⟩
    have HBI := Lib.hid hbI
    have HE1 := Lib.hid e1
    have HE2 := Lib.hid e2
    have HV0 := Lib.hid hV0
    have HY0 := Lib.hid hy0
    have HN0 := Lib.hid hn0
    have HGR := Lib.hid hgr
    have hn0p : 0 < n0 := by omega
    have hm0 : 0 < m := by omega
    have km : decide (m ≤ 0) = false := decide_eq_false (by omega)
    have kn : decide (n0 ≤ 0) = false := decide_eq_false (by omega)
    have hNV : w.heap.size + 5 ≤ V.heap.size := by have := hbI.kr.lt; omega
    clear hbI e1 e2 hV0 hy0 hn0 hgr
    gi_wp2_with fail
    refine wpIn_region_TI 8 (fun Z => Z.cell? ⟨w.heap.size + 3, 0, none⟩ = some (.slice none 0 0) ∧ Z.cell? ⟨rb, 0, none⟩ = some (.slice (some ⟨gr, 0, none⟩) m m) ∧ Z.cell? ⟨gr, 0, none⟩ = some (.slice (some ⟨g0, 0, none⟩) n0 c0) ∧ Z.cell? ⟨g0, 0, none⟩ = some (.int .i64 y0)) (by kernel_rfl) ⟨HBI.out.k.k11.cell 0, HBI.out.kr.cell 0, HE1.out, HE2.out⟩ ?_
    intro hS
    refine wpAnyTI_takeP (i := 0) (v := ?_) (PlainOps.of_nd (by kernel_rfl)) rfl (by kernel_rfl) (by kernel_rfl) (by kernel_rfl) (by kernel_rfl) (by kernel_rfl) (fun _ _ _ h => h) (.inl ⟨by kernel_rfl, ?_⟩) (fun _ => rfl) hS ?_
    rotate_left
    · (intro w' hw; obtain ⟨h1, h2, h3, h4⟩ := hw; go_simp; try with_reducible rfl)
    try simp only [put_laws]
    refine wpAnyTI_takeP (i := 1) (v := ?_) (PlainOps.of_nd (by kernel_rfl)) rfl (by kernel_rfl) (by kernel_rfl) (by kernel_rfl) (by kernel_rfl) (by kernel_rfl) (fun _ _ _ h => h) (.inl ⟨by kernel_rfl, ?_⟩) (fun _ => rfl) hS ?_
    rotate_left
    · (intro w' hw; obtain ⟨h1, h2, h3, h4⟩ := hw; go_simp; try with_reducible rfl)
    try simp only [put_laws]
    refine wpAnyTI_takeP (i := 2) (v := ?_) (PlainOps.of_nd (by kernel_rfl)) rfl (by kernel_rfl) (by kernel_rfl) (by kernel_rfl) (by kernel_rfl) (by kernel_rfl) (fun _ _ _ h => h) (.inl ⟨by kernel_rfl, ?_⟩) (fun _ => rfl) hS ?_
    rotate_left
    · (intro w' hw; obtain ⟨h1, h2, h3, h4⟩ := hw; go_simp; try with_reducible rfl)
    try simp only [put_laws]
    refine wpAnyTI_takeP (i := 3) (v := ?_) (PlainOps.of_nd (by kernel_rfl)) rfl (by kernel_rfl) (by kernel_rfl) (by kernel_rfl) (by kernel_rfl) (by kernel_rfl) (fun _ _ _ h => h) (.inl ⟨by kernel_rfl, ?_⟩) (fun _ => rfl) hS ?_
    rotate_left
    · (intro w' hw; obtain ⟨h1, h2, h3, h4⟩ := hw; go_simp; try with_reducible rfl)
    try simp only [put_laws]
    refine wpAnyTI_takeP (i := 4) (v := ?_) (PlainOps.of_nd (by kernel_rfl)) rfl (by kernel_rfl) (by kernel_rfl) (by kernel_rfl) (by kernel_rfl) (by kernel_rfl) (fun _ _ _ h => h) (.inl ⟨by kernel_rfl, ?_⟩) (fun _ => rfl) hS ?_
    rotate_left
    · (intro w' hw; obtain ⟨h1, h2, h3, h4⟩ := hw; go_simp; try with_reducible rfl)
    try simp only [put_laws]
    refine wpAnyTI_takeP (i := 5) (v := ?_) (PlainOps.of_nd (by kernel_rfl)) rfl (by kernel_rfl) (by kernel_rfl) (by kernel_rfl) (by kernel_rfl) (by kernel_rfl) (fun _ _ _ h => h) (.inl ⟨by kernel_rfl, ?_⟩) (fun _ => rfl) hS ?_
    rotate_left
    · (intro w' hw; obtain ⟨h1, h2, h3, h4⟩ := hw; go_simp; try with_reducible rfl)
    try simp only [put_laws]
    refine wpAnyTI_one (i := 6) (by kernel_rfl) rfl ?_
    intro K' hK'
    go_simp
    have hS1 : _ ∧ _ ∧ _ ∧ _ := ⟨((belowAlloc V.drew (.cells #[.int .i64 y0] 3)).cell (p := ⟨w.heap.size + 3, 0, none⟩) (by show w.heap.size + 3 < V.heap.size; omega)).trans hS.1, ((belowAlloc V.drew (.cells #[.int .i64 y0] 3)).cell (p := ⟨rb, 0, none⟩) (show rb < V.heap.size from HBI.out.kr.lt)).trans hS.2.1, ((belowAlloc V.drew (.cells #[.int .i64 y0] 3)).cell (p := ⟨gr, 0, none⟩) (show gr < V.heap.size from hgl.1)).trans hS.2.2.1, ((belowAlloc V.drew (.cells #[.int .i64 y0] 3)).cell (p := ⟨g0, 0, none⟩) (show g0 < V.heap.size from hgl.2)).trans hS.2.2.2⟩
    refine hK'.out _ _ (.inr hS1) ?_
    clear hK' K'
    try simp only [put_laws]
    have hb1 : Below V.heap.size V (V.drew.alloc (.cells #[.int .i64 y0] 3)) := ((Below.refl V.heap.size V).drew).alloc (by simp) _
    have HB1 := Lib.hid (HBI.out.below hb1)
    obtain ⟨g1, c1, Z2, hrun, hil2, hg2, hat2⟩ := run_oneI (V.drew.alloc (.cells #[.int .i64 y0] 3)) 22 (B := rb + 1) (v := .slice none 0 0) (L := []) (y := y0) Own.nil_ (by simp) (by have := HBI.out.kr.lt; simp; omega) (g := V.heap.size) (c := 1) ((Blk.new V.drew 3 #[.int .i64 y0]).cell 0) (by simp)
    rw [show ([] : List Int).length + 1 = 1 from rfl] at hrun hil2
    have HIL2 := Lib.hid (show IL Z2 (rb + 1) (.slice (some ⟨g1, 0, none⟩) 1 c1) [y0] from hil2)
    have HG2 := Lib.hid hg2
    have HAT2 := Lib.hid hat2
    have hk2 := (HB1.out.k.grown hg2 fun r e => by simp [Value.ownBlock] at e)
    have HK2 := Lib.hid hk2
    have n11 := hk2.k11.cell 0
    have f11 := hk2.k11.frz 0
    have hS2 : Z2.cell? ⟨w.heap.size + 3, 0, none⟩ = some (.slice none 0 0) ∧ Z2.cell? ⟨rb, 0, none⟩ = some (.slice (some ⟨gr, 0, none⟩) m m) ∧ Z2.cell? ⟨gr, 0, none⟩ = some (.slice (some ⟨g0, 0, none⟩) n0 c0) ∧ Z2.cell? ⟨g0, 0, none⟩ = some (.int .i64 y0) := by
      have hb2 : Below V.heap.size V Z2 := hb1.grown hg2 (by simp) fun r e => by simp [Value.ownBlock] at e
      exact ⟨n11, (hb2.cell (p := ⟨rb, 0, none⟩) (show rb < V.heap.size from HBI.out.kr.lt)).trans (HBI.out.kr.cell 0), (hb2.cell (p := ⟨gr, 0, none⟩) hgl.1).trans HE1.out, (hb2.cell (p := ⟨g0, 0, none⟩) hgl.2).trans HE2.out⟩
    clear hil2 hg2 hat2 hk2 hS hb1
    refine wpAnyTI_one (i := 7) (by kernel_rfl) rfl ?_
    intro K' hK'
    simp only [put_laws, List.getElem_toArray, List.getElem_cons_succ, List.getElem_cons_zero]
    refine step_appI (v := .slice none 0 0) (v2 := .slice (some ⟨V.heap.size, 0, none⟩) 1 1) (v' := (.slice (some ⟨g1, 0, none⟩) 1 c1)) (w' := Z2) ?_ (.tmp 41) (.tmp 47) 22 ?_ ?_ ?_ ?_ ?_
    · rfl
    · rfl
    · rfl
    · rfl
    · exact hrun
    refine hK'.out _ _ (.inr hS2) ?_
    clear hK' K'
    try simp only [put_laws]
    clear hrun hS2
    refine wpAnyTI_one (i := 8) (by kernel_rfl) rfl ?_
    intro K' hK'
    go_simp
    refine hK'.out _ _ (.inl rfl) ?_
    clear hK' K'
    try simp only [put_laws]
    refine wpAnyTI_done (by kernel_rfl) ?_ _
    have hlt9 : S2 < rb := by omega
    have HB2' := Lib.hid (HB1.out.app (v' := (.slice (some ⟨g1, 0, none⟩) 1 c1)) (L' := [y0]) HG2.out HIL2.out (HAT2.out.imp id fun e => ⟨g1, rfl, Nat.le_of_eq e.symm⟩) (by omega) (by omega) (by omega) (by omega) (by omega) (by omega) (by omega) (by omega))
    have HKP1 := Lib.hid (show KeepsFrom Z.heap.size V (Z2.setCell ⟨w.heap.size + 3, 0, none⟩ (.slice (some ⟨g1, 0, none⟩) 1 c1)) from ((KeepsFrom.of_grownBy (below_grown (((Below.refl V.heap.size V).drew).alloc (by simp) (.cells #[.int .i64 y0] 3)) none) fun _ e => by cases e).trans (Own.keeps (v := .slice none 0 0) HB1.out.il HG2.out _)).trans (Blk.keepsSet HK2.out.k11 0 _ _))
    clear HB1 HK2 HIL2 HG2 HAT2 n11 f11
    generalize Z2.setCell ⟨w.heap.size + 3, 0, none⟩ (.slice (some ⟨g1, 0, none⟩) 1 c1) = Y1 at HB2' HKP1 ⊢
    gi_wp2_with fail
    have HLS := Lib.hid (show HsB d zA cA wA dA tA sA cl w.heap.size P m1 m2 dc tc sc zc cc wc S2 (S2 + 1) B ta xc hn hc xL lo hi c t 0 xA hA Xs w S rb W0.heap.size gr m x.2.2 RW0 [y0] (.slice (some ⟨g1, 0, none⟩) 1 c1) (Y1.alloc (.cells #[.int .i64 1] 3)) ∧ Blk (Y1.alloc (.cells #[.int .i64 1] 3)) Y1.heap.size 3 #[.int .i64 ((1 : Nat) : Int)] ∧ rb < Y1.heap.size ∧ g1 ≠ Y1.heap.size ∧ ¬ TS P m1 m2 (Y1.alloc (.cells #[.int .i64 1] 3)) Y1.heap.size ∧ KeepsFrom Z.heap.size V (Y1.alloc (.cells #[.int .i64 1] 3)) from ⟨HB2'.out.below (belowAlloc Y1 _), Blk.new Y1 3 #[.int .i64 1], HB2'.out.kr.lt, fun e => by have := (Own.block (g := g1) HB2'.out.il rfl).2; omega, fun h => by have := (HB2'.out.ch.sm.t.2.2.2 _ ((SeaT.grown HB2'.out.ch.sm (World.grownBy_alloc Y1 _ none) fun _ e => by cases e).2 _ h)).2; omega, HKP1.out.trans (KeepsFrom.of_grownBy (World.grownBy_alloc Y1 _ none) fun _ e => by cases e)⟩)
    have HL0 := Lib.hid (show ∀ i, i < 1 → ([y0] : List Int).getD i 0 ∈ RW0 i from fun i hi => by
      obtain rfl : i = 0 := by omega
      show y0 ∈ RW0 0
      rw [HY0.out, List.getD_eq_getElem?_getD, List.getElem?_eq_getElem hpos, Option.getD_some]
      exact List.getElem_mem hpos)
    clear HB2' HKP1
    gi_loopw [16] (fun v16 wr => ∃ (k ib g c' : Nat) (L : List Int), v16 = .pointer (some ⟨ib, 0, none⟩) ∧ 1 ≤ k ∧ k ≤ m ∧ L.length = k ∧ Hid (HsB d zA cA wA dA tA sA cl w.heap.size P m1 m2 dc tc sc zc cc wc S2 (S2 + 1) B ta xc hn hc xL lo hi c t 0 xA hA Xs w S rb W0.heap.size gr m x.2.2 RW0 L (.slice (some ⟨g, 0, none⟩) k c') wr ∧ Blk wr ib 3 #[.int .i64 (k : Int)] ∧ rb < ib ∧ g ≠ ib ∧ ¬ TS P m1 m2 wr ib ∧ KeepsFrom Z.heap.size V wr) ∧ Hid (∀ i, i < k → L.getD i 0 ∈ RW0 i) ∧ Hid (∀ i, i + 1 < k → L.getD (i + 1) 0 ∈ M.stepL d (ta + i) x.1 (L.getD i 0))) (fun v16 wr => m + 1 - meDn v16 wr)
    case atStart => exact ⟨1, _, g1, c1, [y0], rfl, Nat.le_refl _, hm2, rfl, HLS, HL0, Lib.hid fun i hi => absurd hi (by omega)⟩
    case round =>
      obtain ⟨k, ib, g, c', L, rfl, hk1, hkm, hLk, HS, HLA, HLB⟩ := hrel
      clear HLS HL0
      have HME := Lib.hid (meDn_at HS.out.2.1)
      have xi := HS.out.2.1.cell 0
      have xr := HS.out.1.kr.cell 0
      by_cases hlt : k < m
      · have kx : decide (m ≤ k) = false := decide_eq_false (by omega)
        obtain ⟨j, rfl⟩ : ∃ j, k = j + 1 := ⟨k - 1, by omega⟩
        obtain ⟨y, hy⟩ : ∃ y, y = L.getD j 0 := ⟨_, rfl⟩
        have hyR : y ∈ RW0 j := by rw [hy]; exact HLA.out j (by omega)
        have hyb : -1 ≤ y ∧ y < d.s.nd := by
          rw [HRW.out] at hyR
          exact (M.row_fit (by omega) hyR).1
        have c0 : wr.cell? ⟨g, j, none⟩ = some (.int .i64 y) := by
          have h1 := Own.cell1 (i := j) (show Own wr (rb + 1) 3 1 (.slice (some ⟨g, 0, none⟩) L.length c') L.length (ints fun q => L.getD q 0) from by rw [hLk]; have h2 := HS.out.1.il; unfold IL at h2; rw [hLk] at h2; exact h2) (by omega)
          rw [hy]; exact h1
        obtain ⟨ln, hln⟩ : ∃ ln : Nat, x.1 = (ln : Int) := ⟨x.1.toNat, by omega⟩
        have hdr : Below wr.heap.size wr wr.drew := (Below.refl _ _).drew
        have HSD := Lib.hid (HS.out.1.below hdr)
        have HTD := Lib.hid (show ∀ q, TS P m1 m2 wr.drew q → TS P m1 m2 wr q from (SeaT.grown HS.out.1.ch.sm (below_grown hdr none) fun _ e => by cases e).2)
        have hst := dstep_any HD.out HSD.out.ch.sm y (ta + j) ln hyb (by omega) (by omega)
        rw [← hln] at hst
        have HST := Lib.hid (show Calls Tryz.prog 48 #[.pointer (some ⟨P, 0, none⟩), .agg #[.int .i64 y, .int .i64 ((ta : Int) + ((j : Int) + 1) - 1), .int .i64 x.1]] wr.drew (StepR d zA cA wA dA tA sA cl w.heap.size P m1 m2 dc tc sc zc cc wc (TS P m1 m2 wr.drew) wr.drew (ta + j) x.1 y) from by
          have h9 := hst
          rw [show ((ta + j : Nat) : Int) = (ta : Int) + ((j : Int) + 1) - 1 by omega] at h9
          exact h9)
        have HY := Lib.hid hy
        have HLN := Lib.hid hln
        have HYR := Lib.hid hyR
        have kd0 := HS.out.1.kd.cell 0
        have kd1 := HS.out.1.kd.cell 1
        have k11 := HS.out.1.k.k11.cell 0
        have wj : IntKind.i64.wrap (j : Int) = (j : Int) := by rw [IntKind.wrap_i64]; omega
        have lj : (j : Int) < (j : Int) + 1 := by omega
        have wj2 : IntKind.i64.wrap ((ta : Int) + ((j : Int) + 1) - 1) = (ta : Int) + ((j : Int) + 1) - 1 := by rw [IntKind.wrap_i64]; omega
        have wj3 : IntKind.i64.wrap ((ta : Int) + ((j : Int) + 1)) = (ta : Int) + ((j : Int) + 1) := by rw [IntKind.wrap_i64]; omega
        clear hy hln hst hyR
        gi_wp2_with fail
        refine wpIn_region_TI 15 (fun Z => Z = wr.drew) (by kernel_rfl) rfl ?_
        intro hS
        refine wpAnyTI_takeP (i := 0) (v := ?_) (PlainOps.of_nd (by kernel_rfl)) rfl (by kernel_rfl) (by kernel_rfl) (by kernel_rfl) (by kernel_rfl) (by kernel_rfl) (fun _ _ _ h => h) (.inl ⟨by kernel_rfl, ?_⟩) (fun _ => rfl) hS ?_
        rotate_left
        · (intro w' hw; subst hw; go_simp; try with_reducible rfl)
        try simp only [put_laws]
        refine wpAnyTI_takeP (i := 1) (v := ?_) (PlainOps.of_nd (by kernel_rfl)) rfl (by kernel_rfl) (by kernel_rfl) (by kernel_rfl) (by kernel_rfl) (by kernel_rfl) (fun _ _ _ h => h) (.inl ⟨by kernel_rfl, ?_⟩) (fun _ => rfl) hS ?_
        rotate_left
        · (intro w' hw; subst hw; go_simp; try with_reducible rfl)
        try simp only [put_laws]
        refine wpAnyTI_takeP (i := 2) (v := ?_) (PlainOps.of_nd (by kernel_rfl)) rfl (by kernel_rfl) (by kernel_rfl) (by kernel_rfl) (by kernel_rfl) (by kernel_rfl) (fun _ _ _ h => h) (.inl ⟨by kernel_rfl, ?_⟩) (fun _ => rfl) hS ?_
        rotate_left
        · (intro w' hw; subst hw; go_simp; try with_reducible rfl)
        try simp only [put_laws]
        refine wpAnyTI_takeP (i := 3) (v := ?_) (PlainOps.of_nd (by kernel_rfl)) rfl (by kernel_rfl) (by kernel_rfl) (by kernel_rfl) (by kernel_rfl) (by kernel_rfl) (fun _ _ _ h => h) (.inl ⟨by kernel_rfl, ?_⟩) (fun _ => rfl) hS ?_
        rotate_left
        · (intro w' hw; subst hw; go_simp; try with_reducible rfl)
        try simp only [put_laws]
        refine wpAnyTI_takeP (i := 4) (v := ?_) (PlainOps.of_nd (by kernel_rfl)) rfl (by kernel_rfl) (by kernel_rfl) (by kernel_rfl) (by kernel_rfl) (by kernel_rfl) (fun _ _ _ h => h) (.inl ⟨by kernel_rfl, ?_⟩) (fun _ => rfl) hS ?_
        rotate_left
        · (intro w' hw; subst hw; go_simp; try with_reducible rfl)
        try simp only [put_laws]
        refine wpAnyTI_takeP (i := 5) (v := ?_) (PlainOps.of_nd (by kernel_rfl)) rfl (by kernel_rfl) (by kernel_rfl) (by kernel_rfl) (by kernel_rfl) (by kernel_rfl) (fun _ _ _ h => h) (.inl ⟨by kernel_rfl, ?_⟩) (fun _ => rfl) hS ?_
        rotate_left
        · (intro w' hw; subst hw; go_simp; try with_reducible rfl)
        try simp only [put_laws]
        refine wpAnyTI_takeP (i := 6) (v := ?_) (PlainOps.of_nd (by kernel_rfl)) rfl (by kernel_rfl) (by kernel_rfl) (by kernel_rfl) (by kernel_rfl) (by kernel_rfl) (fun _ _ _ h => h) (.inl ⟨by kernel_rfl, ?_⟩) (fun _ => rfl) hS ?_
        rotate_left
        · (intro w' hw; subst hw; go_simp; try with_reducible rfl)
        try simp only [put_laws]
        refine wpAnyTI_takeP (i := 7) (v := ?_) (PlainOps.of_nd (by kernel_rfl)) rfl (by kernel_rfl) (by kernel_rfl) (by kernel_rfl) (by kernel_rfl) (by kernel_rfl) (fun _ _ _ h => h) (.inl ⟨by kernel_rfl, ?_⟩) (fun _ => rfl) hS ?_
        rotate_left
        · (intro w' hw; subst hw; go_simp; try with_reducible rfl)
        try simp only [put_laws]
        refine wpAnyTI_takeP (i := 8) (v := ?_) (PlainOps.of_nd (by kernel_rfl)) rfl (by kernel_rfl) (by kernel_rfl) (by kernel_rfl) (by kernel_rfl) (by kernel_rfl) (fun _ _ _ h => h) (.inl ⟨by kernel_rfl, ?_⟩) (fun _ => rfl) hS ?_
        rotate_left
        · (intro w' hw; subst hw; go_simp; try with_reducible rfl)
        try simp only [put_laws]
        refine wpAnyTI_takeP (i := 9) (v := ?_) (PlainOps.of_nd (by kernel_rfl)) rfl (by kernel_rfl) (by kernel_rfl) (by kernel_rfl) (by kernel_rfl) (by kernel_rfl) (fun _ _ _ h => h) (.inl ⟨by kernel_rfl, ?_⟩) (fun _ => rfl) hS ?_
        rotate_left
        · (intro w' hw; subst hw; go_simp; try with_reducible rfl)
        try simp only [put_laws]
        refine wpAnyTI_takeP (i := 10) (v := ?_) (PlainOps.of_nd (by kernel_rfl)) rfl (by kernel_rfl) (by kernel_rfl) (by kernel_rfl) (by kernel_rfl) (by kernel_rfl) (fun _ _ _ h => h) (.inl ⟨by kernel_rfl, ?_⟩) (fun _ => rfl) hS ?_
        rotate_left
        · (intro w' hw; subst hw; go_simp; try with_reducible rfl)
        try simp only [put_laws]
        refine wpAnyTI_takeP (i := 11) (v := ?_) (PlainOps.of_nd (by kernel_rfl)) rfl (by kernel_rfl) (by kernel_rfl) (by kernel_rfl) (by kernel_rfl) (by kernel_rfl) (fun _ _ _ h => h) (.inl ⟨by kernel_rfl, ?_⟩) (fun _ => rfl) hS ?_
        rotate_left
        · (intro w' hw; subst hw; go_simp; try with_reducible rfl)
        try simp only [put_laws]
        refine wpAnyTI_takeP (i := 12) (v := ?_) (PlainOps.of_nd (by kernel_rfl)) rfl (by kernel_rfl) (by kernel_rfl) (by kernel_rfl) (by kernel_rfl) (by kernel_rfl) (fun _ _ _ h => h) (.inl ⟨by kernel_rfl, ?_⟩) (fun _ => rfl) hS ?_
        rotate_left
        · (intro w' hw; subst hw; go_simp; try with_reducible rfl)
        try simp only [put_laws]
        refine wpAnyTI_takeP (i := 13) (v := ?_) (PlainOps.of_nd (by kernel_rfl)) rfl (by kernel_rfl) (by kernel_rfl) (by kernel_rfl) (by kernel_rfl) (by kernel_rfl) (fun _ _ _ h => h) (.inl ⟨by kernel_rfl, ?_⟩) (fun _ => rfl) hS ?_
        rotate_left
        · (intro w' hw; subst hw; go_simp; try with_reducible rfl)
        try simp only [put_laws]
        refine wpAnyTI_takeP (i := 14) (v := ?_) (PlainOps.of_nd (by kernel_rfl)) rfl (by kernel_rfl) (by kernel_rfl) (by kernel_rfl) (by kernel_rfl) (by kernel_rfl) (fun _ _ _ h => h) (.inl ⟨by kernel_rfl, ?_⟩) (fun _ => rfl) hS ?_
        rotate_left
        · (intro w' hw; subst hw; go_simp; try with_reducible rfl)
        try simp only [put_laws]
        clear hS
        refine wpAnyTI_one (i := 15) (by kernel_rfl) rfl ?_
        intro K' hK'
        go_simp
        refine ⟨trivial, (CallsIn.inRound _ (callsIn_wide.2 HST.out)).mono ?_⟩
        rintro e w5 ⟨T', gS, cS, hT1, hT2, hT3, rfl, hs5, hil5, hmv5⟩
        have HAB := Lib.hid (show AbT d zA cA wA dA tA sA cl w.heap.size P m1 m2 dc tc sc zc cc wc wr.drew w5 from AbT.of_sea hmv5 hs5 hT2)
        have HI5 := Lib.hid hil5
        have HT5 := Lib.hid (show gS < w5.heap.size from (Own.block hil5 rfl).2)
        have HNE := Lib.hid (show g ≠ gS from fun e => by
            subst e
            rcases hT2 _ hT3 with h | h
            · exact HSD.out.nt g rfl h
            · have := (Own.block (g := g) HSD.out.il rfl).2; omega)
        clear hT1 hT2 hT3 hs5 hil5 hmv5
        refine hK'.out _ _ (.inl rfl) ?_
        clear hK' K'
        try simp only [put_laws]
        refine wpAnyTI_one (i := 16) (by kernel_rfl) rfl ?_
        intro K' hK'
        go_simp
        refine hK'.out _ _ (.inl rfl) ?_
        clear hK' K'
        try simp only [put_laws]
        refine wpAnyTI_done (by kernel_rfl) ?_ _
        have HS5 := Lib.hid (show HsB d zA cA wA dA tA sA cl w.heap.size P m1 m2 dc tc sc zc cc wc S2 (S2 + 1) B ta xc hn hc xL lo hi c t 0 xA hA Xs w S rb W0.heap.size gr m x.2.2 RW0 L (.slice (some ⟨g, 0, none⟩) (j + 1) c') w5 ∧ Blk w5 ib 3 #[.int .i64 ((j + 1 : Nat) : Int)] ∧ rb < ib ∧ g ≠ ib ∧ ¬ TS P m1 m2 w5 ib ∧ KeepsFrom Z.heap.size V w5 from ⟨HSD.out.ab HAB.out hm1w hm2w, Blk.mv (HS.out.2.1.below' hdr) HAB.out.1 HSD.out.ch.sm.map1 HSD.out.ch.sm.map2, HS.out.2.2.1, HS.out.2.2.2.1, fun h => by
            rcases (HAB.out.2 HSD.out.ch.sm).2 _ h with h | h
            · exact HS.out.2.2.2.2.1 (HTD.out _ h)
            · have h7 : ib < wr.heap.size := HS.out.2.1.lt
              have h8 : wr.heap.size ≤ ib := h
              omega, HS.out.2.2.2.2.2.trans ((KeepsFrom.of_grownBy (below_grown hdr none) fun _ e => by cases e).trans (HAB.out.1.keeps (by omega) (by omega)))⟩)
        clear HAB HST xi xr c0 kd0 kd1 k11
        obtain ⟨SL, hSL⟩ : ∃ SL, SL = M.stepL d (ta + j) x.1 y := ⟨_, rfl⟩
        rw [← hSL] at HI5 ⊢
        have HSL := Lib.hid hSL
        have hsl : SL.length ≤ 145 := by rw [hSL]; have := M.listB_len d.s.nd (M.stepB d (ta + j) x.1 y); unfold M.stepL; omega
        have hany : SL.any (fun q => (RW0 (j + 1)).contains q) = true := by
          have h1 := HYR.out
          rw [HRW.out] at h1
          rw [hSL, HRW.out]
          exact M.row_next HD.out (by omega) h1
        have hrl := HS5.out.1.rl (j + 1) hlt
        obtain ⟨rA, rc, hrv⟩ := Own.form hrl
        have HIN := Lib.hid (fun z => inH_any rb ib gr m rc (j + 1) rA x.2.2 (RW0 (j + 1)) z w5 HS5.out.1.kr HS5.out.2.1 hlt hm60 (Own.cell1 HS5.out.1.ro hlt) hrv (by rw [hrv] at hrl; exact IL.rd hrl) (by have := hRl (j + 1); omega))
        have HIX := Lib.hid (idxH (some ⟨gS, 0, none⟩) SL.length cS w5.heap.size (fun q => SL.getD q 0) #[.pointer (some ⟨rb, 0, none⟩), .pointer (some ⟨ib, 0, none⟩)] (fun q => (RW0 (j + 1)).contains q) w5 (by unfold maxLen; omega) (IL.rd HI5.out) (by rw [M.anyTo_any (L := SL) (p := fun q => (RW0 (j + 1)).contains q)]; exact hany) (fun z => by have h1 := HIN.out z; simpa using h1))
        clear hSL hany hrl hrv HIN
        gi_wp2_with fail
        refine ⟨trivial, (CallsIn.inRound _ (callsIn_wide.2 HIX.out)).mono ?_⟩
        rintro e w6 ⟨r, hr1, hr2, rfl, hw6⟩
        have hw7 := hw6.symm
        subst hw7
        clear hw6 HIX
        obtain ⟨y2, hy2⟩ : ∃ y2, y2 = SL.getD r 0 := ⟨_, rfl⟩
        rw [← hy2] at hr2
        have HR2 := Lib.hid (List.contains_iff_mem.1 hr2)
        have HM2 := Lib.hid (show y2 ∈ SL from by rw [hy2, List.getD_eq_getElem?_getD, List.getElem?_eq_getElem hr1, Option.getD_some]; exact List.getElem_mem hr1)
        have HCS := Lib.hid (show w5.cell? ⟨gS, r, none⟩ = some (.int .i64 y2) from by rw [hy2]; exact Own.cell1 HI5.out hr1)
        clear hr2 hy2
        have kr9 : decide (SL.length ≤ r) = false := decide_eq_false (by omega)
        have hk5 := HS5.out.1.k.k11.cell 0
        have hgl5 : gS < w5.heap.size := HT5.out
        have hN5 : w.heap.size + 5 ≤ w5.heap.size := by have := HS5.out.1.kr.lt; omega
        gi_wp2_with fail
        refine wpIn_region_TI 7 (fun Z => Z.cell? ⟨w.heap.size + 3, 0, none⟩ = some (.slice (some ⟨g, 0, none⟩) (j + 1) c') ∧ Z.cell? ⟨gS, r, none⟩ = some (.int .i64 y2)) (by kernel_rfl) ⟨hk5, HCS.out⟩ ?_
        clear hk5
        intro hS
        refine wpAnyTI_takeP (i := 0) (v := ?_) (PlainOps.of_nd (by kernel_rfl)) rfl (by kernel_rfl) (by kernel_rfl) (by kernel_rfl) (by kernel_rfl) (by kernel_rfl) (fun _ _ _ h => h) (.inl ⟨by kernel_rfl, ?_⟩) (fun _ => rfl) hS ?_
        rotate_left
        · (intro w' hw; obtain ⟨h1, h2⟩ := hw; go_simp; try with_reducible rfl)
        try simp only [put_laws]
        refine wpAnyTI_takeP (i := 1) (v := ?_) (PlainOps.of_nd (by kernel_rfl)) rfl (by kernel_rfl) (by kernel_rfl) (by kernel_rfl) (by kernel_rfl) (by kernel_rfl) (fun _ _ _ h => h) (.inl ⟨by kernel_rfl, ?_⟩) (fun _ => rfl) hS ?_
        rotate_left
        · (intro w' hw; obtain ⟨h1, h2⟩ := hw; go_simp; try with_reducible rfl)
        try simp only [put_laws]
        refine wpAnyTI_takeP (i := 2) (v := ?_) (PlainOps.of_nd (by kernel_rfl)) rfl (by kernel_rfl) (by kernel_rfl) (by kernel_rfl) (by kernel_rfl) (by kernel_rfl) (fun _ _ _ h => h) (.inl ⟨by kernel_rfl, ?_⟩) (fun _ => rfl) hS ?_
        rotate_left
        · (intro w' hw; obtain ⟨h1, h2⟩ := hw; go_simp; try with_reducible rfl)
        try simp only [put_laws]
        refine wpAnyTI_takeP (i := 3) (v := ?_) (PlainOps.of_nd (by kernel_rfl)) rfl (by kernel_rfl) (by kernel_rfl) (by kernel_rfl) (by kernel_rfl) (by kernel_rfl) (fun _ _ _ h => h) (.inl ⟨by kernel_rfl, ?_⟩) (fun _ => rfl) hS ?_
        rotate_left
        · (intro w' hw; obtain ⟨h1, h2⟩ := hw; go_simp; try with_reducible rfl)
        try simp only [put_laws]
        refine wpAnyTI_takeP (i := 4) (v := ?_) (PlainOps.of_nd (by kernel_rfl)) rfl (by kernel_rfl) (by kernel_rfl) (by kernel_rfl) (by kernel_rfl) (by kernel_rfl) (fun _ _ _ h => h) (.inl ⟨by kernel_rfl, ?_⟩) (fun _ => rfl) hS ?_
        rotate_left
        · (intro w' hw; obtain ⟨h1, h2⟩ := hw; go_simp; try with_reducible rfl)
        try simp only [put_laws]
        refine wpAnyTI_one (i := 5) (by kernel_rfl) rfl ?_
        intro K' hK'
        go_simp
        have hS1 : _ ∧ _ := ⟨((belowAlloc w5.drew (.cells #[.int .i64 y2] 3)).cell (p := ⟨w.heap.size + 3, 0, none⟩) (by show w.heap.size + 3 < w5.heap.size; omega)).trans hS.1, ((belowAlloc w5.drew (.cells #[.int .i64 y2] 3)).cell (p := ⟨gS, r, none⟩) (show gS < w5.heap.size from hgl5)).trans hS.2⟩
        refine hK'.out _ _ (.inr hS1) ?_
        clear hK' K'
        try simp only [put_laws]
        have hb1 : Below w5.heap.size w5 (w5.drew.alloc (.cells #[.int .i64 y2] 3)) := ((Below.refl w5.heap.size w5).drew).alloc (by simp) _
        have HB1 := Lib.hid (HS5.out.1.below hb1)
        have hil0 := HB1.out.il
        have hlen1 : L.length = j + 1 := hLk
        obtain ⟨g2, c2, Z2, hrun, hil2, hg2, hat2⟩ := run_oneI (w5.drew.alloc (.cells #[.int .i64 y2] 3)) 22 (B := rb + 1) (v := (.slice (some ⟨g, 0, none⟩) (j + 1) c')) (L := L) (y := y2) hil0 (by omega) (by have := HS5.out.1.kr.lt; simp; omega) (g := w5.heap.size) (c := 1) ((Blk.new w5.drew 3 #[.int .i64 y2]).cell 0) (by simp)
        rw [hlen1] at hrun hil2
        have HIL2 := Lib.hid hil2
        have HG2 := Lib.hid hg2
        have HAT2 := Lib.hid hat2
        have hvr : ∀ r', (Value.slice (some ⟨g, 0, none⟩) (j + 1) c').ownBlock = some r' → rb < r' := fun r' e => by have := (Own.block HS5.out.1.il e).1; omega
        have hk2 := (HB1.out.k.grown hg2 fun r' e => by have := hvr r' e; omega)
        have HK2 := Lib.hid hk2
        have n11 := hk2.k11.cell 0
        have f11 := hk2.k11.frz 0
        have hne : some gS ≠ (Value.slice (some ⟨g, 0, none⟩) (j + 1) c').ownBlock := fun e => HNE.out (Eq.symm (by simpa [Value.ownBlock] using e))
        have hS2 : Z2.cell? ⟨w.heap.size + 3, 0, none⟩ = some (.slice (some ⟨g, 0, none⟩) (j + 1) c') ∧ Z2.cell? ⟨gS, r, none⟩ = some (.int .i64 y2) := by
          refine ⟨n11, (World.cell?_of_block (hg2.block gS (by simp; omega) hne)).trans ?_⟩
          exact (hb1.cell (p := ⟨gS, r, none⟩) hgl5).trans HCS.out
        have hib9 : some ib ≠ (Value.slice (some ⟨g, 0, none⟩) (j + 1) c').ownBlock := fun e => HS5.out.2.2.2.1 (Eq.symm (by simpa [Value.ownBlock] using e))
        have HIB2 := Lib.hid ((HS5.out.2.1.below' hb1).grown hg2 hib9)
        have HNT2 := Lib.hid (show g2 ≠ ib from fun e => by
            subst e
            rcases HAT2.out with h | h
            · exact hib9 h
            · have := HS5.out.2.1.lt
              have h8 : g2 = w5.heap.size + 1 := by simpa using h
              omega)
        clear hil2 hg2 hat2 hk2 hS hil0
        refine wpAnyTI_one (i := 6) (by kernel_rfl) rfl ?_
        intro K' hK'
        simp only [put_laws, List.getElem_toArray, List.getElem_cons_succ, List.getElem_cons_zero]
        refine step_appI (v := (.slice (some ⟨g, 0, none⟩) (j + 1) c')) (v2 := .slice (some ⟨w5.heap.size, 0, none⟩) 1 1) (v' := .slice (some ⟨g2, 0, none⟩) (j + 1 + 1) c2) (w' := Z2) ?_ (.tmp 74) (.tmp 79) 22 ?_ ?_ ?_ ?_ ?_
        · rfl
        · rfl
        · rfl
        · rfl
        · exact hrun
        refine hK'.out _ _ (.inr hS2) ?_
        clear hK' K'
        try simp only [put_laws]
        clear hrun hS2
        refine wpAnyTI_one (i := 7) (by kernel_rfl) rfl ?_
        intro K' hK'
        go_simp
        refine hK'.out _ _ (.inl rfl) ?_
        clear hK' K'
        try simp only [put_laws]
        refine wpAnyTI_done (by kernel_rfl) ?_ _
        have HB2' := Lib.hid (HB1.out.app (v' := .slice (some ⟨g2, 0, none⟩) (j + 1 + 1) c2) (L' := L ++ [y2]) HG2.out HIL2.out (HAT2.out.imp (fun e => e) fun e => ⟨g2, rfl, Nat.le_of_eq e.symm⟩) (by omega) (by omega) (by omega) (by omega) (by omega) (by omega) (by omega) (by omega))
        have HKP1 := Lib.hid (show KeepsFrom Z.heap.size V (Z2.setCell ⟨w.heap.size + 3, 0, none⟩ (.slice (some ⟨g2, 0, none⟩) (j + 1 + 1) c2)) from HS5.out.2.2.2.2.2.trans (((KeepsFrom.of_grownBy (below_grown hb1 none) fun _ e => by cases e).trans (Own.keeps HB1.out.il HG2.out _)).trans (Blk.keepsSet HK2.out.k11 0 _ _)))
        have HIB3 := Lib.hid (HIB2.out.far (p := ⟨w.heap.size + 3, 0, none⟩) (by show ib ≠ w.heap.size + 3; have := HS5.out.2.2.1; omega) (.slice (some ⟨g2, 0, none⟩) (j + 1 + 1) c2))
        clear HB1 HK2 HIL2 HG2 HAT2 n11 f11 HIB2 hne hvr hb1 hib9
        generalize Z2.setCell ⟨w.heap.size + 3, 0, none⟩ (.slice (some ⟨g2, 0, none⟩) (j + 1 + 1) c2) = Y2 at HB2' HKP1 HIB3 ⊢
        have xi := HIB3.out.cell 0
        gi_wp2_with fail
        go_roundw
        case rel =>
          have hga : ∀ q, q < j + 1 → (L ++ [y2]).getD q 0 = L.getD q 0 := fun q hq => by
            rw [List.getD_eq_getElem?_getD, List.getD_eq_getElem?_getD, List.getElem?_append_left (by omega)]
          have hgb : (L ++ [y2]).getD (j + 1) 0 = y2 := by
            rw [List.getD_eq_getElem?_getD, List.getElem?_append_right (by omega), hLk]; simp
          refine ⟨j + 1 + 1, Y2.heap.size, g2, c2, L ++ [y2], rfl, by omega, by omega, by rw [List.length_append, hLk]; rfl, Lib.hid ⟨HB2'.out.below (belowAlloc Y2 _), by rw [show (((j + 1 + 1 : Nat)) : Int) = (j : Int) + 1 + 1 by omega]; exact Blk.new _ _ _, HB2'.out.kr.lt, fun e => by have := (Own.block (g := g2) HB2'.out.il rfl).2; omega, fun h => by have := (HB2'.out.ch.sm.t.2.2.2 _ ((SeaT.grown HB2'.out.ch.sm (World.grownBy_alloc Y2 _ none) fun _ e => by cases e).2 _ h)).2; omega, HKP1.out.trans (KeepsFrom.of_grownBy (World.grownBy_alloc Y2 _ none) fun _ e => by cases e)⟩, Lib.hid fun q hq => ?_, Lib.hid fun q hq => ?_⟩
          · rcases Nat.lt_or_ge q (j + 1) with h | h
            · rw [hga q h]; exact HLA.out q h
            · obtain rfl : q = j + 1 := by omega
              rw [hgb]; exact HR2.out
          · rcases Nat.lt_or_ge (q + 1) (j + 1) with h | h
            · rw [hga _ h, hga q (by omega)]; exact HLB.out q h
            · obtain rfl : q = j := by omega
              rw [hgb, hga q (by omega), ← HY.out, ← HSL.out]; exact HM2.out
        case measure =>
          have h1 := meDn_at (h := (j : Int) + 1 + 1) (Blk.new Y2 3 #[.int .i64 ((j : Int) + 1 + 1)])
          rw [h1, HME.out]
          omega
      · obtain rfl : m = k := by omega
        have k10 := HS.out.1.k.k10.cell 0
        have k11 := HS.out.1.k.k11.cell 0
        have k12 := HS.out.1.k.k12.cell 0
        have f10 := HS.out.1.k.k10.frz 0
        have f11 := HS.out.1.k.k11.frz 0
        have f12 := HS.out.1.k.k12.frz 0
        gi_wp2_with fail
        have HK11 := Lib.hid (show Blk wr.drew (w.heap.size + 3) 22 #[.slice (some ⟨g, 0, none⟩) m c'] from HS.out.1.k.k11)
        refine wpIn_region_TI 3 (fun Z => Z.cell? ⟨w.heap.size + 3, 0, none⟩ = some (.slice (some ⟨g, 0, none⟩) m c')) (by kernel_rfl) (HS.out.1.k.k11.cell 0) ?_
        intro hS
        refine wpAnyTI_takeP (i := 0) (v := ?_) (PlainOps.of_nd (by kernel_rfl)) rfl (by kernel_rfl) (by kernel_rfl) (by kernel_rfl) (by kernel_rfl) (by kernel_rfl) (fun _ _ _ h => h) (.inl ⟨by kernel_rfl, ?_⟩) (fun _ => rfl) hS ?_
        rotate_left
        · (intro w' hw; have k11z := hw; go_simp; try with_reducible rfl)
        try simp only [put_laws]
        refine wpAnyTI_takeP (i := 1) (v := ?_) (PlainOps.of_nd (by kernel_rfl)) rfl (by kernel_rfl) (by kernel_rfl) (by kernel_rfl) (by kernel_rfl) (by kernel_rfl) (fun _ _ _ h => h) (.inl ⟨by kernel_rfl, ?_⟩) (fun _ => rfl) hS ?_
        rotate_left
        · (intro w' hw; have k11z := hw; go_simp; try with_reducible rfl)
        try simp only [put_laws]
        refine wpAnyTI_one (i := 2) (by kernel_rfl) rfl ?_
        intro K' hK'
        go_simp
        have hS2 : (wr.drew.setCell ⟨w.heap.size + 2, 0, none⟩ (.int .i64 x.1)).cell? ⟨w.heap.size + 3, 0, none⟩ = some (.slice (some ⟨g, 0, none⟩) m c') := (HK11.out.far (p := ⟨w.heap.size + 2, 0, none⟩) (by show w.heap.size + 3 ≠ w.heap.size + 2; omega) _).cell 0
        refine hK'.out _ _ (.inr hS2) ?_
        clear hK' K'
        try simp only [put_laws]
        refine wpAnyTI_one (i := 3) (by kernel_rfl) rfl ?_
        intro K' hK'
        go_simp
        refine hK'.out _ _ (.inl rfl) ?_
        clear hK' K'
        try simp only [put_laws]
        refine wpAnyTI_one (i := 4) (by kernel_rfl) rfl ?_
        intro K' hK'
        go_simp
        refine hK'.out _ _ (.inl rfl) ?_
        clear hK' K'
        try simp only [put_laws]
        refine wpAnyTI_done (by kernel_rfl) ?_ _
        gi_wp2_with fail
        obtain ⟨q1, q2, q3, q4, q5⟩ := HS.out.1.fin x.1 (Nat.le_refl _) hB (by omega) (by omega) Z.heap.size
        refine ⟨HS.out.2.2.2.2.2.trans q5, rfl, q1, q2, x.1, _, L, q3, hxl, Own.less q4 (by omega), hLk, ?_⟩
        rw [HHE.out]
        refine M.hist_rows HD.out (fun q hq => ?_) (fun q hq => HLB.out q (by omega))
        have h1 := HLA.out q (by omega)
        rw [HRW.out] at h1
        exact h1
  case hdone =>
    intro D xs V hD hS hI2 hdf
    have HSP := Lib.hid (show M.spanTo lo hi lp = false from by
      cases h : M.spanTo lo hi lp
      · rfl
      · obtain ⟨x, k1, k2, k3⟩ := M.spanTo_iff.1 h
        have h4 := M.mem_spanL.2 ⟨⟨k1, k2⟩, k3⟩
        rw [← hS, hI2.s] at h4
        cases h4)
    have HI := Lib.hid hI2
    have HDF := Lib.hid hdf
    have k10 := hI2.k.k10.cell 0
    have k11 := hI2.k.k11.cell 0
    have k12 := hI2.k.k12.cell 0
    have f10 := hI2.k.k10.frz 0
    have f11 := hI2.k.k11.frz 0
    have f12 := hI2.k.k12.frz 0
    clear hI2 hdf hS
    go_wp2_with fail
    have g1 := grownBy_setCell' V (w.heap.size + 2) (.int .i64 0)
    have g2 := grownBy_setCell' (V.setCell ⟨w.heap.size + 2, 0, none⟩ (.int .i64 0)) (w.heap.size + 3) (.slice none 0 0)
    have g3 := grownBy_setCell' ((V.setCell ⟨w.heap.size + 2, 0, none⟩ (.int .i64 0)).setCell ⟨w.heap.size + 3, 0, none⟩ (.slice none 0 0)) (w.heap.size + 4) (.int .i64 3)
    have b1 := ((HI.out.k.k10.set_ 0 (.int .i64 0)).grown g2 (by simp)).grown g3 (by simp)
    have b2 := ((HI.out.k.k11.grown g1 (by simp)).set_ 0 (.slice none 0 0)).grown g3 (by simp)
    have b3 := ((HI.out.k.k12.grown g1 (by simp)).grown g2 (by simp)).set_ 0 (.int .i64 3)
    have bw := ((HI.out.bw.setCell (p := ⟨w.heap.size + 2, 0, none⟩) (by show w.heap.size ≤ w.heap.size + 2; omega) (.int .i64 0)).setCell (p := ⟨w.heap.size + 3, 0, none⟩) (by show w.heap.size ≤ w.heap.size + 3; omega) (.slice none 0 0)).setCell (p := ⟨w.heap.size + 4, 0, none⟩) (by show w.heap.size ≤ w.heap.size + 4; omega) (.int .i64 3)
    have hlt : D < V.heap.size := (Array.getElem?_eq_some_iff.1 HDF.out).1
    refine leaves_marks (lo := Z.heap.size) [D] _ ⟨hD, ((g3.block D (Nat.lt_of_lt_of_le (Nat.lt_of_lt_of_le hlt g1.size) g2.size) (by simp; omega)).trans (g2.block D (Nat.lt_of_lt_of_le hlt g1.size) (by simp; omega))).trans ((g1.block D hlt (by simp; omega)).trans HDF.out), fun x hx => (by cases hx), trivial⟩ fun w' hk => ?_
    obtain ⟨r0, r1, r2, r3⟩ := hk (fun _ X => Below w.heap.size w X ∧ Blk X (w.heap.size + 2) 3 #[.int .i64 0] ∧ Blk X (w.heap.size + 3) 22 #[.slice none 0 0] ∧ Blk X (w.heap.size + 4) 35 #[.int .i64 3]) (fun _ X Y row hs hg hr => ⟨hs.1.grown hg hs.1.size fun r e => by have := (hr r e).1; omega, hs.2.1.grown hg (blk_note hs.2.1 fun r e => (hr r e).2), hs.2.2.1.grown hg (blk_note hs.2.2.1 fun r e => (hr r e).2), hs.2.2.2.grown hg (blk_note hs.2.2.2 fun r e => (hr r e).2)⟩) ⟨bw, b1, b2, b3⟩
    exact ⟨_, results_h3 rfl _ w' _ _ _ 0 3 (.slice none 0 0) rfl rfl rfl (r1.cell 0) (r2.cell 0) (r3.cell 0), r0, .inl ⟨HSP.out, rfl⟩⟩
  case hstop =>
    intro D c' pre V hD hSp hix hdf
    obtain ⟨rfl, hx⟩ := hix
    obtain ⟨f, k1, k2, k3, _⟩ := hSp
    have HSP := Lib.hid (show M.spanTo lo hi lp = true from M.spanTo_iff.2 ⟨f, k1, k2, k3⟩)
    have HX2 := Lib.hid hx
    clear hx k1 k2 k3
    refine wpIn_wide.2 ?_
    go_wp2_with fail
    refine leaves_marks (lo := Z.heap.size) [D] _ ⟨hD, hdf, fun x hx => (by cases hx), trivial⟩ fun w' hk => ?_
    have h1 := hk (fun _ X => HsX d zA cA wA dA tA sA cl w.heap.size P m1 m2 dc tc sc zc cc wc S2 (S2 + 1) B ta xc hn hc xL lo hi c t 0 xA hA Xs w m HH X) (fun _ X Y row hs hg hr => HOWX.out [] X Y row hs hg hr) HX2.out
    obtain ⟨l, v, L, q1, q2, q3, q4, q5⟩ := h1.x
    exact ⟨_, results_h3 rfl _ w' _ _ _ l 0 v rfl rfl rfl (q1.k10.cell 0) (q1.k11.cell 0) (q1.k12.cell 0), h1.bw, .inr ⟨HSP.out, l, v, rfl, q2, L, q3, q4, by have h9 := (HHE.out _ _).1 q5; simpa using h9⟩⟩
end
end Go.Proofs.YtnbeembnnjdmdaaGreatDoor
