/- drift.Places of a valid drift, drifter and sightings. -/
import Derived.Test.YtnbeembnnjdmdaaDoorG10
import Derived.Test.YtnbeembnnjdmdaaDoorMixIn
namespace Go.Proofs.YtnbeembnnjdmdaaDoor
open Go.RowKit Go.Maps Go.Shelf

/-- rows of ints that a call has made, none of them the drift's own -/
structure RwO (P m1 m2 : Nat) (base ow m : Nat) (U : Nat → Value) (R : Nat → List Int) (A : World) : Prop where
  o : Own A base 22 1 (.slice (some ⟨ow, 0, none⟩) m m) m (fun i _ => U i)
  r : ∀ k, k < m → IL A base (U k) (R k)
  t : ¬ TS P m1 m2 A ow
  rt : ∀ k, k < m → ∀ g, (U k).ownBlock = some g → ¬ TS P m1 m2 A g
  rd : ∀ k j, k < m → j < m → k ≠ j → ∀ g, (U k).ownBlock = some g → (U j).ownBlock ≠ some g
section
variable {P m1 m2 base ow m : Nat} {U : Nat → Value} {R R' : Nat → List Int} {A A' : World}
theorem RwO.congr (h : RwO P m1 m2 base ow m U R A) (hR : ∀ k, k < m → R k = R' k) : RwO P m1 m2 base ow m U R' A := ⟨h.o, fun k hk => by rw [← hR k hk]; exact h.r k hk, h.t, h.rt, h.rd⟩
theorem RwO.ne (h : RwO P m1 m2 base ow m U R A) {k : Nat} (hk : k < m) : (U k).ownBlock ≠ some ow := by
  obtain ⟨cs, hb⟩ := Own.blk h.o
  exact Own.ne_blk (h.r k hk) hb (by decide)
/-- another block grows -/
theorem RwO.grown {row : Option Nat} (h : RwO P m1 m2 base ow m U R A) (hg : A.grownBy A' row) (ht : ∀ k, TS P m1 m2 A' k → TS P m1 m2 A k) (hr : ∀ r, row = some r → r ≠ ow ∧ ∀ k, k < m → (U k).ownBlock ≠ some r) : RwO P m1 m2 base ow m U R A' := by
  refine ⟨Own.grown h.o hg (.inr fun e => (hr ow e.symm).1 rfl), fun k hk => Own.grown (h.r k hk) hg ?_, fun e => h.t (ht _ e), fun k hk g e h3 => h.rt k hk g e (ht _ h3), h.rd⟩
  cases hv : (U k).ownBlock with
  | none => exact .inl rfl
  | some g => exact .inr fun e => (hr g e.symm).2 k hk hv
theorem RwO.notes {row : Option Nat} {Zs : Nat} (h : RwO P m1 m2 base ow m U R A) (hg : A.grownBy A' row) (ht : ∀ k, TS P m1 m2 A' k → TS P m1 m2 A k) (hr : ∀ r, row = some r → Zs ≤ r ∧ ∃ o, A.heap[r]? = some o ∧ o.isCells = false) : RwO P m1 m2 base ow m U R A' :=
  ⟨Own.grown h.o hg (own_notes h.o hr), fun k hk => Own.grown (h.r k hk) hg (own_notes (h.r k hk) hr), fun e => h.t (ht _ e), fun k hk g e h3 => h.rt k hk g e (ht _ h3), h.rd⟩
theorem RwO.mv (h : RwO P m1 m2 base ow m U R A) (hv : Mv m1 m2 A A') (h1 : IsMap' A m1) (h2 : IsMap' A m2) (ht : ∀ k, TS P m1 m2 A' k → TS P m1 m2 A k ∨ A.heap.size ≤ k) : RwO P m1 m2 base ow m U R A' := by
  refine ⟨Own.mv h.o hv h1 h2, fun k hk => Own.mv (h.r k hk) hv h1 h2, fun e => ?_, fun k hk g e h3 => ?_, h.rd⟩
  · rcases ht _ e with h4 | h4
    · exact h.t h4
    · have := (Own.block (g := ow) h.o rfl).2; omega
  · rcases ht _ h3 with h4 | h4
    · exact h.rt k hk g e h4
    · have := (Own.block (h.r k hk) e).2; omega
/-- a row is set anew: its own block, or a new one -/
theorem RwO.setRow (h : RwO P m1 m2 base ow m U R A) {k : Nat} (hk : k < m) (hg : A.grownBy A' (U k).ownBlock) {v' : Value} {L' : List Int} (hil : IL A' base v' L') (hat : v'.ownBlock = (U k).ownBlock ∨ ∃ g, v'.ownBlock = some g ∧ A.heap.size ≤ g) (ht : ∀ q, TS P m1 m2 A' q → TS P m1 m2 A q) (hts : ∀ q, TS P m1 m2 A q → q < A.heap.size)
    (ht2 : ∀ q, TS P m1 m2 (A'.setCell ⟨ow, k, none⟩ v') q → TS P m1 m2 A' q) : RwO P m1 m2 base ow m (fun i => if i = k then v' else U i) (fun i => if i = k then L' else R i) (A'.setCell ⟨ow, k, none⟩ v') := by
  have hw := h.ne hk
  have ho := Own.grown h.o hg (.inr fun e => hw e.symm)
  obtain ⟨cs, hb⟩ := Own.blk ho
  have hnv : v'.ownBlock ≠ some ow := Own.ne_blk hil hb (by decide)
  have hlt : ∀ i, i < m → ∀ g, (U i).ownBlock = some g → g < A.heap.size := fun i hi g e => (Own.block (h.r i hi) e).2
  refine ⟨Own.congr (Own.set1 ho k v') fun i j _ _ => ?_, fun i hi => ?_, fun e => h.t (ht _ (ht2 _ e)), fun i hi g e h3 => ?_, fun i j hi hj hij g e => ?_⟩
  · unfold upd
    by_cases e : i = k
    · rw [if_pos e, if_pos e]
    · rw [if_neg e, if_neg e]
  · by_cases e : i = k
    · simp only [e, if_true]
      exact Own.setCell hil hnv (p := ⟨ow, k, none⟩) _
    · simp only [e, if_false]
      have h1 := Own.grown (h.r i hi) hg (by
        cases hv : (U i).ownBlock with
        | none => exact .inl rfl
        | some g => exact .inr fun e2 => h.rd i k hi hk e g hv e2.symm)
      exact Own.setCell h1 (p := ⟨ow, k, none⟩) (h.ne hi) _
  · have h4 := ht _ (ht2 _ h3)
    by_cases e2 : i = k
    · simp only [e2, if_true] at e
      rcases hat with h5 | ⟨g2, h5, h6⟩
      · exact h.rt k hk g (h5 ▸ e) h4
      · rw [e] at h5; cases h5
        have := hts _ h4; omega
    · simp only [e2, if_false] at e
      exact h.rt i hi g e h4
  · by_cases e2 : i = k
    · have e3 : j ≠ k := fun e3 => hij (e2.trans e3.symm)
      simp only [e2, if_true] at e
      simp only [e3, if_false]
      rcases hat with h5 | ⟨g2, h5, h6⟩
      · exact h.rd k j hk hj (fun e4 => e3 e4.symm) g (h5 ▸ e)
      · rw [e] at h5; cases h5
        exact fun e5 => by have := hlt j hj g e5; omega
    · simp only [e2, if_false] at e
      by_cases e3 : j = k
      · simp only [e3, if_true]
        rcases hat with h5 | ⟨g2, h5, h6⟩
        · rw [h5]; exact h.rd i k hi hk e2 g e
        · rw [h5]; intro e5; cases e5
          have := hlt i hi g e; omega
      · simp only [e3, if_false]
        exact h.rd i j hi hj hij g e
/-- a row's own block turns -/
theorem RwO.turn (h : RwO P m1 m2 base ow m U R A) {k : Nat} (hk : k < m) (hg : A.grownBy A' (U k).ownBlock) {L' : List Int} (hil : IL A' base (U k) L') (ht : ∀ q, TS P m1 m2 A' q → TS P m1 m2 A q) : RwO P m1 m2 base ow m U (fun i => if i = k then L' else R i) A' := by
  refine ⟨Own.grown h.o hg (.inr fun e => h.ne hk e.symm), fun i hi => ?_, fun e => h.t (ht _ e), fun i hi g e h3 => h.rt i hi g e (ht _ h3), h.rd⟩
  by_cases e : i = k
  · subst e; simp only [if_true]; exact hil
  · simp only [e, if_false]
    exact Own.grown (h.r i hi) hg (by
      cases hv : (U i).ownBlock with
      | none => exact .inl rfl
      | some g => exact .inr fun e2 => h.rd i k hi hk e g hv e2.symm)
end
/-- what stands in a body, or behind the range: the rows gathered -/
structure PlB (d : M.Dr) (zA cA wA dA tA sA : Option Addr) (cl : Nat → Nat) (B P m1 m2 dc tc sc zc cc wc : Nat) (cb fb B' ta xc hn hc : Nat) (xL : List Int) (lo hi fc ft fl : Int) (xA hA : Option Addr) (Xs : Nat → SgV) (w : World) (ob base ow m : Nat) (U : Nat → Value) (R : Nat → List Int) (A : World) : Prop where
  ch : ChI d zA cA wA dA tA sA cl B P m1 m2 dc tc sc zc cc wc cb fb B' ta xc hn hc xL lo hi fc ft fl xA hA Xs A
  bw : Below w.heap.size w A
  kb : Blk A ob 44 #[.slice (some ⟨ow, 0, none⟩) m m]
  ro : RwO P m1 m2 base ow m U R A
section
variable {d : M.Dr} {zA cA wA dA tA sA : Option Addr} {cl : Nat → Nat} {B P m1 m2 dc tc sc zc cc wc : Nat} {cb fb B' ta xc hn hc m : Nat} {xL : List Int} {lo hi fc ft fl : Int} {xA hA : Option Addr} {Xs : Nat → SgV} {w A A' : World} {ob base ow : Nat} {U : Nat → Value} {R R' : Nat → List Int}
theorem PlB.congr (h : PlB d zA cA wA dA tA sA cl B P m1 m2 dc tc sc zc cc wc cb fb B' ta xc hn hc xL lo hi fc ft fl xA hA Xs w ob base ow m U R A) (hR : ∀ k, k < m → R k = R' k) : PlB d zA cA wA dA tA sA cl B P m1 m2 dc tc sc zc cc wc cb fb B' ta xc hn hc xL lo hi fc ft fl xA hA Xs w ob base ow m U R' A := ⟨h.ch, h.bw, h.kb, h.ro.congr hR⟩
theorem PlB.below (h : PlB d zA cA wA dA tA sA cl B P m1 m2 dc tc sc zc cc wc cb fb B' ta xc hn hc xL lo hi fc ft fl xA hA Xs w ob base ow m U R A) (hb : Below A.heap.size A A') : PlB d zA cA wA dA tA sA cl B P m1 m2 dc tc sc zc cc wc cb fb B' ta xc hn hc xL lo hi fc ft fl xA hA Xs w ob base ow m U R A' :=
  ⟨h.ch.below hb, h.bw.trans (hb.mono h.bw.size), h.kb.below' hb, h.ro.grown (below_grown hb none) (SeaT.grown h.ch.sm (below_grown hb none) fun _ e => by cases e).2 fun r e => by cases e⟩
theorem PlB.notes {row : Option Nat} {Zs : Nat} (h : PlB d zA cA wA dA tA sA cl B P m1 m2 dc tc sc zc cc wc cb fb B' ta xc hn hc xL lo hi fc ft fl xA hA Xs w ob base ow m U R A) (hg : A.grownBy A' row) (hr : ∀ r, row = some r → Zs ≤ r ∧ ∃ o, A.heap[r]? = some o ∧ o.isCells = false) (hB : B ≤ Zs) (hB' : B' ≤ Zs) (h1 : m1 < Zs) (h2 : m2 < Zs) (hw : w.heap.size ≤ Zs) (hob : ob < Zs) : PlB d zA cA wA dA tA sA cl B P m1 m2 dc tc sc zc cc wc cb fb B' ta xc hn hc xL lo hi fc ft fl xA hA Xs w ob base ow m U R A' :=
  ⟨h.ch.notes hg hr hB hB' h1 h2, h.bw.grown hg h.bw.size (fun r e => by have := (hr r e).1; omega), h.kb.grown hg (fun e => by have := (hr _ e.symm).1; omega), h.ro.notes hg (SeaT.grown h.ch.sm hg fun r e => ⟨by have := (hr r e).1; omega, by
    obtain ⟨h3, o, ho, hc⟩ := hr r e
    exact ts_notes h.ch.sm h3 ho hc h1 h2⟩).2 hr⟩
theorem PlB.ab (h : PlB d zA cA wA dA tA sA cl B P m1 m2 dc tc sc zc cc wc cb fb B' ta xc hn hc xL lo hi fc ft fl xA hA Xs w ob base ow m U R A) (hab : AbT d zA cA wA dA tA sA cl B P m1 m2 dc tc sc zc cc wc A A') (h1 : w.heap.size ≤ m1) (h2 : w.heap.size ≤ m2) : PlB d zA cA wA dA tA sA cl B P m1 m2 dc tc sc zc cc wc cb fb B' ta xc hn hc xL lo hi fc ft fl xA hA Xs w ob base ow m U R A' :=
  ⟨h.ch.ab hab, h.bw.trans (hab.1.below h1 h2 h.bw.size), h.kb.mv hab.1 h.ch.sm.map1 h.ch.sm.map2, h.ro.mv hab.1 h.ch.sm.map1 h.ch.sm.map2 (hab.2 h.ch.sm).2⟩
/-- a row is set anew -/
theorem PlB.setRow (h : PlB d zA cA wA dA tA sA cl B P m1 m2 dc tc sc zc cc wc cb fb B' ta xc hn hc xL lo hi fc ft fl xA hA Xs w ob base ow m U R A) {k : Nat} (hk : k < m) (hg : A.grownBy A' (U k).ownBlock) {v' : Value} {L' : List Int} (hil : IL A' base v' L') (hat : v'.ownBlock = (U k).ownBlock ∨ ∃ g, v'.ownBlock = some g ∧ A.heap.size ≤ g) (hB : B ≤ base) (hB' : B' ≤ base) (hcb : cb < base) (hfb : fb < base) (hob : ob < base) (hw : w.heap.size ≤ base) :
    PlB d zA cA wA dA tA sA cl B P m1 m2 dc tc sc zc cc wc cb fb B' ta xc hn hc xL lo hi fc ft fl xA hA Xs w ob base ow m (fun i => if i = k then v' else U i) (fun i => if i = k then L' else R i) (A'.setCell ⟨ow, k, none⟩ v') ∧ ∀ C, KeepsFrom C A (A'.setCell ⟨ow, k, none⟩ v') := by
  have hU : ∀ r, (U k).ownBlock = some r → base ≤ r := fun r e => (Own.block (h.ro.r k hk) e).1
  have how : base ≤ ow := (Own.block (g := ow) h.ro.o rfl).1
  have t1 := SeaT.grown h.ch.sm hg fun r e => ⟨by have := hU r e; omega, h.ro.rt k hk r e⟩
  have c1 := h.ch.grown hg fun r e => ⟨by have := hU r e; omega, h.ro.rt k hk r e, by have := hU r e; omega, by have := hU r e; omega, by have := hU r e; omega⟩
  have hgs : A'.grownBy (A'.setCell ⟨ow, k, none⟩ v') (some ow) := ⟨rfl, rfl, rfl, (KeepsWalks.setCell _ _ _).size, fun q _ hq => Below.heap_setCell _ _ _ q (fun e => hq (by rw [e]))⟩
  have nt : ¬ TS P m1 m2 A' ow := fun e => h.ro.t (t1.2 _ e)
  have t2 := SeaT.grown t1.1 hgs fun r e => by cases e; exact ⟨by omega, nt⟩
  have c2 := c1.grown hgs fun r e => by cases e; exact ⟨by omega, nt, by omega, by omega, by omega⟩
  refine ⟨⟨c2, (h.bw.grown hg h.bw.size fun r e => by have := hU r e; omega).setCell (p := ⟨ow, k, none⟩) (by show w.heap.size ≤ ow; omega) _, (h.kb.grown hg fun e => by have := hU _ e.symm; omega).grown hgs (by simp; omega), h.ro.setRow hk hg hil hat t1.2 (fun q hq => (h.ch.sm.t.2.2.2 q hq).2) t2.2⟩, fun C => ?_⟩
  obtain ⟨cs, hb⟩ := Own.blk (Own.grown h.ro.o hg (.inr fun e => h.ro.ne hk e.symm))
  exact (Own.keeps (h.ro.r k hk) hg C).trans (Blk.keepsSet hb k v' C)
/-- a row's own block turns -/
theorem PlB.turn (h : PlB d zA cA wA dA tA sA cl B P m1 m2 dc tc sc zc cc wc cb fb B' ta xc hn hc xL lo hi fc ft fl xA hA Xs w ob base ow m U R A) {k : Nat} (hk : k < m) (hg : A.grownBy A' (U k).ownBlock) {L' : List Int} (hil : IL A' base (U k) L') (hB : B ≤ base) (hB' : B' ≤ base) (hcb : cb < base) (hfb : fb < base) (hob : ob < base) (hw : w.heap.size ≤ base) : PlB d zA cA wA dA tA sA cl B P m1 m2 dc tc sc zc cc wc cb fb B' ta xc hn hc xL lo hi fc ft fl xA hA Xs w ob base ow m U (fun i => if i = k then L' else R i) A' := by
  have hU : ∀ r, (U k).ownBlock = some r → base ≤ r := fun r e => (Own.block (h.ro.r k hk) e).1
  have t1 := SeaT.grown h.ch.sm hg fun r e => ⟨by have := hU r e; omega, h.ro.rt k hk r e⟩
  exact ⟨h.ch.grown hg fun r e => ⟨by have := hU r e; omega, h.ro.rt k hk r e, by have := hU r e; omega, by have := hU r e; omega, by have := hU r e; omega⟩, h.bw.grown hg h.bw.size (fun r e => by have := hU r e; omega), h.kb.grown hg (fun e => by have := hU _ e.symm; omega), h.ro.turn hk hg hil t1.2⟩
end
section
variable {d : M.Dr} {at_ lo hi : Int} {xL : List Int} {hn : Nat} {Xs : Nat → SgV}
/-- what Places answers -/
def PlcR (d : M.Dr) (at_ lo hi : Int) (xL : List Int) (hn : Nat) (Xs : Nat → SgV) (w : World) (e : Ending) (w' : World) : Prop :=
  ∃ (ow : Nat) (U : Nat → Value), e = .returned (.tuple #[.slice (some ⟨ow, 0, none⟩) (d.s.nt - at_.toNat) (d.s.nt - at_.toNat), .int .i64 0]) ∧ Own w' w.heap.size 22 1 (.slice (some ⟨ow, 0, none⟩) (d.s.nt - at_.toNat) (d.s.nt - at_.toNat)) (d.s.nt - at_.toNat) (fun i _ => U i) ∧ ∀ k, k < d.s.nt - at_.toNat → IL w' w.heap.size (U k) (plcL d at_.toNat (d.s.nt - at_.toNat) hn xL Xs lo hi k)
end
theorem wpListIn_mkrows {F : Fence} {n : Nat} (w : World) {ops : Array Oper} {rest : List Oper} {o : Oper} {a : Act} {Q : Exit → Act → World → Prop} (hg : o.guard = none) (l c : Operand) (hop : o.op = Op.makeSlice 44 l c) (m : Nat) (hm : m ≤ 60) (hl : a.eval l = .int .i64 (m : Int)) (hc : a.eval c = .int .i64 (m : Int))
    (hK : ∀ w', Own w' w.heap.size 22 1 (.slice (some ⟨w.heap.size, 0, none⟩) m m) m (fun _ _ => Value.slice none 0 0) → w.grownBy w' none → w'.heap.size = w.heap.size + 1 → wpListIn F n Tryd.prog ops Q rest (a.put o.dst (.slice (some ⟨w.heap.size, 0, none⟩) m m)) w') : wpListIn F n Tryd.prog ops Q (o :: rest) a w := by
  refine wpListIn_plain hg fun K hK' => ?_
  obtain ⟨w', hrun, r1, r2, r3⟩ := mk_rows m hm w (m : Int) rfl
  unfold Oper.wpIn
  refine ⟨?_, ?_⟩
  · simp [Oper.about, hop]
  · rw [Oper.semAt_plain F _ _ (by rw [hop]; intro c hc'; cases hc')]
    simp [execOp, hop, hl, hc, hrun, Result.andThen]
    exact hK' _ _ (hK w' r1 r2 r3)
theorem eql_someR_nil (W : World) (a : Addr) (l c : Nat) : (binOp .eql 44 (.slice (some a) l c) (.slice none 0 0)).run Tryd.prog W = .ok (.bool false) W := by
  simp only [binOp]
  simp [Op.equal, Op.maxDepth, Lib.run_equalIn_slice_nil W 9999 44 22 (some a) l c 0 0 Tryd.underlying44]
theorem eql_nilR_nil (W : World) : (binOp .eql 44 (.slice none 0 0) (.slice none 0 0)).run Tryd.prog W = .ok (.bool true) W := by
  simp only [binOp]
  simp [Op.equal, Op.maxDepth, Lib.run_equalIn_slice_nil W 9999 44 22 none 0 0 0 0 Tryd.underlying44]
/-- the rows gathered before are older than the ones yielded -/
def OldR (lt ob m : Nat) (W : World) : Prop := Blk W ob 44 #[.slice none 0 0] ∨ ∃ (ow base : Nat) (U : Nat → Value), Blk W ob 44 #[.slice (some ⟨ow, 0, none⟩) m m] ∧ Own W base 22 1 (.slice (some ⟨ow, 0, none⟩) m m) m (fun i _ => U i) ∧ ow < lt ∧ ∀ k, k < m → ∀ g, (U k).ownBlock = some g → g < lt
theorem OldR.notes {lt ob m Zs : Nat} {A A' : World} {row : Option Nat} (h : OldR lt ob m A) (hg : A.grownBy A' row) (hr : ∀ r, row = some r → Zs ≤ r ∧ ∃ o, A.heap[r]? = some o ∧ o.isCells = false) (hob : ob < Zs) : OldR lt ob m A' := by
  rcases h with h | ⟨ow, base, U, h1, h2, h3⟩
  · exact .inl (h.grown hg fun e => by have := (hr _ e.symm).1; omega)
  · exact .inr ⟨ow, base, U, h1.grown hg (fun e => by have := (hr _ e.symm).1; omega), Own.grown h2 hg (own_notes h2 hr), h3⟩
theorem OldR.nil_ {lt ob m : Nat} {A : World} (_h : OldR lt ob m A) : True := trivial
theorem OldR.at_ {lt ob m ow base : Nat} {U : Nat → Value} {A : World} (h : OldR lt ob m A) (hb : Blk A ob 44 #[.slice (some ⟨ow, 0, none⟩) m m]) (ho : Own A base 22 1 (.slice (some ⟨ow, 0, none⟩) m m) m (fun i _ => U i)) : ow < lt ∧ ∀ k, k < m → ∀ g, (U k).ownBlock = some g → g < lt := by
  rcases h with h | ⟨ow', base', U', h1, h2, h3, h4⟩
  · have := (show A.heap[ob]? = _ from hb).symm.trans h
    simp at this
  · have e : ow = ow' := by
      have := (show A.heap[ob]? = _ from hb).symm.trans h1
      simpa using this
    subst e
    refine ⟨h3, fun k hk g e => h4 k hk g ?_⟩
    have e1 := (Own.cell1 ho hk).symm.trans (Own.cell1 h2 hk)
    simp only [Option.some.injEq] at e1
    rw [← e1]; exact e
/-- what Places has gathered -/
structure PlI (d : M.Dr) (zA cA wA dA tA sA : Option Addr) (cl : Nat → Nat) (B P m1 m2 dc tc sc zc cc wc : Nat) (cb fb B' ta xc hn hc : Nat) (xL : List Int) (lo hi fc ft fl : Int) (xA hA : Option Addr) (Xs : Nat → SgV) (w : World) (ob base m : Nat) (pC : List Int → Nat → List Int) (s : List (Int × Nat × (Nat → Value))) (A : World) : Prop where
  ch : ChI d zA cA wA dA tA sA cl B P m1 m2 dc tc sc zc cc wc cb fb B' ta xc hn hc xL lo hi fc ft fl xA hA Xs A
  bw : Below w.heap.size w A
  bx : (s = [] ∧ Blk A ob 44 #[.slice none 0 0]) ∨ (s ≠ [] ∧ ∃ ow U, PlB d zA cA wA dA tA sA cl B P m1 m2 dc tc sc zc cc wc cb fb B' ta xc hn hc xL lo hi fc ft fl xA hA Xs w ob base ow m U (pC (s.map (·.1))) A)
section
variable {d : M.Dr} {zA cA wA dA tA sA : Option Addr} {cl : Nat → Nat} {B P m1 m2 dc tc sc zc cc wc : Nat} {cb fb B' ta xc hn hc m : Nat} {xL : List Int} {lo hi fc ft fl : Int} {xA hA : Option Addr} {Xs : Nat → SgV} {w A A' : World} {ob base : Nat} {pC : List Int → Nat → List Int}
theorem PlI.own {Zs : Nat} (hB : B ≤ Zs) (hB' : B' ≤ Zs) (h1 : m1 < Zs) (h2 : m2 < Zs) (hw : w.heap.size ≤ Zs) (hob : ob < Zs) : OwnFrom Zs (PlI d zA cA wA dA tA sA cl B P m1 m2 dc tc sc zc cc wc cb fb B' ta xc hn hc xL lo hi fc ft fl xA hA Xs w ob base m pC) := fun s X Y row h hg hr =>
  ⟨h.ch.notes hg hr hB hB' h1 h2, h.bw.grown hg h.bw.size (fun r e => by have := (hr r e).1; omega), h.bx.imp (fun ⟨k1, k2⟩ => ⟨k1, k2.grown hg fun e => by have := (hr _ e.symm).1; omega⟩) fun ⟨k1, ow, U, k2⟩ => ⟨k1, ow, U, k2.notes hg hr hB hB' h1 h2 hw hob⟩⟩
theorem PlI.ab {s : List (Int × Nat × (Nat → Value))} (h : PlI d zA cA wA dA tA sA cl B P m1 m2 dc tc sc zc cc wc cb fb B' ta xc hn hc xL lo hi fc ft fl xA hA Xs w ob base m pC s A) (hab : AbT d zA cA wA dA tA sA cl B P m1 m2 dc tc sc zc cc wc A A') (h1 : w.heap.size ≤ m1) (h2 : w.heap.size ≤ m2) : PlI d zA cA wA dA tA sA cl B P m1 m2 dc tc sc zc cc wc cb fb B' ta xc hn hc xL lo hi fc ft fl xA hA Xs w ob base m pC s A' :=
  ⟨h.ch.ab hab, h.bw.trans (hab.1.below h1 h2 h.bw.size), h.bx.imp (fun ⟨k1, k2⟩ => ⟨k1, k2.mv hab.1 h.ch.sm.map1 h.ch.sm.map2⟩) fun ⟨k1, ow, U, k2⟩ => ⟨k1, ow, U, k2.ab hab h1 h2⟩⟩
theorem PlI.old {s : List (Int × Nat × (Nat → Value))} (h : PlI d zA cA wA dA tA sA cl B P m1 m2 dc tc sc zc cc wc cb fb B' ta xc hn hc xL lo hi fc ft fl xA hA Xs w ob base m pC s A) (hab : AbT d zA cA wA dA tA sA cl B P m1 m2 dc tc sc zc cc wc A A') : OldR A.heap.size ob m A' := by
  rcases h.bx with ⟨_, k2⟩ | ⟨_, ow, U, k2⟩
  · exact .inl (k2.mv hab.1 h.ch.sm.map1 h.ch.sm.map2)
  · exact .inr ⟨ow, _, U, k2.kb.mv hab.1 h.ch.sm.map1 h.ch.sm.map2, Own.mv k2.ro.o hab.1 h.ch.sm.map1 h.ch.sm.map2, (Own.block (g := ow) k2.ro.o rfl).2, fun k hk g e => (Own.block (k2.ro.r k hk) e).2⟩
end
section
variable {d : M.Dr} {zA cA wA dA tA sA xA hA : Option Addr} {cl : Nat → Nat} {B dc tc sc zc cc wc xc hn hc : Nat} {at_ lo hi : Int} {xL : List Int} {Xs : Nat → SgV} {w : World}
attribute [local go_sem] Oper.semAt_some
set_option maxRecDepth 100000 in
set_option maxHeartbeats 3200000 in
theorem places_ok (hd : d.Ok) (hcl : ∀ i, i < d.nz → cl i + 1 = d.s.nt) (hR : RdD w B dA tA sA zA cA wA d.s.nd d.s.nt d.s.nt d.s.nd d.nz (d.s.nt - 1) d.s.dep d.s.tide d.s.sw d.z cl d.cu d.wd) (hB : B ≤ w.heap.size) (hW : Ways w)
    (hx3 : Rd1 w B xA xL.length (fun k => xL.getD k 0)) (hx4 : xL.length ≤ maxLen) (hRS : RdS w B hA hn Xs) (hhn : hn ≤ maxLen) (hF : Fre w) (hX : chkX d.s.nd d.s.nt at_ lo hi xL = true) (hS : chkS d.s.nd d.s.nt at_ hn Xs = true) :
    Calls Tryd.prog 10 #[.agg #[.int .i64 (d.s.W : Int), .int .i64 (d.s.H : Int), .slice dA d.s.nd dc, .slice tA d.s.nt tc, .slice sA d.s.nt sc, .slice zA d.s.nd zc, .slice cA d.nz cc, .slice wA (d.s.nt - 1) wc], .agg #[.int .i64 at_, .slice xA xL.length xc, .int .i64 lo, .int .i64 hi], .slice hA hn hc] w fun e w' => Below w.heap.size w w' ∧
      ((leeL d at_ lo hi xL hn Xs = [] ∧ e = .returned (.tuple #[.slice none 0 0, .int .i64 3])) ∨ (leeL d at_ lo hi xL hn Xs ≠ [] ∧ PlcR d at_ lo hi xL hn Xs w e w')) := by
  obtain ⟨⟨ha1, ha2⟩, hxl, ⟨hx1, hx2⟩, hl1, hl2, hl3⟩ := chkX_bd hX
  obtain ⟨ta, rfl⟩ : ∃ n : Nat, at_ = (n : Int) := ⟨at_.toNat, by omega⟩
  have h60 := hd.s.t2
  have h1n := hd.s.t1
  have hnd := hd.s.nd1
  have hxm : xL.length ≤ 1048576 := by have := M.asc_len hx1 (fun x hx => ⟨by have := hx2 x hx; omega, (hx2 x hx).2⟩); omega
  unfold leeL PlcR
  rw [Int.toNat_natCast]
  obtain ⟨m, hm⟩ : ∃ m, m = d.s.nt - ta := ⟨_, rfl⟩
  rw [← hm]
  have hm1 : ta + m = d.s.nt := by omega
  have hm2 : 1 ≤ m := by omega
  have hm60 : m ≤ 60 := by omega
  have hbY := belowAlloc2 w (.cells #[.int .i64 (d.s.W : Int), .int .i64 (d.s.H : Int), .slice dA d.s.nd dc, .slice tA d.s.nt tc, .slice sA d.s.nt sc, .slice zA d.s.nd zc, .slice cA d.nz cc, .slice wA (d.s.nt - 1) wc] 29) (.cells #[.int .i64 (ta : Int), .slice xA xL.length xc, .int .i64 lo, .int .i64 hi] 33)
  have hO := begin_ok (at_ := (ta : Int)) (lo := lo) (hi := hi) (xc := xc) (hc := hc) (dc := dc) (tc := tc) (sc := sc) (zc := zc) (cc := cc) (wc := wc) hd hcl (hR.below (hbY.mono hB)) (Nat.le_trans hB hbY.size) (hW.below hbY) (hx3.below (hbY.mono hB)) hx4 (hRS.below (hbY.mono hB)) hhn
  have HO := Lib.hid (hO.mono (R' := fun e w' => ∃ B2 P m1 m2, w.heap.size ≤ B2 ∧ Below w.heap.size w w' ∧ e = .returned (.tuple #[.agg #[.pointer (some ⟨P, 0, none⟩), .int .i64 (ta : Int), .slice xA xL.length xc, .int .i64 lo, .int .i64 hi, .slice hA hn hc], .int .i64 0]) ∧ SeaM d zA cA wA dA tA sA cl B2 P m1 m2 #[.int .i64 (d.s.W : Int), .int .i64 (d.s.H : Int), .slice dA d.s.nd dc, .slice tA d.s.nt tc, .slice sA d.s.nt sc, .slice zA d.s.nd zc, .slice cA d.nz cc, .slice wA (d.s.nt - 1) wc, .map (some m1), .map (some m2)] (own3 P m1 m2) w') fun e w' h => by
    obtain ⟨hb, h⟩ := h
    rcases h with ⟨h1, h2⟩ | ⟨h1, h2, h3⟩ | ⟨h1, h2, B2, P, m1, m2, h3, h4, h5⟩
    · rw [hX] at h1; cases h1
    · rw [hS] at h2; cases h2
    · exact ⟨B2, P, m1, m2, Nat.le_trans hbY.size h3, hbY.trans (hb.mono hbY.size), h4, h5⟩)
  have HSQ := Lib.hid (fun (B2 P m1 m2 cb fb : Nat) => leeways1_seq (zA := zA) (cA := cA) (wA := wA) (dA := dA) (tA := tA) (sA := sA) (cl := cl) (B := B2) (P := P) (m1 := m1) (m2 := m2) (dc := dc) (tc := tc) (sc := sc) (zc := zc) (cc := cc) (wc := wc) (cb := cb) (fb := fb) (B' := B) (xc := xc) (hc := hc) (xA := xA) (hA := hA) (Xs := Xs) (fc := 0) (ft := -1) (fl := 0) hd hhn hx1 hx2 hxm hm1 hm2 hl1 hl3 hl2)
  have HPD := Lib.hid (fun (i : Nat) (h : i < m) => plc_done (d := d) (ta := ta) (hn := hn) (xL := xL) (Xs := Xs) (lo := lo) (hi := hi) h)
  have HPL := Lib.hid (fun ls i => plcC_len (d := d) (ta := ta) (n := m) (hn := hn) (xL := xL) (Xs := Xs) (ls := ls) (i := i))
  have HPA := Lib.hid (fun (ls : List Int) (l : Int) (i : Nat) => plcC_app (d := d) (ta := ta) (n := m) (hn := hn) (xL := xL) (Xs := Xs) (ls := ls) (l := l) (i := i))
  have hp0 : ∀ i, plcC d ta m hn xL Xs [] i = [] := fun i => rfl
  obtain ⟨pl, hpl⟩ : ∃ f, f = plcL d ta m hn xL Xs lo hi := ⟨_, rfl⟩
  obtain ⟨pC, hpC⟩ : ∃ f, f = plcC d ta m hn xL Xs := ⟨_, rfl⟩
  obtain ⟨RW, hRW⟩ : ∃ f : Int → Nat → List Int, f = fun l i => M.rwL d ta l (fun c => xL.contains c) (trFit Xs hn ta (-1) 0) (m - 1) i := ⟨_, rfl⟩
  have HRW := Lib.hid hRW
  have HRL := Lib.hid (show ∀ l i, (RW l i).length ≤ 145 from fun l i => by rw [hRW]; have := M.listB_len d.s.nd (M.rowB d ta l (fun c => xL.contains c) (trFit Xs hn ta (-1) 0) (m - 1) i); show (M.rwL d ta l _ _ _ i).length ≤ 145; unfold M.rwL; omega)
  rw [← hpC] at HPD HPL HPA hp0
  rw [← hpl] at HPD
  rw [← hpl]
  have HP0 := Lib.hid hp0
  have HPB := Lib.hid (show ∀ (ls : List Int) (l : Int) (i : Nat), pC (ls ++ [l]) i = pC ls i ++ RW l i from fun ls l i => by rw [HPA.out, hRW])
  have HPN := Lib.hid (show ∀ ls : List Int, ls.length ≤ 8 → ∀ i, (pC ls i).length ≤ 2000 from fun ls h i => by have := HPL.out ls i; have h2 : ls.length * (d.s.nd + 1) ≤ 8 * 145 := Nat.mul_le_mul h (by omega); omega)
  clear hpl hpC hp0 HPA hRW
  obtain ⟨lp, hlp⟩ : ∃ q, q = leeP d ta m hn xL Xs (-1) 0 := ⟨_, rfl⟩
  rw [← hlp] at HPD
  rw [← hlp]
  rw [← hlp] at HSQ
  have HFW := Lib.hid (fun (V : World) (hb : Below w.heap.size w V) => hF.below hb)
  have HRS := Lib.hid hRS
  have HX3 := Lib.hid hx3
  have hll : hi ≤ lo + 8 := by omega
  clear hF hO hbY hlp hR hd hcl hW hx3 hRS hx1 hx2 hX hS hm hm1
  refine (callsIn_wide (n := 4)).1 ?_
  refine callsIn_of_wp_marks Tryd.func10 rfl trivial ?_ rfl
  simp only [Tryd.ntmps10, List.size_toArray, List.length_cons, List.length_nil, Nat.reduceAdd, Nat.reduceSub, Array.replicate_succ, Array.replicate_zero, List.push_toArray, List.append_toArray, List.nil_append, List.cons_append]
  refine wpIn_wide.2 ?_
  go_upto_region 2 with (go_at_call 20; refine HO.out.mono ?_; rintro e w1 ⟨B2, P, m1, m2, hB2, hb, rfl, hM⟩; have HB1 := Lib.hid hb; have HM1 := Lib.hid hM; have HB2 := Lib.hid hB2; clear hb hM hB2)
  have K1 := Lib.hid ((Blk.new w1 63 #[.pointer (some ⟨P, 0, none⟩), .int .i64 (ta : Int), .slice xA xL.length xc, .int .i64 lo, .int .i64 hi, .slice hA hn hc]).alloc (.cells #[.slice none 0 0] 44))
  have KO := Lib.hid (Blk.new1 w1 (.cells #[.pointer (some ⟨P, 0, none⟩), .int .i64 (ta : Int), .slice xA xL.length xc, .int .i64 lo, .int .i64 hi, .slice hA hn hc] 63) 44 #[.slice none 0 0])
  have HM2 := Lib.hid ((HM1.out.alloc (.cells #[.pointer (some ⟨P, 0, none⟩), .int .i64 (ta : Int), .slice xA xL.length xc, .int .i64 lo, .int .i64 hi, .slice hA hn hc] 63)).alloc (.cells #[.slice none 0 0] 44))
  have HBX := Lib.hid ((HB1.out.alloc HB1.out.size (.cells #[.pointer (some ⟨P, 0, none⟩), .int .i64 (ta : Int), .slice xA xL.length xc, .int .i64 lo, .int .i64 hi, .slice hA hn hc] 63)).alloc (by simp; have := HB1.out.size; omega) (.cells #[.slice none 0 0] 44))
  have HSX := Lib.hid HB1.out.size
  go_upto_region 5 with fail
  have HBS := Lib.hid (show B2 ≤ w1.heap.size from HM1.out.b.2.2.2.2)
  generalize hYe : (w1.alloc (.cells #[.pointer (some ⟨P, 0, none⟩), .int .i64 (ta : Int), .slice xA xL.length xc, .int .i64 lo, .int .i64 hi, .slice hA hn hc] 63)).alloc (.cells #[.slice none 0 0] 44) = Y at K1 KO HM2 HBX ⊢
  have hszY : Y.heap.size = w1.heap.size + 2 := by rw [← hYe]; simp
  clear hYe HM1 HB1
  generalize w1.heap.size = S at K1 KO HSX hszY HBS ⊢
  have HSZ := Lib.hid hszY
  clear hszY
  have k0 := K1.out.cell 0
  have k1 := K1.out.cell 1
  have k2 := K1.out.cell 2
  have k3 := K1.out.cell 3
  have k4 := K1.out.cell 4
  have k5 := K1.out.cell 5
  have HFY := Lib.hid (HFW.out _ HBX.out)
  have j0 := HFY.out.c0
  have j1 := HFY.out.c1
  have j2 := HFY.out.c2
  have hLE := leeways_any (P := P) (ta := ta) (xA := xA) (xL := xL) (xc := xc) (lo := lo) (hi := hi) (hA := hA) (hn := hn) (hc := hc) (fc := 0) (ft := -1) (fl := 0) Y
  rw [HSZ.out] at hLE
  have HLE := Lib.hid hLE
  clear hLE
  go_wp2_with (go_at_call 21; go_must (refine HLE.out.mono ?_); rintro e Z ⟨rfl, hk0, hk1, hbz, hzs⟩; have G0 := Lib.hid hk0; have G1 := Lib.hid hk1; have HBZ := Lib.hid hbz; have HZS := Lib.hid hzs; clear hk0 hk1 hbz hzs k0 k1 k2 k3 k4 k5 j0 j1 j2)
  simp only [Nat.add_assoc, Nat.reduceAdd] at *
  have hSX := HSX.out
  have hB2 := HB2.out
  have hZS := HZS.out
  have hsm2 := HM2.out
  have hm1w : w.heap.size ≤ m1 := Nat.le_trans hB2 hsm2.b.2.1
  have hm2w : w.heap.size ≤ m2 := Nat.le_trans hB2 hsm2.b.2.2.1
  have hm1S : m1 < S + 2 := by have := (hsm2.t.2.2.2 m1 hsm2.t.2.1).2; have := HSZ.out; omega
  have hm2S : m2 < S + 2 := by have := (hsm2.t.2.2.2 m2 hsm2.t.2.2.1).2; have := HSZ.out; omega
  have hB2S := HBS.out
  have HYZ := Lib.hid (show Below Y.heap.size Y Z from by rw [HSZ.out]; exact HBZ.out)
  have HWZ := Lib.hid (HBX.out.trans (HBZ.out.mono (by omega)))
  have HSMZ := Lib.hid (SeaT.grown hsm2.canon (below_grown HYZ.out none) fun _ e => by cases e).1
  have HCH := Lib.hid (show ChI d zA cA wA dA tA sA cl B2 P m1 m2 dc tc sc zc cc wc (S + 2) (S + 3) B ta xc hn hc xL lo hi 0 (-1) 0 xA hA Xs Z from ⟨HSMZ.out, G0.out, G1.out, HRS.out.below (HWZ.out.mono hB), HX3.out.below (HWZ.out.mono hB), Nat.le_trans hB HWZ.out.size⟩)
  have HOZ := Lib.hid (KO.out.below' HYZ.out)
  have HI0 := Lib.hid (show PlI d zA cA wA dA tA sA cl B2 P m1 m2 dc tc sc zc cc wc (S + 2) (S + 3) B ta xc hn hc xL lo hi 0 (-1) 0 xA hA Xs w (S + 1) (S + 4) m pC [] Z from ⟨HCH.out, HWZ.out, .inl ⟨rfl, HOZ.out⟩⟩)
  clear hsm2
  have HOWN := Lib.hid (show OwnFrom Z.heap.size (PlI d zA cA wA dA tA sA cl B2 P m1 m2 dc tc sc zc cc wc (S + 2) (S + 3) B ta xc hn hc xL lo hi 0 (-1) 0 xA hA Xs w (S + 1) (S + 4) m pC) from by rw [hZS]; exact PlI.own (by omega) (by omega) (by omega) (by omega) (by omega) (by omega))
  obtain ⟨AX, hAX⟩ : ∃ AX : Int × Nat × (Nat → Value) → Act, AX = fun x => { tmps := #[.agg #[.int .i64 (d.s.W : Int), .int .i64 (d.s.H : Int), .slice dA d.s.nd dc, .slice tA d.s.nt tc, .slice sA d.s.nt sc, .slice zA d.s.nd zc, .slice cA d.nz cc, .slice wA (d.s.nt - 1) wc], .agg #[.int .i64 (ta : Int), .slice xA xL.length xc, .int .i64 lo, .int .i64 hi], .slice hA hn hc, .pointer (some ⟨w.heap.size, 0, none⟩), .pointer (some ⟨w.heap.size + 1, 0, none⟩), undef, .slice none 0 0, .int .i64 0, .pointer (some ⟨S, 0, none⟩), .int .i64 0, .pointer (some ⟨S + 1, 0, none⟩), undef, .slice (some ⟨x.2.1, 0, none⟩) m m, undef, undef, undef, .tuple #[.agg #[.pointer (some ⟨P, 0, none⟩), .int .i64 (ta : Int), .slice xA xL.length xc, .int .i64 lo, .int .i64 hi, .slice hA hn hc], .int .i64 0], .agg #[.int .i64 (d.s.W : Int), .int .i64 (d.s.H : Int), .slice dA d.s.nd dc, .slice tA d.s.nt tc, .slice sA d.s.nt sc, .slice zA d.s.nd zc, .slice cA d.nz cc, .slice wA (d.s.nt - 1) wc], .agg #[.int .i64 (ta : Int), .slice xA xL.length xc, .int .i64 lo, .int .i64 hi], .slice hA hn hc, .tuple #[.agg #[.pointer (some ⟨P, 0, none⟩), .int .i64 (ta : Int), .slice xA xL.length xc, .int .i64 lo, .int .i64 hi, .slice hA hn hc], .int .i64 0], .agg #[.pointer (some ⟨P, 0, none⟩), .int .i64 (ta : Int), .slice xA xL.length xc, .int .i64 lo, .int .i64 hi, .slice hA hn hc], .int .i64 0, .int .i64 0, .bool false, undef, .agg #[.pointer (some ⟨P, 0, none⟩), .int .i64 (ta : Int), .slice xA xL.length xc, .int .i64 lo, .int .i64 hi, .slice hA hn hc], .agg #[.int .i64 0, .int .i64 (-1), .int .i64 0], .func (.func 42) #[] #[.pointer (some ⟨S + 2, 0, none⟩), .pointer (some ⟨S + 3, 0, none⟩)], .int .i64 x.1, .slice (some ⟨x.2.1, 0, none⟩) m m, undef, undef, undef, undef, undef, undef, undef, undef, undef, undef, undef, undef, undef, undef, undef, undef, undef, undef, undef, undef, undef, undef, undef, undef, undef, undef, undef, undef, undef, undef, undef, undef, undef, undef, undef, undef, undef, undef, undef, undef, undef, undef, undef, undef], defers := [] } := ⟨_, rfl⟩
  refine (wpIn_wide (n := 4)).1 ?_
  refine wpIn_rangeFunc_Y (F := Fence.wide) (n := 4) rfl (by omega) (gf := 42) (lb := #[.pointer (some ⟨S + 2, 0, none⟩), .pointer (some ⟨S + 3, 0, none⟩)]) rfl trivial (enters_of Tryd.func42 (by kernel_rfl) rfl) (HSQ.out B2 P m1 m2 (S + 2) (S + 3)) (fun _ => rfl)
    (PlI d zA cA wA dA tA sA cl B2 P m1 m2 dc tc sc zc cc wc (S + 2) (S + 3) B ta xc hn hc xL lo hi 0 (-1) 0 xA hA Xs w (S + 1) (S + 4) m pC) (fun _ _ _ => False) HOWN.out (fun _ _ _ _ _ h _ _ => h) (fun A C h => h.1.keeps (by omega) (by omega)) (fun s A C h hab => h.ab hab hm1w hm2w) (fun _ _ _ _ h _ => h) (fun s A h => h.ch) HI0.out
    (fun W0 x a' W => a' = AX x ∧ S + 4 ≤ W0.heap.size ∧ OldR W0.heap.size (S + 1) m W ∧ SeaT d zA cA wA dA tA sA cl B2 P m1 m2 dc tc sc zc cc wc W ∧ RwO P m1 m2 W0.heap.size x.2.1 m x.2.2 (RW x.1) W)
    (fun W0 x a' s X Y2 row h hg hr => by
      obtain ⟨h1, h2, h3, h4, h5⟩ := h
      have hts := SeaT.grown h4 hg fun r e => ⟨by have := (hr r e).1; omega, by
        obtain ⟨q1, o, q2, q3⟩ := hr r e
        exact ts_notes h4 q1 q2 q3 (by omega) (by omega)⟩
      exact ⟨h1, h2, h3.notes hg hr (by omega), hts.1, h5.notes hg hts.2 hr⟩) ?has ?hbody ?hdone (fun _ _ _ _ _ _ h _ => h.elim)
  case has =>
    intro l pre x W0 V K hi0 hab hyd hI2 hK
    have HK := Lib.hid (hK (AX x) V (KeepsFrom.refl _ _) hI2 ⟨rfl, by have := hi0.ch.kf.lt; omega, hi0.old hab, hI2.ch.sm, hyd.o, fun k hk => by rw [HRW.out]; exact hyd.r k hk, hyd.t, hyd.rt, hyd.rd⟩)
    clear hK
    rw [hAX] at HK
    gi_wp2_with fail
    have h := HK.out
    refine Eq.mp (congrArg (fun a => K a V) ?_) h
    simp
  case hbody =>
    intro l pre x a' W0 V hl hlp' hi0 hI2 ha hlen
    obtain ⟨rfl, hW0, hold, hst, hro⟩ := ha
    obtain ⟨h1, h2, h3⟩ := hI2
    rw [hAX]
    have hVS : S + 4 ≤ V.heap.size := by
      obtain ⟨r, hr⟩ := hlp'
      have := (Array.getElem?_eq_some_iff.1 hr).1
      omega
    obtain ⟨ls, hls⟩ : ∃ ls, ls = pre.map (·.1) := ⟨_, rfl⟩
    rw [← hls] at h3
    have hlsn : ls.length ≤ 8 := by rw [hls, List.length_map]; omega
    have HQQ := Lib.hid (show ∀ i, pC ((pre ++ [x]).map (·.1)) i = pC ls i ++ RW x.1 i from fun i => by rw [List.map_append, ← hls]; exact HPB.out ls x.1 i)
    have hnil : pre = [] → ls = [] := fun h => by rw [hls, h]; rfl
    obtain ⟨gr, hgr⟩ : ∃ g, g = x.2.1 := ⟨_, rfl⟩
    rw [← hgr] at hro
    dsimp only
    rw [← hgr]
    have HCHV := Lib.hid h1
    have HBWV := Lib.hid h2
    have HRO := Lib.hid hro
    have HOLD := Lib.hid hold
    have hm0 : 0 < m := by omega
    clear hls hgr hro hst hold hi0 h1 h2
    rcases h3 with ⟨hp0, hk⟩ | ⟨hp0, ow, U, hpb⟩
    · have hls0 := hnil hp0
      have x0 := hk.cell 0
      have f0 := hk.frz 0
      have hnn := eql_nilR_nil
      have HK := Lib.hid hk
      clear hk hp0 hnil
      subst hls0
      gi_wp2_with (gi_at_make; go_must (refine wpListIn_mkrows _ rfl (.tmp 34) (.tmp 34) rfl m hm60 rfl rfl ?_); intro w6 ho6 hg6 hz6; have HO6 := Lib.hid ho6; have HG6 := Lib.hid hg6; have HK6 := Lib.hid (HK.out.grown hg6 (by simp)); clear ho6 hg6 x0 f0; have x0 := HK6.out.cell 0; have f0 := HK6.out.frz 0)
      have hgs := grownBy_setCell' w6 (S + 1) (.slice (some ⟨V.heap.size, 0, none⟩) m m)
      have c6 := HCHV.out.grown HG6.out fun r e => by cases e
      have t6 := SeaT.grown HCHV.out.sm HG6.out fun r e => by cases e
      have n6 : ¬ TS P m1 m2 w6 (S + 1) := not_ts c6.sm HK6.out (by decide) (by decide)
      have t7 := SeaT.grown c6.sm hgs fun r e => by cases e; exact ⟨by omega, n6⟩
      have hgrl : W0.heap.size ≤ gr := (Own.block (g := gr) HRO.out.o rfl).1
      have hgrv : gr < V.heap.size := (Own.block (g := gr) HRO.out.o rfl).2
      have HL := Lib.hid (show PlB d zA cA wA dA tA sA cl B2 P m1 m2 dc tc sc zc cc wc (S + 2) (S + 3) B ta xc hn hc xL lo hi 0 (-1) 0 xA hA Xs w (S + 1) (S + 4) V.heap.size m (fun _ => Value.slice none 0 0) (pC []) (w6.setCell ⟨S + 1, 0, none⟩ (.slice (some ⟨V.heap.size, 0, none⟩) m m)) ∧ RwO P m1 m2 W0.heap.size gr m x.2.2 (RW x.1) (w6.setCell ⟨S + 1, 0, none⟩ (.slice (some ⟨V.heap.size, 0, none⟩) m m)) ∧ V.heap.size ≠ gr ∧ (∀ i, i < m → ∀ g, ((fun _ => Value.slice none 0 0) i).ownBlock = some g → g < W0.heap.size) ∧ KeepsFrom Z.heap.size V (w6.setCell ⟨S + 1, 0, none⟩ (.slice (some ⟨V.heap.size, 0, none⟩) m m)) from
        ⟨⟨c6.grown hgs fun r e => by cases e; exact ⟨by omega, n6, by omega, by omega, by omega⟩, (HBWV.out.grown HG6.out HBWV.out.size fun r e => by cases e).setCell (p := ⟨S + 1, 0, none⟩) (by show w.heap.size ≤ S + 1; omega) _, HK6.out.set_ 0 _,
          ⟨Own.setCell (Own.less HO6.out (by omega)) (p := ⟨S + 1, 0, none⟩) (by simp [Value.ownBlock]; omega) _, fun k hk => by rw [HP0.out]; exact Own.nil_, fun h => by have := (HCHV.out.sm.t.2.2.2 _ (t6.2 _ (t7.2 _ h))).2; omega, fun k hk g e => by simp [Value.ownBlock] at e, fun k j _ _ _ g e => by simp [Value.ownBlock] at e⟩⟩,
        (HRO.out.grown HG6.out t6.2 fun r e => by cases e).grown hgs t7.2 (fun r e => by cases e; exact ⟨by omega, fun k hk e2 => by have := (Own.block (HRO.out.r k hk) e2).1; omega⟩), by omega, fun i hi g e => by simp [Value.ownBlock] at e, (KeepsFrom.of_grownBy HG6.out fun _ e => by cases e).trans (Blk.keepsSet HK6.out 0 _ _)⟩)
      clear hgs c6 t6 n6 t7 x0 f0 HK6 HO6 HG6 HK HCHV HBWV HRO HOLD hnn
      generalize (w6.setCell ⟨S + 1, 0, none⟩ (.slice (some ⟨V.heap.size, 0, none⟩) m m)) = Y1 at HL ⊢
      have hln : ([] : List Int).length ≤ 8 := by simp
      gi_loopw [38] (fun i wr => ∃ (k : Nat) (U2 : Nat → Value), k ≤ m ∧ i = .int .i64 (k : Int) ∧ Hid (PlB d zA cA wA dA tA sA cl B2 P m1 m2 dc tc sc zc cc wc (S + 2) (S + 3) B ta xc hn hc xL lo hi 0 (-1) 0 xA hA Xs w (S + 1) (S + 4) V.heap.size m U2 (fun i => if i < k then pC [] i ++ RW x.1 i else pC [] i) wr ∧ RwO P m1 m2 W0.heap.size gr m x.2.2 (RW x.1) wr ∧ (∀ i, k ≤ i → i < m → ∀ g, (U2 i).ownBlock = some g → g < W0.heap.size) ∧ KeepsFrom Z.heap.size V wr)) (fun i _ => m - (intOf i).toNat)
      case atStart => exact ⟨0, (fun _ => Value.slice none 0 0), Nat.zero_le _, rfl, Lib.hid ⟨HL.out.1.congr fun k _ => (if_neg (Nat.not_lt_zero k)).symm, HL.out.2.1, fun i _ hi => HL.out.2.2.2.1 i hi, HL.out.2.2.2.2⟩⟩
      case round =>
        obtain ⟨k, U2, hk, rfl, HS⟩ := hrel
        have hne : V.heap.size ≠ gr := HL.out.2.2.1
        clear HL
        by_cases hlt : k < m
        · have kx : decide (m ≤ k) = false := decide_eq_false (by omega)
          have hrk := HS.out.2.1.r k hlt
          obtain ⟨yA, yc, hy⟩ := Own.form hrk
          have c0 : wr.cell? ⟨gr, k, none⟩ = some (.slice yA (RW x.1 k).length yc) := by rw [← hy]; exact Own.cell1 HS.out.2.1.o hlt
          have huk := HS.out.1.ro.r k hlt
          rw [if_neg (Nat.lt_irrefl k)] at huk
          obtain ⟨uA, uc, hu⟩ := Own.form huk
          have c1 : wr.cell? ⟨V.heap.size, k, none⟩ = some (.slice uA (pC [] k).length uc) := by rw [← hu]; exact Own.cell1 HS.out.1.ro.o hlt
          have b0 := HS.out.1.kb.cell 0
          have HUK := Lib.hid huk
          have HU := Lib.hid hu
          have HYK := Lib.hid (show Rd1 wr wr.heap.size yA (RW x.1 k).length (fun j => (RW x.1 k).getD j 0) from by rw [hy] at hrk; exact IL.rd hrk)
          have HC1 := Lib.hid c1
          clear hrk hy huk hu c1
          gi_wp2_with fail
          refine wpIn_region_TI 9 (fun Z2 => Z2.cell? ⟨S + 1, 0, none⟩ = some (.slice (some ⟨V.heap.size, 0, none⟩) m m) ∧ Z2.cell? ⟨V.heap.size, k, none⟩ = some (.slice uA (pC [] k).length uc)) (by kernel_rfl) ⟨b0, HC1.out⟩ ?_
          clear b0
          intro hS
          refine wpAnyTI_takeP (i := 0) (v := ?_) (PlainOps.of_nd (by kernel_rfl)) rfl (by kernel_rfl) (by kernel_rfl) (by kernel_rfl) (by kernel_rfl) (by kernel_rfl) (fun _ _ _ h => h) (.inl ⟨by kernel_rfl, ?_⟩) (fun _ => rfl) hS ?_
          rotate_left
          · (intro w' hw; obtain ⟨h1, h2⟩ := hw; go_simp; try with_reducible rfl)
          try simp only [put_laws]
          refine wpAnyTI_takeP (i := 1) (v := ?_) (PlainOps.of_nd (by kernel_rfl)) rfl (by kernel_rfl) (by kernel_rfl) (by kernel_rfl) (by kernel_rfl) (by kernel_rfl) (fun _ _ _ h => h) (.inl ⟨by kernel_rfl, ?_⟩) (fun _ => rfl) hS ?_
          rotate_left
          · (intro w' hw; obtain ⟨h1, h2⟩ := hw; go_simp; try with_reducible rfl)
          try simp only [put_laws]
          refine wpAnyTI_takeP (i := 2) (v := ?_) (PlainOps.of_nd (by kernel_rfl)) rfl (by kernel_rfl) (by kernel_rfl) (by kernel_rfl) (by kernel_rfl) (by kernel_rfl) (fun _ _ _ h => h) (.inl ⟨by kernel_rfl, ?_⟩) (fun _ => rfl) hS ?_
          rotate_left
          · (intro w' hw; obtain ⟨h1, h2⟩ := hw; go_simp; try with_reducible rfl)
          try simp only [put_laws]
          refine wpAnyTI_takeP (i := 3) (v := ?_) (PlainOps.of_nd (by kernel_rfl)) rfl (by kernel_rfl) (by kernel_rfl) (by kernel_rfl) (by kernel_rfl) (by kernel_rfl) (fun _ _ _ h => h) (.inl ⟨by kernel_rfl, ?_⟩) (fun _ => rfl) hS ?_
          rotate_left
          · (intro w' hw; obtain ⟨h1, h2⟩ := hw; go_simp; try with_reducible rfl)
          try simp only [put_laws]
          refine wpAnyTI_takeP (i := 4) (v := ?_) (PlainOps.of_nd (by kernel_rfl)) rfl (by kernel_rfl) (by kernel_rfl) (by kernel_rfl) (by kernel_rfl) (by kernel_rfl) (fun _ _ _ h => h) (.inl ⟨by kernel_rfl, ?_⟩) (fun _ => rfl) hS ?_
          rotate_left
          · (intro w' hw; obtain ⟨h1, h2⟩ := hw; go_simp; try with_reducible rfl)
          try simp only [put_laws]
          refine wpAnyTI_takeP (i := 5) (v := ?_) (PlainOps.of_nd (by kernel_rfl)) rfl (by kernel_rfl) (by kernel_rfl) (by kernel_rfl) (by kernel_rfl) (by kernel_rfl) (fun _ _ _ h => h) (.inl ⟨by kernel_rfl, ?_⟩) (fun _ => rfl) hS ?_
          rotate_left
          · (intro w' hw; obtain ⟨h1, h2⟩ := hw; go_simp; try with_reducible rfl)
          try simp only [put_laws]
          refine wpAnyTI_takeP (i := 6) (v := ?_) (PlainOps.of_nd (by kernel_rfl)) rfl (by kernel_rfl) (by kernel_rfl) (by kernel_rfl) (by kernel_rfl) (by kernel_rfl) (fun _ _ _ h => h) (.inl ⟨by kernel_rfl, ?_⟩) (fun _ => rfl) hS ?_
          rotate_left
          · (intro w' hw; obtain ⟨h1, h2⟩ := hw; go_simp; try with_reducible rfl)
          try simp only [put_laws]
          obtain ⟨v2, w2, hrun, hil2, hg2, hat2⟩ := run_catI wr.drew 22 (v := .slice uA (pC [] k).length uc) (L := pC [] k) (L2 := RW x.1 k) (B := S + 4) (Own.drew (show IL wr (S + 4) (.slice uA (pC [] k).length uc) (pC [] k) from by rw [← HU.out]; exact HUK.out)) (by have := HPN.out [] hln k; have := HRL.out x.1 k; omega) (by have := HS.out.1.kb.lt; have := (Own.block (g := V.heap.size) HS.out.1.ro.o rfl); show S + 4 ≤ wr.heap.size; omega) (c := yc) (B2 := wr.heap.size) HYK.out (by have := HRL.out x.1 k; omega)
          obtain ⟨vA, vc, hv2⟩ := Own.form hil2
          subst hv2
          obtain ⟨vn, hvn⟩ : ∃ vn, vn = (pC [] k ++ RW x.1 k).length := ⟨_, rfl⟩
          rw [← hvn] at hrun hil2 hat2
          have HVN := Lib.hid hvn
          clear hvn
          have hgU : wr.drew.grownBy w2 (U2 k).ownBlock := by rw [HU.out]; exact hg2
          have HIL2 := Lib.hid hil2
          have HG2 := Lib.hid hgU
          have HAT2 := Lib.hid (show (Value.slice vA vn vc).ownBlock = (U2 k).ownBlock ∨ ∃ g, (Value.slice vA vn vc).ownBlock = some g ∧ wr.drew.heap.size ≤ g from by
            rcases hat2 with h | h
            · exact .inl (by rw [HU.out]; exact h)
            · exact .inr ⟨_, h, Nat.le_refl _⟩)
          have hdr : Below wr.heap.size wr wr.drew := (Below.refl _ _).drew
          have HD1 := Lib.hid (HS.out.1.below hdr)
          have HR1 := Lib.hid (HS.out.2.1.grown (below_grown hdr none) (SeaT.grown HS.out.1.ch.sm (below_grown hdr none) fun _ e => by cases e).2 fun r e => by cases e)
          have ho2 := Own.grown HD1.out.ro.o hgU (.inr fun e => HD1.out.ro.ne hlt e.symm)
          have n9 := Own.cell1 ho2 hlt
          rw [HU.out] at n9
          have f9 := Own.frz ho2 k
          have hob9 : some (S + 1) ≠ (U2 k).ownBlock := fun e => by have := (Own.block (HD1.out.ro.r k hlt) e.symm).1; omega
          have b9 := (HD1.out.kb.grown hgU hob9).cell 0
          clear hil2 hg2 hat2 hgU ho2 hS
          refine wpAnyTI_one (i := 7) (by kernel_rfl) rfl ?_
          intro K' hK'
          simp only [put_laws, List.getElem_toArray, List.getElem_cons_succ, List.getElem_cons_zero]
          refine step_appI (v := .slice uA (pC [] k).length uc) (v2 := .slice yA (RW x.1 k).length yc) (v' := .slice vA vn vc) (w' := w2) ?_ (.tmp 48) (.tmp 49) 22 ?_ ?_ ?_ ?_ ?_
          · rfl
          · rfl
          · rfl
          · rfl
          · exact hrun
          refine hK'.out _ _ (.inr ⟨b9, n9⟩) ?_
          clear hK' K'
          try simp only [put_laws]
          clear hrun
          refine wpAnyTI_one (i := 8) (by kernel_rfl) rfl ?_
          intro K' hK'
          go_simp
          refine hK'.out _ _ (.inr ⟨b9, n9⟩) ?_
          clear hK' K'
          try simp only [put_laws]
          refine wpAnyTI_one (i := 9) (by kernel_rfl) rfl ?_
          intro K' hK'
          go_simp
          refine hK'.out _ _ (.inl rfl) ?_
          clear hK' K'
          try simp only [put_laws]
          refine wpAnyTI_done (by kernel_rfl) ?_ _
          gi_wp2_with fail
          go_roundw
          case rel =>
            have hsr := HD1.out.setRow hlt HG2.out HIL2.out HAT2.out (by omega) (by omega) (by omega) (by omega) (by omega) (by omega)
            have ts2 := SeaT.grown HD1.out.ch.sm HG2.out fun r e => ⟨by have := (Own.block (HD1.out.ro.r k hlt) e).1; omega, HD1.out.ro.rt k hlt r e⟩
            have hgr9 : W0.heap.size ≤ gr := (Own.block (g := gr) HR1.out.o rfl).1
            have hr2 := HR1.out.grown HG2.out ts2.2 fun r e => by
              have h9 := HS.out.2.2.1 k (Nat.le_refl _) hlt r e
              exact ⟨by omega, fun q hq e2 => by have := (Own.block (HR1.out.r q hq) e2).1; omega⟩
            obtain ⟨cs9, hb9⟩ := Own.blk (Own.grown HD1.out.ro.o HG2.out (.inr fun e => HD1.out.ro.ne hlt e.symm))
            have hgs9 : w2.grownBy (w2.setCell ⟨V.heap.size, k, none⟩ (.slice vA vn vc)) (some V.heap.size) := ⟨rfl, rfl, rfl, (KeepsWalks.setCell _ _ _).size, fun q _ hq => Below.heap_setCell _ _ _ q (fun e => hq (by rw [e]))⟩
            have ts3 := SeaT.grown ts2.1 hgs9 fun r e => by cases e; exact ⟨by have := (Own.block (g := V.heap.size) HD1.out.ro.o rfl).1; omega, fun h => HD1.out.ro.t (ts2.2 _ h)⟩
            have hr3 := hr2.grown hgs9 ts3.2 fun r e => by
              cases e
              exact ⟨hne, fun q hq => Own.ne_blk (hr2.r q hq) hb9 (by decide)⟩
            refine ⟨k + 1, fun i => if i = k then .slice vA vn vc else U2 i, by omega, by go_num, Lib.hid ⟨hsr.1.congr fun q _ => ?_, hr3, fun q hq hqm g e => ?_, HS.out.2.2.2.trans ((KeepsFrom.of_grownBy (below_grown hdr none) fun _ e => by cases e).trans (hsr.2 _))⟩⟩
            · by_cases e : q = k
              · subst e; rw [if_pos rfl, if_pos (by omega)]
              · rw [if_neg e]
                by_cases e2 : q < k
                · rw [if_pos e2, if_pos (by omega)]
                · rw [if_neg e2, if_neg (by omega)]
            · simp only [show ¬ q = k by omega, if_false] at e
              exact HS.out.2.2.1 q (by omega) hqm g e
          case measure => simp [intOf]; omega
        · have hkm : m = k := by omega
          subst hkm
          gi_wp2_with fail
          exact ⟨HS.out.2.2.2, HS.out.1.ch, HS.out.1.bw, .inr ⟨by simp, V.heap.size, U2, HS.out.1.congr fun q hq => by rw [if_pos hq, HQQ.out]⟩⟩
    · have x0 := hpb.kb.cell 0
      have f0 := hpb.kb.frz 0
      have hsn := eql_someR_nil
      have HPBV := Lib.hid hpb
      clear hpb hp0 hnil
      gi_wp2_with fail
      have hat := HOLD.out.at_ HPBV.out.kb HPBV.out.ro.o
      have hgrl : W0.heap.size ≤ gr := (Own.block (g := gr) HRO.out.o rfl).1
      have HL := Lib.hid (show PlB d zA cA wA dA tA sA cl B2 P m1 m2 dc tc sc zc cc wc (S + 2) (S + 3) B ta xc hn hc xL lo hi 0 (-1) 0 xA hA Xs w (S + 1) (S + 4) ow m U (pC ls) V ∧ RwO P m1 m2 W0.heap.size gr m x.2.2 (RW x.1) V ∧ ow ≠ gr ∧ (∀ i, i < m → ∀ g, (U i).ownBlock = some g → g < W0.heap.size) ∧ KeepsFrom Z.heap.size V V from ⟨HPBV.out, HRO.out, by omega, hat.2, KeepsFrom.refl _ _⟩)
      clear hat x0 f0 HPBV HCHV HBWV HRO HOLD hsn
      have hln : ls.length ≤ 8 := hlsn
      gi_loopw [38] (fun i wr => ∃ (k : Nat) (U2 : Nat → Value), k ≤ m ∧ i = .int .i64 (k : Int) ∧ Hid (PlB d zA cA wA dA tA sA cl B2 P m1 m2 dc tc sc zc cc wc (S + 2) (S + 3) B ta xc hn hc xL lo hi 0 (-1) 0 xA hA Xs w (S + 1) (S + 4) ow m U2 (fun i => if i < k then pC ls i ++ RW x.1 i else pC ls i) wr ∧ RwO P m1 m2 W0.heap.size gr m x.2.2 (RW x.1) wr ∧ (∀ i, k ≤ i → i < m → ∀ g, (U2 i).ownBlock = some g → g < W0.heap.size) ∧ KeepsFrom Z.heap.size V wr)) (fun i _ => m - (intOf i).toNat)
      case atStart => exact ⟨0, U, Nat.zero_le _, rfl, Lib.hid ⟨HL.out.1.congr fun k _ => (if_neg (Nat.not_lt_zero k)).symm, HL.out.2.1, fun i _ hi => HL.out.2.2.2.1 i hi, HL.out.2.2.2.2⟩⟩
      case round =>
        obtain ⟨k, U2, hk, rfl, HS⟩ := hrel
        have hne : ow ≠ gr := HL.out.2.2.1
        clear HL
        by_cases hlt : k < m
        · have kx : decide (m ≤ k) = false := decide_eq_false (by omega)
          have hrk := HS.out.2.1.r k hlt
          obtain ⟨yA, yc, hy⟩ := Own.form hrk
          have c0 : wr.cell? ⟨gr, k, none⟩ = some (.slice yA (RW x.1 k).length yc) := by rw [← hy]; exact Own.cell1 HS.out.2.1.o hlt
          have huk := HS.out.1.ro.r k hlt
          rw [if_neg (Nat.lt_irrefl k)] at huk
          obtain ⟨uA, uc, hu⟩ := Own.form huk
          have c1 : wr.cell? ⟨ow, k, none⟩ = some (.slice uA (pC ls k).length uc) := by rw [← hu]; exact Own.cell1 HS.out.1.ro.o hlt
          have b0 := HS.out.1.kb.cell 0
          have HUK := Lib.hid huk
          have HU := Lib.hid hu
          have HYK := Lib.hid (show Rd1 wr wr.heap.size yA (RW x.1 k).length (fun j => (RW x.1 k).getD j 0) from by rw [hy] at hrk; exact IL.rd hrk)
          have HC1 := Lib.hid c1
          clear hrk hy huk hu c1
          gi_wp2_with fail
          refine wpIn_region_TI 9 (fun Z2 => Z2.cell? ⟨S + 1, 0, none⟩ = some (.slice (some ⟨ow, 0, none⟩) m m) ∧ Z2.cell? ⟨ow, k, none⟩ = some (.slice uA (pC ls k).length uc)) (by kernel_rfl) ⟨b0, HC1.out⟩ ?_
          clear b0
          intro hS
          refine wpAnyTI_takeP (i := 0) (v := ?_) (PlainOps.of_nd (by kernel_rfl)) rfl (by kernel_rfl) (by kernel_rfl) (by kernel_rfl) (by kernel_rfl) (by kernel_rfl) (fun _ _ _ h => h) (.inl ⟨by kernel_rfl, ?_⟩) (fun _ => rfl) hS ?_
          rotate_left
          · (intro w' hw; obtain ⟨h1, h2⟩ := hw; go_simp; try with_reducible rfl)
          try simp only [put_laws]
          refine wpAnyTI_takeP (i := 1) (v := ?_) (PlainOps.of_nd (by kernel_rfl)) rfl (by kernel_rfl) (by kernel_rfl) (by kernel_rfl) (by kernel_rfl) (by kernel_rfl) (fun _ _ _ h => h) (.inl ⟨by kernel_rfl, ?_⟩) (fun _ => rfl) hS ?_
          rotate_left
          · (intro w' hw; obtain ⟨h1, h2⟩ := hw; go_simp; try with_reducible rfl)
          try simp only [put_laws]
          refine wpAnyTI_takeP (i := 2) (v := ?_) (PlainOps.of_nd (by kernel_rfl)) rfl (by kernel_rfl) (by kernel_rfl) (by kernel_rfl) (by kernel_rfl) (by kernel_rfl) (fun _ _ _ h => h) (.inl ⟨by kernel_rfl, ?_⟩) (fun _ => rfl) hS ?_
          rotate_left
          · (intro w' hw; obtain ⟨h1, h2⟩ := hw; go_simp; try with_reducible rfl)
          try simp only [put_laws]
          refine wpAnyTI_takeP (i := 3) (v := ?_) (PlainOps.of_nd (by kernel_rfl)) rfl (by kernel_rfl) (by kernel_rfl) (by kernel_rfl) (by kernel_rfl) (by kernel_rfl) (fun _ _ _ h => h) (.inl ⟨by kernel_rfl, ?_⟩) (fun _ => rfl) hS ?_
          rotate_left
          · (intro w' hw; obtain ⟨h1, h2⟩ := hw; go_simp; try with_reducible rfl)
          try simp only [put_laws]
          refine wpAnyTI_takeP (i := 4) (v := ?_) (PlainOps.of_nd (by kernel_rfl)) rfl (by kernel_rfl) (by kernel_rfl) (by kernel_rfl) (by kernel_rfl) (by kernel_rfl) (fun _ _ _ h => h) (.inl ⟨by kernel_rfl, ?_⟩) (fun _ => rfl) hS ?_
          rotate_left
          · (intro w' hw; obtain ⟨h1, h2⟩ := hw; go_simp; try with_reducible rfl)
          try simp only [put_laws]
          refine wpAnyTI_takeP (i := 5) (v := ?_) (PlainOps.of_nd (by kernel_rfl)) rfl (by kernel_rfl) (by kernel_rfl) (by kernel_rfl) (by kernel_rfl) (by kernel_rfl) (fun _ _ _ h => h) (.inl ⟨by kernel_rfl, ?_⟩) (fun _ => rfl) hS ?_
          rotate_left
          · (intro w' hw; obtain ⟨h1, h2⟩ := hw; go_simp; try with_reducible rfl)
          try simp only [put_laws]
          refine wpAnyTI_takeP (i := 6) (v := ?_) (PlainOps.of_nd (by kernel_rfl)) rfl (by kernel_rfl) (by kernel_rfl) (by kernel_rfl) (by kernel_rfl) (by kernel_rfl) (fun _ _ _ h => h) (.inl ⟨by kernel_rfl, ?_⟩) (fun _ => rfl) hS ?_
          rotate_left
          · (intro w' hw; obtain ⟨h1, h2⟩ := hw; go_simp; try with_reducible rfl)
          try simp only [put_laws]
          obtain ⟨v2, w2, hrun, hil2, hg2, hat2⟩ := run_catI wr.drew 22 (v := .slice uA (pC ls k).length uc) (L := pC ls k) (L2 := RW x.1 k) (B := S + 4) (Own.drew (show IL wr (S + 4) (.slice uA (pC ls k).length uc) (pC ls k) from by rw [← HU.out]; exact HUK.out)) (by have := HPN.out ls hln k; have := HRL.out x.1 k; omega) (by have := HS.out.1.kb.lt; have := (Own.block (g := ow) HS.out.1.ro.o rfl); show S + 4 ≤ wr.heap.size; omega) (c := yc) (B2 := wr.heap.size) HYK.out (by have := HRL.out x.1 k; omega)
          obtain ⟨vA, vc, hv2⟩ := Own.form hil2
          subst hv2
          obtain ⟨vn, hvn⟩ : ∃ vn, vn = (pC ls k ++ RW x.1 k).length := ⟨_, rfl⟩
          rw [← hvn] at hrun hil2 hat2
          have HVN := Lib.hid hvn
          clear hvn
          have hgU : wr.drew.grownBy w2 (U2 k).ownBlock := by rw [HU.out]; exact hg2
          have HIL2 := Lib.hid hil2
          have HG2 := Lib.hid hgU
          have HAT2 := Lib.hid (show (Value.slice vA vn vc).ownBlock = (U2 k).ownBlock ∨ ∃ g, (Value.slice vA vn vc).ownBlock = some g ∧ wr.drew.heap.size ≤ g from by
            rcases hat2 with h | h
            · exact .inl (by rw [HU.out]; exact h)
            · exact .inr ⟨_, h, Nat.le_refl _⟩)
          have hdr : Below wr.heap.size wr wr.drew := (Below.refl _ _).drew
          have HD1 := Lib.hid (HS.out.1.below hdr)
          have HR1 := Lib.hid (HS.out.2.1.grown (below_grown hdr none) (SeaT.grown HS.out.1.ch.sm (below_grown hdr none) fun _ e => by cases e).2 fun r e => by cases e)
          have ho2 := Own.grown HD1.out.ro.o hgU (.inr fun e => HD1.out.ro.ne hlt e.symm)
          have n9 := Own.cell1 ho2 hlt
          rw [HU.out] at n9
          have f9 := Own.frz ho2 k
          have hob9 : some (S + 1) ≠ (U2 k).ownBlock := fun e => by have := (Own.block (HD1.out.ro.r k hlt) e.symm).1; omega
          have b9 := (HD1.out.kb.grown hgU hob9).cell 0
          clear hil2 hg2 hat2 hgU ho2 hS
          refine wpAnyTI_one (i := 7) (by kernel_rfl) rfl ?_
          intro K' hK'
          simp only [put_laws, List.getElem_toArray, List.getElem_cons_succ, List.getElem_cons_zero]
          refine step_appI (v := .slice uA (pC ls k).length uc) (v2 := .slice yA (RW x.1 k).length yc) (v' := .slice vA vn vc) (w' := w2) ?_ (.tmp 48) (.tmp 49) 22 ?_ ?_ ?_ ?_ ?_
          · rfl
          · rfl
          · rfl
          · rfl
          · exact hrun
          refine hK'.out _ _ (.inr ⟨b9, n9⟩) ?_
          clear hK' K'
          try simp only [put_laws]
          clear hrun
          refine wpAnyTI_one (i := 8) (by kernel_rfl) rfl ?_
          intro K' hK'
          go_simp
          refine hK'.out _ _ (.inr ⟨b9, n9⟩) ?_
          clear hK' K'
          try simp only [put_laws]
          refine wpAnyTI_one (i := 9) (by kernel_rfl) rfl ?_
          intro K' hK'
          go_simp
          refine hK'.out _ _ (.inl rfl) ?_
          clear hK' K'
          try simp only [put_laws]
          refine wpAnyTI_done (by kernel_rfl) ?_ _
          gi_wp2_with fail
          go_roundw
          case rel =>
            have hsr := HD1.out.setRow hlt HG2.out HIL2.out HAT2.out (by omega) (by omega) (by omega) (by omega) (by omega) (by omega)
            have ts2 := SeaT.grown HD1.out.ch.sm HG2.out fun r e => ⟨by have := (Own.block (HD1.out.ro.r k hlt) e).1; omega, HD1.out.ro.rt k hlt r e⟩
            have hgr9 : W0.heap.size ≤ gr := (Own.block (g := gr) HR1.out.o rfl).1
            have hr2 := HR1.out.grown HG2.out ts2.2 fun r e => by
              have h9 := HS.out.2.2.1 k (Nat.le_refl _) hlt r e
              exact ⟨by omega, fun q hq e2 => by have := (Own.block (HR1.out.r q hq) e2).1; omega⟩
            obtain ⟨cs9, hb9⟩ := Own.blk (Own.grown HD1.out.ro.o HG2.out (.inr fun e => HD1.out.ro.ne hlt e.symm))
            have hgs9 : w2.grownBy (w2.setCell ⟨ow, k, none⟩ (.slice vA vn vc)) (some ow) := ⟨rfl, rfl, rfl, (KeepsWalks.setCell _ _ _).size, fun q _ hq => Below.heap_setCell _ _ _ q (fun e => hq (by rw [e]))⟩
            have ts3 := SeaT.grown ts2.1 hgs9 fun r e => by cases e; exact ⟨by have := (Own.block (g := ow) HD1.out.ro.o rfl).1; omega, fun h => HD1.out.ro.t (ts2.2 _ h)⟩
            have hr3 := hr2.grown hgs9 ts3.2 fun r e => by
              cases e
              exact ⟨hne, fun q hq => Own.ne_blk (hr2.r q hq) hb9 (by decide)⟩
            refine ⟨k + 1, fun i => if i = k then .slice vA vn vc else U2 i, by omega, by go_num, Lib.hid ⟨hsr.1.congr fun q _ => ?_, hr3, fun q hq hqm g e => ?_, HS.out.2.2.2.trans ((KeepsFrom.of_grownBy (below_grown hdr none) fun _ e => by cases e).trans (hsr.2 _))⟩⟩
            · by_cases e : q = k
              · subst e; rw [if_pos rfl, if_pos (by omega)]
              · rw [if_neg e]
                by_cases e2 : q < k
                · rw [if_pos e2, if_pos (by omega)]
                · rw [if_neg e2, if_neg (by omega)]
            · simp only [show ¬ q = k by omega, if_false] at e
              exact HS.out.2.2.1 q (by omega) hqm g e
          case measure => simp [intOf]; omega
        · have hkm : m = k := by omega
          subst hkm
          gi_wp2_with fail
          exact ⟨HS.out.2.2.2, HS.out.1.ch, HS.out.1.bw, .inr ⟨by simp, ow, U2, HS.out.1.congr fun q hq => by rw [if_pos hq, HQQ.out]⟩⟩
  case hdone =>
    intro D xs V hD hS hI2 hdf
    obtain ⟨h1, h2, h3⟩ := hI2
    obtain ⟨ls, hls⟩ : ∃ ls, ls = xs.map (·.1) := ⟨_, rfl⟩
    rw [← hls] at h3 hS
    have hxs : xs = [] → ls = [] := fun h => by rw [hls, h]; rfl
    have hxs2 : xs ≠ [] → ls ≠ [] := fun h h9 => h (by rw [hls] at h9; simpa using h9)
    have HDF := Lib.hid hdf
    have HBWV := Lib.hid h2
    have HLX := Lib.hid hS
    clear hls hdf h1 h2 hS
    rcases h3 with ⟨hp0, hk⟩ | ⟨hp0, ow, U, hpb⟩
    · have HE := Lib.hid (show M.spanL lo hi lp = [] from by rw [← HLX.out]; exact hxs hp0)
      have x0 := hk.cell 0
      have hnn := eql_nilR_nil
      clear hk hp0 hxs hxs2
      go_wp2_with fail
      refine leaves_marks (lo := S + 4) [D] V ⟨by omega, HDF.out, fun x hx => (by cases hx), trivial⟩ fun w' hk => ⟨.tuple #[.slice none 0 0, .int .i64 3], by simp [results, Tryd.f10, go_sem], ?_⟩
      have k1 := hk (fun _ X => Below w.heap.size w X) (fun _ X Y row hs hg hr => hs.grown hg hs.size fun r e => by have := (hr r e).1; omega) HBWV.out
      exact ⟨k1, .inl ⟨HE.out, rfl⟩⟩
    · have HE := Lib.hid (show M.spanL lo hi lp ≠ [] from by rw [← HLX.out]; exact hxs2 hp0)
      have HLN := Lib.hid (show ∀ i, (pC ls i).length ≤ 1500 from fun i => by
        have h1 := HPL.out ls i
        have h2 : ls.length ≤ 9 := by rw [HLX.out]; have := M.spanL_len (lo := lo) (hi := hi) (p := lp); omega
        have h3 : ls.length * (d.s.nd + 1) ≤ 9 * 145 := Nat.mul_le_mul h2 (by omega)
        omega)
      have HPK := Lib.hid (show ∀ i, i < m → Lib.compact ((pC ls i).mergeSort M.leI) = pl i from fun i hi => by rw [HLX.out]; exact HPD.out i hi)
      have x0 := hpb.kb.cell 0
      have hsn := eql_someR_nil
      have HPBV := Lib.hid hpb
      clear hpb hp0 hxs hxs2
      go_wp2_with fail
      go_loopw [57] (fun i wr => ∃ (k : Nat) (U2 : Nat → Value), k ≤ m ∧ i = .int .i64 (k : Int) ∧ Hid (PlB d zA cA wA dA tA sA cl B2 P m1 m2 dc tc sc zc cc wc (S + 2) (S + 3) B ta xc hn hc xL lo hi 0 (-1) 0 xA hA Xs w (S + 1) (S + 4) ow m U2 (fun i => if i < k then pl i else pC ls i) wr ∧ KeepsFrom Z.heap.size V wr)) (fun i _ => m - (intOf i).toNat)
      case atStart => exact ⟨0, U, Nat.zero_le _, rfl, Lib.hid ⟨HPBV.out.congr fun k _ => (if_neg (Nat.not_lt_zero k)).symm, KeepsFrom.refl _ _⟩⟩
      case round =>
        obtain ⟨k, U2, hk, rfl, HS⟩ := hrel
        clear x0 HPBV
        by_cases hlt : k < m
        · have kx : decide (m ≤ k) = false := decide_eq_false (by omega)
          have huk := HS.out.1.ro.r k hlt
          rw [if_neg (Nat.lt_irrefl k)] at huk
          obtain ⟨uA, uc, hu⟩ := Own.form huk
          have c1 : wr.cell? ⟨ow, k, none⟩ = some (.slice uA (pC ls k).length uc) := by rw [← hu]; exact Own.cell1 HS.out.1.ro.o hlt
          have b0 := HS.out.1.kb.cell 0
          have HU := Lib.hid hu
          have HSO := Lib.hid (show Calls Tryd.prog 22 #[.slice uA (pC ls k).length uc] wr fun e w' => e = .returned (.tuple #[]) ∧ IL w' (S + 4) (U2 k) ((pC ls k).mergeSort M.leI) ∧ wr.grownBy w' (U2 k).ownBlock from by
            have h := sort_all huk (by have := HLN.out k; omega)
            rw [← hu]; exact h)
          clear huk hu
          go_upto_region 20 with (go_at_call 22; go_must (refine HSO.out.mono ?_); rintro e w2 ⟨rfl, hil2, hg2⟩; have HIL2 := Lib.hid hil2; have HG2 := Lib.hid hg2; clear hil2 hg2)
          have HT2 := Lib.hid (HS.out.1.turn hlt HG2.out HIL2.out (by omega) (by omega) (by omega) (by omega) (by omega) (by omega))
          have HK2 := Lib.hid (HS.out.2.trans (Own.keeps (HS.out.1.ro.r k hlt) HG2.out Z.heap.size))
          clear b0 c1 HSO
          have c2 : w2.cell? ⟨ow, k, none⟩ = some (.slice uA (pC ls k).length uc) := by rw [← HU.out]; exact Own.cell1 HT2.out.ro.o hlt
          have b2 := HT2.out.kb.cell 0
          have HC2 := Lib.hid c2
          clear c2
          refine wp_nopanic ?_
          refine wp_region_T 8 (fun Z2 => Z2.cell? ⟨S + 1, 0, none⟩ = some (.slice (some ⟨ow, 0, none⟩) m m) ∧ Z2.cell? ⟨ow, k, none⟩ = some (.slice uA (pC ls k).length uc)) (by kernel_rfl) ⟨b2, HC2.out⟩ ?_
          clear b2
          intro hS
          refine wpAnyT_take (i := 0) (v := ?_) rfl (by kernel_rfl) (by kernel_rfl) (by kernel_rfl) (by kernel_rfl) (by kernel_rfl) (fun _ _ _ h => absurd rfl (h.1 _)) (.inl ⟨by kernel_rfl, ?_⟩) hS ?_
          rotate_left
          · (intro w' hw; obtain ⟨h1, h2⟩ := hw; go_simp; try with_reducible rfl)
          try simp only [put_laws]
          refine wpAnyT_take (i := 1) (v := ?_) rfl (by kernel_rfl) (by kernel_rfl) (by kernel_rfl) (by kernel_rfl) (by kernel_rfl) (fun _ _ _ h => absurd rfl (h.1 _)) (.inl ⟨by kernel_rfl, ?_⟩) hS ?_
          rotate_left
          · (intro w' hw; obtain ⟨h1, h2⟩ := hw; go_simp; try with_reducible rfl)
          try simp only [put_laws]
          refine wpAnyT_take (i := 2) (v := ?_) rfl (by kernel_rfl) (by kernel_rfl) (by kernel_rfl) (by kernel_rfl) (by kernel_rfl) (fun _ _ _ h => absurd rfl (h.1 _)) (.inl ⟨by kernel_rfl, ?_⟩) hS ?_
          rotate_left
          · (intro w' hw; obtain ⟨h1, h2⟩ := hw; go_simp; try with_reducible rfl)
          try simp only [put_laws]
          refine wpAnyT_take (i := 3) (v := ?_) rfl (by kernel_rfl) (by kernel_rfl) (by kernel_rfl) (by kernel_rfl) (by kernel_rfl) (fun _ _ _ h => absurd rfl (h.1 _)) (.inl ⟨by kernel_rfl, ?_⟩) hS ?_
          rotate_left
          · (intro w' hw; obtain ⟨h1, h2⟩ := hw; go_simp; try with_reducible rfl)
          try simp only [put_laws]
          refine wpAnyT_take (i := 4) (v := ?_) rfl (by kernel_rfl) (by kernel_rfl) (by kernel_rfl) (by kernel_rfl) (by kernel_rfl) (fun _ _ _ h => absurd rfl (h.1 _)) (.inl ⟨by kernel_rfl, ?_⟩) hS ?_
          rotate_left
          · (intro w' hw; obtain ⟨h1, h2⟩ := hw; go_simp; try with_reducible rfl)
          try simp only [put_laws]
          refine wpAnyT_take (i := 5) (v := ?_) rfl (by kernel_rfl) (by kernel_rfl) (by kernel_rfl) (by kernel_rfl) (by kernel_rfl) (fun _ _ _ h => absurd rfl (h.1 _)) (.inl ⟨by kernel_rfl, ?_⟩) hS ?_
          rotate_left
          · (intro w' hw; obtain ⟨h1, h2⟩ := hw; go_simp; try with_reducible rfl)
          try simp only [put_laws]
          have hdr : Below w2.heap.size w2 w2.drew := (Below.refl _ _).drew
          have HT3 := Lib.hid (HT2.out.below hdr)
          have HK3 := Lib.hid (HK2.out.trans (KeepsFrom.of_grownBy (below_grown hdr none) fun _ e => by cases e))
          have hil := HT3.out.ro.r k hlt
          rw [if_pos rfl, HU.out] at hil
          clear hS hdr HT2 HK2 HIL2 HG2 HC2
          refine wpAnyT_one (i := 6) (by kernel_rfl) rfl ?_
          intro K' hK'
          go_simp
          refine (comp_all hil (by rw [List.length_mergeSort]; have := HLN.out k; omega)).mono ?_
          rintro e w3 ⟨v3, hv3, rfl, hil3, hg3⟩
          rw [HPK.out k hlt] at hil3
          obtain ⟨vA, vc, hvf⟩ := Own.form hil3
          subst hvf
          clear hil
          have hgU : w2.drew.grownBy w3 (U2 k).ownBlock := by rw [HU.out]; exact hg3
          have HIL3 := Lib.hid hil3
          have HG3 := Lib.hid hgU
          have HAT3 := Lib.hid (show (Value.slice vA (pl k).length vc).ownBlock = (U2 k).ownBlock from by rw [HU.out]; exact hv3)
          have ho3 := Own.grown HT3.out.ro.o hgU (.inr fun e => HT3.out.ro.ne hlt e.symm)
          have n9 := Own.cell1 ho3 hlt
          rw [HU.out] at n9
          have f9 := Own.frz ho3 k
          have hob9 : some (S + 1) ≠ (U2 k).ownBlock := fun e => by have := (Own.block (HT3.out.ro.r k hlt) e.symm).1; omega
          have b9 := (HT3.out.kb.grown hgU hob9).cell 0
          clear hil3 hg3 hv3 hgU ho3
          refine hK'.out _ _ (.inr ⟨b9, n9⟩) ?_
          clear hK' K'
          try simp only [put_laws]
          refine wpAnyT_one (i := 7) (by kernel_rfl) rfl ?_
          intro K' hK'
          go_simp
          refine hK'.out _ _ (.inr ⟨b9, n9⟩) ?_
          clear hK' K'
          try simp only [put_laws]
          refine wpAnyT_one (i := 8) (by kernel_rfl) rfl ?_
          intro K' hK'
          go_simp
          refine hK'.out _ _ (.inl rfl) ?_
          clear hK' K'
          try simp only [put_laws]
          refine wpAnyT_done (by kernel_rfl) ?_ _
          refine ⟨fun x e => (by cases e), ?_⟩
          go_wp2_with fail
          go_roundw
          case rel =>
            have hsr := HT3.out.setRow hlt HG3.out HIL3.out (.inl HAT3.out) (by omega) (by omega) (by omega) (by omega) (by omega) (by omega)
            refine ⟨k + 1, fun i => if i = k then .slice vA (pl k).length vc else U2 i, by omega, by go_num, Lib.hid ⟨hsr.1.congr fun q _ => ?_, HK3.out.trans (hsr.2 _)⟩⟩
            by_cases e : q = k
            · subst e; rw [if_pos rfl, if_pos (by omega)]
            · rw [if_neg e, if_neg e]
              by_cases e2 : q < k
              · rw [if_pos e2, if_pos (by omega)]
              · rw [if_neg e2, if_neg (by omega)]
          case measure => simp [intOf]; omega
        · have hkm : m = k := by omega
          subst hkm
          have x9 := HS.out.1.kb.cell 0
          go_wp2_with fail
          have hms : Marks (S + 4) wr [D] := ⟨by omega, HS.out.2.same D _ (by omega) HDF.out rfl, fun x hx => (by cases hx), trivial⟩
          refine leaves_marks (lo := S + 4) [D] wr hms fun w' hk => ⟨.tuple #[.slice (some ⟨ow, 0, none⟩) m m, .int .i64 0], by simp [results, Tryd.f10, go_sem], ?_⟩
          have k1 := hk (fun _ X => PlB d zA cA wA dA tA sA cl B2 P m1 m2 dc tc sc zc cc wc (S + 2) (S + 3) B ta xc hn hc xL lo hi 0 (-1) 0 xA hA Xs w (S + 1) (S + 4) ow m U2 pl X) (fun _ X Y row hs hg hr => hs.notes hg hr (by omega) (by omega) (by omega) (by omega) (by omega) (by omega)) (HS.out.1.congr fun q hq => if_pos hq)
          exact ⟨k1.bw, .inr ⟨HE.out, ow, U2, rfl, Own.less k1.ro.o (by omega), fun q hq => Own.less (k1.ro.r q hq) (by omega)⟩⟩
end
end Go.Proofs.YtnbeembnnjdmdaaDoor
