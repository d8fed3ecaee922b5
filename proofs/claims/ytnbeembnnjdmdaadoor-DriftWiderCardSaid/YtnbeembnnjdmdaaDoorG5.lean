/- drift: Leeways of a valid drift, drifter and sightings. -/
import Derived.Test.YtnbeembnnjdmdaaDoorD31
namespace Go.Proofs.YtnbeembnnjdmdaaDoor
open Go.RowKit Go.Maps Go.Shelf

section
variable {d : M.Dr} {zA cA wA dA tA sA : Option Addr} {cl : Nat → Nat} {B P m1 m2 dc tc sc zc cc wc : Nat} {cb fb ob B' ta xc hn hc n : Nat} {xL : List Int} {lo hi fc ft fl : Int} {xA hA : Option Addr} {Xs : Nat → SgV} {W W' : World}
/-- what Leeways has gathered -/
structure LwI (d : M.Dr) (zA cA wA dA tA sA : Option Addr) (cl : Nat → Nat) (B P m1 m2 dc tc sc zc cc wc : Nat) (cb fb ob B' ta xc hn hc : Nat) (xL : List Int) (lo hi fc ft fl : Int) (xA hA : Option Addr) (Xs : Nat → SgV) (w : World) (Zs : Nat) (s : List (Int × Nat × (Nat → Value))) (A : World) : Prop where
  ch : ChI d zA cA wA dA tA sA cl B P m1 m2 dc tc sc zc cc wc cb fb B' ta xc hn hc xL lo hi fc ft fl xA hA Xs A
  bw : Below w.heap.size w A
  bx : ∃ v, Blk A ob 22 #[v] ∧ IL A Zs v (s.map (·.1)) ∧ (s = [] → v = .slice none 0 0) ∧ ∀ g, v.ownBlock = some g → ¬ TS P m1 m2 A g
theorem LwI.own {w : World} {Zs : Nat} (hw : w.heap.size ≤ Zs) (hB : B ≤ Zs) (hB' : B' ≤ Zs) (h1 : m1 < Zs) (h2 : m2 < Zs) (ho : ob < Zs) : OwnFrom Zs (LwI d zA cA wA dA tA sA cl B P m1 m2 dc tc sc zc cc wc cb fb ob B' ta xc hn hc xL lo hi fc ft fl xA hA Xs w Zs) := by
  rintro s X Y row ⟨k1, k2, v, k3, k4, k5, k6⟩ hg hr
  have hts : ∀ r, row = some r → B ≤ r ∧ ¬ TS P m1 m2 X r := fun r e => ⟨by have := (hr r e).1; omega, by
      obtain ⟨h5, o, ho', hc'⟩ := hr r e
      exact ts_notes k1.sm h5 ho' hc' h1 h2⟩
  refine ⟨k1.notes hg hr hB hB' h1 h2, k2.grown hg k2.size fun r e => by have := (hr r e).1; omega, v, k3.grown hg (fun e => by have := (hr _ e.symm).1; omega), Own.grown k4 hg ?_, k5, fun g hg' ht => k6 g hg' ((SeaT.grown k1.sm hg hts).2 g ht)⟩
  cases row with
  | none =>
    cases hv : v.ownBlock with
    | none => exact .inl rfl
    | some g => exact .inr (by simp)
  | some r =>
    obtain ⟨o, ho, hc⟩ := (hr r rfl).2
    exact .inr (Own.cells_ne k4 ho hc)
theorem LwI.abs {w : World} {Zs : Nat} {s : List (Int × Nat × (Nat → Value))} (h : LwI d zA cA wA dA tA sA cl B P m1 m2 dc tc sc zc cc wc cb fb ob B' ta xc hn hc xL lo hi fc ft fl xA hA Xs w Zs s W) (h1 : w.heap.size ≤ m1) (h2 : w.heap.size ≤ m2) (hab : AbT d zA cA wA dA tA sA cl B P m1 m2 dc tc sc zc cc wc W W') : LwI d zA cA wA dA tA sA cl B P m1 m2 dc tc sc zc cc wc cb fb ob B' ta xc hn hc xL lo hi fc ft fl xA hA Xs w Zs s W' := by
  obtain ⟨k1, k2, v, k3, k4, k5, k6⟩ := h
  refine ⟨k1.ab hab, k2.trans (hab.1.below h1 h2 k2.size), v, k3.mv hab.1 k1.sm.map1 k1.sm.map2, Own.mv k4 hab.1 k1.sm.map1 k1.sm.map2, k5, fun g hg ht => ?_⟩
  rcases (hab.2 k1.sm).2 g ht with h | h
  · exact k6 g hg h
  · have := (Own.block k4 hg).2; omega
/-- the loop's own notes do not touch an own slice -/
theorem own_notes {B1 t1 k1 n1 Zs : Nat} {v : Value} {F : Nat → Nat → Value} {X : World} {row : Option Nat} (h : Own X B1 t1 k1 v n1 F) (hr : ∀ r, row = some r → Zs ≤ r ∧ ∃ o, X.heap[r]? = some o ∧ o.isCells = false) : v.ownBlock = none ∨ v.ownBlock ≠ row := by
  cases row with
  | none =>
    cases hv : v.ownBlock with
    | none => exact .inl rfl
    | some g => exact .inr (by simp)
  | some r =>
    obtain ⟨o, ho, hc⟩ := (hr r rfl).2
    exact .inr (Own.cells_ne h ho hc)
theorem eql_some_nil (W : World) (a : Addr) (l c : Nat) : (binOp .eql 22 (.slice (some a) l c) (.slice none 0 0)).run Tryd.prog W = .ok (.bool false) W := by
  simp only [binOp]
  simp [Op.equal, Op.maxDepth, Lib.run_equalIn_slice_nil W 9999 22 3 (some a) l c 0 0 Tryd.underlying22]
theorem eql_nil_nil (W : World) : (binOp .eql 22 (.slice none 0 0) (.slice none 0 0)).run Tryd.prog W = .ok (.bool true) W := by
  simp only [binOp]
  simp [Op.equal, Op.maxDepth, Lib.run_equalIn_slice_nil W 9999 22 3 none 0 0 0 0 Tryd.underlying22]
end
section
variable {d : M.Dr} {zA cA wA dA tA sA xA hA : Option Addr} {cl : Nat → Nat} {B dc tc sc zc cc wc xc hn hc : Nat} {at_ lo hi : Int} {xL : List Int} {Xs : Nat → SgV} {w : World}
attribute [local go_sem] Oper.semAt_some
end
end Go.Proofs.YtnbeembnnjdmdaaDoor
