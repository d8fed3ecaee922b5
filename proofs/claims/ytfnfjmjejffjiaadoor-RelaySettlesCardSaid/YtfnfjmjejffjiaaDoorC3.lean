/- What a region keeps that makes blocks, appends, calls and stores to a block of its own. -/
import Derived.Test.YtfnfjmjejffjiaaDoorC1
namespace Go.Proofs.YtfnfjmjejffjiaaDoor
open Go.RowKit

def Kept3 (Y : World) (p q r : Addr) (x y z : Value) (w' : World) : Prop := w'.cell? p = some x ∧ w'.cell? q = some y ∧ w'.cell? r = some z ∧ Below Y.heap.size Y w'
section
variable {Y W W' : World} {p q r : Addr} {x y z : Value}
theorem Kept3.keep (h : Kept3 Y p q r x y z W) (hb : Below Y.heap.size W W') (hp : p.block < Y.heap.size) (hq : q.block < Y.heap.size) (hr : r.block < Y.heap.size) : Kept3 Y p q r x y z W' := by
  obtain ⟨a, b, c, d⟩ := h
  exact ⟨(hb.cell hp).trans a, (hb.cell hq).trans b, (hb.cell hr).trans c, d.trans hb⟩
theorem Kept3.start (hp : Y.cell? p = some x) (hq : Y.cell? q = some y) (hr : Y.cell? r = some z) : Kept3 Y p q r x y z Y.drew := ⟨hp, hq, hr, (Below.refl _ _).drew⟩
theorem Kept3.alloc (h : Kept3 Y p q r x y z W) (o : Obj) (hp : p.block < Y.heap.size) (hq : q.block < Y.heap.size) (hr : r.block < Y.heap.size) : Kept3 Y p q r x y z (W.alloc o) := h.keep ((belowAlloc W o).mono h.2.2.2.size) hp hq hr
theorem Kept3.alloc_drew {o : Obj} (h : Kept3 Y p q r x y z W.drew) (hp : p.block < Y.heap.size) (hq : q.block < Y.heap.size) (hr : r.block < Y.heap.size) : Kept3 Y p q r x y z (W.alloc o).drew := (h.alloc o hp hq hr : Kept3 Y p q r x y z (W.drew.alloc o))
theorem Kept3.below (h : Kept3 Y p q r x y z W) (hb : Below W.heap.size W W') (hp : p.block < Y.heap.size) (hq : q.block < Y.heap.size) (hr : r.block < Y.heap.size) : Kept3 Y p q r x y z W' := h.keep (hb.mono h.2.2.2.size) hp hq hr
theorem Kept3.grown {row : Option Nat} (h : Kept3 Y p q r x y z W) (hg : W.grownBy W' row) (hr' : ∀ k, row = some k → Y.heap.size ≤ k) (hp : p.block < Y.heap.size) (hq : q.block < Y.heap.size) (hr : r.block < Y.heap.size) : Kept3 Y p q r x y z W' := h.keep (Below.grown (Below.refl _ _) hg h.2.2.2.size hr') hp hq hr
theorem Kept3.store {P : Nat} (h : Kept3 Y p q r x y z W) (hP : Y.heap.size ≤ P) (u v : Value) (hp : p.block < Y.heap.size) (hq : q.block < Y.heap.size) (hr : r.block < Y.heap.size) : Kept3 Y p q r x y z ((W.setCell ⟨P, 0, none⟩ u).setCell ⟨P, 1, none⟩ v) :=
  h.keep (((Below.refl _ _).setCell (p := ⟨P, 0, none⟩) hP u).setCell (p := ⟨P, 1, none⟩) hP v) hp hq hr
end
theorem Own.ne_blk {w : World} {b t m n g t' : Nat} {v : Value} {F : Nat → Nat → Value} {cs : Array Value} (h : Own w b t m v n F) (h' : Blk w g t' cs) (ht : t ≠ t') : v.ownBlock ≠ some g := by
  intro e
  rcases h.2 with ⟨rfl, _⟩ | ⟨g1, cap, cur, rfl, _, hh, _⟩
  · simp [Value.ownBlock] at e
  · simp [Value.ownBlock] at e
    subst e
    unfold Blk at h'
    rw [hh] at h'
    injection h' with e
    injection e with _ e
    exact ht e
theorem Blk.grown_own {W W' : World} {g t t' b m n : Nat} {cs : Array Value} {v : Value} {F : Nat → Nat → Value} (h : Blk W g t cs) (ho : Own W b t' m v n F) (ht : t' ≠ t) (hg : W.grownBy W' v.ownBlock) : Blk W' g t cs := h.grown hg fun e => ho.ne_blk h ht e.symm
theorem Blk.below' {W W' : World} {g t : Nat} {cs : Array Value} (h : Blk W g t cs) (hb : Below W.heap.size W W') : Blk W' g t cs := h.below hb h.lt
/-- two stores to a block of another type -/
theorem Own.set2 {W : World} {b t m n g t' : Nat} {v : Value} {F : Nat → Nat → Value} {cs : Array Value} (h : Own W b t m v n F) (h' : Blk W g t' cs) (ht : t ≠ t') (u u' : Value) : Own ((W.setCell ⟨g, 0, none⟩ u).setCell ⟨g, 1, none⟩ u') b t m v n F :=
  (h.setCell (p := ⟨g, 0, none⟩) (h.ne_blk h' ht) u).setCell (p := ⟨g, 1, none⟩) (h.ne_blk h' ht) u'
theorem blk_al {W : World} {g t : Nat} {cs : Array Value} {o : Obj} : Blk (W.alloc o) g t cs ↔ (if g = W.heap.size then o = .cells cs t (0, 0) else Blk W g t cs) := by
  unfold Blk
  by_cases h : g = W.heap.size
  · subst h
    rw [if_pos rfl, heap_alloc_new]
    simp
  · rw [if_neg h]
    by_cases h2 : g < W.heap.size
    · rw [heap_alloc_old W o h2]
    · rw [Array.getElem?_eq_none (by simp; omega), Array.getElem?_eq_none (by omega)]
theorem blk_dr {W : World} {g t : Nat} {cs : Array Value} : Blk W.drew g t cs ↔ Blk W g t cs := Iff.rfl
end Go.Proofs.YtfnfjmjejffjiaaDoor
