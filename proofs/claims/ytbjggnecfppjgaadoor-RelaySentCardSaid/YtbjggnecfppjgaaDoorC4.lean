/- What a region keeps that appends and stores to a block of its own: two cells. -/
import Derived.Test.YtbjggnecfppjgaaDoorC3
namespace Go.Proofs.YtbjggnecfppjgaaDoor
open Go.RowKit

def Kept2 (Y : World) (p q : Addr) (x y : Value) (w' : World) : Prop := w'.cell? p = some x ∧ w'.cell? q = some y ∧ Below Y.heap.size Y w'
section
variable {Y W W' : World} {p q : Addr} {x y : Value}
theorem Kept2.keep (h : Kept2 Y p q x y W) (hb : Below Y.heap.size W W') (hp : p.block < Y.heap.size) (hq : q.block < Y.heap.size) : Kept2 Y p q x y W' := by
  obtain ⟨a, b, d⟩ := h
  exact ⟨(hb.cell hp).trans a, (hb.cell hq).trans b, d.trans hb⟩
theorem Kept2.start (hp : Y.cell? p = some x) (hq : Y.cell? q = some y) : Kept2 Y p q x y Y.drew := ⟨hp, hq, (Below.refl _ _).drew⟩
theorem Kept2.alloc (h : Kept2 Y p q x y W) (o : Obj) (hp : p.block < Y.heap.size) (hq : q.block < Y.heap.size) : Kept2 Y p q x y (W.alloc o) := h.keep ((belowAlloc W o).mono h.2.2.size) hp hq
theorem Kept2.alloc_drew {o : Obj} (h : Kept2 Y p q x y W.drew) (hp : p.block < Y.heap.size) (hq : q.block < Y.heap.size) : Kept2 Y p q x y (W.alloc o).drew := (h.alloc o hp hq : Kept2 Y p q x y (W.drew.alloc o))
theorem Kept2.below (h : Kept2 Y p q x y W) (hb : Below W.heap.size W W') (hp : p.block < Y.heap.size) (hq : q.block < Y.heap.size) : Kept2 Y p q x y W' := h.keep (hb.mono h.2.2.size) hp hq
theorem Kept2.grown {row : Option Nat} (h : Kept2 Y p q x y W) (hg : W.grownBy W' row) (hr' : ∀ k, row = some k → Y.heap.size ≤ k) (hp : p.block < Y.heap.size) (hq : q.block < Y.heap.size) : Kept2 Y p q x y W' := h.keep (Below.grown (Below.refl _ _) hg h.2.2.size hr') hp hq
theorem Kept2.store {P : Nat} (h : Kept2 Y p q x y W) (hP : Y.heap.size ≤ P) (u v : Value) (hp : p.block < Y.heap.size) (hq : q.block < Y.heap.size) : Kept2 Y p q x y ((W.setCell ⟨P, 0, none⟩ u).setCell ⟨P, 1, none⟩ v) :=
  h.keep (((Below.refl _ _).setCell (p := ⟨P, 0, none⟩) hP u).setCell (p := ⟨P, 1, none⟩) hP v) hp hq
end
end Go.Proofs.YtbjggnecfppjgaaDoor
