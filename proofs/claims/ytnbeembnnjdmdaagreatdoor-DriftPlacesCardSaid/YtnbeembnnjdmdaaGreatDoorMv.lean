/- What a call that writes two maps keeps. -/
import Derived.Test.YtnbeembnnjdmdaaGreatDoorCp
import Derived.Test.YtnbeembnnjdmdaaGreatDoorMp
namespace Go.Proofs.YtnbeembnnjdmdaaGreatDoor
open Go.RowKit

/-- all but the blocks m and m' lies as it lay -/
structure Mv (m m' : Nat) (W W' : World) : Prop where
  os : W'.os = W.os
  tape : W'.tape = W.tape
  output : W'.output = W.output
  size : W.heap.size ≤ W'.heap.size
  block : ∀ k, k < W.heap.size → k ≠ m → k ≠ m' → W'.heap[k]? = W.heap[k]?
/-- block b is a map -/
def IsMap' (W : World) (b : Nat) : Prop := ∃ es clock, W.heap[b]? = some (.map es clock)
section
variable {m m' : Nat} {W W' W'' : World}
theorem Mv.refl (m m' : Nat) (W : World) : Mv m m' W W := ⟨rfl, rfl, rfl, Nat.le_refl _, fun _ _ _ _ => rfl⟩
theorem Mv.trans (h : Mv m m' W W') (k : Mv m m' W' W'') : Mv m m' W W'' :=
  ⟨k.os.trans h.os, k.tape.trans h.tape, k.output.trans h.output, Nat.le_trans h.size k.size, fun i hi h1 h2 => (k.block i (Nat.lt_of_lt_of_le hi h.size) h1 h2).trans (h.block i hi h1 h2)⟩
theorem Mv.of_below (h : Below W.heap.size W W') : Mv m m' W W' := ⟨h.os, h.tape, h.output, h.size, fun k hk _ _ => h.block k hk⟩
theorem Mv.grown1 (h : W.grownBy W' (some m)) : Mv m m' W W' := ⟨h.os, h.tape, h.output, h.size, fun k hk h1 _ => h.block k hk (by simpa using h1)⟩
theorem Mv.grown2 (h : W.grownBy W' (some m')) : Mv m m' W W' := ⟨h.os, h.tape, h.output, h.size, fun k hk _ h1 => h.block k hk (by simpa using h1)⟩
theorem Mv.drew (h : Mv m m' W W') : Mv m m' W W'.drew := ⟨h.os, h.tape, h.output, h.size, h.block⟩
theorem Mv.drewN (h : Mv m m' W W') (n : Nat) : Mv m m' W (W'.drewN n) := ⟨h.os, h.tape, h.output, h.size, h.block⟩
theorem Mv.alloc (h : Mv m m' W W') (o : Obj) : Mv m m' W (W'.alloc o) := h.trans (Mv.of_below (belowAlloc W' o))
theorem Mv.below (h : Mv m m' W W') {B : Nat} (h1 : B ≤ m) (h2 : B ≤ m') (h3 : B ≤ W.heap.size) : Below B W W' := ⟨h.os, h.tape, h.output, h.size, fun k hk => h.block k (by omega) (by omega) (by omega)⟩
theorem Mv.keeps (h : Mv m m' W W') {B : Nat} (h1 : m < B) (h2 : m' < B) : KeepsFrom B W W' := ⟨h.size, fun k o hB hk _ => (h.block k (Array.getElem?_eq_some_iff.1 hk).1 (by omega) (by omega)).trans hk⟩
theorem IsMap'.ne {b t : Nat} {cs : Array Value} (h : IsMap' W m) (hb : Blk W b t cs) : b ≠ m := fun e => by
  subst e
  obtain ⟨es, cl, h⟩ := h
  have := (show W.heap[b]? = _ from hb).symm.trans h
  cases this
theorem IsMap'.grown {row : Option Nat} {b : Nat} (h : IsMap' W b) (hg : W.grownBy W' row) (hne : some b ≠ row) : IsMap' W' b := by
  obtain ⟨es, cl, h⟩ := h
  exact ⟨es, cl, (hg.block b (Array.getElem?_eq_some_iff.1 h).1 hne).trans h⟩
theorem Blk.mv {b t : Nat} {cs : Array Value} (hb : Blk W b t cs) (h : Mv m m' W W') (h1 : IsMap' W m) (h2 : IsMap' W m') : Blk W' b t cs := (h.block b hb.lt (h1.ne hb) (h2.ne hb)).trans hb
theorem Own.blk {base t n c g : Nat} {k : Nat} {F : Nat → Nat → Value} (h : Own W base t k (.slice (some ⟨g, 0, none⟩) n c) n F) : ∃ cs, Blk W g t cs := by
  obtain ⟨_, ⟨h0, _⟩ | ⟨_, _, cur, h1, _, h2, _⟩⟩ := h
  · cases h0
  · cases h1; exact ⟨_, h2⟩
theorem Own.mv {base t k n : Nat} {v : Value} {F : Nat → Nat → Value} (ho : Own W base t k v n F) (h : Mv m m' W W') (h1 : IsMap' W m) (h2 : IsMap' W m') : Own W' base t k v n F := by
  obtain ⟨hl, ⟨h0, h0'⟩ | ⟨g, c, cur, e1, e2, e3, e4⟩⟩ := ho
  · exact ⟨hl, .inl ⟨h0, h0'⟩⟩
  · exact ⟨hl, .inr ⟨g, c, cur, e1, e2, Blk.mv (t := t) e3 h h1 h2, e4⟩⟩
theorem cell_mv {a : Addr} {v : Value} (hc : W.cell? a = some v) (h : Mv m m' W W') (h1 : IsMap' W m) (h2 : IsMap' W m') : W'.cell? a = some v := by
  obtain ⟨o, ho, hcc⟩ := cells_of_cell hc
  have hlt := (Array.getElem?_eq_some_iff.1 ho).1
  have hne : ∀ b, IsMap' W b → a.block ≠ b := fun b hb e => by
    obtain ⟨es, cl, hb⟩ := hb
    rw [← e, ho] at hb
    cases hb; cases hcc
  exact (World.cell?_of_block (h.block _ hlt (hne m h1) (hne m' h2))).trans hc
theorem Rd1.mv {B n : Nat} {A : Option Addr} {f : Nat → Int} (hr : Rd1 W B A n f) (h : Mv m m' W W') (h1 : IsMap' W m) (h2 : IsMap' W m') : Rd1 W' B A n f := by
  rcases hr with hr | ⟨b, off, e, hb, hc⟩
  · exact .inl hr
  · exact .inr ⟨b, off, e, hb, fun i hi => cell_mv (hc i hi) h h1 h2⟩
theorem Rd.mv {B k n : Nat} {A : Option Addr} {f : Nat → Nat → Int} (hr : Rd W B A k n f) (h : Mv m m' W W') (h1 : IsMap' W m) (h2 : IsMap' W m') : Rd W' B A k n f := by
  rcases hr with hr | ⟨b, off, e, hb, hc⟩
  · exact .inl hr
  · exact .inr ⟨b, off, e, hb, fun i j hi hj => cell_mv (hc i j hi hj) h h1 h2⟩
end
end Go.Proofs.YtnbeembnnjdmdaaGreatDoor
