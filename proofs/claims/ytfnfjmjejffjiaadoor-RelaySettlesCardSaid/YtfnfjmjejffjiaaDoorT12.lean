/- Clone, call, Run, where its arguments are valid. -/
import Derived.Test.YtfnfjmjejffjiaaDoorT10
import Derived.Test.YtfnfjmjejffjiaaDoorC1
import Derived.Test.YtfnfjmjejffjiaaDoorHB
import Derived.Lib.SliceRun
namespace Go.Proofs.YtfnfjmjejffjiaaDoor
open Go.RowKit

theorem cen_info : (Tryd.prog.info? 51).map (fun i => (i.zero, i.size, i.bytes)) = some (some (.agg #[.int .i64 0, .int .i64 0, .int .i64 0]), 3, 24) := by kernel_rfl
theorem msg_info3 : (Tryd.prog.info? 54).map (fun i => (i.zero, i.size, i.bytes)) = some (some (.agg #[.int .i64 0, .int .i64 0, .int .i64 0, .int .i64 0]), 4, 32) := by kernel_rfl
theorem evt_info : (Tryd.prog.info? 38).map (fun i => (i.zero, i.size, i.bytes)) = some (some (.agg #[.int .i64 0, .int .i64 0, .int .i64 0]), 3, 24) := by kernel_rfl
theorem some_nil_c (W : World) (a : Addr) (l c : Nat) : (binOp .eql 28 (.slice (some a) l c) (.slice none 0 0)).run Tryd.prog W = .ok (.bool false) W := Lib.run_eql_slice_nil W _ _ (some a) l c 0 0 Tryd.underlying28
theorem some_nil_m (W : World) (a : Addr) (l c : Nat) : (binOp .eql 29 (.slice (some a) l c) (.slice none 0 0)).run Tryd.prog W = .ok (.bool false) W := Lib.run_eql_slice_nil W _ _ (some a) l c 0 0 Tryd.underlying29
/-- an owned slice that a call returns -/
def OwnV (t m n : Nat) (F : Nat → Nat → Value) (w : World) (e : Ending) (w' : World) : Prop := ∃ A c, e = .returned (.slice A n c) ∧ Own w' w.heap.size t m (.slice A n c) n F ∧ Below w.heap.size w w'
theorem slice_cen (g n : Nat) (hn : n ≤ 4) (W : World) : (Instr.sliceAt 52 (.pointer (some ⟨g, 1, none⟩)) none (some (.int .i64 (n : Int))) none).run Tryd.prog W = .ok (.slice (some ⟨g, 1, none⟩) n 4) W := by
  rw [run_sliceAt_array_h (P := Tryd.prog) W 52 ⟨g, 1, none⟩ (by kernel_rfl) .i64 (n : Int) (by omega) (by rw [show Tryd.prog.arrayLen 52 = 4 by kernel_rfl]; omega)]
  rw [show Tryd.prog.arrayLen 52 = 4 by kernel_rfl, show Tryd.prog.elem 52 = 51 by kernel_rfl, Tryd.sizeOf51]
  simp [Result.andThen, slicedAt, Addr.add]
theorem slice_msg (g n : Nat) (hn : n ≤ 6) (W : World) : (Instr.sliceAt 55 (.pointer (some ⟨g, 13, none⟩)) none (some (.int .i64 (n : Int))) none).run Tryd.prog W = .ok (.slice (some ⟨g, 13, none⟩) n 6) W := by
  rw [run_sliceAt_array_h (P := Tryd.prog) W 55 ⟨g, 13, none⟩ (by kernel_rfl) .i64 (n : Int) (by omega) (by rw [show Tryd.prog.arrayLen 55 = 6 by kernel_rfl]; omega)]
  rw [show Tryd.prog.arrayLen 55 = 6 by kernel_rfl, show Tryd.prog.elem 55 = 54 by kernel_rfl, Tryd.sizeOf54]
  simp [Result.andThen, slicedAt, Addr.add]
theorem Sf.rdC {w : World} {g n : Nat} {s : M.St} {k : Nat} (h : Sf w g (stF n s)) (hk : k ≤ 4) : Rd w (g + 1) (some ⟨g, 1, none⟩) 3 k s.c := by
  refine .inr ⟨g, 1, rfl, by omega, fun i j hi hj => ?_⟩
  rw [← stF_c n s (show i < 4 by omega) hj, ← Nat.add_assoc]
  exact h.cell (by omega)
theorem Sf.rdM {w : World} {g n : Nat} {s : M.St} {k : Nat} (h : Sf w g (stF n s)) (hk : k ≤ 6) : Rd w (g + 1) (some ⟨g, 13, none⟩) 4 k s.m := by
  refine .inr ⟨g, 13, rfl, by omega, fun i j hi hj => ?_⟩
  rw [← stF_m n s (show i < 6 by omega) hj, ← Nat.add_assoc]
  exact h.cell (by omega)
/-- a call as it is told -/
def CallV (n : Nat) (s : M.St) (base : Nat) (v : Value) (w' : World) : Prop :=
  ∃ A c A' c', v = .agg #[.slice A n c, .slice A' s.k c'] ∧ Own w' base 51 3 (.slice A n c) n (ints2 s.c) ∧ Own w' base 54 4 (.slice A' s.k c') s.k (ints2 s.m)
def cur (w : World) (p : Addr) : Value := (w.cell? p).getD undef
theorem cur_of {w : World} {p : Addr} {x : Value} (h : w.cell? p = some x) : w.cell? p = some (cur w p) := by unfold cur; rw [h]; rfl
theorem st_cell {W : World} {p q : Addr} {u v : Value} {a : Addr} {x : Value} (h : W.cell? a = some x) (hp : a ≠ p) (hq : a ≠ q) : ((W.setCell p u).setCell q v).cell? a = some x := by
  rw [World.cell?_setCell_other _ _ _ _ (Ne.symm hq), World.cell?_setCell_other _ _ _ _ (Ne.symm hp)]; exact h
theorem st_same {W : World} {g i : Nat} {u x : Value} (h : (W.setCell ⟨g, i, none⟩ u).cell? ⟨g, i, none⟩ = some x) : (W.setCell ⟨g, i, none⟩ u).cell? ⟨g, i, none⟩ = some u := by
  by_cases hs : (W.cell? ⟨g, i, none⟩).isSome = true
  · exact World.cell?_setCell_same' _ _ _ hs
  · exfalso
    simp only [World.setCell, World.cell?, Array.getElem?_modify, if_true] at h hs
    cases hh : W.heap[g]? with
    | none => simp [hh] at h
    | some o => cases o <;> simp_all
theorem st_two {W : World} {g : Nat} {u v x y : Value} (h0 : ((W.setCell ⟨g, 0, none⟩ u).setCell ⟨g, 1, none⟩ v).cell? ⟨g, 0, none⟩ = some x) (h1 : ((W.setCell ⟨g, 0, none⟩ u).setCell ⟨g, 1, none⟩ v).cell? ⟨g, 1, none⟩ = some y) :
    ((W.setCell ⟨g, 0, none⟩ u).setCell ⟨g, 1, none⟩ v).cell? ⟨g, 0, none⟩ = some u ∧ ((W.setCell ⟨g, 0, none⟩ u).setCell ⟨g, 1, none⟩ v).cell? ⟨g, 1, none⟩ = some v := by
  refine ⟨?_, st_same h1⟩
  rw [World.cell?_setCell_other _ _ _ _ (by simp)] at h0 ⊢
  exact st_same h0
/-- what each world of a region keeps: two cells that are read, and a block of two cells that a result is stored to -/
def KeptG (w : World) (p q : Addr) (x y : Value) (R : Nat) (w' : World) : Prop :=
  w'.cell? p = some x ∧ w'.cell? q = some y ∧ Below w.heap.size w w' ∧ R + 1 ≤ w'.heap.size ∧
    w'.cell? ⟨R, 0, none⟩ = some (cur w' ⟨R, 0, none⟩) ∧ w'.cell? ⟨R, 1, none⟩ = some (cur w' ⟨R, 1, none⟩) ∧ w'.frozen? ⟨R, 0, none⟩ = false ∧ w'.frozen? ⟨R, 1, none⟩ = false
section
variable {w W w1 : World} {p q : Addr} {x y : Value} {R : Nat}
theorem KeptG.keep (h : KeptG w p q x y R W) (hb : Below W.heap.size W w1) (hw : w.heap.size ≤ R) (hp : p.block < R) (hq : q.block < R) : KeptG w p q x y R w1 := by
  obtain ⟨h1, h2, h3, h4, h5, h6, h7, h8⟩ := h
  have hs := hb.size
  have c : ∀ a : Addr, a.block < W.heap.size → w1.cell? a = W.cell? a := fun a ha => hb.cell ha
  have f : ∀ a : Addr, a.block < W.heap.size → w1.frozen? a = W.frozen? a := fun a ha => hb.frozen ha
  exact ⟨(c _ (by omega)).trans h1, (c _ (by omega)).trans h2, h3.trans (hb.mono (by omega)), by omega,
    cur_of ((c _ (by show R < _; omega)).trans h5), cur_of ((c _ (by show R < _; omega)).trans h6),
    (f _ (by show R < _; omega)).trans h7, (f _ (by show R < _; omega)).trans h8⟩
theorem KeptG.alloc (h : KeptG w p q x y R W) (o : Obj) (hw : w.heap.size ≤ R) (hp : p.block < R) (hq : q.block < R) : KeptG w p q x y R (W.alloc o) := h.keep (belowAlloc W o) hw hp hq
theorem KeptG.alloc_drew {o : Obj} (h : KeptG w p q x y R W.drew) (hw : w.heap.size ≤ R) (hp : p.block < R) (hq : q.block < R) : KeptG w p q x y R (W.alloc o).drew := (h.alloc o hw hp hq : KeptG w p q x y R (W.drew.alloc o))
theorem KeptG.store (h : KeptG w p q x y R W) (u v : Value) (hw : w.heap.size ≤ R) (hp : p.block < R) (hq : q.block < R) : KeptG w p q x y R ((W.setCell ⟨R, 0, none⟩ u).setCell ⟨R, 1, none⟩ v) := by
  obtain ⟨h1, h2, h3, h4, h5, h6, h7, h8⟩ := h
  have np : ∀ i, p ≠ ⟨R, i, none⟩ := fun i e => by rw [e] at hp; simp at hp
  have nq : ∀ i, q ≠ ⟨R, i, none⟩ := fun i e => by rw [e] at hq; simp at hq
  refine ⟨st_cell h1 (np _) (np _), st_cell h2 (nq _) (nq _), (h3.setCell hw _).setCell hw _, by simpa using h4, ?_, ?_, ?_, ?_⟩
  · exact cur_of (x := u) (by rw [World.cell?_setCell_other _ _ _ _ (by simp), World.cell?_setCell_same' _ _ _ (by rw [h5]; rfl)])
  · exact cur_of (x := v) (by rw [World.cell?_setCell_same' _ _ _ (by rw [World.cell?_setCell_other _ _ _ _ (by simp), h6]; rfl)])
  · rw [World.frozen?_setCell, World.frozen?_setCell]; exact h7
  · rw [World.frozen?_setCell, World.frozen?_setCell]; exact h8
theorem KeptG.start {t : TypeId} (hp : w.cell? p = some x) (hq : w.cell? q = some y) : KeptG w p q x y w.heap.size (w.alloc (.cells #[.slice none 0 0, .slice none 0 0] t)).drew := by
  have k := Blk.new w t #[.slice none 0 0, .slice none 0 0]
  exact ⟨(al_cell hp : (w.alloc _).cell? p = some x), (al_cell hq : (w.alloc _).cell? q = some y), (belowAlloc _ _).drew, by simp, cur_of (k.cell 0), cur_of (k.cell 1), k.frz 0, k.frz 1⟩
end
end Go.Proofs.YtfnfjmjejffjiaaDoor
/- Run, where its arguments are valid. -/
namespace Go.Proofs.YtfnfjmjejffjiaaDoor
open Go.RowKit

/-- what Run leaves where its arguments are valid -/
def RunT (n o : Nat) (E : Nat → Nat → Int) (en : Nat) (w : World) (e : Ending) (w' : World) : Prop :=
  ∃ v bv, e = .returned (.tuple #[v, bv, .int .i64 0]) ∧ CallV n (M.runF n o E en) w.heap.size v w' ∧ Own w' w.heap.size 4 1 bv en (bools (M.done n o E))
end Go.Proofs.YtfnfjmjejffjiaaDoor
