/- Clone, call, Run, where its arguments are valid. -/
import Derived.Test.YtbjggnecfppjgaaDoorT11
import Derived.Test.YtbjggnecfppjgaaDoorC2
import Derived.Test.YtbjggnecfppjgaaDoorHB
import Derived.Lib.SliceRun
namespace Go.Proofs.YtbjggnecfppjgaaDoor
open Go.RowKit

theorem cen_info : (Tryd.prog.info? 69).map (fun i => (i.zero, i.size, i.bytes)) = some (some (.agg #[.int .i64 0, .int .i64 0, .int .i64 0]), 3, 24) := by kernel_rfl
theorem msg_info3 : (Tryd.prog.info? 72).map (fun i => (i.zero, i.size, i.bytes)) = some (some (.agg #[.int .i64 0, .int .i64 0, .int .i64 0, .int .i64 0]), 4, 32) := by kernel_rfl
theorem evt_info : (Tryd.prog.info? 48).map (fun i => (i.zero, i.size, i.bytes)) = some (some (.agg #[.int .i64 0, .int .i64 0, .int .i64 0]), 3, 24) := by kernel_rfl
theorem some_nil_c (W : World) (a : Addr) (l c : Nat) : (binOp .eql 39 (.slice (some a) l c) (.slice none 0 0)).run Tryd.prog W = .ok (.bool false) W := Lib.run_eql_slice_nil W _ _ (some a) l c 0 0 Tryd.underlying39
theorem some_nil_m (W : World) (a : Addr) (l c : Nat) : (binOp .eql 40 (.slice (some a) l c) (.slice none 0 0)).run Tryd.prog W = .ok (.bool false) W := Lib.run_eql_slice_nil W _ _ (some a) l c 0 0 Tryd.underlying40
/-- an owned slice that a call returns -/
def OwnV (t m n : Nat) (F : Nat → Nat → Value) (w : World) (e : Ending) (w' : World) : Prop := ∃ A c, e = .returned (.slice A n c) ∧ Own w' w.heap.size t m (.slice A n c) n F ∧ Below w.heap.size w w'
set_option maxHeartbeats 1600000 in
theorem clone_c (a : Addr) (n c B : Nat) (F : Nat → Nat → Int) (w : World) (hn : n ≤ 4) (hR : Rd w B (some a) 3 n F) (hB : B ≤ w.heap.size) :
    Calls Tryd.prog 54 #[.slice (some a) n c] w (OwnV 69 3 n (ints2 F) w) := by
  obtain ⟨si, hi, hz0, hz1, hz2⟩ := info_parts cen_info
  have SI := Lib.hid (And.intro hi (And.intro hz0 (And.intro hz1 hz2)))
  have HR := Lib.hid hR
  have hs := some_nil_c
  clear hi hz0 hz1 hz2 hR
  go_enter Tryd.func54, Tryd.ntmps54
  go_wp2_with (at_builtin; go_must (refine wpList_copy rfl (.tmp 5) (.tmp 6) 39 rfl 69 si _ 3 24 Tryd.underlying39 SI.out.1 SI.out.2.1 SI.out.2.2.1 SI.out.2.2.2 rfl (by omega) (by omega) rfl (by exact Blk.new _ _ _) (F := ints2 F) (fun _ _ => rfl) rfl (HR.out.below ((belowAlloc w _).mono hB)).v (by omega) ?_); intro A1 c1 w1 ho1 hb1; have HO1 := Lib.hid ho1; have HB1 := Lib.hid ((belowAlloc w _).trans (hb1.mono (by simp))); clear ho1 hb1)
  go_ret
  exact ⟨A1, c1, rfl, HO1.out, HB1.out⟩
set_option maxHeartbeats 1600000 in
theorem clone_m (a : Addr) (n c B : Nat) (F : Nat → Nat → Int) (w : World) (hn : n ≤ 6) (hR : Rd w B (some a) 4 n F) (hB : B ≤ w.heap.size) :
    Calls Tryd.prog 55 #[.slice (some a) n c] w (OwnV 72 4 n (ints2 F) w) := by
  obtain ⟨si, hi, hz0, hz1, hz2⟩ := info_parts msg_info3
  have SI := Lib.hid (And.intro hi (And.intro hz0 (And.intro hz1 hz2)))
  have HR := Lib.hid hR
  have hs := some_nil_m
  clear hi hz0 hz1 hz2 hR
  go_enter Tryd.func55, Tryd.ntmps55
  go_wp2_with (at_builtin; go_must (refine wpList_copy rfl (.tmp 5) (.tmp 6) 40 rfl 72 si _ 4 32 Tryd.underlying40 SI.out.1 SI.out.2.1 SI.out.2.2.1 SI.out.2.2.2 rfl (by omega) (by omega) rfl (by exact Blk.new _ _ _) (F := ints2 F) (fun _ _ => rfl) rfl (HR.out.below ((belowAlloc w _).mono hB)).v (by omega) ?_); intro A1 c1 w1 ho1 hb1; have HO1 := Lib.hid ho1; have HB1 := Lib.hid ((belowAlloc w _).trans (hb1.mono (by simp))); clear ho1 hb1)
  go_ret
  exact ⟨A1, c1, rfl, HO1.out, HB1.out⟩
theorem slice_cen (g n : Nat) (hn : n ≤ 4) (W : World) : (Instr.sliceAt 70 (.pointer (some ⟨g, 1, none⟩)) none (some (.int .i64 (n : Int))) none).run Tryd.prog W = .ok (.slice (some ⟨g, 1, none⟩) n 4) W := by
  rw [run_sliceAt_array_h (P := Tryd.prog) W 70 ⟨g, 1, none⟩ (by kernel_rfl) .i64 (n : Int) (by omega) (by rw [show Tryd.prog.arrayLen 70 = 4 by kernel_rfl]; omega)]
  rw [show Tryd.prog.arrayLen 70 = 4 by kernel_rfl, show Tryd.prog.elem 70 = 69 by kernel_rfl, Tryd.sizeOf69]
  simp [Result.andThen, slicedAt, Addr.add]
theorem slice_msg (g n : Nat) (hn : n ≤ 6) (W : World) : (Instr.sliceAt 73 (.pointer (some ⟨g, 13, none⟩)) none (some (.int .i64 (n : Int))) none).run Tryd.prog W = .ok (.slice (some ⟨g, 13, none⟩) n 6) W := by
  rw [run_sliceAt_array_h (P := Tryd.prog) W 73 ⟨g, 13, none⟩ (by kernel_rfl) .i64 (n : Int) (by omega) (by rw [show Tryd.prog.arrayLen 73 = 6 by kernel_rfl]; omega)]
  rw [show Tryd.prog.arrayLen 73 = 6 by kernel_rfl, show Tryd.prog.elem 73 = 72 by kernel_rfl, Tryd.sizeOf72]
  simp [Result.andThen, slicedAt, Addr.add]
theorem Sf.rdC {w : World} {g n : Nat} {s : M.St} {k : Nat} (h : Sf w g (stF n s)) (hk : k ≤ 4) : Rd w (g + 1) (some ⟨g, 1, none⟩) 3 k s.c := by
  refine .inr ⟨g, 1, rfl, by omega, fun i j hi hj => ?_⟩
  rw [← stF_c n s (show i < 4 by omega) hj, ← Nat.add_assoc]
  exact h.cell (by omega)
theorem Sf.rdM {w : World} {g n : Nat} {s : M.St} {k : Nat} (h : Sf w g (stF n s)) (hk : k ≤ 6) : Rd w (g + 1) (some ⟨g, 13, none⟩) 4 k s.m := by
  refine .inr ⟨g, 13, rfl, by omega, fun i j hi hj => ?_⟩
  rw [← stF_m n s (show i < 6 by omega) hj, ← Nat.add_assoc]
  exact h.cell (by omega)
/-- a call as it is told -/
def CallV (n : Nat) (s : M.St) (base : Nat) (v : Value) (w' : World) : Prop :=
  ∃ A c A' c', v = .agg #[.slice A n c, .slice A' s.k c'] ∧ Own w' base 69 3 (.slice A n c) n (ints2 s.c) ∧ Own w' base 72 4 (.slice A' s.k c') s.k (ints2 s.m)
def cur (w : World) (p : Addr) : Value := (w.cell? p).getD undef
theorem cur_of {w : World} {p : Addr} {x : Value} (h : w.cell? p = some x) : w.cell? p = some (cur w p) := by unfold cur; rw [h]; rfl
theorem st_cell {W : World} {p q : Addr} {u v : Value} {a : Addr} {x : Value} (h : W.cell? a = some x) (hp : a ≠ p) (hq : a ≠ q) : ((W.setCell p u).setCell q v).cell? a = some x := by
  rw [World.cell?_setCell_other _ _ _ _ (Ne.symm hq), World.cell?_setCell_other _ _ _ _ (Ne.symm hp)]; exact h
theorem st_same {W : World} {g i : Nat} {u x : Value} (h : (W.setCell ⟨g, i, none⟩ u).cell? ⟨g, i, none⟩ = some x) : (W.setCell ⟨g, i, none⟩ u).cell? ⟨g, i, none⟩ = some u := by
  by_cases hs : (W.cell? ⟨g, i, none⟩).isSome = true
  · exact World.cell?_setCell_same' _ _ _ hs
  · exfalso
    simp only [World.setCell, World.cell?, Array.getElem?_modify, if_true] at h hs
    cases hh : W.heap[g]? with
    | none => simp [hh] at h
    | some o => cases o <;> simp_all
theorem st_two {W : World} {g : Nat} {u v x y : Value} (h0 : ((W.setCell ⟨g, 0, none⟩ u).setCell ⟨g, 1, none⟩ v).cell? ⟨g, 0, none⟩ = some x) (h1 : ((W.setCell ⟨g, 0, none⟩ u).setCell ⟨g, 1, none⟩ v).cell? ⟨g, 1, none⟩ = some y) :
    ((W.setCell ⟨g, 0, none⟩ u).setCell ⟨g, 1, none⟩ v).cell? ⟨g, 0, none⟩ = some u ∧ ((W.setCell ⟨g, 0, none⟩ u).setCell ⟨g, 1, none⟩ v).cell? ⟨g, 1, none⟩ = some v := by
  refine ⟨?_, st_same h1⟩
  rw [World.cell?_setCell_other _ _ _ _ (by simp)] at h0 ⊢
  exact st_same h0
/-- what each world of a region keeps: two cells that are read, and a block of two cells that a result is stored to -/
def KeptG (w : World) (p q : Addr) (x y : Value) (R : Nat) (w' : World) : Prop :=
  w'.cell? p = some x ∧ w'.cell? q = some y ∧ Below w.heap.size w w' ∧ R + 1 ≤ w'.heap.size ∧
    w'.cell? ⟨R, 0, none⟩ = some (cur w' ⟨R, 0, none⟩) ∧ w'.cell? ⟨R, 1, none⟩ = some (cur w' ⟨R, 1, none⟩) ∧ w'.frozen? ⟨R, 0, none⟩ = false ∧ w'.frozen? ⟨R, 1, none⟩ = false
section
variable {w W w1 : World} {p q : Addr} {x y : Value} {R : Nat}
theorem KeptG.keep (h : KeptG w p q x y R W) (hb : Below W.heap.size W w1) (hw : w.heap.size ≤ R) (hp : p.block < R) (hq : q.block < R) : KeptG w p q x y R w1 := by
  obtain ⟨h1, h2, h3, h4, h5, h6, h7, h8⟩ := h
  have hs := hb.size
  have c : ∀ a : Addr, a.block < W.heap.size → w1.cell? a = W.cell? a := fun a ha => hb.cell ha
  have f : ∀ a : Addr, a.block < W.heap.size → w1.frozen? a = W.frozen? a := fun a ha => hb.frozen ha
  exact ⟨(c _ (by omega)).trans h1, (c _ (by omega)).trans h2, h3.trans (hb.mono (by omega)), by omega,
    cur_of ((c _ (by show R < _; omega)).trans h5), cur_of ((c _ (by show R < _; omega)).trans h6),
    (f _ (by show R < _; omega)).trans h7, (f _ (by show R < _; omega)).trans h8⟩
theorem KeptG.alloc (h : KeptG w p q x y R W) (o : Obj) (hw : w.heap.size ≤ R) (hp : p.block < R) (hq : q.block < R) : KeptG w p q x y R (W.alloc o) := h.keep (belowAlloc W o) hw hp hq
theorem KeptG.alloc_drew {o : Obj} (h : KeptG w p q x y R W.drew) (hw : w.heap.size ≤ R) (hp : p.block < R) (hq : q.block < R) : KeptG w p q x y R (W.alloc o).drew := (h.alloc o hw hp hq : KeptG w p q x y R (W.drew.alloc o))
theorem KeptG.store (h : KeptG w p q x y R W) (u v : Value) (hw : w.heap.size ≤ R) (hp : p.block < R) (hq : q.block < R) : KeptG w p q x y R ((W.setCell ⟨R, 0, none⟩ u).setCell ⟨R, 1, none⟩ v) := by
  obtain ⟨h1, h2, h3, h4, h5, h6, h7, h8⟩ := h
  have np : ∀ i, p ≠ ⟨R, i, none⟩ := fun i e => by rw [e] at hp; simp at hp
  have nq : ∀ i, q ≠ ⟨R, i, none⟩ := fun i e => by rw [e] at hq; simp at hq
  refine ⟨st_cell h1 (np _) (np _), st_cell h2 (nq _) (nq _), (h3.setCell hw _).setCell hw _, by simpa using h4, ?_, ?_, ?_, ?_⟩
  · exact cur_of (x := u) (by rw [World.cell?_setCell_other _ _ _ _ (by simp), World.cell?_setCell_same' _ _ _ (by rw [h5]; rfl)])
  · exact cur_of (x := v) (by rw [World.cell?_setCell_same' _ _ _ (by rw [World.cell?_setCell_other _ _ _ _ (by simp), h6]; rfl)])
  · rw [World.frozen?_setCell, World.frozen?_setCell]; exact h7
  · rw [World.frozen?_setCell, World.frozen?_setCell]; exact h8
theorem KeptG.start {t : TypeId} (hp : w.cell? p = some x) (hq : w.cell? q = some y) : KeptG w p q x y w.heap.size (w.alloc (.cells #[.slice none 0 0, .slice none 0 0] t)).drew := by
  have k := Blk.new w t #[.slice none 0 0, .slice none 0 0]
  exact ⟨(al_cell hp : (w.alloc _).cell? p = some x), (al_cell hq : (w.alloc _).cell? q = some y), (belowAlloc _ _).drew, by simp, cur_of (k.cell 0), cur_of (k.cell 1), k.frz 0, k.frz 1⟩
end
set_option maxRecDepth 100000 in
set_option maxHeartbeats 3200000 in
theorem call_any (n g : Nat) (s : M.St) (w : World) (hn : n ≤ 4) (hs : Sf w g (stF n s)) (hk6 : s.k ≤ 6) :
    Calls Tryd.prog 37 #[.pointer (some ⟨g, 0, none⟩)] w fun e w' => (∃ v, e = .returned v ∧ CallV n s w.heap.size v w') ∧ Below w.heap.size w w' := by
  have c0 := hs.cn
  have ck := hs.ck
  have hg := hs.lt
  have H := Lib.hid hs
  have x1 := slice_cen g n hn
  have x2 := slice_msg g s.k hk6
  clear hs
  go_enter Tryd.func37, Tryd.ntmps37
  go_wp2_with fail
  go_region_held3 (fun w' => w'.cell? ⟨g, 0, none⟩ = some (.int .i64 (n : Int)) ∧ w'.cell? ⟨g, 37, none⟩ = some (.int .i64 (s.k : Int)) ∧ Below w.heap.size w w' ∧ w.heap.size + 1 ≤ w'.heap.size ∧
      w'.cell? ⟨w.heap.size, 0, none⟩ = some (cur w' ⟨w.heap.size, 0, none⟩) ∧ w'.cell? ⟨w.heap.size, 1, none⟩ = some (cur w' ⟨w.heap.size, 1, none⟩) ∧ w'.frozen? ⟨w.heap.size, 0, none⟩ = false ∧ w'.frozen? ⟨w.heap.size, 1, none⟩ = false)
    (first
      | assumption
      | exact KeptG.start c0 ck
      | exact KeptG.alloc_drew (w := w) (by assumption) (Nat.le_refl _) hg hg
      | exact KeptG.alloc (w := w) (by assumption) _ (Nat.le_refl _) hg hg
      | exact KeptG.store (w := w) (by assumption) _ _ (Nat.le_refl _) hg hg
      | exact KeptG.keep (w := w) (by assumption) hbx (Nat.le_refl _) hg hg
      | fail)
    (first
      | (go_at_call 54; refine (clone_c ⟨g, 1, none⟩ n 4 (g + 1) s.c _ hn ((H.out.below (by go_split_ands; assumption) hg).rdC hn) (by go_split_ands; omega)).mono ?_; rintro e w3 ⟨A1, c1, rfl, ho1, hbx⟩)
      | (go_at_call 55; refine (clone_m ⟨g, 13, none⟩ s.k 6 (g + 1) s.m _ hk6 ((H.out.below (by go_split_ands; assumption) hg).rdM hk6) (by go_split_ands; omega)).mono ?_; rintro e w4 ⟨A2, c2, rfl, ho2, hbx⟩)
      | fail)
  all_goals
    go_split_ands
    rename_i e1 e2 e3 e4 e5 e6 e7 e8
    obtain ⟨q0, q1⟩ := st_two e5 e6
    clear e1 e2 e4 e5 e6 e7 e8
    go_wp2
    refine bodyPost_ret (v := .agg #[.slice A1 n c1, .slice A2 s.k c2]) ?_ rfl ⟨⟨_, rfl, _, _, _, _, rfl, ?_, ?_⟩, e3⟩
    · simp [results, Tryd.results37, go_sem, q0, q1]
    · refine ((Own.setCell (Own.setCell (Own.below ?_ hbx) ?_ _) ?_ _))
      · exact ho1.less (by simp)
      · intro e; have h := (ho1.block e).1; dsimp only at h; simp at h; omega
      · intro e; have h := (ho1.block e).1; dsimp only at h; simp at h; omega
    · have hs1 : w.heap.size + 1 ≤ w3.heap.size := by
        have h := Below.size ‹Below _ _ w3›
        simp at h; omega
      refine ((Own.setCell (Own.setCell (ho2.less ?_) ?_ _) ?_ _))
      · omega
      · intro e; have h := (ho2.block e).1; dsimp only at h; omega
      · intro e; have h := (ho2.block e).1; dsimp only at h; omega
end Go.Proofs.YtbjggnecfppjgaaDoor
