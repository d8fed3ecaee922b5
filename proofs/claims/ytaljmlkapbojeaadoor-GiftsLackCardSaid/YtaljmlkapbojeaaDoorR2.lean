/- The contract of the reference's Copy. -/
import Derived.Test.YtaljmlkapbojeaaDoorR1
import Derived.Test.YtaljmlkapbojeaaDoorG7
import Derived.Deep.RegionHeld3
import Derived.Deep.AppendLies
import Derived.Deep.DrawnRows
namespace Go.Proofs.YtaljmlkapbojeaaDoor
open Go.RowKit

abbrev ints2 (f : Nat → Nat → Int) : Nat → Nat → Value := fun i j => .int .i64 (f i j)

section
variable {P : Program}
theorem run_append_none (w : World) (t ty e : TypeId) (i : TypeInfo) (ht : P.underlying t = some (.slice e)) (hi : P.info? e = some i) (g c : Nat) (A : Option Addr) :
    (Builtin.append_ #[t, t] ty #[.slice (some ⟨g, 0, none⟩) 0 0, .slice A 0 c]).run P w = .ok (.slice (some ⟨g, 0, none⟩) 0 0) w := by
  cases A <;> simp [Builtin.append_, run_underlying ht, sizeOf, typeInfo, hi, Builtin.lenOf, Builtin.firstCells, loadCells, loadCellsFrom, storeCells]

theorem own_empty {w : World} {g : Nat} {t m : Nat} (h : Blk w g t #[]) (F : Nat → Nat → Value) : Own w g t m (.slice (some ⟨g, 0, none⟩) 0 0) 0 F := by
  refine ⟨by simp [cellsOf], .inr ⟨g, 0, #[], rfl, Nat.le_refl _, h, Nat.le_refl _, by simp, by simp, by simp [cellsOf]⟩⟩

/-- append of a whole slice of structs of ints to an empty slice that has no room -/
theorem run_copy (w : World) (t ty e : TypeId) (i : TypeInfo) (z : Value) (m bytes : Nat) (ht : P.underlying t = some (.slice e)) (hi : P.info? e = some i) (hz : i.zero = some z)
    (hsize : i.size = m) (hby : i.bytes = bytes) (hzs : z.cells.size = m) (hsz : 0 < m) (hbm : bytes ≤ 4096)
    {g : Nat} (hblk : Blk w g e #[]) {A : Option Addr} {n c B : Nat} {F : Nat → Nat → Int} (hR : Rd w B A m n F) (hn : n ≤ 1048576) :
    ∃ v' w', (Builtin.append_ #[t, t] ty #[.slice (some ⟨g, 0, none⟩) 0 0, .slice A n c]).run P w = .ok v' w' ∧ Own w' g e m v' n (ints2 F) ∧ Below w.heap.size w w' := by
  have hg := hblk.lt
  have ho := own_empty (m := m) hblk (ints2 F)
  rcases Nat.eq_zero_or_pos n with rfl | hpos
  · exact ⟨_, _, run_append_none w t ty e i ht hi g c A, ho, Below.refl _ _⟩
  · rcases hR with h0 | ⟨b, off, rfl, hb, hc⟩
    · omega
    · have hl : (cellsOf n m (ints2 F)).length = n * m := length_cellsOf _ _ _
      have hnews : ∀ j u, (cellsOf n m (ints2 F))[j]? = some u → w.cell? ((⟨b, off, none⟩ : Addr).add j) = some u := by
        intro j u hj
        have hjl : j < n * m := by
          have := (List.getElem?_eq_some_iff.1 hj).1
          rwa [hl] at this
        have hd : j / m < n := Nat.div_lt_of_lt_mul (by rw [Nat.mul_comm]; exact hjl)
        have hmod := Nat.mod_lt j hsz
        have hq := hc (j / m) (j % m) hd hmod
        have hjj : j / m * m + j % m = j := by rw [Nat.mul_comm]; exact Nat.div_add_mod j m
        rw [hjj] at hq
        have hv := get_cellsOf (F := ints2 F) hd hmod
        rw [hjj, hj] at hv
        have hadd : (⟨b, off, none⟩ : Addr).add j = ⟨b, off + j, none⟩ := by unfold Addr.add; split <;> simp_all
        rw [hadd, hq, hv]
      have h1 : ∀ u ∈ cellsOf n m (ints2 F), u.oneCell' = true := by
        intro u hu
        simp [cellsOf] at hu
        obtain ⟨q, _, rfl⟩ := hu
        rfl
      have hbb : (0 + n) * bytes ≤ 1048576 * 4096 := Nat.mul_le_mul (by omega) hbm
      obtain ⟨v', w', e1, e2, e3, _, e5⟩ := run_append_own_at (P := P) w g t ty e i z m bytes ht hi hz hsize hby hzs hsz _ 0 _ ho ⟨b, off, none⟩ n c _ hl hnews h1 (by unfold maxLen; omega) (by omega) (by omega)
      have er := run_append_grow (P := P) w t ty e i z ht hi hz ⟨g, 0, none⟩ 0 0 [] (by simp) (by simp) ⟨b, off, none⟩ n c (cellsOf n m (ints2 F)) (by rw [hsize]; exact hl) hnews (by omega) (by omega) (growslice_fits (by omega) (by rw [hby]; omega))
      rw [er] at e1
      injection e1 with e1 e6
      refine ⟨v', w', by rw [er, e1, e6], ?_, ?_⟩
      · have : cellsOf 0 m (ints2 F) ++ cellsOf n m (ints2 F) = cellsOf n m (ints2 F) := by simp [cellsOf]
        rw [this, Nat.zero_add] at e2
        exact e2
      · rw [← e6]
        exact (Below.refl _ _).drew.alloc (by simp) _

theorem step_copy {w : World} {ops : Array Oper} {o : Oper} {a : Act} {K : Act → World → Prop} {Q : Exit → Act → World → Prop} {E : Prop} (hgd : o.guard = none) (s x : Operand) (t : TypeId)
    (ho : o.op = .call { callee := .builtin .append, args := #[s, x], argTypes := #[t, t] })
    (e : TypeId) (i : TypeInfo) (z : Value) (m bytes : Nat) (ht : P.underlying t = some (.slice e)) (hi : P.info? e = some i) (hz : i.zero = some z)
    (hsize : i.size = m) (hby : i.bytes = bytes) (hzs : z.cells.size = m) (hsz : 0 < m) (hbm : bytes ≤ 4096)
    {g : Nat} (hs : a.eval s = .slice (some ⟨g, 0, none⟩) 0 0) (hblk : Blk w g e #[]) {A : Option Addr} {n c B : Nat} {F : Nat → Nat → Int} (hx : a.eval x = .slice A n c) (hR : Rd w B A m n F) (hn : n ≤ 1048576)
    (h : ∀ A' c' w', Own w' g e m (.slice A' n c') n (ints2 F) → Below w.heap.size w w' → K (a.put o.dst (.slice A' n c')) w') :
    if Region.wanted o (yielded ops a.tmps) = true then Oper.wp P o a w K Q else E := by
  have hw : Region.wanted o (yielded ops a.tmps) = true := by simp [Region.wanted, hgd]
  rw [if_pos hw]
  obtain ⟨v', w', hr, h2, h3⟩ := run_copy (P := P) w t o.type e i z m bytes ht hi hz hsize hby hzs hsz hbm hblk (c := c) hR hn
  unfold Oper.wp execOp
  simp only [ho, resolve, invoke, builtin, Sem.run_bind, Sem.run_pure, Result.andThen_ok, List.map_toArray, List.map_cons, List.map_nil, hs, hx, hr]
  obtain ⟨A', c', rfl⟩ := h2.form
  exact h A' c' w' h2 h3
end

theorem gift_info : (Tryd.prog.info? 44).map (fun i => (i.zero, i.size, i.bytes)) = some (some (.agg #[.int .i64 0, .int .i64 0, .int .i64 0]), 3, 24) := by kernel_rfl
theorem bill_info : (Tryd.prog.info? 41).map (fun i => (i.zero, i.size, i.bytes)) = some (some (.agg #[.int .i64 0, .int .i64 0, .int .i64 0]), 3, 24) := by kernel_rfl

theorem far_cell {w W w1 : World} (hb : Below W.heap.size W w1) (hs : w.heap.size + 1 + 1 ≤ W.heap.size) (i : Nat) {x : Option Value} (h : W.cell? ⟨w.heap.size, i, none⟩ = x) : w1.cell? ⟨w.heap.size, i, none⟩ = x := by
  rw [hb.cell (p := ⟨w.heap.size, i, none⟩) (by show w.heap.size < _; omega)]; exact h
theorem far_cell1 {w W w1 : World} (hb : Below W.heap.size W w1) (hs : w.heap.size + 1 + 1 ≤ W.heap.size) (i : Nat) {x : Option Value} (h : W.cell? ⟨w.heap.size + 1, i, none⟩ = x) : w1.cell? ⟨w.heap.size + 1, i, none⟩ = x := by
  rw [hb.cell (p := ⟨w.heap.size + 1, i, none⟩) (by show w.heap.size + 1 < _; omega)]; exact h
theorem far_frz1 {w W w1 : World} (hb : Below W.heap.size W w1) (hs : w.heap.size + 1 + 1 ≤ W.heap.size) (i : Nat) {x : Bool} (h : W.frozen? ⟨w.heap.size + 1, i, none⟩ = x) : w1.frozen? ⟨w.heap.size + 1, i, none⟩ = x := by
  rw [hb.frozen (p := ⟨w.heap.size + 1, i, none⟩) (by show w.heap.size + 1 < _; omega)]; exact h
theorem far_below {w W w1 : World} (h : Below w.heap.size w W) (hb : Below W.heap.size W w1) (hs : w.heap.size + 1 + 1 ≤ W.heap.size) : Below w.heap.size w w1 := h.trans (hb.mono (by omega))
theorem blk_drew {W : World} {g : Nat} {t : TypeId} {cs : Array Value} (h : Blk W g t cs) : Blk W.drew g t cs := h
theorem st_cell {W : World} {p q : Addr} {u v : Value} {a : Addr} {x : Value} (h : W.cell? a = some x) (hp : a ≠ p) (hq : a ≠ q) : ((W.setCell p u).setCell q v).cell? a = some x := by
  rw [World.cell?_setCell_other _ _ _ _ (Ne.symm hq), World.cell?_setCell_other _ _ _ _ (Ne.symm hp)]; exact h
def cur (w : World) (p : Addr) : Value := (w.cell? p).getD undef
theorem cur_of {w : World} {p : Addr} {x : Value} (h : w.cell? p = some x) : w.cell? p = some (cur w p) := by unfold cur; rw [h]; rfl
/-- what each world of the region keeps -/
def Kept0 (w : World) (gA bA : Option Addr) (gn gc bn bc : Nat) (w' : World) : Prop :=
  w'.cell? ⟨w.heap.size, 0, none⟩ = some (.slice gA gn gc) ∧ w'.cell? ⟨w.heap.size, 1, none⟩ = some (.slice bA bn bc) ∧ Below w.heap.size w w' ∧ w.heap.size + 1 + 1 ≤ w'.heap.size ∧
    w'.cell? ⟨w.heap.size + 1, 0, none⟩ = some (cur w' ⟨w.heap.size + 1, 0, none⟩) ∧ w'.cell? ⟨w.heap.size + 1, 1, none⟩ = some (cur w' ⟨w.heap.size + 1, 1, none⟩) ∧ w'.frozen? ⟨w.heap.size + 1, 0, none⟩ = false ∧ w'.frozen? ⟨w.heap.size + 1, 1, none⟩ = false
section
variable {w W w1 : World} {gA bA : Option Addr} {gn gc bn bc : Nat}
theorem Kept0.keep (h : Kept0 w gA bA gn gc bn bc W) (hb : Below W.heap.size W w1) : Kept0 w gA bA gn gc bn bc w1 := by
  obtain ⟨h1, h2, h3, h4, h5, h6, h7, h8⟩ := h
  have hs := hb.size
  have c : ∀ a : Addr, a.block < W.heap.size → w1.cell? a = W.cell? a := fun a ha => hb.cell ha
  have f : ∀ a : Addr, a.block < W.heap.size → w1.frozen? a = W.frozen? a := fun a ha => hb.frozen ha
  exact ⟨(c _ (by show w.heap.size < _; omega)).trans h1, (c _ (by show w.heap.size < _; omega)).trans h2, h3.trans (hb.mono (by omega)), by omega,
    cur_of ((c _ (by show w.heap.size + 1 < _; omega)).trans h5), cur_of ((c _ (by show w.heap.size + 1 < _; omega)).trans h6),
    (f _ (by show w.heap.size + 1 < _; omega)).trans h7, (f _ (by show w.heap.size + 1 < _; omega)).trans h8⟩
theorem Kept0.alloc (h : Kept0 w gA bA gn gc bn bc W) (o : Obj) : Kept0 w gA bA gn gc bn bc (W.alloc o) := h.keep (belowAlloc W o)
theorem Kept0.alloc_drew {o : Obj} (h : Kept0 w gA bA gn gc bn bc W.drew) : Kept0 w gA bA gn gc bn bc (W.alloc o).drew := (h.alloc o : Kept0 w gA bA gn gc bn bc (W.drew.alloc o))
theorem Kept0.store (h : Kept0 w gA bA gn gc bn bc W) (u v : Value) : Kept0 w gA bA gn gc bn bc ((W.setCell ⟨w.heap.size + 1, 0, none⟩ u).setCell ⟨w.heap.size + 1, 1, none⟩ v) := by
  obtain ⟨h1, h2, h3, h4, h5, h6, h7, h8⟩ := h
  refine ⟨st_cell h1 (by simp) (by simp), st_cell h2 (by simp) (by simp), (h3.setCell (by simp) _).setCell (by simp) _, by simpa using h4, ?_, ?_, ?_, ?_⟩
  · exact cur_of (x := u) (by rw [World.cell?_setCell_other _ _ _ _ (by simp), World.cell?_setCell_same' _ _ _ (by rw [h5]; rfl)])
  · exact cur_of (x := v) (by rw [World.cell?_setCell_same' _ _ _ (by rw [World.cell?_setCell_other _ _ _ _ (by simp), h6]; rfl)])
  · rw [World.frozen?_setCell, World.frozen?_setCell]; exact h7
  · rw [World.frozen?_setCell, World.frozen?_setCell]; exact h8
theorem Kept0.start : Kept0 w gA bA gn gc bn bc ((w.alloc (.cells #[.slice gA gn gc, .slice bA bn bc] 25)).alloc (.cells #[.slice none 0 0, .slice none 0 0] 25)).drew := by
  have k := Blk.new1 w (.cells #[.slice gA gn gc, .slice bA bn bc] 25) 25 #[.slice none 0 0, .slice none 0 0]
  have k0 := (Blk.new w 25 #[.slice gA gn gc, .slice bA bn bc]).alloc (.cells #[.slice none 0 0, .slice none 0 0] 25)
  exact ⟨k0.cell 0, k0.cell 1, (belowAlloc2 _ _ _).drew, by simp, cur_of (k.cell 0), cur_of (k.cell 1), k.frz 0, k.frz 1⟩
end
theorem st_same {W : World} {g i : Nat} {u x : Value} (h : (W.setCell ⟨g, i, none⟩ u).cell? ⟨g, i, none⟩ = some x) : (W.setCell ⟨g, i, none⟩ u).cell? ⟨g, i, none⟩ = some u := by
  by_cases hs : (W.cell? ⟨g, i, none⟩).isSome = true
  · exact World.cell?_setCell_same' _ _ _ hs
  · exfalso
    simp only [World.setCell, World.cell?, Array.getElem?_modify, if_true] at h hs
    cases hh : W.heap[g]? with
    | none => simp [hh] at h
    | some o => cases o <;> simp_all
theorem st_two {W : World} {g : Nat} {u v x y : Value} (h0 : ((W.setCell ⟨g, 0, none⟩ u).setCell ⟨g, 1, none⟩ v).cell? ⟨g, 0, none⟩ = some x) (h1 : ((W.setCell ⟨g, 0, none⟩ u).setCell ⟨g, 1, none⟩ v).cell? ⟨g, 1, none⟩ = some y) :
    ((W.setCell ⟨g, 0, none⟩ u).setCell ⟨g, 1, none⟩ v).cell? ⟨g, 0, none⟩ = some u ∧ ((W.setCell ⟨g, 0, none⟩ u).setCell ⟨g, 1, none⟩ v).cell? ⟨g, 1, none⟩ = some v := by
  refine ⟨?_, st_same h1⟩
  rw [World.cell?_setCell_other _ _ _ _ (by simp)] at h0 ⊢
  exact st_same h0
def Copied (w : World) (gn bn : Nat) (G H : Nat → Nat → Int) (e : Ending) (w' : World) : Prop :=
  ∃ v1 v2, e = .returned (.agg #[v1, v2]) ∧ Own w' w.heap.size 44 3 v1 gn (ints2 G) ∧ Own w' w.heap.size 41 3 v2 bn (ints2 H) ∧ Below w.heap.size w w'

set_option maxRecDepth 100000 in
set_option maxHeartbeats 3200000 in
theorem copy_any (gA bA : Option Addr) (gn gc bn bc B : Nat) (G H : Nat → Nat → Int) (w : World) (hg : gn ≤ 1048576) (hb : bn ≤ 1048576) (hR : BookRd w B gA gn G bA bn H) (hB : B ≤ w.heap.size) :
    Calls Tryd.prog 9 #[.agg #[.slice gA gn gc, .slice bA bn bc]] w (Copied w gn bn G H) := by
  obtain ⟨gi, hi, hz0, hz1, hz2⟩ := info_parts gift_info
  obtain ⟨bi, ki, kz0, kz1, kz2⟩ := info_parts bill_info
  have GI := Lib.hid (And.intro hi (And.intro hz0 (And.intro hz1 hz2)))
  have BI := Lib.hid (And.intro ki (And.intro kz0 (And.intro kz1 kz2)))
  clear hi hz0 hz1 hz2 ki kz0 kz1 kz2
  go_enter Tryd.func9, Tryd.ntmps9
  go_wp2_with fail
  go_region_held3 (fun w' => w'.cell? ⟨w.heap.size, 0, none⟩ = some (.slice gA gn gc) ∧ w'.cell? ⟨w.heap.size, 1, none⟩ = some (.slice bA bn bc) ∧ Below w.heap.size w w' ∧ w.heap.size + 1 + 1 ≤ w'.heap.size ∧
      w'.cell? ⟨w.heap.size + 1, 0, none⟩ = some (cur w' ⟨w.heap.size + 1, 0, none⟩) ∧ w'.cell? ⟨w.heap.size + 1, 1, none⟩ = some (cur w' ⟨w.heap.size + 1, 1, none⟩) ∧ w'.frozen? ⟨w.heap.size + 1, 0, none⟩ = false ∧ w'.frozen? ⟨w.heap.size + 1, 1, none⟩ = false)
    (first
      | assumption
      | exact Kept0.start
      | exact Kept0.alloc_drew (w := w) (by assumption)
      | exact Kept0.alloc (w := w) (by assumption) _
      | exact Kept0.store (w := w) (by assumption) _ _
      | exact Kept0.keep (w := w) (by assumption) hbx
      | fail)
    (first
      | (refine step_copy (by rfl) (.tmp 3) (.tmp 5) 22 (by rfl) 44 gi _ 3 24 Tryd.underlying22 GI.out.1 GI.out.2.1 GI.out.2.2.1 GI.out.2.2.2 rfl (by omega) (by omega) (by rfl) (by first | exact Blk.new _ _ _ | exact Blk.new2 _ _ _ _ _ | exact (Blk.new2 _ _ _ _ _).alloc _ | exact Blk.new3 _ _ _ _ _ _ | exact (blk_drew (Blk.new3 _ _ _ _ _ _)).below hbx (by simp) | exact (blk_drew ((Blk.new2 _ _ _ _ _).alloc _)).below hbx (by simp) | fail) (by rfl) (hR.1.below (Below.mono (by go_split_ands; assumption) hB)) hg ?_; intro A1 c1 w1 ho1 hbx)
      | (refine step_copy (by rfl) (.tmp 7) (.tmp 9) 23 (by rfl) 41 bi _ 3 24 Tryd.underlying23 BI.out.1 BI.out.2.1 BI.out.2.2.1 BI.out.2.2.2 rfl (by omega) (by omega) (by rfl) (by first | exact Blk.new _ _ _ | exact Blk.new2 _ _ _ _ _ | exact (Blk.new2 _ _ _ _ _).alloc _ | exact Blk.new3 _ _ _ _ _ _ | exact (blk_drew (Blk.new3 _ _ _ _ _ _)).below hbx (by simp) | exact (blk_drew ((Blk.new2 _ _ _ _ _).alloc _)).below hbx (by simp) | fail) (by rfl) (hR.2.below (Below.mono (by go_split_ands; assumption) hB)) hb ?_; intro A2 c2 w2 ho2 hbx))
  all_goals
    go_split_ands
    rename_i e1 e2 e3 e4 e5 e6 e7 e8
    obtain ⟨q0, q1⟩ := st_two e5 e6
    clear e1 e2 e4 e5 e6 e7 e8 GI BI hR
    go_wp2
    refine bodyPost_ret (v := .agg #[.slice A1 gn c1, .slice A2 bn c2]) ?_ rfl ⟨_, _, rfl, ?_, ?_, e3⟩
    · simp [results, Tryd.results9, go_sem, q0, q1]
    · refine ((Own.setCell (Own.setCell (Own.below ?_ hbx) ?_ _) ?_ _))
      · first | exact ho1.less (by omega) | exact (ho1.alloc _).less (by omega)
      · intro e; have h := (ho1.block e).1; dsimp only at h; omega
      · intro e; have h := (ho1.block e).1; dsimp only at h; omega
    · have hs1 : w.heap.size + 1 + 1 ≤ w1.heap.size := by
        have h := Below.size ‹Below _ _ w1›
        simp at h; omega
      refine ((Own.setCell (Own.setCell (ho2.less ?_) ?_ _) ?_ _))
      · omega
      · intro e; have h := (ho2.block e).1; dsimp only at h; omega
      · intro e; have h := (ho2.block e).1; dsimp only at h; omega
end Go.Proofs.YtaljmlkapbojeaaDoor
