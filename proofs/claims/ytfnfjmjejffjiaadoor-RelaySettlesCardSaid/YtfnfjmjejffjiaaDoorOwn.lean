/- Slices that a call has made itself: what they hold, and what appends, stores and calls do to them. -/
import Derived.Test.YtfnfjmjejffjiaaDoorBase
import Derived.Maps.AppendAt
import Derived.Deep.RegionHeld
namespace Go.Proofs.YtfnfjmjejffjiaaDoor
open Go.RowKit

/-- a block that is known whole -/
def Blk (w : World) (g : Nat) (t : TypeId) (cs : Array Value) : Prop := w.heap[g]? = some (.cells cs t (0, 0))
section
variable {w w' : World} {g : Nat} {t : TypeId} {cs : Array Value}
theorem Blk.lt (h : Blk w g t cs) : g < w.heap.size := (Array.getElem?_eq_some_iff.1 h).1
theorem Blk.cell (h : Blk w g t cs) (i : Nat) : w.cell? ⟨g, i, none⟩ = cs[i]? := cell_of_row w g i cs t (0, 0) h
theorem Blk.frz (h : Blk w g t cs) (i : Nat) : w.frozen? ⟨g, i, none⟩ = false := frozen_of_row w g i cs t h
theorem Blk.new (w : World) (t : TypeId) (cs : Array Value) : Blk (w.alloc (.cells cs t)) w.heap.size t cs := heap_alloc_new w _
theorem Blk.below {B : Nat} (h : Blk w g t cs) (hb : Below B w w') (hg : g < B) : Blk w' g t cs := (hb.block g hg).trans h
theorem Blk.alloc (h : Blk w g t cs) (o : Obj) : Blk (w.alloc o) g t cs := h.below (belowAlloc w o) h.lt
theorem Blk.set_ (h : Blk w g t cs) (i : Nat) (u : Value) : Blk (w.setCell ⟨g, i, none⟩ u) g t (cs.setIfInBounds i u) := heap_setCell_same w g i cs t u h
theorem Blk.far (h : Blk w g t cs) {p : Addr} (hp : g ≠ p.block) (u : Value) : Blk (w.setCell p u) g t cs := (Below.heap_setCell w p u g hp).trans h
theorem Blk.grown {row : Option Nat} (h : Blk w g t cs) (hb : w.grownBy w' row) (hg : some g ≠ row) : Blk w' g t cs := (hb.block g h.lt hg).trans h
theorem Blk.new1 (w : World) (o : Obj) (t : TypeId) (cs : Array Value) : Blk ((w.alloc o).alloc (.cells cs t)) (w.heap.size + 1) t cs := by
  have := Blk.new (w.alloc o) t cs
  simpa using this
theorem Blk.new2 (w : World) (o o' : Obj) (t : TypeId) (cs : Array Value) : Blk (((w.alloc o).alloc o').alloc (.cells cs t)) (w.heap.size + 1 + 1) t cs := by
  have := Blk.new ((w.alloc o).alloc o') t cs
  simpa using this
theorem Blk.new3 (w : World) (o o' o'' : Obj) (t : TypeId) (cs : Array Value) : Blk ((((w.alloc o).alloc o').alloc o'').alloc (.cells cs t)) (w.heap.size + 1 + 1 + 1) t cs := by
  have := Blk.new (((w.alloc o).alloc o').alloc o'') t cs
  simpa using this
end

/-- the cells of n elements of m cells each -/
def cellsOf (n m : Nat) (F : Nat → Nat → Value) : List Value := (List.range (n * m)).map fun q => F (q / m) (q % m)
theorem length_cellsOf (n m : Nat) (F : Nat → Nat → Value) : (cellsOf n m F).length = n * m := by simp [cellsOf]
theorem get_cellsOf {n m : Nat} {F : Nat → Nat → Value} {i j : Nat} (hi : i < n) (hj : j < m) : (cellsOf n m F)[i * m + j]? = some (F i j) := by
  have hlt : i * m + j < n * m := by
    have : (i + 1) * m ≤ n * m := Nat.mul_le_mul_right m hi
    rw [Nat.add_mul, Nat.one_mul] at this
    omega
  have h1 : (i * m + j) / m = i := by rw [Nat.mul_comm, Nat.mul_add_div (by omega), Nat.div_eq_of_lt hj]; omega
  have h2 : (i * m + j) % m = j := by rw [Nat.mul_comm, Nat.mul_add_mod, Nat.mod_eq_of_lt hj]
  simp [cellsOf, hlt, h1, h2]
theorem cellsOf_congr {n m : Nat} {F F' : Nat → Nat → Value} (h : ∀ i j, i < n → j < m → F i j = F' i j) : cellsOf n m F = cellsOf n m F' := by
  unfold cellsOf
  refine List.map_congr_left fun q hq => ?_
  have hq := List.mem_range.1 hq
  have hm : 0 < m := by
    rcases Nat.eq_zero_or_pos m with h0 | h0
    · subst h0; simp at hq
    · exact h0
  exact h _ _ (Nat.div_lt_of_lt_mul (by rw [Nat.mul_comm]; exact hq)) (Nat.mod_lt _ hm)

def upd (F : Nat → Nat → Value) (k : Nat) (X : Nat → Value) : Nat → Nat → Value := fun i => if i = k then X else F i
theorem upd_self (F : Nat → Nat → Value) (k : Nat) : upd F k (F k) = F := by
  funext i
  unfold upd
  split
  · subst_vars; rfl
  · rfl
theorem cellsOf_succ (n m : Nat) (F : Nat → Nat → Value) (X : Nat → Value) : cellsOf n m F ++ (List.range m).map X = cellsOf (n + 1) m (upd F n X) := by
  apply List.ext_getElem?
  intro q
  have hs : (n + 1) * m = n * m + m := by rw [Nat.add_mul, Nat.one_mul]
  by_cases h1 : q < n * m
  · rw [List.getElem?_append_left (by rw [length_cellsOf]; exact h1)]
    have hd : q / m ≠ n := Nat.ne_of_lt (Nat.div_lt_of_lt_mul (by rw [Nat.mul_comm]; exact h1))
    simp [cellsOf, h1, hs, show q < n * m + m by omega, upd, hd]
  · rw [List.getElem?_append_right (by rw [length_cellsOf]; omega), length_cellsOf]
    by_cases h2 : q < n * m + m
    · have hm : 0 < m := by omega
      have hd : q / m = n := by
        rw [Nat.div_eq_iff hm]
        constructor
        · omega
        · omega
      have hmod : q % m = q - n * m := by
        have := Nat.div_add_mod q m
        rw [hd, Nat.mul_comm] at this
        omega
      simp [cellsOf, hs, h2, upd, hd, hmod, show q - n * m < m by omega]
    · simp [cellsOf, hs, h2, show ¬ q - n * m < m by omega]

/-- The slice value v of n elements (m cells each, of type t) is the call's own: its block's number is base or more. -/
def Own (w : World) (base : Nat) (t m : Nat) (v : Value) (n : Nat) (F : Nat → Nat → Value) : Prop := w.ownsRow base t m v n (cellsOf n m F)

section
variable {w w' : World} {base t m n : Nat} {v : Value} {F F' : Nat → Nat → Value}
theorem Own.nil_ : Own w base t m (.slice none 0 0) 0 F := by
  unfold Own cellsOf
  simpa using World.ownsRow_nil w base t m
theorem Own.congr (h : Own w base t m v n F) (hF : ∀ i j, i < n → j < m → F i j = F' i j) : Own w base t m v n F' := by
  unfold Own at h ⊢; rw [← cellsOf_congr hF]; exact h
theorem Own.grown (h : Own w base t m v n F) {row : Option Nat} (hg : w.grownBy w' row) (hne : v.ownBlock = none ∨ v.ownBlock ≠ row) : Own w' base t m v n F := World.ownsRow.kept h hg hne
theorem below_grown {w w' : World} (hb : Below w.heap.size w w') (row : Option Nat) : w.grownBy w' row := ⟨hb.os, hb.tape, hb.output, hb.size, fun k hk _ => hb.block k hk⟩
theorem Own.below (h : Own w base t m v n F) (hb : Below w.heap.size w w') : Own w' base t m v n F :=
  h.grown (below_grown hb none) (by cases v.ownBlock <;> simp)
theorem Own.alloc (h : Own w base t m v n F) (o : Obj) : Own (w.alloc o) base t m v n F := h.below (belowAlloc w o)
theorem Own.drew (h : Own w base t m v n F) : Own w.drew base t m v n F := h
theorem Own.drewN (h : Own w base t m v n F) (k : Nat) : Own (w.drewN k) base t m v n F := h
theorem Own.setCell (h : Own w base t m v n F) {p : Addr} (hp : v.ownBlock ≠ some p.block) (u : Value) : Own (w.setCell p u) base t m v n F :=
  h.grown (row := some p.block) ⟨rfl, rfl, rfl, by simp [World.setCell], fun k _ hk => Below.heap_setCell w p u k (fun e => hk (by rw [e]))⟩ (.inr hp)
theorem Own.less (h : Own w base t m v n F) {base' : Nat} (hb : base' ≤ base) : Own w base' t m v n F := by
  refine ⟨h.1, ?_⟩
  rcases h.2 with h | ⟨g, cap, cur, h1, h2, h3⟩
  · exact .inl h
  · exact .inr ⟨g, cap, cur, h1, by omega, h3⟩
theorem Own.block (h : Own w base t m v n F) {g : Nat} (hg : v.ownBlock = some g) : base ≤ g ∧ g < w.heap.size := by
  rcases h.2 with ⟨rfl, _⟩ | ⟨g', cap, cur, rfl, h2, h3, _⟩
  · simp [Value.ownBlock] at hg
  · simp [Value.ownBlock] at hg
    subst hg
    exact ⟨h2, (Array.getElem?_eq_some_iff.1 h3).1⟩
theorem Own.ne_ (h : Own w base t m v n F) {g : Nat} (hg : g < base) : some g ≠ v.ownBlock := fun e => by have := (h.block e.symm).1; omega
theorem Own.form (h : Own w base t m v n F) : ∃ A c, v = .slice A n c := by
  rcases h.2 with ⟨rfl, rfl⟩ | ⟨g', cap, cur, rfl, _⟩
  · exact ⟨none, 0, rfl⟩
  · exact ⟨_, _, rfl⟩
theorem Own.nz (h : Own w base t m v n F) (hn : 0 < n) : ∃ g c, v = .slice (some ⟨g, 0, none⟩) n c := by
  rcases h.2 with ⟨_, rfl⟩ | ⟨g', cap, cur, rfl, _⟩
  · omega
  · exact ⟨_, _, rfl⟩
theorem Own.cell {g c : Nat} (h : Own w base t m (.slice (some ⟨g, 0, none⟩) n c) n F) {i j : Nat} (hi : i < n) (hj : j < m) : w.cell? ⟨g, i * m + j, none⟩ = some (F i j) := by
  rw [World.ownsRow.cellAt h, get_cellsOf hi hj]
  have : (i + 1) * m ≤ n * m := Nat.mul_le_mul_right m hi
  rw [Nat.add_mul, Nat.one_mul] at this
  omega
theorem Own.cell1 {g c : Nat} (h : Own w base t 1 (.slice (some ⟨g, 0, none⟩) n c) n F) {i : Nat} (hi : i < n) : w.cell? ⟨g, i, none⟩ = some (F i 0) := by
  have := h.cell hi (j := 0) (by omega)
  simpa using this
theorem Own.frz {g c : Nat} (h : Own w base t m (.slice (some ⟨g, 0, none⟩) n c) n F) (j : Nat) : w.frozen? ⟨g, j, none⟩ = false := World.ownsRow.frozenAt h j
theorem Own.set1 {g c : Nat} (h : Own w base t 1 (.slice (some ⟨g, 0, none⟩) n c) n F) (k : Nat) (u : Value) : Own (w.setCell ⟨g, k, none⟩ u) base t 1 (.slice (some ⟨g, 0, none⟩) n c) n (upd F k fun _ => u) := by
  have hs := (World.ownsRow.stored h k u).1
  unfold Own
  have e : (cellsOf n 1 F).set k u = cellsOf n 1 (upd F k fun _ => u) := by
    apply List.ext_getElem?
    intro q
    by_cases hq : q < n
    · by_cases hk : k = q
      · subst hk
        simp [cellsOf, upd, hq, Nat.mod_one]
      · rw [List.getElem?_set_ne hk]
        simp [cellsOf, upd, hq, Nat.mod_one, show ¬ q = k from fun e => hk e.symm]
    · by_cases hk : k = q
      · subst hk; simp [cellsOf, hq]
      · simp [cellsOf, hq]
  rw [← e]
  exact hs
def upd2 (F : Nat → Nat → Value) (k j : Nat) (u : Value) : Nat → Nat → Value := fun a b => if a = k ∧ b = j then u else F a b
theorem Own.setm {g c : Nat} (h : Own w base t m (.slice (some ⟨g, 0, none⟩) n c) n F) {k j : Nat} (hj : j < m) (u : Value) : Own (w.setCell ⟨g, k * m + j, none⟩ u) base t m (.slice (some ⟨g, 0, none⟩) n c) n (upd2 F k j u) := by
  have hs := (World.ownsRow.stored h (k * m + j) u).1
  unfold Own
  have e : (cellsOf n m F).set (k * m + j) u = cellsOf n m (upd2 F k j u) := by
    apply List.ext_getElem?
    intro q
    have hm : 0 < m := by omega
    have key : (q / m = k ∧ q % m = j) ↔ k * m + j = q := by
      constructor
      · rintro ⟨rfl, rfl⟩
        rw [Nat.mul_comm]; exact Nat.div_add_mod q m
      · rintro rfl
        refine ⟨?_, ?_⟩
        · rw [Nat.mul_comm, Nat.mul_add_div hm, Nat.div_eq_of_lt hj]; omega
        · rw [Nat.mul_comm, Nat.mul_add_mod, Nat.mod_eq_of_lt hj]
    by_cases hk : k * m + j = q
    · have h2 := key.2 hk
      by_cases hq : q < n * m
      · subst hk
        simp [cellsOf, upd2, hq, h2.1, h2.2]
      · subst hk
        simp [cellsOf, hq]
    · rw [List.getElem?_set_ne hk]
      have h2 : ¬ (q / m = k ∧ q % m = j) := fun e => hk (key.1 e)
      by_cases hq : q < n * m
      · simp [cellsOf, upd2, hq, h2]
      · simp [cellsOf, hq]
  rw [← e]
  exact hs
theorem Own.rd1 {f : Nat → Int} (h : Own w base t 1 v n fun i _ => .int .i64 (f i)) : ∃ A c, v = .slice A n c ∧ Rd1 w w.heap.size A n f := by
  obtain ⟨A, c, rfl⟩ := h.form
  refine ⟨A, c, rfl, ?_⟩
  rcases Nat.eq_zero_or_pos n with hn | hn
  · exact .inl hn
  · obtain ⟨g, c', he⟩ := h.nz hn
    obtain ⟨rfl, rfl⟩ : A = some ⟨g, 0, none⟩ ∧ c = c' := by injection he with h1 h2 h3; exact ⟨h1, h3⟩
    refine .inr ⟨g, 0, rfl, (h.block rfl).2, fun i hi => ?_⟩
    rw [Nat.zero_add]
    exact h.cell1 hi
theorem Own.rd {f : Nat → Nat → Int} (h : Own w base t m v n fun i j => .int .i64 (f i j)) : ∃ A c, v = .slice A n c ∧ Rd w w.heap.size A m n f := by
  obtain ⟨A, c, rfl⟩ := h.form
  refine ⟨A, c, rfl, ?_⟩
  rcases Nat.eq_zero_or_pos n with hn | hn
  · exact .inl hn
  · obtain ⟨g, c', he⟩ := h.nz hn
    obtain ⟨rfl, rfl⟩ : A = some ⟨g, 0, none⟩ ∧ c = c' := by injection he with h1 h2 h3; exact ⟨h1, h3⟩
    refine .inr ⟨g, 0, rfl, (h.block rfl).2, fun i j hi hj => ?_⟩
    rw [Nat.zero_add]
    exact h.cell hi hj
end

section
variable {P : Program} {ops : Array Oper} {rest : List Oper} {o : Oper} {a : Act} {Q : Exit → Act → World → Prop}
/-- append of one element, which lies in a block g -/
theorem wpList_app {W : World} (hgd : o.guard = none) (s x : Operand) (t : TypeId) (ho : o.op = .call { callee := .builtin .append, args := #[s, x], argTypes := #[t, t] })
    (base e m bytes : Nat) {i : TypeInfo} {z : Value} (ht : P.underlying t = some (.slice e)) (hi : P.info? e = some i) (hz : i.zero = some z) (hsize : i.size = m) (hby : i.bytes = bytes) (hzs : z.cells.size = m) (hsz : 0 < m) (hbm : bytes ≤ 4096)
    {v : Value} {n : Nat} {F : Nat → Nat → Value} (hown : Own W base e m v n F) (hs : a.eval s = v) (hn : n ≤ 1048576) (hbase : base ≤ W.heap.size)
    (g c : Nat) (X : Nat → Value) (hx : a.eval x = .slice (some ⟨g, 0, none⟩) 1 c) (hX : ∀ j, j < m → W.cell? ⟨g, j, none⟩ = some (X j)) (h1 : ∀ j, j < m → (X j).oneCell' = true)
    (h : ∀ v' w', Own w' base e m v' (n + 1) (upd F n X) → W.grownBy w' v.ownBlock → (v'.ownBlock = v.ownBlock ∨ v'.ownBlock = some W.heap.size) → wpList P ops Q rest (a.put o.dst v') w') :
    wpList P ops Q (o :: rest) a W := by
  have hb : (n + 1) * bytes ≤ 1048577 * 4096 := Nat.mul_le_mul (by omega) hbm
  refine wpList_append_own_at W hgd s x t ho base e i z m bytes ht hi hz hsize hby hzs hsz v n (cellsOf n m F) hs hown ⟨g, 0, none⟩ 1 c ((List.range m).map X) hx (by simp) ?_ ?_ (by unfold maxLen; omega) (by omega) hbase ?_
  · intro j u hj
    by_cases hjm : j < m
    · simp [hjm] at hj
      subst hj
      have := hX j hjm
      unfold Addr.add
      split
      · subst_vars; exact this
      · simpa using this
    · simp [hjm] at hj
  · intro u hu
    simp at hu
    obtain ⟨j, hj, rfl⟩ := hu
    exact h1 j hj
  · intro v' w' h2 h3 _ h5
    exact h v' w' (by unfold Own; rw [← cellsOf_succ]; exact h2) h3 h5
end

theorem cell_last {W : World} {g : Nat} {x : Value} {t : TypeId} (hg : g = W.heap.size) : ∀ j, j < 1 → (W.alloc (.cells #[x] t)).cell? ⟨g, j, none⟩ = some x := by
  intro j hj
  obtain rfl : j = 0 := by omega
  subst hg
  simp
/-- make: zero values -/
theorem own_made {w : World} {base t n : Nat} {v z : Value} (h : w.ownsRow base t 1 v n (madeCells #[z] (n * 1)).toList) : Own w base t 1 v n fun _ _ => z := by
  unfold Own
  have e : (madeCells #[z] (n * 1)).toList = cellsOf n 1 fun _ _ => z := by
    rw [toList_madeCells_one]
    apply List.ext_getElem?
    intro q
    by_cases hq : q < n
    · simp [cellsOf, hq]
    · simp [cellsOf, hq]
  rw [← e]
  exact h
theorem grown_below {w w' : World} (h : w.grownBy w' none) : Below w.heap.size w w' := ⟨h.os, h.tape, h.output, h.size, fun k hk => h.block k hk (by simp)⟩
/-- two slices of the call's own share no block -/
def Apart (v v' : Value) : Prop := ∀ g, v.ownBlock = some g → v'.ownBlock ≠ some g
theorem Apart.symm {v v' : Value} (h : Apart v v') : Apart v' v := fun g h1 h2 => h g h2 h1
theorem Apart.nil_left {v : Value} : Apart (.slice none 0 0) v := fun g h => by simp [Value.ownBlock] at h
/-- behind an append to v: what lay below the heap's end stays apart -/
theorem Apart.app {v v' u : Value} {s : Nat} (h : Apart v u) (hat : v'.ownBlock = v.ownBlock ∨ v'.ownBlock = some s) (hu : ∀ g, u.ownBlock = some g → g < s) : Apart v' u := by
  intro g h1 h2
  rcases hat with e | e
  · exact h g (e ▸ h1) h2
  · rw [e] at h1
    have := hu g h2
    have : g = s := by injection h1 with h1; exact h1.symm
    omega
theorem Own.apart_type {w : World} {b b' t t' m m' n n' : Nat} {v v' : Value} {F F' : Nat → Nat → Value} (h : Own w b t m v n F) (h' : Own w b' t' m' v' n' F') (ht : t ≠ t') : Apart v v' := by
  intro g h1 h2
  rcases h.2 with ⟨rfl, _⟩ | ⟨g1, cap, cur, rfl, _, hh, _⟩
  · simp [Value.ownBlock] at h1
  · rcases h'.2 with ⟨rfl, _⟩ | ⟨g2, cap', cur', rfl, _, hh', _⟩
    · simp [Value.ownBlock] at h2
    · simp [Value.ownBlock] at h1 h2
      subst h1; subst h2
      rw [hh] at hh'
      injection hh' with e
      injection e with _ e
      exact ht e
theorem Own.apart_grown {w w' : World} {base t m n : Nat} {v u : Value} {F : Nat → Nat → Value} (h : Own w base t m v n F) (ha : Apart u v) (hg : w.grownBy w' u.ownBlock) : Own w' base t m v n F := by
  refine h.grown hg ?_
  cases hv : v.ownBlock with
  | none => exact .inl rfl
  | some g => exact .inr fun e => ha g e.symm hv
theorem al_cell {W : World} {o : Obj} {a : Addr} {x : Value} (h : W.cell? a = some x) : (W.alloc o).cell? a = some x := by
  rw [World.cell?_alloc_some _ _ _ (by rw [h]; rfl)]; exact h
theorem al_cell_drew {W : World} {o : Obj} {a : Addr} {x : Value} (h : W.drew.cell? a = some x) : (W.alloc o).drew.cell? a = some x := al_cell (W := W) h
theorem st_far {W : World} {p q : Addr} {u v : Value} {a : Addr} {x : Value} (h : W.cell? a = some x) (hp : p.block ≠ a.block) (hq : q.block ≠ a.block) : ((W.setCell p u).setCell q v).cell? a = some x := by
  rw [World.cell?_setCell_far _ _ _ _ hq, World.cell?_setCell_far _ _ _ _ hp]; exact h
theorem st_far_drew {W : World} {p q : Addr} {u v : Value} {a : Addr} {x : Value} (h : W.drew.cell? a = some x) (hp : p.block ≠ a.block) (hq : q.block ≠ a.block) : ((W.setCell p u).setCell q v).drew.cell? a = some x := st_far (W := W) h hp hq
end Go.Proofs.YtfnfjmjejffjiaaDoor
