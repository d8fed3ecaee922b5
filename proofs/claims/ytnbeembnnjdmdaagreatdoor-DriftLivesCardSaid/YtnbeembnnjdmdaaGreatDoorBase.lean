/- Small lemmas on worlds, slices of integers and structs of integers, used by all walks of this family. -/
import Derived.Test.YtnbeembnnjdmdaaGreatDoorRows
import Derived.WalkKit
import Derived.WalkSpells
import Derived.WalkLawsBesides
import Derived.WalkSmall
import Derived.Deep.QuietTactic
import Derived.BigQuiet
import Derived.StillTailTactics
import Derived.Deep.RegionWith
import Derived.Laws.ResultCell
import Derived.Lib.Hide
import Derived.Maps.AppendAt
import Derived.Deep.RegionHeld
import Derived.StillTail
import Derived.OrdersIn
import Derived.RangeFuncCalls
import Derived.OwnWalkIn
import Derived.CallsIn
import Derived.Shelf.Small.Bits
import Derived.Shelf.Small.Wraps
import Derived.Shelf.Strconv.Itoa0
import Derived.Shelf.Sort.Plain
import Derived.Shelf.Slices.Turned
import Derived.Ground.Names2Prog
import Derived.Shelf.Slices.Clone
import Derived.Shelf.Slices.CompactI
import Derived.Shelf.Slices.SearchI
import Derived.Shelf.Slices.Cells
import Derived.Shelf.Slices.In.SortNone
import Derived.Ground.SlgnProg
import Derived.Shelf.SlicesE.Compact
import Derived.Shelf.SlicesE.Clone
import Derived.Ground.SlgfProg
import Derived.Shelf.SlicesE.IndexFunc
import Derived.Shelf.SlicesE.DeleteFunc
namespace Go.Proofs.YtnbeembnnjdmdaaGreatDoor
open Go.RowKit

def Rd (w : World) (B : Nat) (A : Option Addr) (m n : Nat) (f : Nat → Nat → Int) : Prop :=
 n = 0 ∨ ∃ b off, A = some ⟨b, off, none⟩ ∧ b < B ∧ ∀ i j, i < n → j < m → w.cell? ⟨b, off + (i * m + j), none⟩ = some (.int .i64 (f i j))

def Rd1 (w : World) (B : Nat) (A : Option Addr) (n : Nat) (f : Nat → Int) : Prop :=
 n = 0 ∨ ∃ b off, A = some ⟨b, off, none⟩ ∧ b < B ∧ ∀ i, i < n → w.cell? ⟨b, off + i, none⟩ = some (.int .i64 (f i))

section
variable {w w' : World} {B B' m n : Nat} {A : Option Addr} {f : Nat → Nat → Int} {f1 : Nat → Int}

theorem Rd.keep (h : Rd w B A m n f) (hk : ∀ p : Addr, p.block < B → w'.cell? p = w.cell? p) : Rd w' B A m n f := by
 rcases h with h | ⟨b, off, hA, hb, hc⟩
 · exact .inl h
 · exact .inr ⟨b, off, hA, hb, fun i j hi hj => (hk _ hb).trans (hc i j hi hj)⟩
theorem Rd1.keep (h : Rd1 w B A n f1) (hk : ∀ p : Addr, p.block < B → w'.cell? p = w.cell? p) : Rd1 w' B A n f1 := by
 rcases h with h | ⟨b, off, hA, hb, hc⟩
 · exact .inl h
 · exact .inr ⟨b, off, hA, hb, fun i hi => (hk _ hb).trans (hc i hi)⟩
theorem Rd.below (h : Rd w B A m n f) (hb : Below B w w') : Rd w' B A m n f := h.keep fun _ hp => hb.cell hp
theorem Rd1.below (h : Rd1 w B A n f1) (hb : Below B w w') : Rd1 w' B A n f1 := h.keep fun _ hp => hb.cell hp
theorem Rd.more (h : Rd w B A m n f) (hB : B ≤ B') : Rd w B' A m n f := by
 rcases h with h | ⟨b, off, hA, hb, hc⟩
 · exact .inl h
 · exact .inr ⟨b, off, hA, by omega, hc⟩
theorem Rd1.more (h : Rd1 w B A n f1) (hB : B ≤ B') : Rd1 w B' A n f1 := by
 rcases h with h | ⟨b, off, hA, hb, hc⟩
 · exact .inl h
 · exact .inr ⟨b, off, hA, by omega, hc⟩
theorem Rd.at2 (h : Rd w B A 2 n f) {k : Nat} (hk : k < n) : ∃ b off, A = some ⟨b, off, none⟩ ∧ b < B ∧ w.cell? ⟨b, off + k * 2, none⟩ = some (.int .i64 (f k 0)) ∧ w.cell? ⟨b, off + k * 2 + 1, none⟩ = some (.int .i64 (f k 1)) := by
 rcases h with h | ⟨b, off, hA, hb, hc⟩
 · omega
 · exact ⟨b, off, hA, hb, hc k 0 hk (by omega), hc k 1 hk (by omega)⟩
theorem Rd.at3 (h : Rd w B A 3 n f) {k : Nat} (hk : k < n) : ∃ b off, A = some ⟨b, off, none⟩ ∧ b < B ∧ w.cell? ⟨b, off + k * 3, none⟩ = some (.int .i64 (f k 0)) ∧ w.cell? ⟨b, off + k * 3 + 1, none⟩ = some (.int .i64 (f k 1)) ∧
  w.cell? ⟨b, off + k * 3 + 2, none⟩ = some (.int .i64 (f k 2)) := by
 rcases h with h | ⟨b, off, hA, hb, hc⟩
 · omega
 · exact ⟨b, off, hA, hb, hc k 0 hk (by omega), hc k 1 hk (by omega), hc k 2 hk (by omega)⟩
theorem Rd1.at_ (h : Rd1 w B A n f1) {k : Nat} (hk : k < n) : ∃ b off, A = some ⟨b, off, none⟩ ∧ b < B ∧ w.cell? ⟨b, off + k, none⟩ = some (.int .i64 (f1 k)) := by
 rcases h with h | ⟨b, off, hA, hb, hc⟩
 · omega
 · exact ⟨b, off, hA, hb, hc k hk⟩

theorem belowAlloc (w : World) (o : Obj) : Below w.heap.size w (w.alloc o) := (Below.refl _ _).alloc (Nat.le_refl _) _
theorem _root_.Go.RowKit.Below.drewN {B : Nat} {a w : World} (h : Below B a w) (n : Nat) : Below B a (w.drewN n) := ⟨h.os, h.tape, h.output, h.size, h.block⟩
theorem belowAlloc2 (w : World) (o o' : Obj) : Below w.heap.size w ((w.alloc o).alloc o') := (belowAlloc w o).alloc (by simp) _
theorem belowAlloc3 (w : World) (o o' o'' : Obj) : Below w.heap.size w (((w.alloc o).alloc o').alloc o'') := (belowAlloc2 w o o').alloc (by simp; omega) _
theorem size_alloc (w : World) (o : Obj) : (w.alloc o).heap.size = w.heap.size + 1 := by simp
end

theorem toNat_i64_and_one (x : Int) : bits .and .i64 x 1 = x % 2 := by
 show IntKind.i64.wrap ((BitVec.ofInt 64 x &&& BitVec.ofInt 64 1).toNat : Int) = _
 have h : (BitVec.ofInt 64 x &&& BitVec.ofInt 64 1).toNat = (x % 2).toNat := by
  rw [BitVec.toNat_and, BitVec.toNat_ofInt]
  have : (BitVec.ofInt 64 1).toNat = 1 := by decide
  rw [this, Nat.and_one_is_mod]
  omega
 rw [h, IntKind.wrap_i64]
 omega
theorem run_min2 {P : Program} {w : World} (ts : Array TypeId) (t : TypeId) (k k' : IntKind) (x y : Int) : (Builtin.min_ ts t #[.int k x, .int k' y]).run P w = .ok (.int k (min x y)) w := by
 rw [run_min_int2]
 by_cases h : y < x
 · rw [if_pos h, Int.min_eq_right (by omega)]
 · rw [if_neg h, Int.min_eq_left (by omega)]
theorem run_max2 {P : Program} {w : World} (ts : Array TypeId) (t : TypeId) (k k' : IntKind) (x y : Int) : (Builtin.max_ ts t #[.int k x, .int k' y]).run P w = .ok (.int k (max x y)) w := by
 rw [run_max_int2]
 by_cases h : x < y
 · rw [if_pos h, Int.max_eq_right (by omega)]
 · rw [if_neg h, Int.max_eq_left (by omega)]
attribute [go_sem ↓] run_min2 run_max2
theorem run_quo {P : Program} {w : World} (x y : Int) (h : 0 ≤ x ∧ x ≤ 9223372036854775807 ∧ 1 ≤ y) : (Op.intDiv .quo .i64 x y).run P w = .ok (.int .i64 (x / y)) w := by
 have hy : ¬ y = 0 := by omega
 simp [Op.intDiv, hy, IntWalk.i64_quo x y h]
theorem ret_int {k : IntKind} {a b : Int} (h : a = b) : Ending.returned (.int k a) = .returned (.int k b) := by rw [h]
theorem ret_bool {a b : Bool} (h : a = b) : Ending.returned (.bool a) = .returned (.bool b) := by rw [h]
end Go.Proofs.YtnbeembnnjdmdaaGreatDoor
/- Slices that a call has made itself: what they hold, and what appends, stores and calls do to them. -/
namespace Go.Proofs.YtnbeembnnjdmdaaGreatDoor
open Go.RowKit

def Blk (w : World) (g : Nat) (t : TypeId) (cs : Array Value) : Prop := w.heap[g]? = some (.cells cs t (0, 0))
section
variable {w w' : World} {g : Nat} {t : TypeId} {cs : Array Value}
theorem Blk.lt (h : Blk w g t cs) : g < w.heap.size := (Array.getElem?_eq_some_iff.1 h).1
theorem Blk.cell (h : Blk w g t cs) (i : Nat) : w.cell? ⟨g, i, none⟩ = cs[i]? := cell_of_row w g i cs t (0, 0) h
theorem Blk.c2 (h : Blk w g t cs) : w.cell? ⟨g, 0, none⟩ = cs[0]? ∧ w.cell? ⟨g, 1, none⟩ = cs[1]? := ⟨h.cell 0, h.cell 1⟩
theorem Blk.c3 (h : Blk w g t cs) : w.cell? ⟨g, 0, none⟩ = cs[0]? ∧ w.cell? ⟨g, 1, none⟩ = cs[1]? ∧ w.cell? ⟨g, 2, none⟩ = cs[2]? := ⟨h.cell 0, h.cell 1, h.cell 2⟩
theorem Blk.c4 (h : Blk w g t cs) : w.cell? ⟨g, 0, none⟩ = cs[0]? ∧ w.cell? ⟨g, 1, none⟩ = cs[1]? ∧ w.cell? ⟨g, 2, none⟩ = cs[2]? ∧ w.cell? ⟨g, 3, none⟩ = cs[3]? := ⟨h.cell 0, h.cell 1, h.cell 2, h.cell 3⟩
theorem Blk.c8 (h : Blk w g t cs) : w.cell? ⟨g, 0, none⟩ = cs[0]? ∧ w.cell? ⟨g, 1, none⟩ = cs[1]? ∧ w.cell? ⟨g, 2, none⟩ = cs[2]? ∧ w.cell? ⟨g, 3, none⟩ = cs[3]? ∧ w.cell? ⟨g, 4, none⟩ = cs[4]? ∧ w.cell? ⟨g, 5, none⟩ = cs[5]? ∧ w.cell? ⟨g, 6, none⟩ = cs[6]? ∧ w.cell? ⟨g, 7, none⟩ = cs[7]? := ⟨h.cell 0, h.cell 1, h.cell 2, h.cell 3, h.cell 4, h.cell 5, h.cell 6, h.cell 7⟩
theorem Blk.frz (h : Blk w g t cs) (i : Nat) : w.frozen? ⟨g, i, none⟩ = false := frozen_of_row w g i cs t h
theorem Blk.new (w : World) (t : TypeId) (cs : Array Value) : Blk (w.alloc (.cells cs t)) w.heap.size t cs := heap_alloc_new w _
theorem Blk.below {B : Nat} (h : Blk w g t cs) (hb : Below B w w') (hg : g < B) : Blk w' g t cs := (hb.block g hg).trans h
theorem Blk.alloc (h : Blk w g t cs) (o : Obj) : Blk (w.alloc o) g t cs := h.below (belowAlloc w o) h.lt
theorem Blk.set_ (h : Blk w g t cs) (i : Nat) (u : Value) : Blk (w.setCell ⟨g, i, none⟩ u) g t (cs.setIfInBounds i u) := heap_setCell_same w g i cs t u h
theorem Blk.far (h : Blk w g t cs) {p : Addr} (hp : g ≠ p.block) (u : Value) : Blk (w.setCell p u) g t cs := (Below.heap_setCell w p u g hp).trans h
theorem Blk.grown {row : Option Nat} (h : Blk w g t cs) (hb : w.grownBy w' row) (hg : some g ≠ row) : Blk w' g t cs := (hb.block g h.lt hg).trans h
theorem Blk.new1 (w : World) (o : Obj) (t : TypeId) (cs : Array Value) : Blk ((w.alloc o).alloc (.cells cs t)) (w.heap.size + 1) t cs := by
 have := Blk.new (w.alloc o) t cs
 simpa using this
theorem Blk.new2 (w : World) (o o' : Obj) (t : TypeId) (cs : Array Value) : Blk (((w.alloc o).alloc o').alloc (.cells cs t)) (w.heap.size + 1 + 1) t cs := by
 have := Blk.new ((w.alloc o).alloc o') t cs
 simpa using this
theorem Blk.new3 (w : World) (o o' o'' : Obj) (t : TypeId) (cs : Array Value) : Blk ((((w.alloc o).alloc o').alloc o'').alloc (.cells cs t)) (w.heap.size + 1 + 1 + 1) t cs := by
 have := Blk.new (((w.alloc o).alloc o').alloc o'') t cs
 simpa using this
end

def cellsOf (n m : Nat) (F : Nat → Nat → Value) : List Value := (List.range (n * m)).map fun q => F (q / m) (q % m)
theorem length_cellsOf (n m : Nat) (F : Nat → Nat → Value) : (cellsOf n m F).length = n * m := by simp [cellsOf]
theorem get_cellsOf {n m : Nat} {F : Nat → Nat → Value} {i j : Nat} (hi : i < n) (hj : j < m) : (cellsOf n m F)[i * m + j]? = some (F i j) := by
 have hlt : i * m + j < n * m := by
  have : (i + 1) * m ≤ n * m := Nat.mul_le_mul_right m hi
  rw [Nat.add_mul, Nat.one_mul] at this
  omega
 have h1 : (i * m + j) / m = i := by rw [Nat.mul_comm, Nat.mul_add_div (by omega), Nat.div_eq_of_lt hj]; omega
 have h2 : (i * m + j) % m = j := by rw [Nat.mul_comm, Nat.mul_add_mod, Nat.mod_eq_of_lt hj]
 simp [cellsOf, hlt, h1, h2]
theorem cellsOf_congr {n m : Nat} {F F' : Nat → Nat → Value} (h : ∀ i j, i < n → j < m → F i j = F' i j) : cellsOf n m F = cellsOf n m F' := by
 unfold cellsOf
 refine List.map_congr_left fun q hq => ?_
 have hq := List.mem_range.1 hq
 have hm : 0 < m := by
  rcases Nat.eq_zero_or_pos m with h0 | h0
  · subst h0; simp at hq
  · exact h0
 exact h _ _ (Nat.div_lt_of_lt_mul (by rw [Nat.mul_comm]; exact hq)) (Nat.mod_lt _ hm)

def upd (F : Nat → Nat → Value) (k : Nat) (X : Nat → Value) : Nat → Nat → Value := fun i => if i = k then X else F i
theorem cellsOf_succ (n m : Nat) (F : Nat → Nat → Value) (X : Nat → Value) : cellsOf n m F ++ (List.range m).map X = cellsOf (n + 1) m (upd F n X) := by
 apply List.ext_getElem?
 intro q
 have hs : (n + 1) * m = n * m + m := by rw [Nat.add_mul, Nat.one_mul]
 by_cases h1 : q < n * m
 ·
  rw [List.getElem?_append_left (by rw [length_cellsOf]; exact h1)]
  have hd : q / m ≠ n := Nat.ne_of_lt (Nat.div_lt_of_lt_mul (by rw [Nat.mul_comm]; exact h1))
  simp [cellsOf, h1, hs, show q < n * m + m by omega, upd, hd]
 ·
  rw [List.getElem?_append_right (by rw [length_cellsOf]; omega), length_cellsOf]
  by_cases h2 : q < n * m + m
  ·
   have hm : 0 < m := by omega
   have hd : q / m = n := by
    rw [Nat.div_eq_iff hm]
    constructor
    · omega
    · omega
   have hmod : q % m = q - n * m := by
    have := Nat.div_add_mod q m
    rw [hd, Nat.mul_comm] at this
    omega
   simp [cellsOf, hs, h2, upd, hd, hmod, show q - n * m < m by omega]
  · simp [cellsOf, hs, h2, show ¬ q - n * m < m by omega]

def Own (w : World) (base : Nat) (t m : Nat) (v : Value) (n : Nat) (F : Nat → Nat → Value) : Prop := w.ownsRow base t m v n (cellsOf n m F)

section
variable {w w' : World} {base t m n : Nat} {v : Value} {F F' : Nat → Nat → Value}
theorem Own.nil_ : Own w base t m (.slice none 0 0) 0 F := by
 unfold Own cellsOf
 simpa using World.ownsRow_nil w base t m
theorem Own.congr (h : Own w base t m v n F) (hF : ∀ i j, i < n → j < m → F i j = F' i j) : Own w base t m v n F' := by
 unfold Own at h ⊢; rw [← cellsOf_congr hF]; exact h
theorem Own.grown (h : Own w base t m v n F) {row : Option Nat} (hg : w.grownBy w' row) (hne : v.ownBlock = none ∨ v.ownBlock ≠ row) : Own w' base t m v n F := World.ownsRow.kept h hg hne
theorem below_grown {w w' : World} (hb : Below w.heap.size w w') (row : Option Nat) : w.grownBy w' row := ⟨hb.os, hb.tape, hb.output, hb.size, fun k hk _ => hb.block k hk⟩
theorem Own.below (h : Own w base t m v n F) (hb : Below w.heap.size w w') : Own w' base t m v n F :=
 h.grown (below_grown hb none) (by cases v.ownBlock <;> simp)
theorem Own.alloc (h : Own w base t m v n F) (o : Obj) : Own (w.alloc o) base t m v n F := h.below (belowAlloc w o)
theorem Own.drew (h : Own w base t m v n F) : Own w.drew base t m v n F := h
theorem Own.setCell (h : Own w base t m v n F) {p : Addr} (hp : v.ownBlock ≠ some p.block) (u : Value) : Own (w.setCell p u) base t m v n F :=
 h.grown (row := some p.block) ⟨rfl, rfl, rfl, by simp [World.setCell], fun k _ hk => Below.heap_setCell w p u k (fun e => hk (by rw [e]))⟩ (.inr hp)
theorem Own.less (h : Own w base t m v n F) {base' : Nat} (hb : base' ≤ base) : Own w base' t m v n F := by
 refine ⟨h.1, ?_⟩
 rcases h.2 with h | ⟨g, cap, cur, h1, h2, h3⟩
 · exact .inl h
 · exact .inr ⟨g, cap, cur, h1, by omega, h3⟩
theorem Own.block (h : Own w base t m v n F) {g : Nat} (hg : v.ownBlock = some g) : base ≤ g ∧ g < w.heap.size := by
 rcases h.2 with ⟨rfl, _⟩ | ⟨g', cap, cur, rfl, h2, h3, _⟩
 · simp [Value.ownBlock] at hg
 ·
  simp [Value.ownBlock] at hg
  subst hg
  exact ⟨h2, (Array.getElem?_eq_some_iff.1 h3).1⟩
theorem Own.form (h : Own w base t m v n F) : ∃ A c, v = .slice A n c := by
 rcases h.2 with ⟨rfl, rfl⟩ | ⟨g', cap, cur, rfl, _⟩
 · exact ⟨none, 0, rfl⟩
 · exact ⟨_, _, rfl⟩
theorem Own.nz (h : Own w base t m v n F) (hn : 0 < n) : ∃ g c, v = .slice (some ⟨g, 0, none⟩) n c := by
 rcases h.2 with ⟨_, rfl⟩ | ⟨g', cap, cur, rfl, _⟩
 · omega
 · exact ⟨_, _, rfl⟩
theorem Own.cell {g c : Nat} (h : Own w base t m (.slice (some ⟨g, 0, none⟩) n c) n F) {i j : Nat} (hi : i < n) (hj : j < m) : w.cell? ⟨g, i * m + j, none⟩ = some (F i j) := by
 rw [World.ownsRow.cellAt h, get_cellsOf hi hj]
 have : (i + 1) * m ≤ n * m := Nat.mul_le_mul_right m hi
 rw [Nat.add_mul, Nat.one_mul] at this
 omega
theorem Own.cell1 {g c : Nat} (h : Own w base t 1 (.slice (some ⟨g, 0, none⟩) n c) n F) {i : Nat} (hi : i < n) : w.cell? ⟨g, i, none⟩ = some (F i 0) := by
 have := h.cell hi (j := 0) (by omega)
 simpa using this
theorem Own.frz {g c : Nat} (h : Own w base t m (.slice (some ⟨g, 0, none⟩) n c) n F) (j : Nat) : w.frozen? ⟨g, j, none⟩ = false := World.ownsRow.frozenAt h j
theorem Own.set1 {g c : Nat} (h : Own w base t 1 (.slice (some ⟨g, 0, none⟩) n c) n F) (k : Nat) (u : Value) : Own (w.setCell ⟨g, k, none⟩ u) base t 1 (.slice (some ⟨g, 0, none⟩) n c) n (upd F k fun _ => u) := by
 have hs := (World.ownsRow.stored h k u).1
 unfold Own
 have e : (cellsOf n 1 F).set k u = cellsOf n 1 (upd F k fun _ => u) := by
  apply List.ext_getElem?
  intro q
  by_cases hq : q < n
  ·
   by_cases hk : k = q
   ·
    subst hk
    simp [cellsOf, upd, hq, Nat.mod_one]
   ·
    rw [List.getElem?_set_ne hk]
    simp [cellsOf, upd, hq, Nat.mod_one, show ¬ q = k from fun e => hk e.symm]
  ·
   by_cases hk : k = q
   · subst hk; simp [cellsOf, hq]
   · simp [cellsOf, hq]
 rw [← e]
 exact hs
def upd2 (F : Nat → Nat → Value) (k j : Nat) (u : Value) : Nat → Nat → Value := fun a b => if a = k ∧ b = j then u else F a b
theorem Own.setm {g c : Nat} (h : Own w base t m (.slice (some ⟨g, 0, none⟩) n c) n F) {k j : Nat} (hj : j < m) (u : Value) : Own (w.setCell ⟨g, k * m + j, none⟩ u) base t m (.slice (some ⟨g, 0, none⟩) n c) n (upd2 F k j u) := by
 have hs := (World.ownsRow.stored h (k * m + j) u).1
 unfold Own
 have e : (cellsOf n m F).set (k * m + j) u = cellsOf n m (upd2 F k j u) := by
  apply List.ext_getElem?
  intro q
  have hm : 0 < m := by omega
  have key : (q / m = k ∧ q % m = j) ↔ k * m + j = q := by
   constructor
   ·
    rintro ⟨rfl, rfl⟩
    rw [Nat.mul_comm]; exact Nat.div_add_mod q m
   ·
    rintro rfl
    refine ⟨?_, ?_⟩
    · rw [Nat.mul_comm, Nat.mul_add_div hm, Nat.div_eq_of_lt hj]; omega
    · rw [Nat.mul_comm, Nat.mul_add_mod, Nat.mod_eq_of_lt hj]
  by_cases hk : k * m + j = q
  ·
   have h2 := key.2 hk
   by_cases hq : q < n * m
   ·
    subst hk
    simp [cellsOf, upd2, hq, h2.1, h2.2]
   ·
    subst hk
    simp [cellsOf, hq]
  ·
   rw [List.getElem?_set_ne hk]
   have h2 : ¬ (q / m = k ∧ q % m = j) := fun e => hk (key.1 e)
   by_cases hq : q < n * m
   · simp [cellsOf, upd2, hq, h2]
   · simp [cellsOf, hq]
 rw [← e]
 exact hs
theorem Own.rd1 {f : Nat → Int} (h : Own w base t 1 v n fun i _ => .int .i64 (f i)) : ∃ A c, v = .slice A n c ∧ Rd1 w w.heap.size A n f := by
 obtain ⟨A, c, rfl⟩ := h.form
 refine ⟨A, c, rfl, ?_⟩
 rcases Nat.eq_zero_or_pos n with hn | hn
 · exact .inl hn
 ·
  obtain ⟨g, c', he⟩ := h.nz hn
  obtain ⟨rfl, rfl⟩ : A = some ⟨g, 0, none⟩ ∧ c = c' := by injection he with h1 h2 h3; exact ⟨h1, h3⟩
  refine .inr ⟨g, 0, rfl, (h.block rfl).2, fun i hi => ?_⟩
  rw [Nat.zero_add]
  exact h.cell1 hi
end

section
variable {P : Program} {ops : Array Oper} {rest : List Oper} {o : Oper} {a : Act} {Q : Exit → Act → World → Prop}
theorem wpList_app {W : World} (hgd : o.guard = none) (s x : Operand) (t : TypeId) (ho : o.op = .call { callee := .builtin .append, args := #[s, x], argTypes := #[t, t] })
  (base e m bytes : Nat) {i : TypeInfo} {z : Value} (ht : P.underlying t = some (.slice e)) (hi : P.info? e = some i) (hz : i.zero = some z) (hsize : i.size = m) (hby : i.bytes = bytes) (hzs : z.cells.size = m) (hsz : 0 < m) (hbm : bytes ≤ 4096)
  {v : Value} {n : Nat} {F : Nat → Nat → Value} (hown : Own W base e m v n F) (hs : a.eval s = v) (hn : n ≤ 1048576) (hbase : base ≤ W.heap.size)
  (g c : Nat) (X : Nat → Value) (hx : a.eval x = .slice (some ⟨g, 0, none⟩) 1 c) (hX : ∀ j, j < m → W.cell? ⟨g, j, none⟩ = some (X j)) (h1 : ∀ j, j < m → (X j).oneCell' = true)
  (h : ∀ v' w', Own w' base e m v' (n + 1) (upd F n X) → W.grownBy w' v.ownBlock → (v'.ownBlock = v.ownBlock ∨ v'.ownBlock = some W.heap.size) → wpList P ops Q rest (a.put o.dst v') w') :
  wpList P ops Q (o :: rest) a W := by
 have hb : (n + 1) * bytes ≤ 1048577 * 4096 := Nat.mul_le_mul (by omega) hbm
 refine wpList_append_own_at W hgd s x t ho base e i z m bytes ht hi hz hsize hby hzs hsz v n (cellsOf n m F) hs hown ⟨g, 0, none⟩ 1 c ((List.range m).map X) hx (by simp) ?_ ?_ (by unfold maxLen; omega) (by omega) hbase ?_
 ·
  intro j u hj
  by_cases hjm : j < m
  ·
   simp [hjm] at hj
   subst hj
   have := hX j hjm
   unfold Addr.add
   split
   · subst_vars; exact this
   · simpa using this
  · simp [hjm] at hj
 ·
  intro u hu
  simp at hu
  obtain ⟨j, hj, rfl⟩ := hu
  exact h1 j hj
 ·
  intro v' w' h2 h3 _ h5
  exact h v' w' (by unfold Own; rw [← cellsOf_succ]; exact h2) h3 h5
end

theorem own_made {w : World} {base t n : Nat} {v z : Value} (h : w.ownsRow base t 1 v n (madeCells #[z] (n * 1)).toList) : Own w base t 1 v n fun _ _ => z := by
 unfold Own
 have e : (madeCells #[z] (n * 1)).toList = cellsOf n 1 fun _ _ => z := by
  rw [toList_madeCells_one]
  apply List.ext_getElem?
  intro q
  by_cases hq : q < n
  · simp [cellsOf, hq]
  · simp [cellsOf, hq]
 rw [← e]
 exact h
theorem grown_below {w w' : World} (h : w.grownBy w' none) : Below w.heap.size w w' := ⟨h.os, h.tape, h.output, h.size, fun k hk => h.block k hk (by simp)⟩
def Apart (v v' : Value) : Prop := ∀ g, v.ownBlock = some g → v'.ownBlock ≠ some g
theorem Apart.symm {v v' : Value} (h : Apart v v') : Apart v' v := fun g h1 h2 => h g h2 h1
theorem Apart.nil_left {v : Value} : Apart (.slice none 0 0) v := fun g h => by simp [Value.ownBlock] at h
theorem Apart.app {v v' u : Value} {s : Nat} (h : Apart v u) (hat : v'.ownBlock = v.ownBlock ∨ v'.ownBlock = some s) (hu : ∀ g, u.ownBlock = some g → g < s) : Apart v' u := by
 intro g h1 h2
 rcases hat with e | e
 · exact h g (e ▸ h1) h2
 ·
  rw [e] at h1
  have := hu g h2
  have : g = s := by injection h1 with h1; exact h1.symm
  omega
theorem Own.apart_type {w : World} {b b' t t' m m' n n' : Nat} {v v' : Value} {F F' : Nat → Nat → Value} (h : Own w b t m v n F) (h' : Own w b' t' m' v' n' F') (ht : t ≠ t') : Apart v v' := by
 intro g h1 h2
 rcases h.2 with ⟨rfl, _⟩ | ⟨g1, cap, cur, rfl, _, hh, _⟩
 · simp [Value.ownBlock] at h1
 ·
  rcases h'.2 with ⟨rfl, _⟩ | ⟨g2, cap', cur', rfl, _, hh', _⟩
  · simp [Value.ownBlock] at h2
  ·
   simp [Value.ownBlock] at h1 h2
   subst h1; subst h2
   rw [hh] at hh'
   injection hh' with e
   injection e with _ e
   exact ht e
theorem Own.apart_grown {w w' : World} {base t m n : Nat} {v u : Value} {F : Nat → Nat → Value} (h : Own w base t m v n F) (ha : Apart u v) (hg : w.grownBy w' u.ownBlock) : Own w' base t m v n F := by
 refine h.grown hg ?_
 cases hv : v.ownBlock with
 | none => exact .inl rfl
 | some g => exact .inr fun e => ha g e.symm hv
end Go.Proofs.YtnbeembnnjdmdaaGreatDoor
/- A region that draws its order, with reads that may be taken first although one late operation (number e, which waits for them) may spoil what they read. -/
namespace Go.Proofs.YtnbeembnnjdmdaaGreatDoor
open Go.RowKit

section
variable {P : Program} {ops : Array Oper} {Q : Exit → Act → World → Prop} {md : Region.Mode} {S : World → Prop} {e : Nat}

def wpAnyT (P : Program) (md : Region.Mode) (ops : Array Oper) (Q : Exit → Act → World → Prop) (S : World → Prop) (e : Nat) : Nat → Array Bool → Act → World → Prop
 | 0, listed, a, w => Region.ready md ops listed = [] ∧ Q .normal a w
 | fuel + 1, listed, a, w =>
  (Region.ready md ops listed = [] → Q .normal a w) ∧
  ∀ i ∈ Region.ready md ops listed, wpOp P ops Q i (fun a' w' => ((listed.setIfInBounds i true).getD e false = true ∨ S w') ∧ wpAnyT P md ops Q S e fuel (listed.setIfInBounds i true) a' w') a w
theorem wpAny_of_T : ∀ (fuel : Nat) (listed : Array Bool) (a : Act) (w : World), wpAnyT P md ops Q S e fuel listed a w → wpAny P md ops Q fuel listed a w
 | 0, _, _, _, h => h
 | fuel + 1, _, _, _, h => ⟨h.1, fun i hi => wpOp_mono (fun a' w' h' => wpAny_of_T fuel _ a' w' h'.2) (h.2 i hi)⟩
def Region.needs (md : Region.Mode) (ops : Array Oper) : Nat → Nat → Nat → Bool
 | 0, _, _ => false
 | f + 1, e, i => Region.waitsFor md ops e i || (List.range ops.size).any fun j => Region.waitsFor md ops e j && Region.needs md ops f j i
def Closed (md : Region.Mode) (ops : Array Oper) (listed : Array Bool) : Prop := ∀ j oj, ops[j]? = some oj → listed.getD j false = true → ∀ d ∈ oj.after, Region.binds md d = true → listed.getD d.on false = true
def closedB (md : Region.Mode) (ops : Array Oper) (listed : Array Bool) : Bool := (List.range ops.size).all fun j => !listed.getD j false || ((ops[j]?).map (·.after.all fun d => !Region.binds md d || listed.getD d.on false)).getD true
theorem Closed.of {listed : Array Bool} (h : closedB md ops listed = true) : Closed md ops listed := fun j oj hj hl d hd hb => by
 have hlt : j < ops.size := (Array.getElem?_eq_some_iff.1 hj).1
 have h1 := List.all_eq_true.1 h j (List.mem_range.2 hlt)
 rw [hl, hj] at h1
 simp only [Bool.not_true, Bool.false_or, Option.map_some, Option.getD_some] at h1
 have h2 := Array.all_eq_true_iff_forall_mem.1 h1 d hd
 rw [hb] at h2
 simpa using h2
theorem Closed.set {listed : Array Bool} {i : Nat} (hc : Closed md ops listed) (hi : i ∈ Region.ready md ops listed) : Closed md ops (listed.setIfInBounds i true) := by
 obtain ⟨_, oi, hoi, hall⟩ := mem_ready.1 hi
 intro j oj hj hl d hd hb
 by_cases hij : i = j
 ·
  subst hij
  have : oj = oi := Option.some.inj (hj.symm.trans hoi)
  subst this
  exact getD_set_true (hall d hd hb)
 ·
  rw [getD_set_ne false hij] at hl
  exact getD_set_true (hc j oj hj hl d hd hb)
theorem Closed.needs {listed : Array Bool} {i : Nat} (hc : Closed md ops listed) : ∀ (f e : Nat), Region.needs md ops f e i = true → (∀ oe, ops[e]? = some oe → ∀ d ∈ oe.after, Region.binds md d = true → listed.getD d.on false = true) → listed.getD i false = true
 | 0, _, h, _ => by cases h
 | f + 1, e, h, hd => by
  simp only [Region.needs, Bool.or_eq_true] at h
  rcases h with h | h
  ·
   obtain ⟨oe, hoe, d, hdm, hb, hon⟩ := Region.waitsFor_spec h
   rw [← hon]; exact hd oe hoe d hdm hb
  ·
   obtain ⟨j, _, hj2⟩ := List.any_eq_true.1 h
   simp only [Bool.and_eq_true] at hj2
   obtain ⟨oe, hoe, d, hdm, hb, hon⟩ := Region.waitsFor_spec hj2.1
   have hlj : listed.getD j false = true := by rw [← hon]; exact hd oe hoe d hdm hb
   exact Closed.needs hc f j hj2.2 fun oj hoj d' hd' hb' => hc j oj hoj hlj d' hd' hb'
theorem wpAnyT_first {i : Nat} {oi : Oper} {v : Value} (hi : ops[i]? = some oi) (hsel : ∀ (j : Nat) (o : Oper) cs b, ops[j]? = some o → o.op ≠ .select cs b)
  {f0 : Nat} (hwait : Region.needs md ops f0 e i = true)
  (hQ : ∀ c a w, Q (.panic c) (a.put oi.dst v) w → Q (.panic c) a w) :
  ∀ (fuel : Nat) (listed : Array Bool) (a : Act) (w : World),
   (∀ j oj, ops[j]? = some oj → j ≠ i → listed.getD j true = false → (∀ d ∈ oj.after, Region.binds md d = true → d.on ≠ i) → oi.apart ops oj = true) →
   i ∈ Region.ready md ops listed → Closed md ops listed → listed.getD e false = false → e ≠ i → YieldsIf P ops S oi v a → S w →
   wpAnyT P md ops Q S e fuel (listed.setIfInBounds i true) (a.put oi.dst v) w → wpAnyT P md ops Q S e (fuel + 1) listed a w := by
 intro fuel
 induction fuel with
 | zero =>
  intro listed a w _ hr hcl hE hei hy hS H
  refine ⟨fun h => (by rw [h] at hr; cases hr), fun j hj => ?_⟩
  by_cases hji : j = i
  · subst hji; exact hy.wpOp hi hS ⟨.inr hS, H⟩
  ·
   have := ready_mono hj hji
   rw [H.1] at this
   cases this
 | succ fuel ih =>
  intro listed a w hfree hr hcl hE hei hy hS H
  have hun := (mem_ready.1 hr).1
  refine ⟨fun h => (by rw [h] at hr; cases hr), fun j hj => ?_⟩
  by_cases hji : j = i
  · subst hji; exact hy.wpOp hi hS ⟨.inr hS, H⟩
  ·
   have h1 := H.2 j (ready_mono hj hji)
   obtain ⟨hjun, oj, hoj, hall⟩ := mem_ready.1 hj
   have hnot : ∀ d ∈ oj.after, Region.binds md d = true → d.on ≠ i := fun d hd hb heq => by
    have h1 := hall d hd hb
    rw [heq, getD_both hun] at h1
    cases h1
   have hej : j ≠ e := fun h => by
    subst h
    have h1 := hcl.needs f0 j hwait fun oe hoe d hd hb => by
     have : oe = oj := Option.some.inj (hoe.symm.trans hoj)
     subst this
     exact hall d hd hb
    rw [getD_both hun] at h1
    cases h1
   have h2 := wpOp_putIf hoj (hfree j oj hoj hji hjun hnot) (fun cs b => hsel i oi cs b hi) (fun cs b => hsel j oj cs b hoj) hQ hy h1
   have hfree' : ∀ k ok, ops[k]? = some ok → k ≠ i → (listed.setIfInBounds j true).getD k true = false →
     (∀ d ∈ ok.after, Region.binds md d = true → d.on ≠ i) → oi.apart ops ok = true := fun k ok hk hki hun hno => by
    refine hfree k ok hk hki ?_ hno
    by_cases hjk : j = k
    · subst hjk; exact hjun
    · rw [getD_set_ne true hjk] at hun; exact hun
   refine wpOp_mono (fun a' w' h3 => ?_) h2
   have hS' : S w' := by
    rcases h3.2.1 with h | h
    ·
     rw [getD_set_ne false hej, getD_set_ne false (Ne.symm hei), hE] at h
     cases h
    · exact h
   refine ⟨.inr hS', ih (listed.setIfInBounds j true) a' w' hfree' (ready_mono hr (Ne.symm hji)) (hcl.set hj) (by rw [getD_set_ne false hej]; exact hE) hei h3.1 hS' ?_⟩
   rw [Array.setIfInBounds_comm _ _ hji]
   exact h3.2.2
theorem wpAnyT_take {i : Nat} {oi : Oper} {v : Value} {fuel : Nat} {listed : Array Bool} {a : Act} {w : World} (hi : ops[i]? = some oi)
  (hs : Region.noSelect ops = true) (hf : Region.free md ops listed i = true) (hr : (Region.ready md ops listed).contains i = true) (hw : Region.needs md ops ops.size e i = true) (hE : (!listed.getD e false && e != i && closedB md ops listed) = true)
  (hQ : ∀ c a w, Q (.panic c) (a.put oi.dst v) w → Q (.panic c) a w) (hy : YieldsIf P ops S oi v a) (hS : S w)
  (h : wpAnyT P md ops Q S e fuel (listed.setIfInBounds i true) (a.put oi.dst v) w) : wpAnyT P md ops Q S e (fuel + 1) listed a w := by
 simp only [Bool.and_eq_true, Bool.not_eq_true', bne_iff_ne] at hE
 obtain ⟨⟨hE1, hE2⟩, hcl⟩ := hE
 exact wpAnyT_first hi (Region.noSelect_spec hs) hw hQ fuel listed a w (Region.free_spec hi hf) (by simpa using hr) (Closed.of hcl) hE1 hE2 hy hS h
theorem wpAnyT_takeG {i : Nat} {oi : Oper} {v : Value} {fuel : Nat} {listed : Array Bool} {a : Act} {w : World} (hi : ops[i]? = some oi)
  (hc : (Region.noSelect ops && Region.free md ops listed i && (Region.ready md ops listed).contains i && Region.needs md ops ops.size e i && (!listed.getD e false && e != i && closedB md ops listed)) = true)
  (hQ : ∀ c a w, Q (.panic c) (a.put oi.dst v) w → Q (.panic c) a w) (hy : YieldsIf P ops S oi v a) (hS : S w)
  (h : wpAnyT P md ops Q S e fuel (listed.setIfInBounds i true) (a.put oi.dst v) w) : wpAnyT P md ops Q S e (fuel + 1) listed a w := by
 simp only [Bool.and_eq_true] at hc
 obtain ⟨⟨⟨⟨h1, h2⟩, h3⟩, h4⟩, h5⟩ := hc
 exact wpAnyT_take hi h1 h2 h3 h4 (by simp only [Bool.and_eq_true]; exact h5) hQ hy hS h
theorem tkA {i : Nat} {oi : Oper} {v : Value} {fuel : Nat} {listed : Array Bool} {a : Act} {w : World} (hi : ops[i]? = some oi)
  (hc : (Region.noSelect ops && Region.free md ops listed i && (Region.ready md ops listed).contains i && Region.needs md ops ops.size e i && (!listed.getD e false && e != i && closedB md ops listed)) = true)
  (hy : YieldsIf P ops S oi v a) (hS : S w) (h : wpAnyT P md ops (fun x a w => (∀ c, x ≠ .panic c) ∧ Q x a w) S e fuel (listed.setIfInBounds i true) (a.put oi.dst v) w) : wpAnyT P md ops (fun x a w => (∀ c, x ≠ .panic c) ∧ Q x a w) S e (fuel + 1) listed a w :=
 wpAnyT_takeG hi hc (fun _ _ _ h => absurd rfl (h.1 _)) hy hS h
theorem wpAnyT_one {i : Nat} {o : Oper} {fuel : Nat} {listed : Array Bool} {a : Act} {w : World} (hr : Region.ready md ops listed = [i]) (ho : ops[i]? = some o)
  (h : ∀ K' : Act → World → Prop, Hid (∀ a w, ((listed.setIfInBounds i true).getD e false = true ∨ S w) → wpAnyT P md ops Q S e fuel (listed.setIfInBounds i true) a w → K' a w) → if Region.wanted o (yielded ops a.tmps) = true then Oper.wp P o a w K' Q else K' (a.put o.dst undef) w) :
  wpAnyT P md ops Q S e (fuel + 1) listed a w := by
 refine ⟨fun h0 => (by rw [hr] at h0; cases h0), fun j hj => ?_⟩
 rw [hr] at hj
 obtain rfl : j = i := by simpa using hj
 exact wpOp_step ho fun K' hK => h K' (Lib.hid fun a w h1 h2 => hK a w ⟨h1, h2⟩)
theorem wpAnyT_done {listed : Array Bool} {a : Act} {w : World} (hr : Region.ready md ops listed = []) (h : Q .normal a w) : ∀ fuel, wpAnyT P md ops Q S e fuel listed a w
 | 0 => ⟨hr, h⟩
 | _ + 1 => ⟨fun _ => h, by rw [hr]; simp⟩
theorem wp_region_T {id : Nat} {a : Act} {w : World} (e : Nat) (S : World → Prop) (hm : P.follows .mixedOrders = true) (hS : S w.drew)
  (h : S w.drew → wpAnyT P .any ops Q S e ops.size (Array.replicate ops.size false) a w.drew) : (Code.region id ops true).wp P Q a w :=
 wp_region_any hm (wpAny_of_T _ _ _ _ (h hS))
end
theorem put_laws : (∀ (a : Act) (d : Tmp) (v : Value), a.put (some d) v = { a with tmps := a.tmps.setIfInBounds d v }) ∧ (∀ (l : List Value) (i : Nat) (v : Value), l.toArray.setIfInBounds i v = (l.set i v).toArray) ∧ (∀ (a b : Value) (l : List Value), (a :: l).set 0 b = b :: l) ∧ (∀ (a b : Value) (l : List Value) (i : Nat), (a :: l).set (i + 1) b = a :: l.set i b) :=
 ⟨fun _ _ _ => rfl, fun _ _ _ => by simp, fun _ _ _ => rfl, fun _ _ _ _ => rfl⟩
end Go.Proofs.YtnbeembnnjdmdaaGreatDoor
/- A region that draws its order, in a fence, or inside a round of a range over a function: reads first, then what is in one order. -/
namespace Go.Proofs.YtnbeembnnjdmdaaGreatDoor
open Go.RowKit

section
variable {P : Program} {ops : Array Oper} {md : Region.Mode} {w : World} {l m : Nat} {F : Fence}
def noDefer : Oper → Bool
 | { op := .defer _, .. } => false
 | _ => true
theorem noDefer_spec {l : List Oper} (h : l.all noDefer = true) : ∀ (i : Nat) (o : Oper), l.toArray[i]? = some o → ∀ c, o.op ≠ .defer c := by
 intro i o ho c hc
 have hm : o ∈ l := by
  have : l[i]? = some o := by simpa using ho
  exact List.mem_of_getElem? this
 have := List.all_eq_true.1 h o hm
 obtain ⟨d, op, t, p, af, g⟩ := o
 simp only at hc
 subst hc
 simp [noDefer] at this

end
end Go.Proofs.YtnbeembnnjdmdaaGreatDoor
/- A region that draws its order, by an invariant of what has been carried out: each operation is walked once. -/
namespace Go.Proofs.YtnbeembnnjdmdaaGreatDoor
open Go.RowKit

theorem filter_lt {α : Type} {p q : α → Bool} (h : ∀ x, p x = true → q x = true) : ∀ {l : List α} {y : α}, y ∈ l → p y = false → q y = true → (l.filter p).length < (l.filter q).length
 | x :: l, y, hy, hp, hq => by
  have hle : ∀ l : List α, (l.filter p).length ≤ (l.filter q).length := by
   intro l
   induction l with
   | nil => simp
   | cons x l ih =>
    cases hx : p x
    ·
     cases hx2 : q x
     · simp [hx, hx2, ih]
     · simp [hx, hx2]; omega
    · simp [hx, h x hx, ih]
  rcases List.mem_cons.1 hy with e | hy
  ·
   subst e
   simp only [List.filter_cons, hp, hq, if_true, List.length_cons]
   have := hle l
   simp; omega
  ·
   have ih := filter_lt h hy hp hq
   cases hx : p x
   ·
    cases hx2 : q x
    · simp [hx, hx2, ih]
    · simp [hx, hx2]; omega
   · simp [hx, h x hx, ih]
def unl (n : Nat) (listed : Array Bool) : Nat := ((List.range n).filter fun i => !listed.getD i true).length
theorem unl_set {n i : Nat} {listed : Array Bool} (hi : i < n) (h : listed.getD i true = false) : unl n (listed.setIfInBounds i true) < unl n listed := by
 unfold unl
 have hlt : i < listed.size := by
  rcases Nat.lt_or_ge i listed.size with h2 | h2
  · exact h2
  · rw [Array.getD_eq_getD_getElem?, Array.getElem?_eq_none h2] at h; simp at h
 refine filter_lt (fun x hx => ?_) (List.mem_range.2 hi) ?_ ?_
 ·
  by_cases e : i = x
  ·
   subst e
   rw [Array.getD_eq_getD_getElem?, Array.getElem?_setIfInBounds_self_of_lt hlt] at hx
   simp at hx
  · rw [getD_set_ne true e] at hx; exact hx
 · rw [Array.getD_eq_getD_getElem?, Array.getElem?_setIfInBounds_self_of_lt hlt]; rfl
 · rw [h]; rfl
section
variable {P : Program} {ops : Array Oper} {Q : Exit → Act → World → Prop} {md : Region.Mode} {S : World → Prop} {e : Nat}
theorem wpAnyT_inv (Inv : Array Bool → Act → World → Prop) (hdone : ∀ listed a w, Region.ready md ops listed = [] → Inv listed a w → Q .normal a w)
  (hstep : ∀ (listed : Array Bool) (a : Act) (w : World) (i : Nat) (o : Oper), i < ops.size → listed.getD i true = false → (∀ d ∈ o.after, Region.binds md d = true → listed.getD d.on false = true) → ops[i]? = some o → Inv listed a w → ∀ K' : Act → World → Prop, Hid (∀ a' w', ((listed.setIfInBounds i true).getD e false = true ∨ S w') → Inv (listed.setIfInBounds i true) a' w' → K' a' w') →
   if Region.wanted o (yielded ops a.tmps) = true then Oper.wp P o a w K' Q else K' (a.put o.dst undef) w) :
  ∀ (fuel : Nat) (listed : Array Bool) (a : Act) (w : World), unl ops.size listed ≤ fuel → Inv listed a w → wpAnyT P md ops Q S e fuel listed a w := by
 intro fuel
 induction fuel with
 | zero =>
  intro listed a w hf hI
  have hr : Region.ready md ops listed = [] := by
   cases hh : Region.ready md ops listed with
   | nil => rfl
   | cons i l =>
    have hi : i ∈ Region.ready md ops listed := by rw [hh]; exact List.mem_cons_self ..
    obtain ⟨h1, o', ho', _⟩ := mem_ready.1 hi
    have := unl_set (n := ops.size) (Array.getElem?_eq_some_iff.1 ho').1 h1
    omega
  exact ⟨hr, hdone _ _ _ hr hI⟩
 | succ fuel ih =>
  intro listed a w hf hI
  refine ⟨fun hr => hdone _ _ _ hr hI, fun i hi => ?_⟩
  obtain ⟨h1, o, ho, hall⟩ := mem_ready.1 hi
  have hlt := (Array.getElem?_eq_some_iff.1 ho).1
  have hu := unl_set (n := ops.size) hlt h1
  exact wpOp_step ho fun K' hK => hstep listed a w i o hlt h1 hall ho hI K' (Lib.hid fun a' w' hs hI' => hK a' w' ⟨hs, ih _ _ _ (by omega) hI'⟩)
end
end Go.Proofs.YtnbeembnnjdmdaaGreatDoor
/- The library's contracts off the shelf, laid by the kit's program at this dump. -/
namespace Go.Proofs
open Go.Shelf
def Tryz.lays189_ren : Go.Shelf.Ren := ⟨fun | 189 => 68 | 125 => 105 | 257 => 104 | 128 => 136 | 129 => 137 | 294 => 127 | 295 => 128 | 296 => 129 | 297 => 130 | 298 => 131 | 299 => 132 | 216 => 133 | 300 => 134 | 301 => 135 | 328 => 141 | 329 => 142 | 330 => 143 | 331 => 144 | 332 => 145 | 215 => 146 | 343 => 148 | n => n, fun | 28 => 22 | 3 => 3 | 46 => 152 | 0 => 0 | 51 => 181 | 53 => 183 | 4 => 4 | 183 => 175 | 182 => 174 | 131 => 170 | 5 => 5 | 9 => 9 | 218 => 187 | 222 => 191 | 228 => 196 | 229 => 197 | n => n, fun | n => n⟩
theorem Tryz.lays189 : Go.Proofs.Lays.n189 Tryz.prog Tryz.lays189_ren := {
 mixed := by kernel_rfl
 f125 := Tryz.func105.trans (congrArg some (by kernel_rfl))
 f128 := Tryz.func136.trans (congrArg some (by kernel_rfl))
 f129 := Tryz.func137.trans (congrArg some (by kernel_rfl))
 f189 := Tryz.func68.trans (congrArg some (by kernel_rfl))
 f215 := Tryz.func146.trans (congrArg some (by kernel_rfl))
 f216 := Tryz.func133.trans (congrArg some (by kernel_rfl))
 f257 := Tryz.func104.trans (congrArg some (by kernel_rfl))
 f294 := Tryz.func127.trans (congrArg some (by kernel_rfl))
 f295 := Tryz.func128.trans (congrArg some (by kernel_rfl))
 f296 := Tryz.func129.trans (congrArg some (by kernel_rfl))
 f297 := Tryz.func130.trans (congrArg some (by kernel_rfl))
 f298 := Tryz.func131.trans (congrArg some (by kernel_rfl))
 f299 := Tryz.func132.trans (congrArg some (by kernel_rfl))
 f300 := Tryz.func134.trans (congrArg some (by kernel_rfl))
 f301 := Tryz.func135.trans (congrArg some (by kernel_rfl))
 f328 := Tryz.func141.trans (congrArg some (by kernel_rfl))
 f329 := Tryz.func142.trans (congrArg some (by kernel_rfl))
 f330 := Tryz.func143.trans (congrArg some (by kernel_rfl))
 f331 := Tryz.func144.trans (congrArg some (by kernel_rfl))
 f332 := Tryz.func145.trans (congrArg some (by kernel_rfl))
 f343 := Tryz.func148.trans (congrArg some (by kernel_rfl))
 t0 := Tryz.underlying0
 a0 := Tryz.isAgg0
 z0 := Tryz.sizeOf0
 v0 := Tryz.zeroValue0
 t3 := Tryz.underlying3
 a3 := Tryz.isAgg3
 z3 := Tryz.sizeOf3
 v3 := Tryz.zeroValue3
 t4 := Tryz.underlying4
 a4 := Tryz.isAgg4
 z4 := Tryz.sizeOf4
 v4 := Tryz.zeroValue4
 t5 := Tryz.underlying5
 a5 := Tryz.isAgg5
 z5 := Tryz.sizeOf5
 v5 := Tryz.zeroValue5
 t9 := Tryz.underlying9
 a9 := Tryz.isAgg9
 z9 := Tryz.sizeOf9
 v9 := Tryz.zeroValue9
 t28 := Tryz.underlying22
 a28 := Tryz.isAgg22
 z28 := Tryz.sizeOf22
 v28 := Tryz.zeroValue22
 t46 := Tryz.underlying152
 a46 := Tryz.isAgg152
 z46 := Tryz.sizeOf152
 v46 := Tryz.zeroValue152
 t51 := Tryz.underlying181
 a51 := Tryz.isAgg181
 z51 := Tryz.sizeOf181
 v51 := Tryz.zeroValue181
 t53 := Tryz.underlying183
 a53 := Tryz.isAgg183
 z53 := Tryz.sizeOf183
 v53 := Tryz.zeroValue183
 t131 := Tryz.underlying170
 a131 := Tryz.isAgg170
 z131 := Tryz.sizeOf170
 v131 := Tryz.zeroValue170
 t182 := Tryz.underlying174
 a182 := Tryz.isAgg174
 z182 := Tryz.sizeOf174
 v182 := Tryz.zeroValue174
 t183 := Tryz.underlying175
 a183 := Tryz.isAgg175
 z183 := Tryz.sizeOf175
 v183 := Tryz.zeroValue175
 t218 := Tryz.underlying187
 a218 := Tryz.isAgg187
 z218 := Tryz.sizeOf187
 v218 := Tryz.zeroValue187
 t222 := Tryz.underlying191
 a222 := Tryz.isAgg191
 z222 := Tryz.sizeOf191
 v222 := Tryz.zeroValue191
 t228 := Tryz.underlying196
 a228 := Tryz.isAgg196
 z228 := Tryz.sizeOf196
 v228 := Tryz.zeroValue196
 t229 := Tryz.underlying197
 a229 := Tryz.isAgg197
 z229 := Tryz.sizeOf197
 v229 := Tryz.zeroValue197 }
open Go.Sort Go.RowKit in
theorem Tryz.slices_Sort_int (blk off cap : Nat) (zs : List Int) (w : World) (hH : Holds (Value.int .i64) w blk off zs.toArray) (hblk : blk < w.heap.size) (hsz : zs.length < 4611686018427387904) :
  Calls Tryz.prog 68 #[.slice (some ⟨blk, off, none⟩) zs.length cap] w fun e w' =>
   e = .returned (.tuple #[]) ∧ ∃ n os, w' = grow (putRow (Value.int .i64) (Sort.ahead w n) blk off (zs.mergeSort fun x y => decide (x ≤ y)).toArray) os := Any.slices_Sort_int Tryz.lays189 blk off cap zs w hH hblk hsz
def Tryz.lays108_ren : Go.Shelf.Ren := ⟨fun | 108 => 99 | n => n, fun | 28 => 22 | 3 => 3 | 0 => 0 | 4 => 4 | n => n, fun | n => n⟩
theorem Tryz.lays108 : Go.Proofs.Lays.n108 Tryz.prog Tryz.lays108_ren := {
 mixed := by kernel_rfl
 f108 := Tryz.func99.trans (congrArg some (by kernel_rfl))
 t0 := Tryz.underlying0
 a0 := Tryz.isAgg0
 z0 := Tryz.sizeOf0
 v0 := Tryz.zeroValue0
 t3 := Tryz.underlying3
 a3 := Tryz.isAgg3
 z3 := Tryz.sizeOf3
 v3 := Tryz.zeroValue3
 t4 := Tryz.underlying4
 a4 := Tryz.isAgg4
 z4 := Tryz.sizeOf4
 v4 := Tryz.zeroValue4
 t28 := Tryz.underlying22
 a28 := Tryz.isAgg22
 z28 := Tryz.sizeOf22
 v28 := Tryz.zeroValue22 }
open Go.Lib in
theorem Tryz.slices_Index_int (b off n c : Nat) (zs : List Int) (x : Int) (w : World) (hz : n ≤ zs.length) (hbig : n ≤ 9223372036854775807) (hc : ∀ j, j < zs.length → w.cell? ⟨b, off + j, none⟩ = some (.int .i64 (zs.getD j 0))) :
  Calls Tryz.prog 99 #[.slice (some ⟨b, off, none⟩) n c, .int .i64 x] w fun e w' => e = .returned (.int .i64 (Lib.idxOf (zs.take n) x)) ∧ w' = w := Any.slices_Index_int Tryz.lays108 b off n c zs x w hz hbig hc
def Tryz.lays107_ren : Go.Shelf.Ren := ⟨fun | 107 => 67 | 108 => 99 | n => n, fun | 28 => 22 | 3 => 3 | 4 => 4 | 0 => 0 | n => n, fun | n => n⟩
theorem Tryz.lays107 : Go.Proofs.Lays.n107 Tryz.prog Tryz.lays107_ren := {
 mixed := by kernel_rfl
 f107 := Tryz.func67.trans (congrArg some (by kernel_rfl))
 f108 := Tryz.func99.trans (congrArg some (by kernel_rfl))
 t0 := Tryz.underlying0
 a0 := Tryz.isAgg0
 z0 := Tryz.sizeOf0
 v0 := Tryz.zeroValue0
 t3 := Tryz.underlying3
 a3 := Tryz.isAgg3
 z3 := Tryz.sizeOf3
 v3 := Tryz.zeroValue3
 t4 := Tryz.underlying4
 a4 := Tryz.isAgg4
 z4 := Tryz.sizeOf4
 v4 := Tryz.zeroValue4
 t28 := Tryz.underlying22
 a28 := Tryz.isAgg22
 z28 := Tryz.sizeOf22
 v28 := Tryz.zeroValue22 }
open Go.Lib in
theorem Tryz.slices_Contains_int (b off n c : Nat) (zs : List Int) (x : Int) (w : World) (hz : n ≤ zs.length) (hbig : n ≤ 9223372036854775807) (hc : ∀ j, j < zs.length → w.cell? ⟨b, off + j, none⟩ = some (.int .i64 (zs.getD j 0))) :
  Calls Tryz.prog 67 #[.slice (some ⟨b, off, none⟩) n c, .int .i64 x] w fun e w' => e = .returned (.bool ((zs.take n).contains x)) ∧ w' = w := Any.slices_Contains_int Tryz.lays107 b off n c zs x w hz hbig hc
open Go.Lib in
theorem Tryz.slices_Contains_int_empty (a : Option Addr) (c : Nat) (x : Int) (w : World) :
  Calls Tryz.prog 67 #[.slice a 0 c, .int .i64 x] w fun e w' => e = .returned (.bool false) ∧ w' = w := Any.slices_Contains_int_empty Tryz.lays107 a c x w
def Tryz.laysNm220_ren : Go.Shelf.Ren := ⟨fun | 20 => 69 | n => n, fun | 22 => 22 | 3 => 3 | 4 => 4 | 0 => 0 | n => n, fun | n => n⟩
theorem Tryz.laysNm220 : Go.Proofs.Lays2.n20 Tryz.prog Tryz.laysNm220_ren := {
 mixed := by kernel_rfl
 f20 := Tryz.func69.trans (congrArg some (by kernel_rfl))
 t0 := Tryz.underlying0
 a0 := Tryz.isAgg0
 z0 := Tryz.sizeOf0
 v0 := Tryz.zeroValue0
 t3 := Tryz.underlying3
 a3 := Tryz.isAgg3
 z3 := Tryz.sizeOf3
 v3 := Tryz.zeroValue3
 t4 := Tryz.underlying4
 a4 := Tryz.isAgg4
 z4 := Tryz.sizeOf4
 v4 := Tryz.zeroValue4
 t22 := Tryz.underlying22
 a22 := Tryz.isAgg22
 z22 := Tryz.sizeOf22
 v22 := Tryz.zeroValue22
 i3 := by kernel_rfl }
open Go.RowKit Go.Lib Go.Sort in
theorem Tryz.slices_Compact_int_empty (a : Option Addr) (cap : Nat) (w : World) :
  Calls Tryz.prog 69 #[.slice a 0 cap] w fun e w' => e = .returned (.slice a 0 cap) ∧ w' = w := Any.slices_Compact_int_empty Tryz.laysNm220 a cap w
open Go.RowKit Go.Sort in
theorem Tryz.slices_Sort_int_none (p : Option Addr) (cap : Nat) (w : World) :
  Calls Tryz.prog 68 #[.slice p 0 cap] w fun e w' => e = .returned (.tuple #[]) ∧ w' = w := Any.slices_Sort_int_none Tryz.lays189 p cap w
def Tryz.laysSlE041_f19_ren : Go.Shelf.Ren := ⟨fun | 41 => 47 | n => n, fun | 22 => 22 | 23 => 3 | 4 => 4 | n => n, fun | n => n⟩
theorem Tryz.laysSlE041_f19 : Go.Proofs.SlLaysE0.n41 Tryz.prog Tryz.laysSlE041_f19_ren := {
 mixed := by kernel_rfl
 f41 := ⟨Tryz.f47.name, by decide, Tryz.func47.trans (congrArg some (by kernel_rfl))⟩
 t4 := Tryz.underlying4
 a4 := Tryz.isAgg4
 z4 := Tryz.sizeOf4
 v4 := Tryz.zeroValue4
 t22 := Tryz.underlying22
 a22 := Tryz.isAgg22
 z22 := Tryz.sizeOf22
 v22 := Tryz.zeroValue22 }
open Go.RowKit Go.Lib in
theorem Tryz.slices_Clone_nil (n c : Nat) (w : World) :
  Calls Tryz.prog 47 #[.slice none n c] w fun e w' => e = .returned (.slice none 0 0) ∧ w' = w := AnyE.slices_Clone_nil Tryz.laysSlE041_f19 n c w
end Go.Proofs
