/- Small lemmas on worlds, slices of integers and structs of integers, used by all walks of this family. -/
import Derived.Test.YtfnfjmjejffjiaaDoorRows
import Derived.WalkKit
import Derived.WalkSpells
import Derived.WalkLawsBesides
import Derived.WalkSmall
import Derived.Deep.QuietTactic
import Derived.BigQuiet
import Derived.StillTailTactics
import Derived.Deep.RegionWith
import Derived.Laws.ResultCell
import Derived.Lib.Hide
namespace Go.Proofs.YtfnfjmjejffjiaaDoor
open Go.RowKit

/-- n elements of m one-cell int fields each, below block B. -/
def Rd (w : World) (B : Nat) (A : Option Addr) (m n : Nat) (f : Nat → Nat → Int) : Prop :=
  n = 0 ∨ ∃ b off, A = some ⟨b, off, none⟩ ∧ b < B ∧ ∀ i j, i < n → j < m → w.cell? ⟨b, off + (i * m + j), none⟩ = some (.int .i64 (f i j))

/-- n ints below block B. -/
def Rd1 (w : World) (B : Nat) (A : Option Addr) (n : Nat) (f : Nat → Int) : Prop :=
  n = 0 ∨ ∃ b off, A = some ⟨b, off, none⟩ ∧ b < B ∧ ∀ i, i < n → w.cell? ⟨b, off + i, none⟩ = some (.int .i64 (f i))

section
variable {w w' : World} {B B' m n : Nat} {A : Option Addr} {f : Nat → Nat → Int} {f1 : Nat → Int}

theorem Rd.keep (h : Rd w B A m n f) (hk : ∀ p : Addr, p.block < B → w'.cell? p = w.cell? p) : Rd w' B A m n f := by
  rcases h with h | ⟨b, off, hA, hb, hc⟩
  · exact .inl h
  · exact .inr ⟨b, off, hA, hb, fun i j hi hj => (hk _ hb).trans (hc i j hi hj)⟩
theorem Rd1.keep (h : Rd1 w B A n f1) (hk : ∀ p : Addr, p.block < B → w'.cell? p = w.cell? p) : Rd1 w' B A n f1 := by
  rcases h with h | ⟨b, off, hA, hb, hc⟩
  · exact .inl h
  · exact .inr ⟨b, off, hA, hb, fun i hi => (hk _ hb).trans (hc i hi)⟩
theorem Rd.below (h : Rd w B A m n f) (hb : Below B w w') : Rd w' B A m n f := h.keep fun _ hp => hb.cell hp
theorem Rd1.below (h : Rd1 w B A n f1) (hb : Below B w w') : Rd1 w' B A n f1 := h.keep fun _ hp => hb.cell hp
theorem Rd.more (h : Rd w B A m n f) (hB : B ≤ B') : Rd w B' A m n f := by
  rcases h with h | ⟨b, off, hA, hb, hc⟩
  · exact .inl h
  · exact .inr ⟨b, off, hA, by omega, hc⟩
theorem Rd1.more (h : Rd1 w B A n f1) (hB : B ≤ B') : Rd1 w B' A n f1 := by
  rcases h with h | ⟨b, off, hA, hb, hc⟩
  · exact .inl h
  · exact .inr ⟨b, off, hA, by omega, hc⟩
theorem Rd.at2 (h : Rd w B A 2 n f) {k : Nat} (hk : k < n) : ∃ b off, A = some ⟨b, off, none⟩ ∧ b < B ∧ w.cell? ⟨b, off + k * 2, none⟩ = some (.int .i64 (f k 0)) ∧ w.cell? ⟨b, off + k * 2 + 1, none⟩ = some (.int .i64 (f k 1)) := by
  rcases h with h | ⟨b, off, hA, hb, hc⟩
  · omega
  · exact ⟨b, off, hA, hb, hc k 0 hk (by omega), hc k 1 hk (by omega)⟩
theorem Rd.at3 (h : Rd w B A 3 n f) {k : Nat} (hk : k < n) : ∃ b off, A = some ⟨b, off, none⟩ ∧ b < B ∧ w.cell? ⟨b, off + k * 3, none⟩ = some (.int .i64 (f k 0)) ∧ w.cell? ⟨b, off + k * 3 + 1, none⟩ = some (.int .i64 (f k 1)) ∧
    w.cell? ⟨b, off + k * 3 + 2, none⟩ = some (.int .i64 (f k 2)) := by
  rcases h with h | ⟨b, off, hA, hb, hc⟩
  · omega
  · exact ⟨b, off, hA, hb, hc k 0 hk (by omega), hc k 1 hk (by omega), hc k 2 hk (by omega)⟩
theorem Rd.at4 (h : Rd w B A 4 n f) {k : Nat} (hk : k < n) : ∃ b off, A = some ⟨b, off, none⟩ ∧ b < B ∧ w.cell? ⟨b, off + k * 4, none⟩ = some (.int .i64 (f k 0)) ∧ w.cell? ⟨b, off + k * 4 + 1, none⟩ = some (.int .i64 (f k 1)) ∧
    w.cell? ⟨b, off + k * 4 + 2, none⟩ = some (.int .i64 (f k 2)) ∧ w.cell? ⟨b, off + k * 4 + 3, none⟩ = some (.int .i64 (f k 3)) := by
  rcases h with h | ⟨b, off, hA, hb, hc⟩
  · omega
  · exact ⟨b, off, hA, hb, hc k 0 hk (by omega), hc k 1 hk (by omega), hc k 2 hk (by omega), hc k 3 hk (by omega)⟩
theorem Rd1.at_ (h : Rd1 w B A n f1) {k : Nat} (hk : k < n) : ∃ b off, A = some ⟨b, off, none⟩ ∧ b < B ∧ w.cell? ⟨b, off + k, none⟩ = some (.int .i64 (f1 k)) := by
  rcases h with h | ⟨b, off, hA, hb, hc⟩
  · omega
  · exact ⟨b, off, hA, hb, hc k hk⟩

/-- Behind a contract that ends in Below: all old cells and marks read as before. -/
theorem bcell {W w1 : World} (hb : Below W.heap.size W w1) : (∀ b o, b < W.heap.size → w1.cell? ⟨b, o, none⟩ = W.cell? ⟨b, o, none⟩) ∧ (∀ b o, b < W.heap.size → w1.frozen? ⟨b, o, none⟩ = W.frozen? ⟨b, o, none⟩) :=
  ⟨fun b o h => hb.cell (p := ⟨b, o, none⟩) h, fun b o h => hb.frozen (p := ⟨b, o, none⟩) h⟩
theorem belowAlloc (w : World) (o : Obj) : Below w.heap.size w (w.alloc o) := (Below.refl _ _).alloc (Nat.le_refl _) _
theorem _root_.Go.RowKit.Below.drewN {B : Nat} {a w : World} (h : Below B a w) (n : Nat) : Below B a (w.drewN n) := ⟨h.os, h.tape, h.output, h.size, h.block⟩
theorem belowAlloc2 (w : World) (o o' : Obj) : Below w.heap.size w ((w.alloc o).alloc o') := (belowAlloc w o).alloc (by simp) _
theorem belowAlloc3 (w : World) (o o' o'' : Obj) : Below w.heap.size w (((w.alloc o).alloc o').alloc o'') := (belowAlloc2 w o o').alloc (by simp; omega) _
/-- the block of a struct parameter, behind whatever a loop has made -/
theorem box_cell {w wr : World} {cs : Array Value} {t : TypeId} (h : Below (w.heap.size + 1) (w.alloc (.cells cs t)) wr) (i : Nat) : wr.cell? ⟨w.heap.size, i, none⟩ = cs[i]? := by
  rw [h.cell (by simp)]
  exact cell_of_row _ _ _ _ _ (0, 0) (heap_alloc_new w _)
theorem box_below {w wr : World} {o : Obj} (h : Below (w.heap.size + 1) (w.alloc o) wr) : Below w.heap.size w wr := (belowAlloc w o).trans (h.mono (by omega))
theorem box_size {w wr : World} {o : Obj} (h : Below (w.heap.size + 1) (w.alloc o) wr) : w.heap.size + 1 ≤ wr.heap.size := by have := h.size; simpa using this
theorem size_alloc (w : World) (o : Obj) : (w.alloc o).heap.size = w.heap.size + 1 := by simp
end

theorem toNat_i64_and_one (x : Int) : bits .and .i64 x 1 = x % 2 := by
  show IntKind.i64.wrap ((BitVec.ofInt 64 x &&& BitVec.ofInt 64 1).toNat : Int) = _
  have h : (BitVec.ofInt 64 x &&& BitVec.ofInt 64 1).toNat = (x % 2).toNat := by
    rw [BitVec.toNat_and, BitVec.toNat_ofInt]
    have : (BitVec.ofInt 64 1).toNat = 1 := by decide
    rw [this, Nat.and_one_is_mod]
    omega
  rw [h, IntKind.wrap_i64]
  omega
theorem ofInt_i64 (a : Nat) (ha : a < 9223372036854775808) : (BitVec.ofInt 64 (a : Int)).toNat = a := by
  rw [BitVec.ofInt_natCast, BitVec.toNat_ofNat]; exact Nat.mod_eq_of_lt (by omega)
theorem i64_or_nat (a b : Nat) (ha : a < 9223372036854775808) (hb : b < 9223372036854775808) : bits .or .i64 (a : Int) (b : Int) = ((a ||| b : Nat) : Int) := by
  have hx : a ||| b < 2 ^ 63 := Nat.or_lt_two_pow (by omega) (by omega)
  show IntKind.i64.wrap ((BitVec.ofInt 64 (a : Int) ||| BitVec.ofInt 64 (b : Int)).toNat : Int) = _
  rw [BitVec.toNat_or, ofInt_i64 a ha, ofInt_i64 b hb, IntKind.wrap_i64]
  omega
theorem run_min2 {P : Program} {w : World} (ts : Array TypeId) (t : TypeId) (k k' : IntKind) (x y : Int) : (Builtin.min_ ts t #[.int k x, .int k' y]).run P w = .ok (.int k (min x y)) w := by
  rw [run_min_int2]
  by_cases h : y < x
  · rw [if_pos h, Int.min_eq_right (by omega)]
  · rw [if_neg h, Int.min_eq_left (by omega)]
theorem run_max2 {P : Program} {w : World} (ts : Array TypeId) (t : TypeId) (k k' : IntKind) (x y : Int) : (Builtin.max_ ts t #[.int k x, .int k' y]).run P w = .ok (.int k (max x y)) w := by
  rw [run_max_int2]
  by_cases h : x < y
  · rw [if_pos h, Int.max_eq_right (by omega)]
  · rw [if_neg h, Int.max_eq_left (by omega)]
attribute [go_sem ↓] run_min2 run_max2
theorem pow_wrap {g : Nat} (hg : g ≤ 60) : wrap64 (2 ^ g) = ((2 ^ g : Nat) : Int) ∧ IntKind.i64.wrap (2 ^ g) = ((2 ^ g : Nat) : Int) := by
  have h2 : 2 ^ g ≤ 2 ^ 60 := Nat.pow_le_pow_right (by omega) hg
  rw [show (2 : Int) ^ g = ((2 ^ g : Nat) : Int) from by simp]
  generalize 2 ^ g = q at *
  refine ⟨IntWalk.wrap64_in _ (by omega), ?_⟩
  rw [IntKind.wrap_i64]
  omega
theorem run_quo {P : Program} {w : World} (x y : Int) (h : 0 ≤ x ∧ x ≤ 9223372036854775807 ∧ 1 ≤ y) : (Op.intDiv .quo .i64 x y).run P w = .ok (.int .i64 (x / y)) w := by
  have hy : ¬ y = 0 := by omega
  simp [Op.intDiv, hy, IntWalk.i64_quo x y h]
theorem ret_int {k : IntKind} {a b : Int} (h : a = b) : Ending.returned (.int k a) = .returned (.int k b) := by rw [h]
theorem ret_bool {a b : Bool} (h : a = b) : Ending.returned (.bool a) = .returned (.bool b) := by rw [h]
end Go.Proofs.YtfnfjmjejffjiaaDoor
