/- Small laws for the walk of Pay. -/
import Derived.Test.YtaljmlkapbojeaaDoorG7
import Derived.Test.YtaljmlkapbojeaaDoorGPay
namespace Go.Proofs.YtaljmlkapbojeaaDoor
open Go.RowKit

theorem upd_ints (f : Nat → Int) (k : Nat) (x : Int) : upd (ints f) k (fun _ => .int .i64 x) = ints (M.setI f k x) := by
  funext i j
  unfold upd ints M.setI
  split <;> rfl
theorem upd_nats (f : Nat → Nat) (k : Nat) (x : Nat) : upd (ints fun i => (f i : Int)) k (fun _ => .int .i64 (x : Int)) = ints fun i => (M.setN f k x i : Int) := by
  funext i j
  by_cases h : i = k <;> simp [upd, ints, M.setN, h]
theorem i64_andNot_nat (a b : Nat) (ha : a < 9223372036854775808) (hb : b ≤ 62) : bits .andNot .i64 (a : Int) ((M.bit b : Nat) : Int) = ((M.clrN a b : Nat) : Int) := by
  have h2 : 2 ^ b ≤ 2 ^ 62 := Nat.pow_le_pow_right (by omega) hb
  have hx : M.clrN a b < 2 ^ 63 := M.clrN_lt (by omega)
  show IntKind.i64.wrap ((BitVec.ofInt 64 (a : Int) &&& ~~~ BitVec.ofInt 64 ((M.bit b : Nat) : Int)).toNat : Int) = _
  have e : (BitVec.ofInt 64 (a : Int) &&& ~~~ BitVec.ofInt 64 ((M.bit b : Nat) : Int)).toNat = M.clrN a b := by
    apply Nat.eq_of_testBit_eq
    intro i
    rw [M.clrN_bit]
    by_cases hi : i < 64
    · rw [BitVec.toNat_and, Nat.testBit_and, ofInt_i64 a ha, BitVec.testBit_toNat, BitVec.getLsbD_not, ← BitVec.testBit_toNat, ofInt_i64 _ (by unfold M.bit; omega)]
      unfold M.bit
      rw [Nat.testBit_two_pow]
      by_cases h : b = i
      · subst h; simp
      · simp [h, hi, beq_eq_false_iff_ne.2 (fun e : i = b => h e.symm)]
    · have h3 : a.testBit i = false := Nat.testBit_lt_two_pow (Nat.lt_of_lt_of_le (show a < 2 ^ 63 by omega) (Nat.pow_le_pow_right (by omega) (by omega)))
      rw [h3, Bool.false_and, BitVec.testBit_toNat, BitVec.getLsbD_of_ge _ _ (by omega)]
  rw [e, IntKind.wrap_i64]
  omega

/-- rows of ints of the call's own: all blocks from lo to hi -/
def RowsOk (w : World) (lo hi : Nat) (v : Value) (n m : Nat) (F : Nat → Nat → Value) (f : Nat → Nat → Int) : Prop :=
  Own w lo 33 1 v n F ∧ (∀ g, v.ownBlock = some g → g < hi) ∧ ∀ i, i < n → ∃ A c, F i 0 = .slice A m c ∧ Own w lo 3 1 (.slice A m c) m (ints (f i)) ∧ ∀ g, Value.ownBlock (.slice A m c) = some g → g < hi
section
variable {w w' : World} {lo hi n m : Nat} {v : Value} {F : Nat → Nat → Value} {f : Nat → Nat → Int}
theorem RowsOk.below (h : RowsOk w lo hi v n m F f) (hb : Below w.heap.size w w') : RowsOk w' lo hi v n m F f :=
  ⟨h.1.below hb, h.2.1, fun i hi => by obtain ⟨A, c, h1, h2, h3⟩ := h.2.2 i hi; exact ⟨A, c, h1, h2.below hb, h3⟩⟩
theorem RowsOk.alloc (h : RowsOk w lo hi v n m F f) (o : Obj) : RowsOk (w.alloc o) lo hi v n m F f := h.below (belowAlloc w o)
theorem RowsOk.drew (h : RowsOk w lo hi v n m F f) : RowsOk w.drew lo hi v n m F f := h
theorem RowsOk.setCell (h : RowsOk w lo hi v n m F f) {p : Addr} (hp : p.block < lo ∨ hi ≤ p.block) (u : Value) : RowsOk (w.setCell p u) lo hi v n m F f := by
  refine ⟨h.1.setCell (fun e => ?_) u, h.2.1, fun i hi => ?_⟩
  · have h1 := h.2.1 _ e
    have h2 := (h.1.block e).1
    omega
  · obtain ⟨A, c, h1, h2, h3⟩ := h.2.2 i hi
    refine ⟨A, c, h1, h2.setCell (fun e => ?_) u, h3⟩
    have h4 := h3 _ e
    have h5 := (h2.block e).1
    omega
theorem RowsOk.more (h : RowsOk w lo hi v n m F f) {hi' : Nat} (hh : hi ≤ hi') : RowsOk w lo hi' v n m F f :=
  ⟨h.1, fun g hg => by have := h.2.1 g hg; omega, fun i hi => by obtain ⟨A, c, h1, h2, h3⟩ := h.2.2 i hi; exact ⟨A, c, h1, h2, fun g hg => by have := h3 g hg; omega⟩⟩
/-- one row more -/
theorem RowsOk.app (h : RowsOk w lo hi v n m F f) {v' : Value} {A : Option Addr} {c : Nat} (hv : Own w' lo 33 1 v' (n + 1) (upd F n fun _ => .slice A m c)) (hg : w.grownBy w' v.ownBlock)
    (hr : Own w lo 3 1 (.slice A m c) m (ints (f n))) : RowsOk w' lo w'.heap.size v' (n + 1) m (upd F n fun _ => .slice A m c) f := by
  have keep : ∀ {A' : Option Addr} {c' k : Nat}, Own w lo 3 1 (.slice A' m c') m (ints (f k)) → Own w' lo 3 1 (.slice A' m c') m (ints (f k)) := fun {A' c' k} ho => ho.apart_grown (h.1.apart_type ho (by decide)) hg
  refine ⟨hv, fun g hg' => (hv.block hg').2, fun i hi' => ?_⟩
  by_cases e : i = n
  · subst e
    exact ⟨A, c, by simp [upd], keep hr, fun g hg' => ((keep hr).block hg').2⟩
  · obtain ⟨A', c', h1, h2, _⟩ := h.2.2 i (by omega)
    exact ⟨A', c', by simp [upd, e, h1], keep h2, fun g hg' => ((keep h2).block hg').2⟩
end
theorem Ledger.far {w : World} {base gn bn : Nat} {v1 v2 v3 : Value} {L N : Nat → Int} {U : Nat → Nat} (h : Ledger w base v1 v2 v3 gn bn L N U) {p : Addr} (h1 : v1.ownBlock ≠ some p.block) (h2 : v2.ownBlock ≠ some p.block) (h3 : v3.ownBlock ≠ some p.block) (u : Value) :
    Ledger (w.setCell p u) base v1 v2 v3 gn bn L N U := ⟨h.1.setCell h1 u, h.2.1.setCell h2 u, h.2.2.1.setCell h3 u, h.2.2.2⟩
theorem Ledger.drew {w : World} {base gn bn : Nat} {v1 v2 v3 : Value} {L N : Nat → Int} {U : Nat → Nat} (h : Ledger w base v1 v2 v3 gn bn L N U) : Ledger w.drew base v1 v2 v3 gn bn L N U := h
section
variable {w : World} {base gn bn g1 g2 g3 c1 c2 c3 : Nat} {L N : Nat → Int} {U : Nat → Nat}
theorem off_ne {a b : Nat} (hne : a ≠ b) {n c i : Nat} : Value.ownBlock (.slice (some ⟨a, 0, none⟩) n c) ≠ some (⟨b, i, none⟩ : Addr).block := by simpa [Value.ownBlock] using hne
/-- the three stores of a step -/
theorem Ledger.setL (h : Ledger w base (.slice (some ⟨g1, 0, none⟩) gn c1) (.slice (some ⟨g2, 0, none⟩) bn c2) (.slice (some ⟨g3, 0, none⟩) bn c3) gn bn L N U) (g : Nat) (y : Int) :
    Ledger (w.setCell ⟨g1, g, none⟩ (.int .i64 y)) base (.slice (some ⟨g1, 0, none⟩) gn c1) (.slice (some ⟨g2, 0, none⟩) bn c2) (.slice (some ⟨g3, 0, none⟩) bn c3) gn bn (M.setI L g y) N U := by
  obtain ⟨o1, o2, o3, a12, a13, a23⟩ := h
  refine ⟨?_, o2.setCell (off_ne fun e => a12 g1 rfl (by rw [← e]; rfl)) _, o3.setCell (off_ne fun e => a13 g1 rfl (by rw [← e]; rfl)) _, a12, a13, a23⟩
  have := o1.set1 g (.int .i64 y)
  rw [upd_ints] at this; exact this
theorem Ledger.setN (h : Ledger w base (.slice (some ⟨g1, 0, none⟩) gn c1) (.slice (some ⟨g2, 0, none⟩) bn c2) (.slice (some ⟨g3, 0, none⟩) bn c3) gn bn L N U) (b : Nat) (y : Int) :
    Ledger (w.setCell ⟨g2, b, none⟩ (.int .i64 y)) base (.slice (some ⟨g1, 0, none⟩) gn c1) (.slice (some ⟨g2, 0, none⟩) bn c2) (.slice (some ⟨g3, 0, none⟩) bn c3) gn bn L (M.setI N b y) U := by
  obtain ⟨o1, o2, o3, a12, a13, a23⟩ := h
  refine ⟨o1.setCell (off_ne fun e => a12 g1 rfl (by rw [e]; rfl)) _, ?_, o3.setCell (off_ne fun e => a23 g2 rfl (by rw [← e]; rfl)) _, a12, a13, a23⟩
  have := o2.set1 b (.int .i64 y)
  rw [upd_ints] at this; exact this
theorem Ledger.setU (h : Ledger w base (.slice (some ⟨g1, 0, none⟩) gn c1) (.slice (some ⟨g2, 0, none⟩) bn c2) (.slice (some ⟨g3, 0, none⟩) bn c3) gn bn L N U) (b : Nat) (z : Nat) :
    Ledger (w.setCell ⟨g3, b, none⟩ (.int .i64 (z : Int))) base (.slice (some ⟨g1, 0, none⟩) gn c1) (.slice (some ⟨g2, 0, none⟩) bn c2) (.slice (some ⟨g3, 0, none⟩) bn c3) gn bn L N (M.setN U b z) := by
  obtain ⟨o1, o2, o3, a12, a13, a23⟩ := h
  refine ⟨o1.setCell (off_ne fun e => a13 g1 rfl (by rw [e]; rfl)) _, o2.setCell (off_ne fun e => a23 g2 rfl (by rw [e]; rfl)) _, ?_, a12, a13, a23⟩
  have := o3.set1 b (.int .i64 (z : Int))
  rw [upd_nats] at this; exact this
end
end Go.Proofs.YtaljmlkapbojeaaDoor
