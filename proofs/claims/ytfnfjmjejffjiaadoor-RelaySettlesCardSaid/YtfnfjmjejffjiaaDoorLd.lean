/- A state's cells loaded and stored whole, in a fence. -/
import Derived.Test.YtfnfjmjejffjiaaDoorU1
import Derived.Test.YtfnfjmjejffjiaaDoorMixIn
import Derived.Laws.Tables
namespace Go.Proofs.YtfnfjmjejffjiaaDoor
open Go.RowKit

theorem run_ldS {W : World} {g : Nat} {cs : Array Value} (h : Blk W g 57 cs) (hs : cs.size = 38) : (Instr.loadAt 57 (.pointer (some ⟨g, 0, none⟩))).run Tryd.prog W = .ok (.agg cs) W := by
  simp only [Instr.loadAt, Instr.sureAddr, Sem.run_bind, Sem.run_pure, Result.andThen_ok, run_loadVar_row W g 57 57 cs (0, 0) _ h Tryd.underlying57 rfl (by rw [hs]; exact state_size)]
theorem run_stS {W : World} {g : Nat} {cs old : Array Value} (h : Blk W g 57 old) (hold : old.size = 38) (hs : cs.size = 38) (h1 : cs.all (·.oneCell') = true) : (Instr.storeAt 57 (.pointer (some ⟨g, 0, none⟩)) (.agg cs)).run Tryd.prog W = .ok () (W.setRow g cs) := by
  simp only [Instr.storeAt, Instr.sureAddr, Sem.run_bind, Sem.run_pure, Result.andThen_ok, run_storeVar_row W g 57 57 old cs h (by rw [hs]; exact state_size) (by rw [hold, hs]) h1]
theorem Blk.setRow_ {W : World} {g t : Nat} {cs old : Array Value} (h : Blk W g t old) (hs : old.size = cs.size) : Blk (W.setRow g cs) g t cs ∧ W.grownBy (W.setRow g cs) (some g) :=
  ⟨setRow_heap W g old cs _ _ h, ⟨rfl, rfl, rfl, by simp [World.setRow], fun k _ hk => setRow_other W g k _ fun e => hk (by rw [e])⟩⟩
theorem put_laws : (∀ (a : Act) (d : Tmp) (v : Value), a.put (some d) v = { a with tmps := a.tmps.setIfInBounds d v }) ∧ (∀ (l : List Value) (i : Nat) (v : Value), l.toArray.setIfInBounds i v = (l.set i v).toArray) ∧ (∀ (a b : Value) (l : List Value), (a :: l).set 0 b = b :: l) ∧ (∀ (a b : Value) (l : List Value) (i : Nat), (a :: l).set (i + 1) b = a :: l.set i b) :=
  ⟨fun _ _ _ => rfl, fun _ _ _ => by simp, fun _ _ _ => rfl, fun _ _ _ _ => rfl⟩
section
variable {F : Fence} {n : Nat} {ops : Array Oper} {Q : Exit → Act → World → Prop} {b : Act} {rest : List Oper} {o : Oper} {W : World} {g : Nat} {cs old : Array Value} {K : Act → World → Prop}
theorem opIn_ldS (x : Operand) (ho : o.op = .load 57 x) (hx : b.eval x = .pointer (some ⟨g, 0, none⟩)) (h : Blk W g 57 cs) (hs : cs.size = 38) (hK : K (b.put o.dst (.agg cs)) W) : Oper.wpIn F n Tryd.prog o b W K Q := by
  unfold Oper.wpIn
  refine ⟨by simp [Oper.about, ho], ?_⟩
  rw [Oper.semAt_plain F _ _ (by rw [ho]; intro c hc'; cases hc')]
  simp only [execOp, ho, hx, Sem.run_bind, run_ldS h hs, Result.andThen_ok, Sem.run_pure]
  exact hK
theorem opIn_stS (x y : Operand) (ho : o.op = .store 57 x y) (hx : b.eval x = .pointer (some ⟨g, 0, none⟩)) (hy : b.eval y = .agg cs) (h : Blk W g 57 old) (hold : old.size = 38) (hs : cs.size = 38) (h1 : cs.all (·.oneCell') = true)
    (hK : K (b.put o.dst undef) (W.setRow g cs)) : Oper.wpIn F n Tryd.prog o b W K Q := by
  unfold Oper.wpIn
  refine ⟨by simp [Oper.about, ho], ?_⟩
  rw [Oper.semAt_plain F _ _ (by rw [ho]; intro c hc'; cases hc')]
  simp only [execOp, ho, hx, hy, Sem.run_bind, run_stS h hold hs h1, Result.andThen_ok, Sem.run_pure]
  exact hK
theorem wpListIn_ldS (hw : Region.wanted o (yielded ops b.tmps) = true) (x : Operand) (ho : o.op = .load 57 x) (hx : b.eval x = .pointer (some ⟨g, 0, none⟩)) (h : Blk W g 57 cs) (hs : cs.size = 38)
    (hK : wpListIn F n Tryd.prog ops Q rest (b.put o.dst (.agg cs)) W) : wpListIn F n Tryd.prog ops Q (o :: rest) b W :=
  wpListIn_step fun K hK' => by rw [if_pos hw]; exact opIn_ldS x ho hx h hs (hK' _ _ hK)
theorem wpListIn_stS (hw : Region.wanted o (yielded ops b.tmps) = true) (x y : Operand) (ho : o.op = .store 57 x y) (hx : b.eval x = .pointer (some ⟨g, 0, none⟩)) (hy : b.eval y = .agg cs) (h : Blk W g 57 old) (hold : old.size = 38) (hs : cs.size = 38) (h1 : cs.all (·.oneCell') = true)
    (hK : ∀ w', Blk w' g 57 cs → W.grownBy w' (some g) → wpListIn F n Tryd.prog ops Q rest (b.put o.dst undef) w') : wpListIn F n Tryd.prog ops Q (o :: rest) b W :=
  wpListIn_step fun K hK' => by
    rw [if_pos hw]
    have h2 := h.setRow_ (cs := cs) (by rw [hold, hs])
    exact opIn_stS x y ho hx hy h hold hs h1 (hK' _ _ (hK _ h2.1 h2.2))
end
end Go.Proofs.YtfnfjmjejffjiaaDoor
