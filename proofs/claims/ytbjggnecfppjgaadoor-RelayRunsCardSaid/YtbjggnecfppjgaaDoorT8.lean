/- begin. -/
import Derived.Test.YtbjggnecfppjgaaDoorT7
import Derived.Laws.Rows
namespace Go.Proofs.YtbjggnecfppjgaaDoor
open Go.RowKit

/-- an array of a state's cells -/
def Sv (cs : Array Value) (F : Nat → Int) : Prop := cs.size = 38 ∧ ∀ i, i < 38 → cs[i]? = some (.int .i64 (F i))
theorem Sv.one {cs : Array Value} {F : Nat → Int} (h : Sv cs F) : cs.all (·.oneCell') = true := by
  rw [Array.all_eq_true]
  intro i hi
  have h1 := h.2 i (by have := h.1; omega)
  rw [Array.getElem?_eq_getElem hi] at h1
  injection h1 with h1
  rw [h1]; rfl
theorem Sf.of {w : World} {g : Nat} {cs : Array Value} {F : Nat → Int} (hb : Blk w g 75 cs) (h : Sv cs F) : Sf w g F := ⟨cs, hb, h.1, h.2⟩
theorem Sf.arr {w : World} {g : Nat} {F : Nat → Int} (h : Sf w g F) : ∃ cs, Blk w g 75 cs ∧ Sv cs F := by
  obtain ⟨cs, h1, h2, h3⟩ := h
  exact ⟨cs, h1, h2, h3⟩
def zeroS : M.St := ⟨fun _ _ => 0, fun _ _ => 0, 0⟩
def litZ : Array Value := #[.int .i64 0, .int .i64 0, .int .i64 0, .int .i64 0, .int .i64 0, .int .i64 0, .int .i64 0, .int .i64 0, .int .i64 0, .int .i64 0, .int .i64 0, .int .i64 0, .int .i64 0, .int .i64 0, .int .i64 0, .int .i64 0, .int .i64 0, .int .i64 0, .int .i64 0, .int .i64 0, .int .i64 0, .int .i64 0, .int .i64 0, .int .i64 0, .int .i64 0, .int .i64 0, .int .i64 0, .int .i64 0, .int .i64 0, .int .i64 0, .int .i64 0, .int .i64 0, .int .i64 0, .int .i64 0, .int .i64 0, .int .i64 0, .int .i64 0, .int .i64 0]
def litN (n : Nat) : Array Value := #[.int .i64 (n : Int), .int .i64 0, .int .i64 0, .int .i64 0, .int .i64 0, .int .i64 0, .int .i64 0, .int .i64 0, .int .i64 0, .int .i64 0, .int .i64 0, .int .i64 0, .int .i64 0, .int .i64 0, .int .i64 0, .int .i64 0, .int .i64 0, .int .i64 0, .int .i64 0, .int .i64 0, .int .i64 0, .int .i64 0, .int .i64 0, .int .i64 0, .int .i64 0, .int .i64 0, .int .i64 0, .int .i64 0, .int .i64 0, .int .i64 0, .int .i64 0, .int .i64 0, .int .i64 0, .int .i64 0, .int .i64 0, .int .i64 0, .int .i64 0, .int .i64 0]
theorem litN_sv (n : Nat) : Sv (litN n) (stF n zeroS) := by
  refine ⟨rfl, fun i hi => ?_⟩
  have : i = 0 ∨ i = 1 ∨ i = 2 ∨ i = 3 ∨ i = 4 ∨ i = 5 ∨ i = 6 ∨ i = 7 ∨ i = 8 ∨ i = 9 ∨ i = 10 ∨ i = 11 ∨ i = 12 ∨ i = 13 ∨ i = 14 ∨ i = 15 ∨ i = 16 ∨ i = 17 ∨ i = 18 ∨ i = 19 ∨ i = 20 ∨ i = 21 ∨ i = 22 ∨ i = 23 ∨ i = 24 ∨ i = 25 ∨ i = 26 ∨ i = 27 ∨ i = 28 ∨ i = 29 ∨ i = 30 ∨ i = 31 ∨ i = 32 ∨ i = 33 ∨ i = 34 ∨ i = 35 ∨ i = 36 ∨ i = 37 := by omega
  rcases this with rfl | rfl | rfl | rfl | rfl | rfl | rfl | rfl | rfl | rfl | rfl | rfl | rfl | rfl | rfl | rfl | rfl | rfl | rfl | rfl | rfl | rfl | rfl | rfl | rfl | rfl | rfl | rfl | rfl | rfl | rfl | rfl | rfl | rfl | rfl | rfl | rfl | rfl <;> rfl
theorem state_size : (Tryd.prog.info? 75).map (·.size) = some 38 := by kernel_rfl
section
variable {ops : Array Oper} {Q : Exit → Act → World → Prop} {b : Act} {rest : List Oper} {o : Oper} {W : World} {g : Nat} {cs old : Array Value}
theorem wpList_ldS (hgd : o.guard = none) (x : Operand) (ho : o.op = .load 75 x) (hx : b.eval x = .pointer (some ⟨g, 0, none⟩)) (h : Blk W g 75 cs) (hs : cs.size = 38)
    (hK : wpList Tryd.prog ops Q rest (b.put o.dst (.agg cs)) W) : wpList Tryd.prog ops Q (o :: rest) b W :=
  wpList_load_row hgd 75 x ho g hx 75 cs (0, 0) _ h Tryd.underlying75 rfl (by rw [hs]; exact state_size) hK
theorem wpList_stS (hgd : o.guard = none) (x y : Operand) (ho : o.op = .store 75 x y) (hx : b.eval x = .pointer (some ⟨g, 0, none⟩)) (hy : b.eval y = .agg cs) (h : Blk W g 75 old) (hold : old.size = 38) (hs : cs.size = 38) (h1 : cs.all (·.oneCell') = true)
    (hK : ∀ w', Blk w' g 75 cs → W.grownBy w' (some g) → wpList Tryd.prog ops Q rest (b.put o.dst undef) w') : wpList Tryd.prog ops Q (o :: rest) b W :=
  wpList_store_row hgd 75 x y ho g cs hx hy 75 old h (by rw [hs]; exact state_size) (by rw [hold, hs]) h1
    (hK _ (setRow_heap W g old cs _ _ h) ⟨rfl, rfl, rfl, by simp [World.setRow], fun k _ hk => setRow_other W g k _ fun e => hk (by rw [e])⟩)
end
theorem below_of_grown {w w' : World} {g : Nat} (h : w.grownBy w' (some g)) (hg : w.heap.size ≤ g) : Below w.heap.size w w' := ⟨h.os, h.tape, h.output, h.size, fun k hk => h.block k hk (fun e => by injection e with e; omega)⟩
theorem grown_of_below {w w' : World} {r : Option Nat} (h : Below w.heap.size w w') : w.grownBy w' r := ⟨h.os, h.tape, h.output, h.size, fun k hk _ => h.block k hk⟩
set_option maxRecDepth 100000 in
set_option maxHeartbeats 3200000 in
theorem begin_any (n o : Nat) (ho : o < 4) (w : World) :
    Calls Tryd.prog 52 #[.int .i64 (n : Int), .int .i64 (o : Int)] w fun e w' => (∃ cs, e = .returned (.agg cs) ∧ Sv cs (stF n (M.init o))) ∧ Below w.heap.size w w' := by
  go_enter Tryd.func52, Tryd.ntmps52
  go_upto_region 2 with (refine wpList_stS rfl (.tmp 5) (.tmp 7) rfl rfl rfl (cs := litN n) (Blk.new1 w _ _ litZ) rfl rfl (litN_sv n).one ?_; intro w2 b2 g2; have B2 := Lib.hid b2; have B0 := Lib.hid (((Blk.new w 75 litZ).alloc (.cells litZ 75)).grown g2 (fun e => by injection e with e; omega)); have L2 := Lib.hid (below_of_grown (w := w) (g := w.heap.size + 1) ((World.grownBy_alloc w (.cells litZ 75) _).trans ((World.grownBy_alloc _ (.cells litZ 75) _).trans g2)) (by omega)); clear b2 g2)
  have S2 := Lib.hid (Sf.of B2.out (litN_sv n))
  have x1 := idx_cen (w.heap.size + 1) o ho
  obtain ⟨c0, c1, c2⟩ := S2.out.cen ho
  have z0 := S2.out.frz (1 + o * 3)
  have hz := B2.out.lt
  go_upto_region 3 with fail
  obtain ⟨X3, hX3⟩ : ∃ X3, X3 = w2.setCell ⟨w.heap.size + 1, 1 + o * 3, none⟩ (.int .i64 1) := ⟨_, rfl⟩
  have S3 : Sf X3 (w.heap.size + 1) (stF n (M.init (o : Int))) := by rw [hX3]; exact S2.out.set1 ho 1
  have D0 := Lib.hid (show Blk X3 w.heap.size 75 litZ by rw [hX3]; exact B0.out.far (by show w.heap.size ≠ w.heap.size + 1; omega) _)
  have L3 := Lib.hid (show Below w.heap.size w X3 by rw [hX3]; exact L2.out.setCell (by show w.heap.size ≤ w.heap.size + 1; omega) _)
  rw [← hX3]
  clear hX3 x1 c0 c1 c2 z0 hz
  obtain ⟨cs, b3, sv⟩ := S3.arr
  have B3 := Lib.hid b3
  have SV := Lib.hid sv
  clear b3 sv S3 S2 B2
  go_wp2_with (first | (refine wpList_ldS rfl (.tmp 5) rfl rfl B3.out SV.out.1 ?_) | (refine wpList_stS rfl (.tmp 4) (.tmp 12) rfl rfl rfl D0.out rfl SV.out.1 SV.out.one ?_; intro w4 b4 g4; have B4 := Lib.hid b4; have G4 := Lib.hid g4; clear b4 g4))
  refine bodyPost_ret (results_cell_row rfl _ _ w.heap.size 75 cs (0, 0) _ rfl B4.out Tryd.underlying75 rfl (by rw [SV.out.1]; exact state_size)) rfl ⟨⟨cs, rfl, SV.out⟩, ?_⟩
  exact ⟨G4.out.os.trans L3.out.os, G4.out.tape.trans L3.out.tape, G4.out.output.trans L3.out.output, Nat.le_trans L3.out.size G4.out.size, fun k hk => (G4.out.block k (by have := L3.out.size; omega) (fun e => by injection e with e; omega)).trans (L3.out.block k hk)⟩
end Go.Proofs.YtbjggnecfppjgaaDoor
