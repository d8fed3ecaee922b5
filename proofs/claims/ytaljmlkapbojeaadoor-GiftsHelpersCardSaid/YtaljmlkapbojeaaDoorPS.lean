/- Shops, opened. -/
import Derived.Test.YtaljmlkapbojeaaDoorP0
namespace Go.Proofs.YtaljmlkapbojeaaDoor
open Go.ChangeShapes Go.WideShapes Go.ChangeAt Go.RowKit Go.Deep Go.Joins

section
variable {H : Type} {enc : TypeId × Value → H} {w : World} {base : Nat} {spare : Nat → Bool} {held : Bool}
theorem span_intsS {n : Nat} {l : List Value} {x : DataW H × List MemPlace} (h : DataW.trod enc Tryd.prog w base spare held n 52 l = some x) : ∀ j, j < 2 → ∃ v, l[j]? = some (.int .i64 v) := by
  obtain ⟨xs, n', _, _, _, hlen, hf⟩ := DataW.trod_struct Tryd.underlying52 h
  have hl : xs.length = 2 := hlen
  intro j hj
  obtain rfl | rfl : j = 0 ∨ j = 1 := by omega
  · exact field_int (i := 0) (hf 0 _ rfl) (by omega)
  · exact field_int (i := 1) (hf 1 _ rfl) (by omega)
theorem cells_spanS : Tryd.prog.cellsOf 52 = 2 := by kernel_rfl
theorem field_spanS {n i o : Nat} {l : List Value} {xs : List (DataW H × List MemPlace)} (h : DataW.trod enc Tryd.prog w base spare held n 52 ((l.drop o).take (Tryd.prog.cellsOf 52)) = xs[i]?) (hi : i < xs.length) : ∀ j, j < 2 → ∃ v, l[o + j]? = some (.int .i64 v) := by
  rw [cells_spanS, List.getElem?_eq_getElem hi] at h
  intro j hj
  obtain ⟨v, hv⟩ := span_intsS h j hj
  rw [List.getElem?_take_of_lt hj, List.getElem?_drop] at hv
  exact ⟨v, hv⟩
theorem shop_ints {n : Nat} {l : List Value} {x : DataW H × List MemPlace} (h : DataW.trod enc Tryd.prog w base spare held n 54 l = some x) : ∀ j, j < 3 → ∃ v, l[j]? = some (.int .i64 v) := by
  obtain ⟨xs, n', _, _, _, hlen, hf⟩ := DataW.trod_struct Tryd.underlying54 h
  have hl : xs.length = 2 := hlen
  have h0 := field_spanS (i := 0) (hf 0 _ rfl) (by omega)
  intro j hj
  obtain rfl | rfl | rfl : j = 0 ∨ j = 1 ∨ j = 2 := by omega
  · exact h0 0 (by omega)
  · exact h0 1 (by omega)
  · exact field_int (i := 1) (hf 1 _ rfl) (by omega)
end
set_option maxRecDepth 100000 in
/-- shops -/
theorem open_shops {H : Type} {enc : TypeId × Value → H} {w : World} {r : Reach} {b0 base : Nat} {spare : Nat → Bool} {held : Bool} {v : Value} {d : DataW H} {p : List MemPlace} (hv : Value.okWide Tryd.prog w r b0 46 v) (h : DataW.Trod enc Tryd.prog w base spare held 46 v d p) :
    ∃ A n c f, v = .slice A n c ∧ n ≤ maxLen ∧ Rd w w.heap.size A 3 n f := by
  obtain ⟨a0, len, cap, rfl⟩ := okWide_slice Tryd.underlying46 hv
  obtain ⟨fuel, hf⟩ := h
  obtain ⟨A, n, c, f, e, hn, hf⟩ := rd_of_trod (t := 46) (e := 54) (m := 3) Tryd.underlying46 (by kernel_rfl) (by omega) (fun _ _ _ h => shop_ints h) hf
  simp [Value.cells] at e
  obtain ⟨rfl, rfl, rfl⟩ := e
  exact ⟨_, _, _, f, rfl, hn, hf⟩
end Go.Proofs.YtaljmlkapbojeaaDoor
