/- A year by value, and a list of spans, opened. -/
import Derived.Test.YtaljmlkapbojeaaP0
namespace Go.Proofs.Ytaljmlkapbojeaa
open Go.ChangeShapes Go.WideShapes Go.ChangeAt Go.RowKit Go.Deep Go.Joins

section
variable {H : Type} {enc : TypeId × Value → H} {w : World} {base : Nat} {spare : Nat → Bool} {held : Bool}
theorem span_ints {n : Nat} {l : List Value} {x : DataW H × List MemPlace} (h : DataW.trod enc Try.prog w base spare held n 56 l = some x) : ∀ j, j < 2 → ∃ v, l[j]? = some (.int .i64 v) := by
  obtain ⟨xs, n', _, _, _, hlen, hf⟩ := DataW.trod_struct Try.underlying56 h
  have hl : xs.length = 2 := hlen
  intro j hj
  obtain rfl | rfl : j = 0 ∨ j = 1 := by omega
  · exact field_int (i := 0) (hf 0 _ rfl) (by omega)
  · exact field_int (i := 1) (hf 1 _ rfl) (by omega)
theorem cells_span : Try.prog.cellsOf 56 = 2 := by kernel_rfl
theorem field_span {n i o : Nat} {l : List Value} {xs : List (DataW H × List MemPlace)} (h : DataW.trod enc Try.prog w base spare held n 56 ((l.drop o).take (Try.prog.cellsOf 56)) = xs[i]?) (hi : i < xs.length) : ∀ j, j < 2 → ∃ v, l[o + j]? = some (.int .i64 v) := by
  rw [cells_span, List.getElem?_eq_getElem hi] at h
  intro j hj
  obtain ⟨v, hv⟩ := span_ints h j hj
  rw [List.getElem?_take_of_lt hj, List.getElem?_drop] at hv
  exact ⟨v, hv⟩
theorem month_ints {n : Nat} {l : List Value} {x : DataW H × List MemPlace} (h : DataW.trod enc Try.prog w base spare held n 78 l = some x) : ∀ j, j < 4 → ∃ v, l[j]? = some (.int .i64 v) := by
  obtain ⟨xs, n', _, _, _, hlen, hf⟩ := DataW.trod_struct Try.underlying78 h
  have hl : xs.length = 2 := hlen
  have h0 := field_span (i := 0) (hf 0 _ rfl) (by omega)
  have h1 := field_span (i := 1) (hf 1 _ rfl) (by omega)
  intro j hj
  obtain rfl | rfl | rfl | rfl : j = 0 ∨ j = 1 ∨ j = 2 ∨ j = 3 := by omega
  · exact h0 0 (by omega)
  · exact h0 1 (by omega)
  · exact h1 0 (by omega)
  · exact h1 1 (by omega)
end

set_option maxRecDepth 100000 in
/-- a year by value -/
theorem open_year {H : Type} {enc : TypeId × Value → H} {w : World} {r : Reach} {b0 base : Nat} {spare : Nat → Bool} {held : Bool} {v : Value} {d : DataW H} {p : List MemPlace} (hv : Value.okWide Try.prog w r b0 43 v) (h : DataW.Trod enc Try.prog w base spare held 43 v d p) :
    ∃ x y A n c m, v = .agg #[.int .i64 x, .int .i64 y, .slice A n c] ∧ n ≤ maxLen ∧ Rd w w.heap.size A 4 n m := by
  obtain ⟨v0, v1, v2, y0, y1, y2, n, rfl, _, _, h0, h1, h2⟩ := open_agg3 Try.underlying43 (by kernel_rfl) (by kernel_rfl) hv h
  obtain ⟨x, e0, _, _⟩ := DataW.trod_int Try.underlying3 h0
  obtain ⟨y, e1, _, _⟩ := DataW.trod_int Try.underlying3 h1
  obtain ⟨A, n, c, m, e2, hn, hm⟩ := rd_of_trod (t := 41) (e := 78) (m := 4) Try.underlying41 (by kernel_rfl) (by omega) (fun _ _ _ h => month_ints h) h2
  injection e0 with e0 _
  injection e1 with e1 _
  injection e2 with e2 _
  subst e0; subst e1; subst e2
  exact ⟨x, y, A, n, c, m, rfl, hn, hm⟩
set_option maxRecDepth 100000 in
/-- a list of spans -/
theorem open_flow {H : Type} {enc : TypeId × Value → H} {w : World} {r : Reach} {b0 base : Nat} {spare : Nat → Bool} {held : Bool} {v : Value} {d : DataW H} {p : List MemPlace} (hv : Value.okWide Try.prog w r b0 47 v) (h : DataW.Trod enc Try.prog w base spare held 47 v d p) :
    ∃ A n c f, v = .slice A n c ∧ n ≤ maxLen ∧ Rd w w.heap.size A 2 n f := by
  obtain ⟨a0, len, cap, rfl⟩ := okWide_slice Try.underlying47 hv
  obtain ⟨fuel, hf⟩ := h
  obtain ⟨A, n, c, f, e, hn, hf⟩ := rd_of_trod (t := 47) (e := 56) (m := 2) Try.underlying47 (by kernel_rfl) (by omega) (fun _ _ _ h => span_ints h) hf
  simp [Value.cells] at e
  obtain ⟨rfl, rfl, rfl⟩ := e
  exact ⟨_, _, _, f, rfl, hn, hf⟩
end Go.Proofs.Ytaljmlkapbojeaa
