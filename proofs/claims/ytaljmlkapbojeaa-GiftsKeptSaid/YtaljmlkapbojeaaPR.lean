/- Rows of numbers by value, opened. -/
import Derived.Test.YtaljmlkapbojeaaP0
import Derived.Test.YtaljmlkapbojeaaW1
import Derived.Deep.Matrix
namespace Go.Proofs.Ytaljmlkapbojeaa
open Go.ChangeShapes Go.WideShapes Go.ChangeAt Go.RowKit Go.Deep Go.Joins

theorem rd1_of_cells {w : World} {a : Addr} {n : Nat} {f : Nat → Int} (h : ∀ c, c < n → w.cell? (a.add c) = some (.int .i64 (f c))) : Rd1 w w.heap.size (some a) n f := by
  rcases Nat.eq_zero_or_pos n with h0 | h0
  · exact .inl h0
  · obtain ⟨b, off, spot⟩ := a
    obtain rfl : spot = none := by
      have h1 := cell_spot (h 0 h0)
      unfold Addr.add at h1
      split at h1 <;> simp_all
    refine .inr ⟨b, off, rfl, ?_, fun i hi => ?_⟩
    · have h1 := h 0 h0
      rw [addr_add] at h1
      exact World.block_lt_of_cell? w _ h1
    · have h1 := h i hi
      rw [addr_add] at h1
      exact h1
set_option maxRecDepth 100000 in
theorem open_rows {H : Type} {enc : TypeId × Value → H} {w : World} {r : Reach} {b0 base : Nat} {held : Bool} {v : Value} {d : DataW H} {p : List MemPlace} (hv : Value.okWide Try.prog w r b0 37 v) (h : DataW.Trod enc Try.prog w base (fun _ => true) held 37 v d p) :
    ∃ A n c m f, v = .slice A n c ∧ n ≤ maxLen ∧ (∀ i, i < n → m i ≤ maxLen) ∧ RR w w.heap.size A n m f := by
  obtain ⟨a0, len, cap, rfl⟩ := okWide_slice Try.underlying37 hv
  obtain ⟨fuel, hf⟩ := h
  rcases open_int_rows Try.underlying37 Try.underlying58 Try.underlying3 (by kernel_rfl) (by kernel_rfl) hf with ⟨e, _⟩ | ⟨a, len', cap', A, L, C, Z, e, _, hl, hm, _, hrows⟩
  · simp [Value.cells] at e
    obtain ⟨rfl, rfl, rfl⟩ := e
    exact ⟨_, 0, _, fun _ => 0, fun _ _ => 0, rfl, by unfold maxLen; omega, fun _ _ => by unfold maxLen; omega, .inl rfl⟩
  · simp [Value.cells] at e
    obtain ⟨rfl, rfl, rfl⟩ := e
    refine ⟨_, _, _, L, fun i j => (Z i).getD j 0, rfl, by omega, fun i hi => ?_, ?_⟩
    · have := hrows i (by omega); omega
    · rcases Nat.eq_zero_or_pos len with h0 | h0
      · exact .inl h0
      · obtain ⟨b, off, spot⟩ := a
        obtain rfl : spot = none := by
          have h1 := cell_spot (hrows 0 (by omega)).1
          unfold Addr.add at h1
          split at h1 <;> simp_all
        refine .inr ⟨b, off, rfl, ?_, fun i hi => ?_⟩
        · have h1 := (hrows 0 (by omega)).1
          rw [addr_add] at h1
          exact World.block_lt_of_cell? w _ h1
        · obtain ⟨h1, h2, h3, _, _, h5, h6⟩ := hrows i (by omega)
          rw [addr_add] at h1
          refine ⟨A i, C i, h1, ?_⟩
          cases hA : A i with
          | none => have := h5 hA; exact .inl (by omega)
          | some a' => exact rd1_of_cells fun c hc => (h6 a' hA).2 c (by omega)
end Go.Proofs.Ytaljmlkapbojeaa
