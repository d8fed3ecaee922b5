/- Sightings as an argument. -/
import Derived.Test.YtnbeembnnjdmdaaDoorP1
namespace Go.Proofs.YtnbeembnnjdmdaaDoor
open Go.ChangeShapes Go.WideShapes Go.ChangeAt Go.RowKit Go.Deep Go.Joins

set_option maxRecDepth 100000 in
theorem open_sgs {H : Type} {enc : TypeId × Value → H} {w : World} {base : Nat} {spare : Nat → Bool} {held : Bool} {r : Reach} {b0 : Nat} {v : Value} {d : DataW H} {p : List MemPlace} (hv : Value.okWide Tryd.prog w r b0 34 v) (h : DataW.Trod enc Tryd.prog w base spare held 34 v d p) :
    ∃ A n c Xs, v = .slice A n c ∧ n ≤ maxLen ∧ RdS w w.heap.size A n Xs := by
  obtain ⟨a0, len, cap, rfl⟩ := okWide_slice Tryd.underlying34 hv
  obtain ⟨fuel, hf⟩ := h
  obtain ⟨A, n, c, Xs, e, hn, hr⟩ := rdS_of_trod hf
  simp [Value.cells] at e
  obtain ⟨rfl, rfl, rfl⟩ := e
  exact ⟨_, _, _, Xs, rfl, hn, hr⟩
end Go.Proofs.YtnbeembnnjdmdaaDoor
