/- A book by value, opened. -/
import Derived.Test.YtaljmlkapbojeaaDoorP0
import Derived.Test.YtaljmlkapbojeaaDoorG2
namespace Go.Proofs.YtaljmlkapbojeaaDoor
open Go.ChangeShapes Go.WideShapes Go.ChangeAt Go.RowKit Go.Deep Go.Joins

set_option maxRecDepth 100000 in
/-- a book by value -/
theorem open_book {H : Type} {enc : TypeId × Value → H} {w : World} {r : Reach} {b0 base : Nat} {spare : Nat → Bool} {held : Bool} {v : Value} {d : DataW H} {p : List MemPlace} (hv : Value.okWide Tryd.prog w r b0 25 v) (h : DataW.Trod enc Tryd.prog w base spare held 25 v d p) :
    ∃ gA gn gc bA bn bc G H', v = .agg #[.slice gA gn gc, .slice bA bn bc] ∧ gn ≤ maxLen ∧ bn ≤ maxLen ∧ BookRd w w.heap.size gA gn G bA bn H' := by
  obtain ⟨v0, v1, y0, y1, n, rfl, _, _, h0, h1⟩ := open_agg2 Tryd.underlying25 (by kernel_rfl) (by kernel_rfl) hv h
  obtain ⟨gA, gn, gc, G, e0, hg, hG⟩ := rd_of_trod (t := 22) (e := 44) (m := 3) Tryd.underlying22 (by kernel_rfl) (by omega) (fun _ _ _ h => gift_ints h) h0
  obtain ⟨bA, bn, bc, H', e1, hb, hH⟩ := rd_of_trod (t := 23) (e := 41) (m := 3) Tryd.underlying23 (by kernel_rfl) (by omega) (fun _ _ _ h => bill_ints h) h1
  injection e0 with e0 _
  injection e1 with e1 _
  subst e0; subst e1
  exact ⟨gA, gn, gc, bA, bn, bc, G, H', rfl, hg, hb, hG, hH⟩
end Go.Proofs.YtaljmlkapbojeaaDoor
