/- Proved: GiftsLasts answers true at every year, and its argument reads as it did. Conditions: none beyond the row. -/
import Derived.Test.YtaljmlkapbojeaaP0
import Derived.Test.YtaljmlkapbojeaaL1
namespace Go.Proofs.Ytaljmlkapbojeaa
open Go.ChangeShapes Go.WideShapes Go.ChangeAt Go.RowKit Go.Deep Go.Joins

section
variable {H : Type} {enc : TypeId × Value → H} {w : World} {base : Nat} {spare : Nat → Bool} {held : Bool}
theorem span_ints {n : Nat} {l : List Value} {x : DataW H × List MemPlace} (h : DataW.trod enc Try.prog w base spare held n 56 l = some x) : ∀ j, j < 2 → ∃ v, l[j]? = some (.int .i64 v) := by
  obtain ⟨xs, n', _, _, _, hlen, hf⟩ := DataW.trod_struct Try.underlying56 h
  have hl : xs.length = 2 := hlen
  intro j hj
  obtain rfl | rfl : j = 0 ∨ j = 1 := by omega
  · exact field_int (i := 0) (hf 0 _ rfl) (by omega)
  · exact field_int (i := 1) (hf 1 _ rfl) (by omega)
theorem cells_span : Try.prog.cellsOf 56 = 2 := by kernel_rfl
theorem field_span {n i o : Nat} {l : List Value} {xs : List (DataW H × List MemPlace)} (h : DataW.trod enc Try.prog w base spare held n 56 ((l.drop o).take (Try.prog.cellsOf 56)) = xs[i]?) (hi : i < xs.length) : ∀ j, j < 2 → ∃ v, l[o + j]? = some (.int .i64 v) := by
  rw [cells_span, List.getElem?_eq_getElem hi] at h
  intro j hj
  obtain ⟨v, hv⟩ := span_ints h j hj
  rw [List.getElem?_take_of_lt hj, List.getElem?_drop] at hv
  exact ⟨v, hv⟩
theorem month_ints {n : Nat} {l : List Value} {x : DataW H × List MemPlace} (h : DataW.trod enc Try.prog w base spare held n 78 l = some x) : ∀ j, j < 4 → ∃ v, l[j]? = some (.int .i64 v) := by
  obtain ⟨xs, n', _, _, _, hlen, hf⟩ := DataW.trod_struct Try.underlying78 h
  have hl : xs.length = 2 := hlen
  have h0 := field_span (i := 0) (hf 0 _ rfl) (by omega)
  have h1 := field_span (i := 1) (hf 1 _ rfl) (by omega)
  intro j hj
  obtain rfl | rfl | rfl | rfl : j = 0 ∨ j = 1 ∨ j = 2 ∨ j = 3 := by omega
  · exact h0 0 (by omega)
  · exact h0 1 (by omega)
  · exact h1 0 (by omega)
  · exact h1 1 (by omega)
end

set_option maxRecDepth 100000 in
/-- a year by value -/
theorem open_year {H : Type} {enc : TypeId × Value → H} {w : World} {r : Reach} {b0 base : Nat} {spare : Nat → Bool} {held : Bool} {v : Value} {d : DataW H} {p : List MemPlace} (hv : Value.okWide Try.prog w r b0 43 v) (h : DataW.Trod enc Try.prog w base spare held 43 v d p) :
    ∃ x y A n c m, v = .agg #[.int .i64 x, .int .i64 y, .slice A n c] ∧ n ≤ maxLen ∧ Rd w w.heap.size A 4 n m := by
  obtain ⟨v0, v1, v2, y0, y1, y2, n, rfl, _, _, h0, h1, h2⟩ := open_agg3 Try.underlying43 (by kernel_rfl) (by kernel_rfl) hv h
  obtain ⟨x, e0, _, _⟩ := DataW.trod_int Try.underlying3 h0
  obtain ⟨y, e1, _, _⟩ := DataW.trod_int Try.underlying3 h1
  obtain ⟨A, n, c, m, e2, hn, hm⟩ := rd_of_trod (t := 41) (e := 78) (m := 4) Try.underlying41 (by kernel_rfl) (by omega) (fun _ _ _ h => month_ints h) h2
  injection e0 with e0 _
  injection e1 with e1 _
  injection e2 with e2 _
  subst e0; subst e1; subst e2
  exact ⟨x, y, A, n, c, m, rfl, hn, hm⟩

namespace lasts
set_option maxRecDepth 100000 in
theorem contract (H : Type) (enc : TypeId × Value → H) (W : World) (base : Nat) (args : Array Value) (ds gs : List (DataW H)) (before : List MemPlace)
    (hval : ∀ (j : Nat) t v, Try.f4.params[j]? = some t → args[j]? = some v → Value.okWide Try.prog W .any base t v)
    (hW : DataW.Whole enc Try.prog Try.f4.params.toList Rows.giftsLastsSpec.vars false W args.toList ds gs before) :
    Calls Try.prog 4 args W fun e W' => ∃ v, e = .returned v ∧ Rows.giftsLastsSpec.post enc Try.prog Try.f4 false true false false W args v W' := by
  have hW' := hW
  obtain ⟨p, q, hA0, hV, rfl, hfz, hnd⟩ := hW
  have hA : DataW.TrodAll enc Try.prog W 0 (fun _ => true) true Try.f4.params.toList args.toList ds p := hA0
  rw [Try.params4] at hA hval
  obtain ⟨v0, d0, rfl, rfl, h0⟩ := trodAll_one hA
  obtain ⟨rfl, rfl⟩ := trodVars_none hV
  obtain ⟨x, y, A, n, c, m, rfl, hn, hR⟩ := open_year (hval 0 43 v0 rfl rfl) h0
  refine (giftsLasts_any x y A n c W.heap.size m W hn hR (Nat.le_refl _)).mono fun e W' ⟨he, hbl⟩ => ⟨_, he, ?_⟩
  exact post_true rfl rfl (by
    rw [Try.params4]
    intro t ht
    simp at ht
    subst ht
    exact ⟨by kernel_rfl, of_decide_eq_true (by kernel_rfl)⟩) hW' rfl rfl rfl hbl

set_option maxRecDepth 100000 in
theorem lifted (os : Os) (started : os.Started) (H : Type) (enc : TypeId × Value → H) :
    ReturnsInHanded {} Try.checked os 4 .any (Rows.giftsLastsSpec.pre6 enc Try.prog Try.f4 Rows.giftsLastsRow.domain false) (Rows.giftsLastsSpec.post enc Try.prog Try.f4 false true false false) := by
  refine returnsInHanded_of_change (C := Try.checked) own started (by kernel_rfl) Try.func4
    (ChangeSpec.witness6 (enc := enc) (C := Try.checked) false ⟨#[], #[.agg #[.int .i64 0, .int .i64 0, .slice none 0 0]], []⟩ 8 (by kernel_rfl) (by kernel_rfl) (by kernel_rfl) (by kernel_rfl)) ?_
  intro W base args ds gs before hval hW _ _
  exact contract H enc W base args ds gs before hval hW
end lasts

theorem giftsLasts_holds : Rows.GiftsLastsSaid :=
  OpenClaim.holds_of_wide 4 Try.f4 rfl rfl rfl rfl rfl rfl rfl ⟨rfl, rfl, rfl, rfl, rfl⟩ rfl rfl rfl rfl rfl (by kernel_rfl) Try.func4 (by kernel_rfl)
    (of_decide_eq_true (by kernel_rfl)) (by unfold Func.isWrapper; first | (rw [if_pos (by decide +kernel)]; kernel_rfl) | (rw [if_neg (by decide +kernel)]; exact ⟨rfl, rfl⟩))
    (fun os started H enc _ => lasts.lifted os started H enc)
end Go.Proofs.Ytaljmlkapbojeaa
