/- Proved: GiftsMore answers true at every book and every More, and its arguments read as they did. Conditions: none beyond the row. -/
import Derived.Test.YtaljmlkapbojeaaP0
import Derived.Test.YtaljmlkapbojeaaM1
import Derived.Test.YtaljmlkapbojeaaM2
import Derived.Test.YtaljmlkapbojeaaM3
import Derived.Test.YtaljmlkapbojeaaM4
import Derived.Test.YtaljmlkapbojeaaM5
import Derived.Test.YtaljmlkapbojeaaM6
namespace Go.Proofs.Ytaljmlkapbojeaa
open Go.ChangeShapes Go.WideShapes Go.ChangeAt Go.RowKit Go.Deep Go.Joins

set_option maxRecDepth 100000 in
/-- a book by value -/
theorem open_book {H : Type} {enc : TypeId × Value → H} {w : World} {r : Reach} {b0 base : Nat} {spare : Nat → Bool} {held : Bool} {v : Value} {d : DataW H} {p : List MemPlace} (hv : Value.okWide Try.prog w r b0 25 v) (h : DataW.Trod enc Try.prog w base spare held 25 v d p) :
    ∃ gA gn gc bA bn bc G H', v = .agg #[.slice gA gn gc, .slice bA bn bc] ∧ gn ≤ maxLen ∧ bn ≤ maxLen ∧ BookRd w w.heap.size gA gn G bA bn H' := by
  obtain ⟨v0, v1, y0, y1, n, rfl, _, _, h0, h1⟩ := open_agg2 Try.underlying25 (by kernel_rfl) (by kernel_rfl) hv h
  obtain ⟨gA, gn, gc, G, e0, hg, hG⟩ := rd_of_trod (t := 22) (e := 36) (m := 3) Try.underlying22 (by kernel_rfl) (by omega) (fun _ _ _ h => gift_ints h) h0
  obtain ⟨bA, bn, bc, H', e1, hb, hH⟩ := rd_of_trod (t := 23) (e := 32) (m := 3) Try.underlying23 (by kernel_rfl) (by omega) (fun _ _ _ h => bill_ints h) h1
  injection e0 with e0 _
  injection e1 with e1 _
  subst e0; subst e1
  exact ⟨gA, gn, gc, bA, bn, bc, G, H', rfl, hg, hb, hG, hH⟩

theorem more_any (gA bA : Option Addr) (gn gc bn bc B : Nat) (G H : Nat → Nat → Int) (a b c d : Int) (w : World) (hg : gn ≤ maxLen) (hb : bn ≤ maxLen) (hR : BookRd w B gA gn G bA bn H) (hB : B ≤ w.heap.size) :
    Calls Try.prog 3 #[.agg #[.slice gA gn gc, .slice bA bn bc], .agg #[.int .i64 a, .int .i64 b, .int .i64 c, .int .i64 d]] w fun e w' => e = .returned (.bool true) ∧ Below w.heap.size w w' := by
  cases ht : thickF gn bn (M.okF gn bn G H)
  case true => exact more_thick _ _ _ _ _ _ B G H a b c d w hg hb hR hB ht
  cases hk : M.okF gn bn G H
  case false => exact more_chk _ _ _ _ _ _ B G H a b c d w hg hb hR hB ht hk
  by_cases h1 : a < 0
  · exact more_gift _ _ _ _ _ _ B G H a b c d w hg hb hR hB ht hk (.inl ⟨h1, trivial⟩)
  by_cases h2 : (gn : Int) ≤ a
  · exact more_gift _ _ _ _ _ _ B G H a b c d w hg hb hR hB ht hk (.inr ⟨h1, h2⟩)
  by_cases h3 : c < 0
  · exact more_bill _ _ _ _ _ _ B G H a b c d w hg hb hR hB ht hk h1 h2 (.inl ⟨h3, trivial⟩)
  by_cases h4 : (bn : Int) ≤ c
  · exact more_bill _ _ _ _ _ _ B G H a b c d w hg hb hR hB ht hk h1 h2 (.inr ⟨h3, h4⟩)
  by_cases h5 : b < 0
  · exact more_by _ _ _ _ _ _ B G H a b c d w hg hb hR hB ht hk h1 h2 h3 h4 (.inl ⟨h5, trivial⟩)
  by_cases h6 : 1000000 < b
  · exact more_by _ _ _ _ _ _ B G H a b c d w hg hb hR hB ht hk h1 h2 h3 h4 (.inr ⟨h5, h6⟩)
  obtain ⟨k, rfl⟩ := Int.eq_ofNat_of_zero_le (Int.not_lt.1 h1)
  obtain ⟨j, rfl⟩ := Int.eq_ofNat_of_zero_le (Int.not_lt.1 h3)
  by_cases h7 : d < 0
  · exact more_less _ _ _ _ _ _ B G H k b d j w hg hb hR hB ht hk h1 h2 h3 h4 h5 h6 (by omega) (.inl ⟨h7, trivial⟩)
  by_cases h8 : H j 2 < d
  · exact more_less _ _ _ _ _ _ B G H k b d j w hg hb hR hB ht hk h1 h2 h3 h4 h5 h6 (by omega) (.inr ⟨h7, h8⟩)
  exact more_good _ _ _ _ _ _ B G H k j b d w hR hB ht hk (by omega) (by omega) (by omega) (by omega) (by omega) (by omega)

namespace more
set_option maxRecDepth 100000 in
theorem contract (H : Type) (enc : TypeId × Value → H) (W : World) (base : Nat) (args : Array Value) (ds gs : List (DataW H)) (before : List MemPlace)
    (hval : ∀ (j : Nat) t v, Try.f3.params[j]? = some t → args[j]? = some v → Value.okWide Try.prog W .any base t v)
    (hW : DataW.Whole enc Try.prog Try.f3.params.toList Rows.giftsMoreSpec.vars false W args.toList ds gs before) :
    Calls Try.prog 3 args W fun e W' => ∃ v, e = .returned v ∧ Rows.giftsMoreSpec.post enc Try.prog Try.f3 false true false false W args v W' := by
  have hW' := hW
  obtain ⟨p, q, hA0, hV, rfl, hfz, hnd⟩ := hW
  have hA : DataW.TrodAll enc Try.prog W 0 (fun _ => true) true Try.f3.params.toList args.toList ds p := hA0
  rw [Try.params3] at hA hval
  obtain ⟨v0, v1, d0, d1, p0, p1, rfl, rfl, rfl, h0, h1⟩ := trodAll_two hA
  obtain ⟨rfl, rfl⟩ := trodVars_none hV
  obtain ⟨gA, gn, gc, bA, bn, bc, G, H', rfl, hg, hb, hR⟩ := open_book (hval 0 25 v0 rfl rfl) h0
  obtain ⟨x0, x1, x2, x3, y0, y1, y2, y3, n, rfl, _, _, k0, k1, k2, k3⟩ := open_agg4 Try.underlying27 (by kernel_rfl) (by kernel_rfl) (hval 1 27 v1 rfl rfl) h1
  obtain ⟨a, e0, _, _⟩ := DataW.trod_int Try.underlying3 k0
  obtain ⟨b, e1, _, _⟩ := DataW.trod_int Try.underlying3 k1
  obtain ⟨c, e2, _, _⟩ := DataW.trod_int Try.underlying3 k2
  obtain ⟨d, e3, _, _⟩ := DataW.trod_int Try.underlying3 k3
  injection e0 with e0 _
  injection e1 with e1 _
  injection e2 with e2 _
  injection e3 with e3 _
  subst e0; subst e1; subst e2; subst e3
  refine (more_any gA bA gn gc bn bc W.heap.size G H' a b c d W hg hb hR (Nat.le_refl _)).mono fun e W' ⟨he, hbl⟩ => ⟨_, he, ?_⟩
  exact post_true rfl rfl (by
    rw [Try.params3]
    intro t ht
    simp at ht
    rcases ht with rfl | rfl
    · exact ⟨by kernel_rfl, of_decide_eq_true (by kernel_rfl)⟩
    · exact ⟨by kernel_rfl, of_decide_eq_true (by kernel_rfl)⟩) hW' rfl rfl rfl hbl

set_option maxRecDepth 100000 in
theorem lifted (os : Os) (started : os.Started) (H : Type) (enc : TypeId × Value → H) :
    ReturnsInHanded {} Try.checked os 3 .any (Rows.giftsMoreSpec.pre6 enc Try.prog Try.f3 Rows.giftsMoreRow.domain false) (Rows.giftsMoreSpec.post enc Try.prog Try.f3 false true false false) := by
  refine returnsInHanded_of_change (C := Try.checked) own started (by kernel_rfl) Try.func3
    (ChangeSpec.witness6 (enc := enc) (C := Try.checked) false ⟨#[], #[.agg #[.slice none 0 0, .slice none 0 0], .agg #[.int .i64 0, .int .i64 0, .int .i64 0, .int .i64 0]], []⟩ 8 (by kernel_rfl) (by kernel_rfl) (by kernel_rfl) (by kernel_rfl)) ?_
  intro W base args ds gs before hval hW _ _
  exact contract H enc W base args ds gs before hval hW
end more

theorem giftsMore_holds : Rows.GiftsMoreSaid :=
  OpenClaim.holds_of_wide 3 Try.f3 rfl rfl rfl rfl rfl rfl rfl ⟨rfl, rfl, rfl, rfl, rfl⟩ rfl rfl rfl rfl rfl (by kernel_rfl) Try.func3 (by kernel_rfl)
    (of_decide_eq_true (by kernel_rfl)) (by unfold Func.isWrapper; first | (rw [if_pos (by decide +kernel)]; kernel_rfl) | (rw [if_neg (by decide +kernel)]; exact ⟨rfl, rfl⟩))
    (fun os started H enc _ => more.lifted os started H enc)
end Go.Proofs.Ytaljmlkapbojeaa
