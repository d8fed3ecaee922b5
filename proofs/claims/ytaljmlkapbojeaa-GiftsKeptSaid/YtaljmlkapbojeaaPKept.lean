/- Proved: GiftsKept answers true at every book, amounts and gift, and its arguments read as they did. Conditions: none beyond the row. -/
import Derived.Test.YtaljmlkapbojeaaPB
import Derived.Test.YtaljmlkapbojeaaPR
import Derived.Test.YtaljmlkapbojeaaK1
import Derived.Test.YtaljmlkapbojeaaK2
namespace Go.Proofs.Ytaljmlkapbojeaa
open Go.ChangeShapes Go.WideShapes Go.ChangeAt Go.RowKit Go.Deep Go.Joins

theorem giftsKept_any (gA bA oA : Option Addr) (gn gc bn bc on oc B : Nat) (om : Nat → Nat) (G H O : Nat → Nat → Int) (x : Int) (w : World) (hg : gn ≤ maxLen) (hb : bn ≤ maxLen) (hR : BookRd w B gA gn G bA bn H) (hS : RR w B oA on om O) (hB : B ≤ w.heap.size) (hon : on ≤ maxLen) (hom : ∀ i, i < on → om i ≤ maxLen) :
    Calls Try.prog 7 #[.agg #[.slice gA gn gc, .slice bA bn bc], .slice oA on oc, .int .i64 x] w fun e w' => e = .returned (.bool true) ∧ Below w.heap.size w w' := by
  cases ht : thickF gn bn (M.okF gn bn G H)
  · cases hok : M.okF gn bn G H
    · exact kept_bad gA bA oA gn gc bn bc on oc B G H x w hg hb hR hB ht hok
    · cases hp : lpd gn bn G H
      · exact kept_none gA bA oA gn gc bn bc on oc B om G H O x w hg hb hR hS hB hon hom ht hok hp
      · exact kept_ok gA bA oA gn gc bn bc on oc B om G H O x w hg hb hR hS hB hon hom ht hok hp
  · exact kept_thick gA bA oA gn gc bn bc on oc B G H x w hg hb hR hB ht

namespace giftsKept
set_option maxRecDepth 100000 in
theorem contract (H : Type) (enc : TypeId × Value → H) (W : World) (base : Nat) (args : Array Value) (ds gs : List (DataW H)) (before : List MemPlace)
    (hval : ∀ (j : Nat) t v, Try.f7.params[j]? = some t → args[j]? = some v → Value.okWide Try.prog W .any base t v)
    (hW : DataW.Whole enc Try.prog Try.f7.params.toList Rows.giftsKeptSpec.vars false W args.toList ds gs before) :
    Calls Try.prog 7 args W fun e W' => ∃ v, e = .returned v ∧ Rows.giftsKeptSpec.post enc Try.prog Try.f7 false true false false W args v W' := by
  have hW' := hW
  obtain ⟨p, q, hA0, hV, rfl, hfz, hnd⟩ := hW
  have hA : DataW.TrodAll enc Try.prog W 0 (fun _ => true) true Try.f7.params.toList args.toList ds p := hA0
  rw [Try.params7] at hA hval
  obtain ⟨v0, v1, v2, d0, d1, d2, p0, p1, p2, rfl, rfl, rfl, h0, h1, h2⟩ := trodAll_three hA
  obtain ⟨rfl, rfl⟩ := trodVars_none hV
  obtain ⟨gA, gn, gc, bA, bn, bc, G, H', rfl, hg, hb, hR⟩ := open_book (hval 0 25 v0 rfl rfl) h0
  obtain ⟨oA, on, oc, om, O, rfl, hon, hom, hS⟩ := open_rows (hval 1 37 v1 rfl rfl) h1
  obtain ⟨x, rfl⟩ := okWide_int Try.underlying3 (hval 2 3 v2 rfl rfl)
  refine (giftsKept_any gA bA oA gn gc bn bc on oc W.heap.size om G H' O x W hg hb hR hS (Nat.le_refl _) hon hom).mono fun e W' ⟨he, hbl⟩ => ⟨_, he, ?_⟩
  exact post_true rfl rfl (by
    rw [Try.params7]
    intro t ht
    simp at ht
    rcases ht with rfl | rfl | rfl
    · exact ⟨by kernel_rfl, of_decide_eq_true (by kernel_rfl)⟩
    · exact ⟨by kernel_rfl, of_decide_eq_true (by kernel_rfl)⟩
    · exact ⟨by kernel_rfl, of_decide_eq_true (by kernel_rfl)⟩) hW' rfl rfl rfl hbl

set_option maxRecDepth 100000 in
theorem lifted (os : Os) (started : os.Started) (H : Type) (enc : TypeId × Value → H) :
    ReturnsInHanded {} Try.checked os 7 .any (Rows.giftsKeptSpec.pre6 enc Try.prog Try.f7 Rows.giftsKeptRow.domain false) (Rows.giftsKeptSpec.post enc Try.prog Try.f7 false true false false) := by
  refine returnsInHanded_of_change (C := Try.checked) own started (by kernel_rfl) Try.func7
    (ChangeSpec.witness6 (enc := enc) (C := Try.checked) false ⟨#[], #[.agg #[.slice none 0 0, .slice none 0 0], .slice none 0 0, .int .i64 0], []⟩ 8 (by kernel_rfl) (by kernel_rfl) (by kernel_rfl) (by kernel_rfl)) ?_
  intro W base args ds gs before hval hW _ _
  exact contract H enc W base args ds gs before hval hW
end giftsKept

theorem giftsKept_holds : Rows.GiftsKeptSaid :=
  OpenClaim.holds_of_wide 7 Try.f7 rfl rfl rfl rfl rfl rfl rfl ⟨rfl, rfl, rfl, rfl, rfl⟩ rfl rfl rfl rfl rfl (by kernel_rfl) Try.func7 (by kernel_rfl)
    (of_decide_eq_true (by kernel_rfl)) (by unfold Func.isWrapper; first | (rw [if_pos (by decide +kernel)]; kernel_rfl) | (rw [if_neg (by decide +kernel)]; exact ⟨rfl, rfl⟩))
    (fun os started H enc _ => giftsKept.lifted os started H enc)
end Go.Proofs.Ytaljmlkapbojeaa
