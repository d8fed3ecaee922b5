/- Proved: LanesClashes answers true at every chart, legs, level and cell, and its arguments read as they did: the row and its tied card. Conditions: none beyond the card. -/
import Derived.Test.YtkdpmihdhiokkaaDoorPA
import Derived.Test.YtkdpmihdhiokkaaDoorDT
import Derived.Test.YtkdpmihdhiokkaaDoorR12
import Derived.Test.YtkdpmihdhiokkaaDoorCards
import Derived.SevenTiedAt
namespace Go.Proofs.YtkdpmihdhiokkaaDoor
open Go.ChangeShapes Go.WideShapes Go.ChangeAt Go.RowKit Go.Deep Go.Joins

namespace lanesClashes
set_option maxRecDepth 100000 in
theorem contract (H : Type) (enc : TypeId × Value → H) (W : World) (base : Nat) (args : Array Value) (ds gs : List (DataW H)) (before : List MemPlace)
    (hval : ∀ (j : Nat) t v, Tryd.f6.params[j]? = some t → args[j]? = some v → Value.okWide Tryd.prog W .any base t v)
    (hW : DataW.Whole enc Tryd.prog Tryd.f6.params.toList Rows.lanesClashesSpec.vars false W args.toList ds gs before) (hL : laidMetH Tryd.prog laidL W) :
    Calls Tryd.prog 6 args W fun e W' => ∃ v, e = .returned v ∧ Rows.lanesClashesSpec.post enc Tryd.prog Tryd.f6 false true false false W args v W' := by
  have hW' := hW
  obtain ⟨p, q, hA0, hV, rfl, hfz, hnd⟩ := hW
  have hA : DataW.TrodAll enc Tryd.prog W 0 (fun _ => true) true Tryd.f6.params.toList args.toList ds p := hA0
  rw [Tryd.params6] at hA hval
  obtain ⟨v0, v1, v2, d0, d1, d2, p0, p1, p2, rfl, rfl, rfl, h0, h1, h2⟩ := trodAll_three hA
  obtain ⟨rfl, rfl⟩ := trodVars_none hV
  have hWy := ways_of_laid hL
  obtain ⟨cW, cH, dA, tA, sA, nd, dc, nt, tc, ns, sc, dep, tide, sw, rfl, hnd, hnt, hns, hRC⟩ := open_chart (hval 0 25 v0 rfl rfl) h0
  obtain ⟨lA, ln, lc, L, rfl, hln, hlc, hRL⟩ := open_legs (hval 1 26 v1 rfl rfl) h1
  obtain ⟨slv, scell, rfl⟩ := open_spot (hval 2 48 v2 rfl rfl) h2
  refine (lanesClashes_any cW cH dA tA sA lA nd dc nt tc ns sc ln lc W.heap.size dep tide sw L slv scell W hnd hnt hns hln hWy hRC (Nat.le_refl _) hRL).mono fun e W' ⟨he, hbl⟩ => ⟨_, he, ?_⟩
  exact post_true rfl rfl (by
    rw [Tryd.params6]
    intro t ht
    simp at ht
    rcases ht with rfl | rfl | rfl
    · exact ⟨by kernel_rfl, of_decide_eq_true (by kernel_rfl)⟩
    · exact ⟨by kernel_rfl, of_decide_eq_true (by kernel_rfl)⟩
    · exact ⟨by kernel_rfl, of_decide_eq_true (by kernel_rfl)⟩) hW' rfl rfl rfl hbl

set_option maxRecDepth 100000 in
theorem lifted (os : Os) (started : os.Started) (H : Type) (enc : TypeId × Value → H) :
    ReturnsInHanded {} Tryd.checked os 6 .any (fun w args => (Rows.lanesClashesSpec.pre enc Tryd.prog Tryd.f6 [] false w args ∧ laidMetH Tryd.prog laidL w) ∧ sizedMet enc Tryd.prog Tryd.f6 (OpenSpec.ofChange Rows.lanesClashesSpec) false w args)
      (Rows.lanesClashesSpec.post enc Tryd.prog Tryd.f6 false true false false) := by
  refine returnsInHanded_of_change_and (C := Tryd.checked) (X := fun w _ => laidMetH Tryd.prog laidL w) (fun _ _ _ hh h => h.of_heap hh) own started (by kernel_rfl) Tryd.func6
    (ChangeSpec.witness_shaped (enc := enc) (C := Tryd.checked) (os := os) (X := fun w _ => laidMetH Tryd.prog laidL w) false (World.doorLaid Tryd.prog 400 os) #[.agg #[.int .i64 0, .int .i64 0, .slice none 0 0, .slice none 0 0, .slice none 0 0], .slice none 0 0, .agg #[.int .i64 0, .int .i64 0]] 8 rfl (World.shaped_of_RefB (by kernel_rfl) (by kernel_rfl)) (by kernel_rfl) (by kernel_rfl) (by kernel_rfl) (door_met os _)) ?_
  intro W base args ds gs before hval hW _ _ hL _
  exact contract H enc W base args ds gs before hval hW hL
end lanesClashes

theorem lanesClashes_holds : Rows.LanesClashesSaid :=
  OpenClaim.holds_of_wide 6 Tryd.f6 rfl rfl rfl rfl rfl rfl rfl ⟨rfl, rfl, rfl, rfl, rfl⟩ rfl rfl rfl rfl rfl (by kernel_rfl) Tryd.func6 (by kernel_rfl)
    (of_decide_eq_true (by kernel_rfl)) (by unfold Func.isWrapper; first | (rw [if_pos (by decide +kernel)]; kernel_rfl) | (rw [if_neg (by decide +kernel)]; exact ⟨rfl, rfl⟩))
    (fun os started H enc _ => lanesClashes.lifted os started H enc)

theorem lanesClashes_card : Rows.LanesClashesCardSaid :=
  Claim7.holds_tied_plain_at .later [] [.data] true Rows.lanesClashesCard.stood.harness false
    lanesClashes_holds (fun _ h => by cases h) (by kernel_rfl) (fun _ h => by cases h) lanesClashes_row_tie rfl ⟨rfl, rfl⟩ (by kernel_rfl) rfl
    (fun f fn hf hfn => by
      obtain rfl : f = 6 := Option.some.inj ((show Tryd.prog.funcNamed "coble/coblelaw06.LanesClashes" = some 6 by kernel_rfl).symm.trans hf) |>.symm
      obtain rfl : fn = Tryd.f6 := (Option.some.inj (Tryd.func6.symm.trans hfn)).symm
      exact ⟨by kernel_rfl, fun j t ht => by
        rw [Tryd.params6] at ht
        have hm : t ∈ [25, 26, 48] := by simpa using Array.mem_of_getElem? ht
        have hall : ([25, 26, 48].all fun u => !Tryd.prog.wantsStandIn u) = true := by kernel_rfl
        exact (show Tryd.prog.wantsStandIn t = false by simpa using List.all_eq_true.1 hall t hm)⟩)
    (by kernel_rfl)
end Go.Proofs.YtkdpmihdhiokkaaDoor
