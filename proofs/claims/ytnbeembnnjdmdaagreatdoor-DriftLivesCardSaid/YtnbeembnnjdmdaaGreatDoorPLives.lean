/- Proved: DriftLives answers true at every drift, drifter, sightings and body, and its arguments read as they did: the row and its tied card. Conditions: none beyond the card. -/
import Derived.Test.YtnbeembnnjdmdaaGreatDoorP1
import Derived.Test.YtnbeembnnjdmdaaGreatDoorDT2
import Derived.Test.YtnbeembnnjdmdaaGreatDoorH12
import Derived.Test.YtnbeembnnjdmdaaGreatDoorCards
import Derived.SevenTiedAt
namespace Go.Proofs.YtnbeembnnjdmdaaGreatDoor
open Go.ChangeShapes Go.WideShapes Go.ChangeAt Go.RowKit Go.Deep Go.Joins

namespace driftLives
set_option maxRecDepth 100000 in
theorem contract (H : Type) (enc : TypeId × Value → H) (W : World) (base : Nat) (args : Array Value) (ds gs : List (DataW H)) (before : List MemPlace)
  (hval : ∀ (j : Nat) t v, Tryz.f11.params[j]? = some t → args[j]? = some v → Value.okWide Tryz.prog W .any base t v)
  (hW : DataW.Whole enc Tryz.prog Tryz.f11.params.toList Rows.driftLivesSpec.vars false W args.toList ds gs before) (hL : laidMetH Tryz.prog laidL W) :
  Calls Tryz.prog 11 args W fun e W' => ∃ v, e = .returned v ∧ Rows.driftLivesSpec.post enc Tryz.prog Tryz.f11 false true false false W args v W' := by
 have hW' := hW
 obtain ⟨p, q, hA0, hV, rfl, hfz, hnd⟩ := hW
 have hA : DataW.TrodAll enc Tryz.prog W 0 (fun _ => true) true Tryz.f11.params.toList args.toList ds p := hA0
 rw [Tryz.params11] at hA hval
 obtain ⟨v0, v1, v2, d0, d1, d2, p0, p1, p2, rfl, rfl, rfl, h0, h1, h2⟩ := trodAll_three hA
 obtain ⟨rfl, rfl⟩ := trodVars_none hV
 have hWy := ways_of_laid hL
 have hFr := free_of_laid hL
 obtain ⟨cW, cH, dA, tA, sA, zA, cA, wA, nd, dc, nt, tc, ns, sc, zn, zc, cn, cc, wn, wc, dep, tide, sw, z, cl, cu, wd, rfl, hnd, hnt, hns, hzn, hcn, hwn, hRD⟩ := open_drift (hval 0 29 v0 rfl rfl) h0
 obtain ⟨at_, lo_, hi_, xA, xL, xc, rfl, hxL, hxR⟩ := open_drifter (hval 1 44 v1 rfl rfl) h1
 obtain ⟨hA_, hn_, hc_, Xs_, bA_, bn_, bc_, cs_, s0_, s1_, rfl, hhn, hRS, hbn, hbR⟩ := open_exposed (hval 2 82 v2 rfl rfl) h2
 refine (driftLives_any hnd hnt hns hzn hcn hwn hRD (Nat.le_refl _) hWy hxR hxL hRS hhn hbR hbn hFr).mono fun e W' ⟨he, hbl⟩ => ⟨_, he, ?_⟩
 exact post_true rfl rfl (by
  rw [Tryz.params11]
  intro t ht
  simp at ht
  rcases ht with rfl | rfl | rfl
  · exact ⟨by kernel_rfl, of_decide_eq_true (by kernel_rfl)⟩
  · exact ⟨by kernel_rfl, of_decide_eq_true (by kernel_rfl)⟩
  · exact ⟨by kernel_rfl, of_decide_eq_true (by kernel_rfl)⟩) hW' rfl rfl rfl hbl

set_option maxRecDepth 100000 in
theorem lifted (os : Os) (started : os.Started) (H : Type) (enc : TypeId × Value → H) :
  ReturnsInHanded {} Tryz.checked os 11 .any (fun w args => (Rows.driftLivesSpec.pre enc Tryz.prog Tryz.f11 [] false w args ∧ laidMetH Tryz.prog laidL w) ∧ sizedMet enc Tryz.prog Tryz.f11 (OpenSpec.ofChange Rows.driftLivesSpec) false w args)
   (Rows.driftLivesSpec.post enc Tryz.prog Tryz.f11 false true false false) := by
 refine returnsInHanded_of_change_and (C := Tryz.checked) (X := fun w _ => laidMetH Tryz.prog laidL w) (fun _ _ _ hh h => h.of_heap hh) own started (by kernel_rfl) Tryz.func11
  (ChangeSpec.witness_shaped (enc := enc) (C := Tryz.checked) (os := os) (X := fun w _ => laidMetH Tryz.prog laidL w) false (World.doorLaid Tryz.prog 400 os) #[.agg #[.int .i64 0, .int .i64 0, .slice none 0 0, .slice none 0 0, .slice none 0 0, .slice none 0 0, .slice none 0 0, .slice none 0 0], .agg #[.int .i64 0, .slice none 0 0, .int .i64 0, .int .i64 0], .agg #[.slice none 0 0, .slice none 0 0, .int .i64 0, .int .i64 0]] 8 rfl (World.shaped_of_RefB (by kernel_rfl) (by kernel_rfl)) (by kernel_rfl) (by kernel_rfl) (by kernel_rfl) (door_met os _)) ?_
 intro W base args ds gs before hval hW _ _ hL _
 exact contract H enc W base args ds gs before hval hW hL
end driftLives

theorem driftLives_holds : Rows.DriftLivesSaid :=
 OpenClaim.holds_of_wide 11 Tryz.f11 rfl rfl rfl rfl rfl rfl rfl ⟨rfl, rfl, rfl, rfl, rfl⟩ rfl rfl rfl rfl rfl (by kernel_rfl) Tryz.func11 (by kernel_rfl)
  (of_decide_eq_true (by kernel_rfl)) (by unfold Func.isWrapper; first | (rw [if_pos (by decide +kernel)]; kernel_rfl) | (rw [if_neg (by decide +kernel)]; exact ⟨rfl, rfl⟩))
  (fun os started H enc _ => driftLives.lifted os started H enc)

theorem driftLives_card : Rows.DriftLivesCardSaid :=
 Claim7.holds_tied_plain_at .later [] [.data, .data] true Rows.driftLivesCard.stood.harness false
  driftLives_holds (fun _ h => by cases h) (by kernel_rfl) (fun _ h => by cases h) driftLives_row_tie rfl ⟨rfl, rfl⟩ (by kernel_rfl) rfl
  (fun f fn hf hfn => by
   obtain rfl : f = 11 := Option.some.inj ((show Tryz.prog.funcNamed "coble/coblelaw02.DriftLives" = some 11 by kernel_rfl).symm.trans hf) |>.symm
   obtain rfl : fn = Tryz.f11 := (Option.some.inj (Tryz.func11.symm.trans hfn)).symm
   exact ⟨by kernel_rfl, fun j t ht => by
    rw [Tryz.params11] at ht
    have hm : t ∈ [29, 44, 82] := by simpa using Array.mem_of_getElem? ht
    have hall : ([29, 44, 82].all fun u => !Tryz.prog.wantsStandIn u) = true := by kernel_rfl
    exact (show Tryz.prog.wantsStandIn t = false by simpa using List.all_eq_true.1 hall t hm)⟩)
  (by kernel_rfl)
end Go.Proofs.YtnbeembnnjdmdaaGreatDoor
