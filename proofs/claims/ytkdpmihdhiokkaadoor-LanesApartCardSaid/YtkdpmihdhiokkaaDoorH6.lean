/- LanesApart, walked. -/
import Derived.Test.YtkdpmihdhiokkaaDoorR15
import Derived.Test.YtkdpmihdhiokkaaDoorR11
import Derived.Test.YtkdpmihdhiokkaaDoorR13
import Derived.Test.YtkdpmihdhiokkaaDoorW
import Derived.Test.YtkdpmihdhiokkaaDoorK23
namespace Go.Proofs.YtkdpmihdhiokkaaDoor
open Go.RowKit

theorem M.allTo_succ' {n : Nat} {p : Nat → Bool} : M.allTo (n + 1) p = (M.allTo n p && p n) := by
  rw [Bool.eq_iff_iff, Bool.and_eq_true]
  simp only [M.allTo_iff]
  exact ⟨fun h => ⟨fun i hi => h i (by omega), h n (by omega)⟩, fun ⟨h1, h2⟩ i hi => by
    by_cases e : i = n
    · subst e; exact h2
    · exact h1 i (by omega)⟩
/-- a route as one leg more: the legs are valid, and clash as they did -/
theorem legs_more {s : M.Sea} {L : Nat → M.Leg} {n m : Nat} {r : M.Trip} {f : Nat → Int} (h12 : n < 12) (hlo : M.legsOk s n L = true) (hro : M.isRoute s L n r m f = true) :
    M.legsOk s (n + 1) (fun i => if i = n then M.legOf r m f else L i) = true ∧ M.clAll s (fun i => if i = n then M.legOf r m f else L i) (n + 1) (n + 1) = M.clAll s L n n := by
  unfold M.isRoute at hro
  simp only [Bool.and_eq_true, M.allTo_iff] at hro
  obtain ⟨⟨⟨⟨_, h1⟩, _⟩, _⟩, h2⟩ := hro
  unfold M.legsOk at hlo ⊢
  simp only [Bool.and_eq_true, M.allTo_iff] at hlo ⊢
  refine ⟨⟨decide_eq_true (by omega), fun i hi => ?_⟩, M.clAll_more (fun k hk => by simp only [if_neg (show ¬ k = n by omega)]) fun i hi t ht => ?_⟩
  · by_cases e : i = n
    · simp only [e, if_true]; exact h1
    · simp only [e, if_false]; exact hlo.2 i (by omega)
  · simp only [if_neg (show ¬ i = n by omega), if_true]
    have h3 := h2 i hi t ht
    rw [M.legC_symm]
    simpa using h3
section
variable (W H : Int) (dA tA sA lA : Option Addr) (nd dc nt tc ns sc ln lc B : Nat) (dep : Nat → Int) (tide : Nat → Nat → Int) (sw : Nat → Int) (L : Nat → M.Leg) (at_ lv dr fr dst : Int) (tl : Bool) (w : World)
set_option maxRecDepth 100000 in
set_option maxHeartbeats 6400000 in
theorem lanesApart_any (hnd : nd ≤ maxLen) (hnt : nt ≤ maxLen) (hns : ns ≤ maxLen) (hln : ln ≤ maxLen) (hw : Ways w) (hR : RdC w B dA tA sA nd nt ns dep tide sw) (hB : B ≤ w.heap.size) (hL : RdL w B lA ln L) :
    Calls Tryd.prog 3 #[.agg #[.int .i64 W, .int .i64 H, .slice dA nd dc, .slice tA nt tc, .slice sA ns sc], .slice lA ln lc, .agg #[.int .i64 at_, .int .i64 lv, .int .i64 dr, .bool tl, .int .i64 fr, .int .i64 dst]] w fun e w' => e = .returned (.bool true) ∧ Below w.heap.size w w' := by
  have HR := Lib.hid (belowAlloc2 w (.cells #[.int .i64 W, .int .i64 H, .slice dA nd dc, .slice tA nt tc, .slice sA ns sc] 25) (.cells #[.int .i64 at_, .int .i64 lv, .int .i64 dr, .bool tl, .int .i64 fr, .int .i64 dst] 28))
  have CR := Lib.hid ((Blk.new w 25 #[.int .i64 W, .int .i64 H, .slice dA nd dc, .slice tA nt tc, .slice sA ns sc]).alloc (.cells #[.int .i64 at_, .int .i64 lv, .int .i64 dr, .bool tl, .int .i64 fr, .int .i64 dst] 28))
  have XR := Lib.hid (Blk.new1 w (.cells #[.int .i64 W, .int .i64 H, .slice dA nd dc, .slice tA nt tc, .slice sA ns sc] 25) 28 #[.int .i64 at_, .int .i64 lv, .int .i64 dr, .bool tl, .int .i64 fr, .int .i64 dst])
  obtain ⟨X, hX⟩ : ∃ X, X = (w.alloc (.cells #[.int .i64 W, .int .i64 H, .slice dA nd dc, .slice tA nt tc, .slice sA ns sc] 25)).alloc (.cells #[.int .i64 at_, .int .i64 lv, .int .i64 dr, .bool tl, .int .i64 fr, .int .i64 dst] 28) := ⟨_, rfl⟩
  have HXe := Lib.hid hX
  rw [← hX] at HR CR XR
  clear hX
  have HRC := Lib.hid (fun V (hb2 : Below w.heap.size w V) => hR.below (hb2.mono hB))
  have HRL := Lib.hid (fun V (hb2 : Below w.heap.size w V) => hL.below (hb2.mono hB))
  have HWY := Lib.hid (fun V (hb2 : Below w.heap.size w V) => hw.below hb2)
  have HBB := Lib.hid hB
  have HWO := Lib.hid (fun V (hb2 : Below w.heap.size w V) => works_any V (hw.below hb2))
  have HVA := Lib.hid (valid_cl W H dA tA sA lA nd dc nt tc ns sc ln lc B dep tide sw L X hnd hnt hns hln (HRC.out _ HR.out) (Nat.le_trans HBB.out HR.out.size) (HRL.out _ HR.out))
  have c0 := CR.out.cell 0
  have c1 := CR.out.cell 1
  have c2 := CR.out.cell 2
  have c3 := CR.out.cell 3
  have c4 := CR.out.cell 4
  have HJL := Lib.hid leg_info
  obtain ⟨j0, ki, kz0, kz1, kz2⟩ := info_parts HJL.out
  have MJ := Lib.hid (And.intro ki (And.intro kz0 (And.intro kz1 kz2)))
  clear ki kz0 kz1 kz2 HJL
  clear hR hw hB hL
  go_enter Tryd.func3, Tryd.ntmps3
  go_upto_region 1 with fail
  rw [← HXe.out]
  clear HXe
  have x0 := XR.out.cell 0
  have x1 := XR.out.cell 1
  have x2 := XR.out.cell 2
  have x3 := XR.out.cell 3
  have x4 := XR.out.cell 4
  have x5 := XR.out.cell 5
  go_wp2_with (go_at_call 11; go_must (refine HVA.out.mono ?_); rintro e w1 ⟨⟨V, rfl, hV⟩, hb1⟩; have HV := Lib.hid hV; clear hV; have HR' := Lib.hid (HR.out.trans (hb1.mono HR.out.size)); have CR' := Lib.hid (CR.out.below' hb1); have XR' := Lib.hid (XR.out.below' hb1); clear hb1 HR CR XR c0 c1 c2 c3 c4 x0 x1 x2 x3 x4 x5; have HR := HR'; have CR := CR'; have XR := XR'; clear HR' CR' XR'; have c0 := CR.out.cell 0; have c1 := CR.out.cell 1; have c2 := CR.out.cell 2; have c3 := CR.out.cell 3; have c4 := CR.out.cell 4; have x0 := XR.out.cell 0; have x1 := XR.out.cell 1; have x2 := XR.out.cell 2; have x3 := XR.out.cell 3; have x4 := XR.out.cell 4; have x5 := XR.out.cell 5; cases V)
  · go_wp2_with (go_at_call 13; go_must (refine (HWO.out _ HR.out).mono ?_); rintro e w9 ⟨rfl, hb9⟩; have HB9 := Lib.hid (HR.out.trans (hb9.mono HR.out.size)); clear hb9)
    go_ret
    exact ⟨rfl, HB9.out⟩
  · obtain ⟨W', H', rfl, rfl, rfl, hs, hnd20, hnt8, hln5, hlo⟩ := HV.out (by first | rfl | trivial)
    obtain ⟨s, hsd⟩ : ∃ s : M.Sea, s = ⟨W', H', nd, ns, dep, tide, sw⟩ := ⟨_, rfl⟩
    have HSN := Lib.hid (show s.nd = nd ∧ s.nt = ns by rw [hsd]; exact ⟨rfl, rfl⟩)
    have HSO := Lib.hid (show s.Ok by rw [hsd]; exact hs)
    have HLO := Lib.hid (show M.legsOk s ln L = true by rw [hsd]; exact hlo)
    have HAT := Lib.hid (show ∀ i, i < ln → -100 ≤ (L i).at_ ∧ (L i).at_ ≤ 100 ∧ (L i).n ≤ 100 from fun i hi => by
      have hlo2 := HLO.out
      unfold M.legsOk at hlo2
      simp only [Bool.and_eq_true] at hlo2
      have h := M.legOk_iff.1 (M.allTo_iff.1 hlo2.2 i hi)
      have h0 := h.at0
      have h1 := h.at1
      have h2 := h.n1
      have h3 := HSN.out.2
      omega)
    have HIT := Lib.hid (fun V (hb2 : Below w.heap.size w V) => (show Calls Tryd.prog 12 #[.agg #[.int .i64 (W' : Int), .int .i64 (H' : Int), .slice dA nd dc, .slice tA ns tc, .slice sA ns sc], .agg #[.int .i64 at_, .int .i64 lv, .int .i64 dr, .bool tl, .int .i64 fr, .int .i64 dst]] V fun e w' => e = .returned (.bool (M.tripOk s ⟨at_, lv, dr, tl, fr, dst⟩)) ∧ Below V.heap.size V w' from by
      have hs := HSO.out
      have hlo := HLO.out
      subst hsd
      exact istrip_ok ⟨W', H', nd, ns, dep, tide, sw⟩ dA tA sA dc tc sc at_ lv dr fr dst tl V hs))
    have HIR := Lib.hid (fun V cA' n' cc' f' (hl' : Rd1 V V.heap.size cA' n' f') (hn' : n' ≤ maxLen) (hb2 : Below w.heap.size w V) => (show Calls Tryd.prog 15 #[.agg #[.int .i64 (W' : Int), .int .i64 (H' : Int), .slice dA nd dc, .slice tA ns tc, .slice sA ns sc], .slice lA ln lc, .agg #[.int .i64 at_, .int .i64 lv, .int .i64 dr, .bool tl, .int .i64 fr, .int .i64 dst], .slice cA' n' cc'] V fun e w' => e = .returned (.bool (M.isRoute s L ln ⟨at_, lv, dr, tl, fr, dst⟩ n' f')) ∧ Below V.heap.size V w' from by
      have hs := HSO.out
      have hlo := HLO.out
      subst hsd
      exact isroute_ok ⟨W', H', nd, ns, dep, tide, sw⟩ dA tA sA lA cA' dc tc sc ln lc n' cc' V.heap.size L f' at_ lv dr fr dst tl V hs ((HRC.out V hb2).more (Nat.le_trans HBB.out hb2.size)) (Nat.le_refl _) ((HRL.out V hb2).more (Nat.le_trans HBB.out hb2.size)) (by omega) HAT.out hl' hn'))
    have HRO := Lib.hid (fun V (hto : M.tripOk s ⟨at_, lv, dr, tl, fr, dst⟩ = true) (hb2 : Below w.heap.size w V) => (show Calls Tryd.prog 14 #[.agg #[.int .i64 (W' : Int), .int .i64 (H' : Int), .slice dA nd dc, .slice tA ns tc, .slice sA ns sc], .slice lA ln lc, .agg #[.int .i64 at_, .int .i64 lv, .int .i64 dr, .bool tl, .int .i64 fr, .int .i64 dst]] V fun e w' => (∃ v, e = .returned (.tuple #[v, .int .i64 (M.routeE s L ln ⟨at_, lv, dr, tl, fr, dst⟩)]) ∧ RouteV s L ln ⟨at_, lv, dr, tl, fr, dst⟩ V.heap.size v w') ∧ Below V.heap.size V w' from by
      have hs := HSO.out
      have hlo := HLO.out
      subst hsd
      exact Route_ok ⟨W', H', nd, ns, dep, tide, sw⟩ dA tA sA lA dc tc sc ln lc B L V at_ lv dr fr dst tl hs (HWY.out V hb2) (HRC.out V hb2) (Nat.le_trans HBB.out hb2.size) (HRL.out V hb2) (by omega) hlo hto))
    have HCL := Lib.hid (fun V lA' n' c' (L' : Nat → M.Leg) (hl' : RdL V V.heap.size lA' n' L') (hn' : n' ≤ 1048576) (ho' : M.legsOk s n' L' = true) (hb2 : Below w.heap.size w V) => (show Calls Tryd.prog 16 #[.agg #[.int .i64 (W' : Int), .int .i64 (H' : Int), .slice dA nd dc, .slice tA ns tc, .slice sA ns sc], .slice lA' n' c'] V fun e w' => (∃ v, e = .returned (.tuple #[v, .int .i64 0]) ∧ Own w' V.heap.size 43 3 v (M.clAll s L' n' n').length (ints2 (triF (M.clAll s L' n' n')))) ∧ Below V.heap.size V w' from by
      have hs := HSO.out
      have hlo := HLO.out
      subst hsd
      exact Clashes_ok ⟨W', H', nd, ns, dep, tide, sw⟩ dA tA sA lA' dc tc sc n' c' V.heap.size L' V hs (HWY.out V hb2) ((HRC.out V hb2).more (Nat.le_trans HBB.out hb2.size)) (Nat.le_refl _) hl' hn' ho'))
    have HEI := Lib.hid (fun hto he => M.endK_is (s := s) (L := L) (n := ln) (r := ⟨at_, lv, dr, tl, fr, dst⟩) HSO.out hto he)
    have HLS := Lib.hid (show M.legsOk s ln L = true by rw [hsd]; exact hlo)
    have HLQ := Lib.hid (fun (K : Nat) (F : Nat → Int) => (show M.legOf ⟨at_, lv, dr, tl, fr, dst⟩ K F = (⟨at_, lv, dr, tl, K, F⟩ : M.Leg) from rfl))
    have HCP := Lib.hid (fun V (hb2 : Below w.heap.size w V) => rlcopy_any lA ln lc B L V (HRL.out V hb2) (Nat.le_trans HBB.out hb2.size) (by omega) (fun i hi => by have := (HAT.out i hi).2.2; omega))
    have HLG := Lib.hid (fun V => legof_any at_ lv dr fr dst tl V)
    have HNM := Lib.hid (fun i (hi : i < ln) => (show (L i).n ≤ maxLen by have := (HAT.out i hi).2.2; unfold maxLen; omega))
    obtain ⟨r, hr⟩ : ∃ r : M.Trip, r = ⟨at_, lv, dr, tl, fr, dst⟩ := ⟨_, rfl⟩
    rw [← hr] at HIT HIR HRO HEI HLQ
    clear hs hlo hnt8 hnd20 hsd hr
    cases hT : M.tripOk s r
    · rw [hT] at HIT
      clear hT
      go_wp2_with (go_at_call 12; go_must (refine (HIT.out _ HR.out).mono ?_); rintro e w2 ⟨rfl, hb2⟩; have HR' := Lib.hid (HR.out.trans (hb2.mono HR.out.size)); have CR' := Lib.hid (CR.out.below' hb2); have XR' := Lib.hid (XR.out.below' hb2); clear hb2 HR CR XR c0 c1 c2 c3 c4 x0 x1 x2 x3 x4 x5; have HR := HR'; have CR := CR'; have XR := XR'; clear HR' CR' XR'; have c0 := CR.out.cell 0; have c1 := CR.out.cell 1; have c2 := CR.out.cell 2; have c3 := CR.out.cell 3; have c4 := CR.out.cell 4; have x0 := XR.out.cell 0; have x1 := XR.out.cell 1; have x2 := XR.out.cell 2; have x3 := XR.out.cell 3; have x4 := XR.out.cell 4; have x5 := XR.out.cell 5; clear HIT)
      go_wp2_with (go_at_call 13; go_must (refine (HWO.out _ HR.out).mono ?_); rintro e w9 ⟨rfl, hb9⟩; have HB9 := Lib.hid (HR.out.trans (hb9.mono HR.out.size)); clear hb9)
      go_ret
      exact ⟨rfl, HB9.out⟩
    · rw [hT] at HIT
      have HR1 := Lib.hid (fun V => HRO.out V hT)
      cases hH : M.hasR s L ln r
      · have HRE := Lib.hid (show M.routeE s L ln r = 3 by unfold M.routeE; unfold M.hasR at hH; rw [if_neg (of_decide_eq_false hH)])
        rw [HRE.out] at HR1
        clear hT hH
        go_wp2_with (go_at_call 12; go_must (refine (HIT.out _ HR.out).mono ?_); rintro e w2 ⟨rfl, hb2⟩; have HR' := Lib.hid (HR.out.trans (hb2.mono HR.out.size)); have CR' := Lib.hid (CR.out.below' hb2); have XR' := Lib.hid (XR.out.below' hb2); clear hb2 HR CR XR c0 c1 c2 c3 c4 x0 x1 x2 x3 x4 x5; have HR := HR'; have CR := CR'; have XR := XR'; clear HR' CR' XR'; have c0 := CR.out.cell 0; have c1 := CR.out.cell 1; have c2 := CR.out.cell 2; have c3 := CR.out.cell 3; have c4 := CR.out.cell 4; have x0 := XR.out.cell 0; have x1 := XR.out.cell 1; have x2 := XR.out.cell 2; have x3 := XR.out.cell 3; have x4 := XR.out.cell 4; have x5 := XR.out.cell 5; clear HIT)
        go_wp2_with (go_at_call 14; go_must (refine (HR1.out _ HR.out).mono ?_); rintro e w3 ⟨⟨v, rfl, hv⟩, hb3⟩; clear hv; have HR' := Lib.hid (HR.out.trans (hb3.mono HR.out.size)); have CR' := Lib.hid (CR.out.below' hb3); have XR' := Lib.hid (XR.out.below' hb3); clear hb3 HR CR XR c0 c1 c2 c3 c4 x0 x1 x2 x3 x4 x5; have HR := HR'; have CR := CR'; have XR := XR'; clear HR' CR' XR'; have c0 := CR.out.cell 0; have c1 := CR.out.cell 1; have c2 := CR.out.cell 2; have c3 := CR.out.cell 3; have c4 := CR.out.cell 4; have x0 := XR.out.cell 0; have x1 := XR.out.cell 1; have x2 := XR.out.cell 2; have x3 := XR.out.cell 3; have x4 := XR.out.cell 4; have x5 := XR.out.cell 5; clear HR1)
        go_wp2_with (go_at_call 13; go_must (refine (HWO.out _ HR.out).mono ?_); rintro e w9 ⟨rfl, hb9⟩; have HB9 := Lib.hid (HR.out.trans (hb9.mono HR.out.size)); clear hb9)
        go_ret
        exact ⟨rfl, HB9.out⟩
      · have HE1 := Lib.hid (show M.endK s L ln r < s.nt - r.at_.toNat from of_decide_eq_true hH)
        have HE2 := Lib.hid (HEI.out hT HE1.out)
        have HRE := Lib.hid (show M.routeE s L ln r = 0 by unfold M.routeE; rw [if_pos HE1.out])
        rw [HRE.out] at HR1
        have HLM := Lib.hid (legs_more (show ln < 12 by omega) HLS.out HE2.out)
        clear hT hH
        obtain ⟨K, hK⟩ : ∃ K, K = M.endK s L ln r + 1 := ⟨_, rfl⟩
        have HKE := Lib.hid hK
        have HKN := Lib.hid (show K ≤ 60 by have := HE1.out; have := HSO.out.t2; omega)
        rw [← hK] at HLM HE2
        clear hK
        go_wp2_with (go_at_call 12; go_must (refine (HIT.out _ HR.out).mono ?_); rintro e w2 ⟨rfl, hb2⟩; have HR' := Lib.hid (HR.out.trans (hb2.mono HR.out.size)); have CR' := Lib.hid (CR.out.below' hb2); have XR' := Lib.hid (XR.out.below' hb2); clear hb2 HR CR XR c0 c1 c2 c3 c4 x0 x1 x2 x3 x4 x5; have HR := HR'; have CR := CR'; have XR := XR'; clear HR' CR' XR'; have c0 := CR.out.cell 0; have c1 := CR.out.cell 1; have c2 := CR.out.cell 2; have c3 := CR.out.cell 3; have c4 := CR.out.cell 4; have x0 := XR.out.cell 0; have x1 := XR.out.cell 1; have x2 := XR.out.cell 2; have x3 := XR.out.cell 3; have x4 := XR.out.cell 4; have x5 := XR.out.cell 5; clear HIT)
        go_wp2_with (go_at_call 14; go_must (refine (HR1.out _ HR.out).mono ?_); rintro e w3 ⟨⟨v, rfl, hv⟩, hb3⟩; have O3 := Lib.hid ((hv.yes HE1.out).less (show w.heap.size ≤ _ from HR.out.size)); rw [← HKE.out] at O3; obtain ⟨vA, vc, rfl⟩ := O3.out.form; clear hv; have HR' := Lib.hid (HR.out.trans (hb3.mono HR.out.size)); have CR' := Lib.hid (CR.out.below' hb3); have XR' := Lib.hid (XR.out.below' hb3); clear hb3 HR CR XR c0 c1 c2 c3 c4 x0 x1 x2 x3 x4 x5; have HR := HR'; have CR := CR'; have XR := XR'; clear HR' CR' XR'; have c0 := CR.out.cell 0; have c1 := CR.out.cell 1; have c2 := CR.out.cell 2; have c3 := CR.out.cell 3; have c4 := CR.out.cell 4; have x0 := XR.out.cell 0; have x1 := XR.out.cell 1; have x2 := XR.out.cell 2; have x3 := XR.out.cell 3; have x4 := XR.out.cell 4; have x5 := XR.out.cell 5; clear HR1)
        have hKm : K ≤ maxLen := (by unfold maxLen; have := HKN.out; omega)
        obtain ⟨F, hF⟩ : ∃ F, F = M.routeF s L ln r (M.endK s L ln r) := ⟨_, rfl⟩
        rw [← hF] at O3 HE2 HLM
        rw [HLQ.out] at HLM
        clear hF
        have HI2 := Lib.hid (fun V hb => HIR.out V vA K vc F (Own.rd1' ((O3.out.below hb))) hKm)
        rw [HE2.out] at HI2
        have hY := HR.out
        obtain ⟨NL, hNL⟩ : ∃ NL, NL = M.clAll s L ln ln := ⟨_, rfl⟩
        have HC1 := Lib.hid (fun V hb => HCL.out V lA ln lc L ((HRL.out V hb).more (Nat.le_trans HBB.out hb.size)) (by omega) HLS.out hb)
        rw [← hNL] at HLM HC1
        have HC2 := Lib.hid (fun V A c hl hb => HCL.out V A (ln + 1) c _ hl (by omega) HLM.out.1 hb)
        rw [HLM.out.2] at HC2
        have HLL := Lib.hid (show NL.length ≤ 1000 by rw [hNL]; have := clAll_len s L ln ln; have : ln * ln ≤ 5 * 5 := Nat.mul_le_mul (by omega) (by omega); omega)
        clear hNL hY
        go_upto_region 9 with (first
          | (go_at_call 15; go_must (refine (HI2.out _ (Below.refl _ _) HR.out).mono ?_); rintro e w4 ⟨rfl, hb4⟩; have O4 := Lib.hid (O3.out.below hb4); have HR' := Lib.hid (HR.out.trans (hb4.mono HR.out.size)); have CR' := Lib.hid (CR.out.below' hb4); have XR' := Lib.hid (XR.out.below' hb4); clear hb4 HR CR XR c0 c1 c2 c3 c4 x0 x1 x2 x3 x4 x5; have HR := HR'; have CR := CR'; have XR := XR'; clear HR' CR' XR'; have c0 := CR.out.cell 0; have c1 := CR.out.cell 1; have c2 := CR.out.cell 2; have c3 := CR.out.cell 3; have c4 := CR.out.cell 4; have x0 := XR.out.cell 0; have x1 := XR.out.cell 1; have x2 := XR.out.cell 2; have x3 := XR.out.cell 3; have x4 := XR.out.cell 4; have x5 := XR.out.cell 5)
          | (go_at_call 16; go_must (refine (HC1.out _ HR.out).mono ?_); rintro e w5 ⟨⟨v5, rfl, hv5⟩, hb5⟩; have O5 := Lib.hid (hv5.less (show w.heap.size ≤ _ from HR.out.size)); obtain ⟨aA, ac, rfl⟩ := O5.out.form; have P5 := Lib.hid (O4.out.below hb5); clear hv5; have HR' := Lib.hid (HR.out.trans (hb5.mono HR.out.size)); have CR' := Lib.hid (CR.out.below' hb5); have XR' := Lib.hid (XR.out.below' hb5); clear hb5 HR CR XR c0 c1 c2 c3 c4 x0 x1 x2 x3 x4 x5; have HR := HR'; have CR := CR'; have XR := XR'; clear HR' CR' XR'; have c0 := CR.out.cell 0; have c1 := CR.out.cell 1; have c2 := CR.out.cell 2; have c3 := CR.out.cell 3; have c4 := CR.out.cell 4; have x0 := XR.out.cell 0; have x1 := XR.out.cell 1; have x2 := XR.out.cell 2; have x3 := XR.out.cell 3; have x4 := XR.out.cell 4; have x5 := XR.out.cell 5))
        have hzY := HR.out.size
        refine wp_region_T 13 (fun w' => Below w5.heap.size w5 w') (by kernel_rfl) (Below.refl _ _).drew ?_
        intro hS
        refine wpAnyT_take (i := 0) (v := ?_) rfl (by kernel_rfl) (by kernel_rfl) (by kernel_rfl) (by kernel_rfl) (by kernel_rfl) (fun _ _ _ h => h) (.inl ⟨by kernel_rfl, ?_⟩) hS ?_
        rotate_left
        · (intro w' hw; have c0 := (CR.out.below' hw).cell 0; have c1 := (CR.out.below' hw).cell 1; have c2 := (CR.out.below' hw).cell 2; have c3 := (CR.out.below' hw).cell 3; have c4 := (CR.out.below' hw).cell 4; have x0 := (XR.out.below' hw).cell 0; have x1 := (XR.out.below' hw).cell 1; have x2 := (XR.out.below' hw).cell 2; have x3 := (XR.out.below' hw).cell 3; have x4 := (XR.out.below' hw).cell 4; have x5 := (XR.out.below' hw).cell 5; go_simp; try with_reducible rfl)
        try simp only [put_laws]
        refine wpAnyT_take (i := 1) (v := ?_) rfl (by kernel_rfl) (by kernel_rfl) (by kernel_rfl) (by kernel_rfl) (by kernel_rfl) (fun _ _ _ h => h) (.inl ⟨by kernel_rfl, ?_⟩) hS ?_
        rotate_left
        · (intro w' hw; have c0 := (CR.out.below' hw).cell 0; have c1 := (CR.out.below' hw).cell 1; have c2 := (CR.out.below' hw).cell 2; have c3 := (CR.out.below' hw).cell 3; have c4 := (CR.out.below' hw).cell 4; have x0 := (XR.out.below' hw).cell 0; have x1 := (XR.out.below' hw).cell 1; have x2 := (XR.out.below' hw).cell 2; have x3 := (XR.out.below' hw).cell 3; have x4 := (XR.out.below' hw).cell 4; have x5 := (XR.out.below' hw).cell 5; go_simp; try with_reducible rfl)
        try simp only [put_laws]
        refine wpAnyT_take (i := 3) (v := ?_) rfl (by kernel_rfl) (by kernel_rfl) (by kernel_rfl) (by kernel_rfl) (by kernel_rfl) (fun _ _ _ h => h) (.inl ⟨by kernel_rfl, ?_⟩) hS ?_
        rotate_left
        · (intro w' hw; have c0 := (CR.out.below' hw).cell 0; have c1 := (CR.out.below' hw).cell 1; have c2 := (CR.out.below' hw).cell 2; have c3 := (CR.out.below' hw).cell 3; have c4 := (CR.out.below' hw).cell 4; have x0 := (XR.out.below' hw).cell 0; have x1 := (XR.out.below' hw).cell 1; have x2 := (XR.out.below' hw).cell 2; have x3 := (XR.out.below' hw).cell 3; have x4 := (XR.out.below' hw).cell 4; have x5 := (XR.out.below' hw).cell 5; go_simp; try with_reducible rfl)
        try simp only [put_laws]
        refine wpAnyT_take (i := 4) (v := ?_) rfl (by kernel_rfl) (by kernel_rfl) (by kernel_rfl) (by kernel_rfl) (by kernel_rfl) (fun _ _ _ h => h) (.inl ⟨by kernel_rfl, ?_⟩) hS ?_
        rotate_left
        · (intro w' hw; have c0 := (CR.out.below' hw).cell 0; have c1 := (CR.out.below' hw).cell 1; have c2 := (CR.out.below' hw).cell 2; have c3 := (CR.out.below' hw).cell 3; have c4 := (CR.out.below' hw).cell 4; have x0 := (XR.out.below' hw).cell 0; have x1 := (XR.out.below' hw).cell 1; have x2 := (XR.out.below' hw).cell 2; have x3 := (XR.out.below' hw).cell 3; have x4 := (XR.out.below' hw).cell 4; have x5 := (XR.out.below' hw).cell 5; go_simp; try with_reducible rfl)
        try simp only [put_laws]
        refine wpAnyT_one (i := 2) (by kernel_rfl) rfl ?_
        intro K' hK'
        go_simp
        refine (HCP.out _ (HR.out.trans (hS.mono hzY))).mono ?_
        rintro e w8 ⟨⟨v8, rfl, hv8⟩, hb8⟩
        obtain ⟨V8, ho8, hc8⟩ := hv8
        obtain ⟨A8, c8, rfl⟩ := ho8.form
        have hS' := Below.trans hS (Below.mono hb8 (Below.size hS))
        clear hS
        have hS := hS'
        clear hS'
        clear hb8
        refine hK'.out _ _ (.inr hS) ?_
        clear hK' K'
        try simp only [put_laws]
        refine wpAnyT_one (i := 5) (by kernel_rfl) rfl ?_
        intro K' hK'
        go_simp
        refine (HLG.out _ vA K vc).mono ?_
        rintro e w9 ⟨rfl, hb9⟩
        have ho9 := ho8.below hb9
        have hc9 := (fun i hi => (hc8 i hi).below hb9)
        have hS' := Below.trans hS (Below.mono hb9 (Below.size hS))
        clear hS
        have hS := hS'
        clear hS'
        clear hb9 ho8 hc8
        refine hK'.out _ _ (.inr hS) ?_
        clear hK' K'
        try simp only [put_laws]
        refine wpAnyT_one (i := 6) (by kernel_rfl) rfl ?_
        intro K' hK'
        go_simp
        have hS' := hS.alloc hS.size (.cells #[.int .i64 at_, .int .i64 lv, .int .i64 dr, .bool tl, .slice vA K vc] 41)
        have hS0 := hS
        clear hS
        have hS := hS'
        clear hS'
        refine hK'.out _ _ (.inr hS) ?_
        clear hK' K'
        try simp only [put_laws]
        refine wpAnyT_one (i := 7) (by kernel_rfl) rfl ?_
        intro K' hK'
        refine step_app (by rfl) (.tmp 54) (.tmp 58) 26 (by rfl) 41 j0 _ 5 56 Tryd.underlying26 MJ.out.1 MJ.out.2.1 MJ.out.2.2.1 MJ.out.2.2.2 rfl (by decide) (by decide) (by rfl) (ho9.alloc _) (by omega) (Nat.le_trans hS0.size (by simp)) w9.heap.size 1 (legRow (⟨at_, lv, dr, tl, K, F⟩ : M.Leg) (.slice vA K vc)) (by rfl) (leg_tmp w9 (⟨at_, lv, dr, tl, K, F⟩ : M.Leg) (.slice vA K vc)) (fun j => legRow_one _ _ rfl j) ?_
        intro v7 w7 o7 g7
        have hS' := Below.grown hS g7 hS.size (fun q hq => (ho9.block hq).1)
        have O7 := Own.apart_grown (O5.out.below hS) (Own.apart_type (ho9.alloc _) (O5.out.below hS) (by decide)) g7
        have C7 := CL.app (ho9.alloc _ |>.less (show w.heap.size ≤ _ from hzY)) (fun i hi => ((hc9 i hi).alloc _).less (show w.heap.size ≤ _ from hzY)) (l := (⟨at_, lv, dr, tl, K, F⟩ : M.Leg)) (P5.out.below hS) g7 (o7.less (show w.heap.size ≤ _ from hzY))
        obtain ⟨A7, c7, rfl⟩ := o7.form
        clear hS hS0 g7 o7 ho9 hc9
        have hS := hS'
        clear hS'
        refine hK'.out _ _ (.inr hS) ?_
        clear hK' K'
        try simp only [put_laws]
        refine wpAnyT_one (i := 8) (by kernel_rfl) rfl ?_
        intro K' hK'
        go_simp
        refine (HC2.out _ _ _ (C7.rd (fun i hi => ?_)) (HR.out.trans (hS.mono hzY))).mono ?_
        · by_cases e : i = ln
          · simp only [e, if_true]; exact hKm
          · simp only [e, if_false]; exact HNM.out i (by omega)
        rintro e w10 ⟨⟨v10, rfl, hv10⟩, hb10⟩
        obtain ⟨bA, bc, rfl⟩ := hv10.form
        have O10 := O7.below hb10
        have hS' := Below.trans hS (Below.mono hb10 (Below.size hS))
        clear hS
        have hS := hS'
        clear hS'
        clear hb10 O7 C7
        refine hK'.out _ _ (.inr hS) ?_
        clear hK' K'
        try simp only [put_laws]
        refine wpAnyT_one (i := 9) (by kernel_rfl) rfl ?_
        intro K' hK'
        go_simp
        refine hK'.out _ _ (.inr hS) ?_
        clear hK' K'
        try simp only [put_laws]
        refine wpAnyT_take (i := 10) (v := ?_) rfl (by kernel_rfl) (by kernel_rfl) (by kernel_rfl) (by kernel_rfl) (by kernel_rfl) (fun _ _ _ h => h) (.inl ⟨by kernel_rfl, ?_⟩) hS ?_
        rotate_left
        · (intro w' hw; skip; go_simp; try with_reducible rfl)
        try simp only [put_laws]
        refine wpAnyT_take (i := 11) (v := ?_) rfl (by kernel_rfl) (by kernel_rfl) (by kernel_rfl) (by kernel_rfl) (by kernel_rfl) (fun _ _ _ h => h) (.inl ⟨by kernel_rfl, ?_⟩) hS ?_
        rotate_left
        · (intro w' hw; skip; go_simp; try with_reducible rfl)
        try simp only [put_laws]
        refine wpAnyT_one (i := 12) (by kernel_rfl) rfl ?_
        intro K' hK'
        go_simp
        refine hK'.out _ _ (.inr hS) ?_
        clear hK' K'
        try simp only [put_laws]
        refine wpAnyT_one (i := 13) (by kernel_rfl) rfl ?_
        intro K' hK'
        go_simp
        refine hK'.out _ _ (.inl rfl) ?_
        clear hK' K'
        try simp only [put_laws]
        refine wpAnyT_done (by kernel_rfl) ?_ _
        have HB10 := Lib.hid (HR.out.trans (hS.mono hzY))
        have OA := Lib.hid O10
        have OB := Lib.hid hv10
        clear hS O10 hv10 c0 c1 c2 c3 c4 x0 x1 x2 x3 x4 x5
        have hz10 := HB10.out.size
        go_wp2_with fail
        go_loopw [13] (fun i wr => ∃ k : Nat, k ≤ NL.length ∧ i = .int .i64 (k : Int) ∧ Below w10.heap.size w10 wr) (fun i _ => NL.length - (intOf i).toNat)
        case atStart => exact ⟨0, Nat.zero_le _, rfl, Below.refl _ _⟩
        case round =>
          obtain ⟨k, hk, rfl, hbw⟩ := hrel
          have hll := HLL.out
          have HW := Lib.hid hbw
          have HBW := Lib.hid (HB10.out.trans (hbw.mono hz10))
          clear hbw
          by_cases hlt : k < NL.length
          · obtain ⟨ga, ca, ea⟩ := OA.out.nz (by omega)
            injection ea with ea1 _ ea2
            subst ea1; subst ea2
            obtain ⟨gb, cb, eb⟩ := OB.out.nz (by omega)
            injection eb with eb1 _ eb2
            subst eb1; subst eb2
            have a0 := (OA.out.below HW.out).cell (i := k) (j := 0) hlt (by omega)
            have a1 := (OA.out.below HW.out).cell (i := k) (j := 1) hlt (by omega)
            have a2 := (OA.out.below HW.out).cell (i := k) (j := 2) hlt (by omega)
            have b0 := (OB.out.below HW.out).cell (i := k) (j := 0) hlt (by omega)
            have b1 := (OB.out.below HW.out).cell (i := k) (j := 1) hlt (by omega)
            have b2 := (OB.out.below HW.out).cell (i := k) (j := 2) hlt (by omega)
            unfold ints2 at a0 a1 a2 b0 b1 b2
            rw [Nat.add_zero] at a0 b0
            have kx : decide (NL.length ≤ k) = false := decide_eq_false (by omega)
            have kx2 : (k : Int) < (NL.length : Int) := (by omega)
            obtain ⟨t0, ht0⟩ : ∃ t0, t0 = triF NL k 0 := ⟨_, rfl⟩
            obtain ⟨t1, ht1⟩ : ∃ t1, t1 = triF NL k 1 := ⟨_, rfl⟩
            obtain ⟨t2, ht2⟩ : ∃ t2, t2 = triF NL k 2 := ⟨_, rfl⟩
            rw [← ht0] at a0 b0
            rw [← ht1] at a1 b1
            rw [← ht2] at a2 b2
            clear ht0 ht1 ht2
            go_upto_region 15 with fail
            go_quiet (fail)
            go_wp2_with fail
            go_roundw
            case rel => exact ⟨k + 1, by omega, by go_num, HW.out.drewN nq⟩
            case measure => simp [intOf]; omega
          · obtain rfl : k = NL.length := by omega
            go_wp2_with (go_at_call 13; go_must (refine (HWO.out _ HBW.out).mono ?_); rintro e w9 ⟨rfl, hb9⟩; have HB9 := Lib.hid (HBW.out.trans (hb9.mono HBW.out.size)); clear hb9)
            go_ret
            exact ⟨rfl, HB9.out⟩
end
end Go.Proofs.YtkdpmihdhiokkaaDoor
