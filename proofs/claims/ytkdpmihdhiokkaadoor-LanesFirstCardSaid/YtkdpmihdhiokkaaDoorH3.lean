/- LanesFirst, walked. -/
import Derived.Test.YtkdpmihdhiokkaaDoorR11
import Derived.Test.YtkdpmihdhiokkaaDoorR14
import Derived.Test.YtkdpmihdhiokkaaDoorK27
import Derived.Test.YtkdpmihdhiokkaaDoorW
namespace Go.Proofs.YtkdpmihdhiokkaaDoor
open Go.RowKit

section
variable (W H : Int) (dA tA sA lA cA : Option Addr) (nd dc nt tc ns sc ln lc B n cc : Nat) (dep : Nat → Int) (tide : Nat → Nat → Int) (sw : Nat → Int) (L : Nat → M.Leg) (at_ lv dr fr dst : Int) (tl : Bool) (f : Nat → Int) (w : World)
set_option maxRecDepth 100000 in
set_option maxHeartbeats 6400000 in
theorem lanesFirst_any (hnd : nd ≤ maxLen) (hnt : nt ≤ maxLen) (hns : ns ≤ maxLen) (hln : ln ≤ maxLen) (hw : Ways w) (hR : RdC w B dA tA sA nd nt ns dep tide sw) (hB : B ≤ w.heap.size) (hL : RdL w B lA ln L) (hl : Rd1 w B cA n f) (hn : n ≤ maxLen) :
    Calls Tryd.prog 9 #[.agg #[.int .i64 W, .int .i64 H, .slice dA nd dc, .slice tA nt tc, .slice sA ns sc], .slice lA ln lc, .agg #[.int .i64 at_, .int .i64 lv, .int .i64 dr, .bool tl, .int .i64 fr, .int .i64 dst, .slice cA n cc]] w fun e w' => e = .returned (.bool true) ∧ Below w.heap.size w w' := by
  have HR := Lib.hid (belowAlloc2 w (.cells #[.int .i64 W, .int .i64 H, .slice dA nd dc, .slice tA nt tc, .slice sA ns sc] 25) (.cells #[.int .i64 at_, .int .i64 lv, .int .i64 dr, .bool tl, .int .i64 fr, .int .i64 dst, .slice cA n cc] 68))
  have CR := Lib.hid ((Blk.new w 25 #[.int .i64 W, .int .i64 H, .slice dA nd dc, .slice tA nt tc, .slice sA ns sc]).alloc (.cells #[.int .i64 at_, .int .i64 lv, .int .i64 dr, .bool tl, .int .i64 fr, .int .i64 dst, .slice cA n cc] 68))
  have XR := Lib.hid (Blk.new1 w (.cells #[.int .i64 W, .int .i64 H, .slice dA nd dc, .slice tA nt tc, .slice sA ns sc] 25) 68 #[.int .i64 at_, .int .i64 lv, .int .i64 dr, .bool tl, .int .i64 fr, .int .i64 dst, .slice cA n cc])
  obtain ⟨X, hX⟩ : ∃ X, X = (w.alloc (.cells #[.int .i64 W, .int .i64 H, .slice dA nd dc, .slice tA nt tc, .slice sA ns sc] 25)).alloc (.cells #[.int .i64 at_, .int .i64 lv, .int .i64 dr, .bool tl, .int .i64 fr, .int .i64 dst, .slice cA n cc] 68) := ⟨_, rfl⟩
  have HXe := Lib.hid hX
  rw [← hX] at HR CR XR
  clear hX
  have HRC := Lib.hid (fun V (hb2 : Below w.heap.size w V) => hR.below (hb2.mono hB))
  have HRL := Lib.hid (fun V (hb2 : Below w.heap.size w V) => hL.below (hb2.mono hB))
  have HWY := Lib.hid (fun V (hb2 : Below w.heap.size w V) => hw.below hb2)
  have HBB := Lib.hid hB
  have HWO := Lib.hid (fun V (hb2 : Below w.heap.size w V) => works_any V (hw.below hb2))
  have HVA := Lib.hid (valid_cl W H dA tA sA lA nd dc nt tc ns sc ln lc B dep tide sw L X hnd hnt hns hln (HRC.out _ HR.out) (Nat.le_trans HBB.out HR.out.size) (HRL.out _ HR.out))
  have c0 := CR.out.cell 0
  have c1 := CR.out.cell 1
  have c2 := CR.out.cell 2
  have c3 := CR.out.cell 3
  have c4 := CR.out.cell 4
  have HRF := Lib.hid (fun V (hb2 : Below w.heap.size w V) => hl.below (hb2.mono hB))
  clear hl
  clear hR hw hB hL
  go_enter Tryd.func9, Tryd.ntmps9
  go_upto_region 1 with fail
  rw [← HXe.out]
  clear HXe
  have x0 := XR.out.cell 0
  have x1 := XR.out.cell 1
  have x2 := XR.out.cell 2
  have x3 := XR.out.cell 3
  have x4 := XR.out.cell 4
  have x5 := XR.out.cell 5
  have x6 := XR.out.cell 6
  go_wp2_with (go_at_call 11; go_must (refine HVA.out.mono ?_); rintro e w1 ⟨⟨V, rfl, hV⟩, hb1⟩; have HV := Lib.hid hV; clear hV; have HR' := Lib.hid (HR.out.trans (hb1.mono HR.out.size)); have CR' := Lib.hid (CR.out.below' hb1); have XR' := Lib.hid (XR.out.below' hb1); clear hb1 HR CR XR c0 c1 c2 c3 c4 x0 x1 x2 x3 x4 x5 x6; have HR := HR'; have CR := CR'; have XR := XR'; clear HR' CR' XR'; have c0 := CR.out.cell 0; have c1 := CR.out.cell 1; have c2 := CR.out.cell 2; have c3 := CR.out.cell 3; have c4 := CR.out.cell 4; have x0 := XR.out.cell 0; have x1 := XR.out.cell 1; have x2 := XR.out.cell 2; have x3 := XR.out.cell 3; have x4 := XR.out.cell 4; have x5 := XR.out.cell 5; have x6 := XR.out.cell 6; cases V)
  · go_wp2_with (go_at_call 13; go_must (refine (HWO.out _ HR.out).mono ?_); rintro e w9 ⟨rfl, hb9⟩; have HB9 := Lib.hid (HR.out.trans (hb9.mono HR.out.size)); clear hb9)
    go_ret
    exact ⟨rfl, HB9.out⟩
  · obtain ⟨W', H', rfl, rfl, rfl, hs, hnd20, hnt8, hln5, hlo⟩ := HV.out (by first | rfl | trivial)
    obtain ⟨s, hsd⟩ : ∃ s : M.Sea, s = ⟨W', H', nd, ns, dep, tide, sw⟩ := ⟨_, rfl⟩
    have HSN := Lib.hid (show s.nd = nd ∧ s.nt = ns by rw [hsd]; exact ⟨rfl, rfl⟩)
    have HSO := Lib.hid (show s.Ok by rw [hsd]; exact hs)
    have HLO := Lib.hid (show M.legsOk s ln L = true by rw [hsd]; exact hlo)
    have HAT := Lib.hid (show ∀ i, i < ln → -100 ≤ (L i).at_ ∧ (L i).at_ ≤ 100 ∧ (L i).n ≤ 100 from fun i hi => by
      have hlo2 := HLO.out
      unfold M.legsOk at hlo2
      simp only [Bool.and_eq_true] at hlo2
      have h := M.legOk_iff.1 (M.allTo_iff.1 hlo2.2 i hi)
      have h0 := h.at0
      have h1 := h.at1
      have h2 := h.n1
      have h3 := HSN.out.2
      omega)
    have HIT := Lib.hid (fun V (hb2 : Below w.heap.size w V) => (show Calls Tryd.prog 12 #[.agg #[.int .i64 (W' : Int), .int .i64 (H' : Int), .slice dA nd dc, .slice tA ns tc, .slice sA ns sc], .agg #[.int .i64 at_, .int .i64 lv, .int .i64 dr, .bool tl, .int .i64 fr, .int .i64 dst]] V fun e w' => e = .returned (.bool (M.tripOk s ⟨at_, lv, dr, tl, fr, dst⟩)) ∧ Below V.heap.size V w' from by
      have hs := HSO.out
      have hlo := HLO.out
      subst hsd
      exact istrip_ok ⟨W', H', nd, ns, dep, tide, sw⟩ dA tA sA dc tc sc at_ lv dr fr dst tl V hs))
    have HIR := Lib.hid (fun V cA' n' cc' f' (hl' : Rd1 V V.heap.size cA' n' f') (hn' : n' ≤ maxLen) (hb2 : Below w.heap.size w V) => (show Calls Tryd.prog 15 #[.agg #[.int .i64 (W' : Int), .int .i64 (H' : Int), .slice dA nd dc, .slice tA ns tc, .slice sA ns sc], .slice lA ln lc, .agg #[.int .i64 at_, .int .i64 lv, .int .i64 dr, .bool tl, .int .i64 fr, .int .i64 dst], .slice cA' n' cc'] V fun e w' => e = .returned (.bool (M.isRoute s L ln ⟨at_, lv, dr, tl, fr, dst⟩ n' f')) ∧ Below V.heap.size V w' from by
      have hs := HSO.out
      have hlo := HLO.out
      subst hsd
      exact isroute_ok ⟨W', H', nd, ns, dep, tide, sw⟩ dA tA sA lA cA' dc tc sc ln lc n' cc' V.heap.size L f' at_ lv dr fr dst tl V hs ((HRC.out V hb2).more (Nat.le_trans HBB.out hb2.size)) (Nat.le_refl _) ((HRL.out V hb2).more (Nat.le_trans HBB.out hb2.size)) (by omega) HAT.out hl' hn'))
    have HRO := Lib.hid (fun V (hto : M.tripOk s ⟨at_, lv, dr, tl, fr, dst⟩ = true) (hb2 : Below w.heap.size w V) => (show Calls Tryd.prog 14 #[.agg #[.int .i64 (W' : Int), .int .i64 (H' : Int), .slice dA nd dc, .slice tA ns tc, .slice sA ns sc], .slice lA ln lc, .agg #[.int .i64 at_, .int .i64 lv, .int .i64 dr, .bool tl, .int .i64 fr, .int .i64 dst]] V fun e w' => (∃ v, e = .returned (.tuple #[v, .int .i64 (M.routeE s L ln ⟨at_, lv, dr, tl, fr, dst⟩)]) ∧ RouteV s L ln ⟨at_, lv, dr, tl, fr, dst⟩ V.heap.size v w') ∧ Below V.heap.size V w' from by
      have hs := HSO.out
      have hlo := HLO.out
      subst hsd
      exact Route_ok ⟨W', H', nd, ns, dep, tide, sw⟩ dA tA sA lA dc tc sc ln lc B L V at_ lv dr fr dst tl hs (HWY.out V hb2) (HRC.out V hb2) (Nat.le_trans HBB.out hb2.size) (HRL.out V hb2) (by omega) hlo hto))
    have HBK := Lib.hid (fun V (hto : M.tripOk s ⟨at_, lv, dr, tl, fr, dst⟩ = true) (hb2 : Below w.heap.size w V) => (show Calls Tryd.prog 31 #[.agg #[.int .i64 (W' : Int), .int .i64 (H' : Int), .slice dA nd dc, .slice tA ns tc, .slice sA ns sc], .slice lA ln lc, .agg #[.int .i64 at_, .int .i64 lv, .int .i64 dr, .bool tl, .int .i64 fr, .int .i64 dst]] V fun e w' => (∃ v, e = .returned (.tuple #[v, .int .i64 (if M.hasR s L ln ⟨at_, lv, dr, tl, fr, dst⟩ then 3 else 0)]) ∧ Own w' V.heap.size 3 1 v (M.blockI s L ln ⟨at_, lv, dr, tl, fr, dst⟩).length (lst (M.blockI s L ln ⟨at_, lv, dr, tl, fr, dst⟩))) ∧ Below V.heap.size V w' from by
      have hs := HSO.out
      have hlo := HLO.out
      subst hsd
      exact Block_ok ⟨W', H', nd, ns, dep, tide, sw⟩ dA tA sA lA dc tc sc ln lc B L V at_ lv dr fr dst tl hs (HWY.out V hb2) (HRC.out V hb2) (Nat.le_trans HBB.out hb2.size) (HRL.out V hb2) (by omega) hlo hto))
    have HEK := Lib.hid (fun hto hro => M.endK_le (s := s) (L := L) (n := ln) (r := ⟨at_, lv, dr, tl, fr, dst⟩) (m := n) (f := f) hto hro)
    have HEI := Lib.hid (fun hto he => M.endK_is (s := s) (L := L) (n := ln) (r := ⟨at_, lv, dr, tl, fr, dst⟩) HSO.out hto he)
    obtain ⟨r, hr⟩ : ∃ r : M.Trip, r = ⟨at_, lv, dr, tl, fr, dst⟩ := ⟨_, rfl⟩
    rw [← hr] at HIT HIR HRO HBK HEK HEI
    clear hs hlo hnt8 hnd20 hsd hr
    cases hT : M.tripOk s r
    · rw [hT] at HIT
      clear hT
      go_wp2_with (go_at_call 12; go_must (refine (HIT.out _ HR.out).mono ?_); rintro e w2 ⟨rfl, hb2⟩; have HR' := Lib.hid (HR.out.trans (hb2.mono HR.out.size)); have CR' := Lib.hid (CR.out.below' hb2); have XR' := Lib.hid (XR.out.below' hb2); clear hb2 HR CR XR c0 c1 c2 c3 c4 x0 x1 x2 x3 x4 x5 x6; have HR := HR'; have CR := CR'; have XR := XR'; clear HR' CR' XR'; have c0 := CR.out.cell 0; have c1 := CR.out.cell 1; have c2 := CR.out.cell 2; have c3 := CR.out.cell 3; have c4 := CR.out.cell 4; have x0 := XR.out.cell 0; have x1 := XR.out.cell 1; have x2 := XR.out.cell 2; have x3 := XR.out.cell 3; have x4 := XR.out.cell 4; have x5 := XR.out.cell 5; have x6 := XR.out.cell 6; clear HIT)
      go_wp2_with (go_at_call 13; go_must (refine (HWO.out _ HR.out).mono ?_); rintro e w9 ⟨rfl, hb9⟩; have HB9 := Lib.hid (HR.out.trans (hb9.mono HR.out.size)); clear hb9)
      go_ret
      exact ⟨rfl, HB9.out⟩
    · rw [hT] at HIT
      by_cases hn0 : n = 0
      · have g0 : ((n : Int) == 0) = true := by rw [beq_iff_eq]; omega
        clear hn0
        go_wp2_with (go_at_call 12; go_must (refine (HIT.out _ HR.out).mono ?_); rintro e w2 ⟨rfl, hb2⟩; have HR' := Lib.hid (HR.out.trans (hb2.mono HR.out.size)); have CR' := Lib.hid (CR.out.below' hb2); have XR' := Lib.hid (XR.out.below' hb2); clear hb2 HR CR XR c0 c1 c2 c3 c4 x0 x1 x2 x3 x4 x5 x6; have HR := HR'; have CR := CR'; have XR := XR'; clear HR' CR' XR'; have c0 := CR.out.cell 0; have c1 := CR.out.cell 1; have c2 := CR.out.cell 2; have c3 := CR.out.cell 3; have c4 := CR.out.cell 4; have x0 := XR.out.cell 0; have x1 := XR.out.cell 1; have x2 := XR.out.cell 2; have x3 := XR.out.cell 3; have x4 := XR.out.cell 4; have x5 := XR.out.cell 5; have x6 := XR.out.cell 6; clear HIT)
        go_wp2_with (go_at_call 13; go_must (refine (HWO.out _ HR.out).mono ?_); rintro e w9 ⟨rfl, hb9⟩; have HB9 := Lib.hid (HR.out.trans (hb9.mono HR.out.size)); clear hb9)
        go_ret
        exact ⟨rfl, HB9.out⟩
      · have g0 : ((n : Int) == 0) = false := by rw [beq_eq_false_iff_ne]; omega
        by_cases hn8 : 80 < n
        · have g8 : decide ((80 : Int) < (n : Int)) = true := decide_eq_true (by omega)
          have g8' : decide (80 < n) = true := decide_eq_true hn8
          clear hn0 hn8
          go_wp2_with (go_at_call 12; go_must (refine (HIT.out _ HR.out).mono ?_); rintro e w2 ⟨rfl, hb2⟩; have HR' := Lib.hid (HR.out.trans (hb2.mono HR.out.size)); have CR' := Lib.hid (CR.out.below' hb2); have XR' := Lib.hid (XR.out.below' hb2); clear hb2 HR CR XR c0 c1 c2 c3 c4 x0 x1 x2 x3 x4 x5 x6; have HR := HR'; have CR := CR'; have XR := XR'; clear HR' CR' XR'; have c0 := CR.out.cell 0; have c1 := CR.out.cell 1; have c2 := CR.out.cell 2; have c3 := CR.out.cell 3; have c4 := CR.out.cell 4; have x0 := XR.out.cell 0; have x1 := XR.out.cell 1; have x2 := XR.out.cell 2; have x3 := XR.out.cell 3; have x4 := XR.out.cell 4; have x5 := XR.out.cell 5; have x6 := XR.out.cell 6; clear HIT)
          go_wp2_with (go_at_call 13; go_must (refine (HWO.out _ HR.out).mono ?_); rintro e w9 ⟨rfl, hb9⟩; have HB9 := Lib.hid (HR.out.trans (hb9.mono HR.out.size)); clear hb9)
          go_ret
          exact ⟨rfl, HB9.out⟩
        · have g8 : decide ((80 : Int) < (n : Int)) = false := decide_eq_false (by omega)
          have g8' : decide (80 < n) = false := decide_eq_false hn8
          have HN := Lib.hid (show 0 < n ∧ n ≤ 80 by omega)
          clear hn0 hn8
          cases hI : M.isRoute s L ln r n f
          · have HI1 := Lib.hid (fun V hb => HIR.out V cA n cc f ((HRF.out V hb).more (Nat.le_trans HBB.out hb.size)) hn hb)
            rw [hI] at HI1
            clear hI
            go_wp2_with (go_at_call 12; go_must (refine (HIT.out _ HR.out).mono ?_); rintro e w2 ⟨rfl, hb2⟩; have HR' := Lib.hid (HR.out.trans (hb2.mono HR.out.size)); have CR' := Lib.hid (CR.out.below' hb2); have XR' := Lib.hid (XR.out.below' hb2); clear hb2 HR CR XR c0 c1 c2 c3 c4 x0 x1 x2 x3 x4 x5 x6; have HR := HR'; have CR := CR'; have XR := XR'; clear HR' CR' XR'; have c0 := CR.out.cell 0; have c1 := CR.out.cell 1; have c2 := CR.out.cell 2; have c3 := CR.out.cell 3; have c4 := CR.out.cell 4; have x0 := XR.out.cell 0; have x1 := XR.out.cell 1; have x2 := XR.out.cell 2; have x3 := XR.out.cell 3; have x4 := XR.out.cell 4; have x5 := XR.out.cell 5; have x6 := XR.out.cell 6; clear HIT)
            go_wp2_with (go_at_call 15; go_must (refine (HI1.out _ HR.out).mono ?_); rintro e w2 ⟨rfl, hb2⟩; have HR' := Lib.hid (HR.out.trans (hb2.mono HR.out.size)); have CR' := Lib.hid (CR.out.below' hb2); have XR' := Lib.hid (XR.out.below' hb2); clear hb2 HR CR XR c0 c1 c2 c3 c4 x0 x1 x2 x3 x4 x5 x6; have HR := HR'; have CR := CR'; have XR := XR'; clear HR' CR' XR'; have c0 := CR.out.cell 0; have c1 := CR.out.cell 1; have c2 := CR.out.cell 2; have c3 := CR.out.cell 3; have c4 := CR.out.cell 4; have x0 := XR.out.cell 0; have x1 := XR.out.cell 1; have x2 := XR.out.cell 2; have x3 := XR.out.cell 3; have x4 := XR.out.cell 4; have x5 := XR.out.cell 5; have x6 := XR.out.cell 6; clear HI1)
            go_wp2_with (go_at_call 13; go_must (refine (HWO.out _ HR.out).mono ?_); rintro e w9 ⟨rfl, hb9⟩; have HB9 := Lib.hid (HR.out.trans (hb9.mono HR.out.size)); clear hb9)
            go_ret
            exact ⟨rfl, HB9.out⟩
          · have HI1 := Lib.hid (fun V hb => HIR.out V cA n cc f ((HRF.out V hb).more (Nat.le_trans HBB.out hb.size)) hn hb)
            rw [hI] at HI1
            have HE1 := Lib.hid (HEK.out hT hI)
            have HE2 := Lib.hid (HEI.out hT HE1.out.1)
            have HR1 := Lib.hid (fun V => HRO.out V hT)
            have HK1 := Lib.hid (fun V => HBK.out V hT)
            have HRE := Lib.hid (show M.routeE s L ln r = 0 by unfold M.routeE; rw [if_pos HE1.out.1])
            have HHR := Lib.hid (show M.hasR s L ln r = true from decide_eq_true HE1.out.1)
            rw [HRE.out] at HR1
            rw [HHR.out] at HK1
            clear hI hT
            obtain ⟨K, hK⟩ : ∃ K, K = M.endK s L ln r + 1 := ⟨_, rfl⟩
            have HKE := Lib.hid hK
            have hKn : K ≤ n := by have := HE1.out.2; omega
            clear hK
            have gK : decide ((K : Int) ≤ (n : Int)) = true := decide_eq_true (by omega)
            have gK' : decide (K ≤ n) = true := decide_eq_true hKn
            go_wp2_with (go_at_call 12; go_must (refine (HIT.out _ HR.out).mono ?_); rintro e w2 ⟨rfl, hb2⟩; have HR' := Lib.hid (HR.out.trans (hb2.mono HR.out.size)); have CR' := Lib.hid (CR.out.below' hb2); have XR' := Lib.hid (XR.out.below' hb2); clear hb2 HR CR XR c0 c1 c2 c3 c4 x0 x1 x2 x3 x4 x5 x6; have HR := HR'; have CR := CR'; have XR := XR'; clear HR' CR' XR'; have c0 := CR.out.cell 0; have c1 := CR.out.cell 1; have c2 := CR.out.cell 2; have c3 := CR.out.cell 3; have c4 := CR.out.cell 4; have x0 := XR.out.cell 0; have x1 := XR.out.cell 1; have x2 := XR.out.cell 2; have x3 := XR.out.cell 3; have x4 := XR.out.cell 4; have x5 := XR.out.cell 5; have x6 := XR.out.cell 6; clear HIT)
            go_wp2_with (go_at_call 15; go_must (refine (HI1.out _ HR.out).mono ?_); rintro e w2 ⟨rfl, hb2⟩; have HR' := Lib.hid (HR.out.trans (hb2.mono HR.out.size)); have CR' := Lib.hid (CR.out.below' hb2); have XR' := Lib.hid (XR.out.below' hb2); clear hb2 HR CR XR c0 c1 c2 c3 c4 x0 x1 x2 x3 x4 x5 x6; have HR := HR'; have CR := CR'; have XR := XR'; clear HR' CR' XR'; have c0 := CR.out.cell 0; have c1 := CR.out.cell 1; have c2 := CR.out.cell 2; have c3 := CR.out.cell 3; have c4 := CR.out.cell 4; have x0 := XR.out.cell 0; have x1 := XR.out.cell 1; have x2 := XR.out.cell 2; have x3 := XR.out.cell 3; have x4 := XR.out.cell 4; have x5 := XR.out.cell 5; have x6 := XR.out.cell 6; clear HI1)
            go_wp2_with (go_at_call 14; go_must (refine (HR1.out _ HR.out).mono ?_); rintro e w3 ⟨⟨v, rfl, hv⟩, hb3⟩; have O3 := Lib.hid (hv.yes HE1.out.1); rw [← HKE.out] at O3; obtain ⟨vA, vc, rfl⟩ := O3.out.form; clear hv; have HR' := Lib.hid (HR.out.trans (hb3.mono HR.out.size)); have CR' := Lib.hid (CR.out.below' hb3); have XR' := Lib.hid (XR.out.below' hb3); clear hb3 HR CR XR c0 c1 c2 c3 c4 x0 x1 x2 x3 x4 x5 x6; have HR := HR'; have CR := CR'; have XR := XR'; clear HR' CR' XR'; have c0 := CR.out.cell 0; have c1 := CR.out.cell 1; have c2 := CR.out.cell 2; have c3 := CR.out.cell 3; have c4 := CR.out.cell 4; have x0 := XR.out.cell 0; have x1 := XR.out.cell 1; have x2 := XR.out.cell 2; have x3 := XR.out.cell 3; have x4 := XR.out.cell 4; have x5 := XR.out.cell 5; have x6 := XR.out.cell 6; clear HR1)
            go_wp2_with (go_at_call 31; go_must (refine (HK1.out _ HR.out).mono ?_); rintro e w4 ⟨⟨v, rfl, hv⟩, hb4⟩; have O4 := Lib.hid (O3.out.below hb4); clear hv O3; have HR' := Lib.hid (HR.out.trans (hb4.mono HR.out.size)); have CR' := Lib.hid (CR.out.below' hb4); have XR' := Lib.hid (XR.out.below' hb4); clear hb4 HR CR XR c0 c1 c2 c3 c4 x0 x1 x2 x3 x4 x5 x6; have HR := HR'; have CR := CR'; have XR := XR'; clear HR' CR' XR'; have c0 := CR.out.cell 0; have c1 := CR.out.cell 1; have c2 := CR.out.cell 2; have c3 := CR.out.cell 3; have c4 := CR.out.cell 4; have x0 := XR.out.cell 0; have x1 := XR.out.cell 1; have x2 := XR.out.cell 2; have x3 := XR.out.cell 3; have x4 := XR.out.cell 4; have x5 := XR.out.cell 5; have x6 := XR.out.cell 6; clear HK1)
            have hKm : K ≤ maxLen := (by unfold maxLen; have := HN.out; omega)
            have HRD := Lib.hid (Own.rd1' (f := M.routeF s L ln r (M.endK s L ln r)) O4.out)
            have HI2 := Lib.hid (HIR.out w4 vA K vc (M.routeF s L ln r (M.endK s L ln r)) HRD.out hKm HR.out)
            rw [HKE.out, HE2.out, ← HKE.out] at HI2
            go_wp2_with (first
              | (go_at_call 15; go_must (refine HI2.out.mono ?_); rintro e w5 ⟨rfl, hb5⟩; have HR' := Lib.hid (HR.out.trans (hb5.mono HR.out.size)); have CR' := Lib.hid (CR.out.below' hb5); have XR' := Lib.hid (XR.out.below' hb5); clear hb5 HR CR XR c0 c1 c2 c3 c4 x0 x1 x2 x3 x4 x5 x6; have HR := HR'; have CR := CR'; have XR := XR'; clear HR' CR' XR'; have c0 := CR.out.cell 0; have c1 := CR.out.cell 1; have c2 := CR.out.cell 2; have c3 := CR.out.cell 3; have c4 := CR.out.cell 4; have x0 := XR.out.cell 0; have x1 := XR.out.cell 1; have x2 := XR.out.cell 2; have x3 := XR.out.cell 3; have x4 := XR.out.cell 4; have x5 := XR.out.cell 5; have x6 := XR.out.cell 6)
              | (go_at_call 13; go_must (refine (HWO.out _ HR.out).mono ?_); rintro e w9 ⟨rfl, hb9⟩; have HB9 := Lib.hid (HR.out.trans (hb9.mono HR.out.size)); clear hb9))
            go_ret
            exact ⟨rfl, HB9.out⟩
end
end Go.Proofs.YtkdpmihdhiokkaaDoor
