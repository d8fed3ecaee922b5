/- LanesPlanned, walked. -/
import Derived.Test.YtkdpmihdhiokkaaDoorR11
import Derived.Test.YtkdpmihdhiokkaaDoorR13
import Derived.Test.YtkdpmihdhiokkaaDoorK29
import Derived.Test.YtkdpmihdhiokkaaDoorW
namespace Go.Proofs.YtkdpmihdhiokkaaDoor
open Go.RowKit

theorem RouteV.len {s : M.Sea} {L : Nat → M.Leg} {n : Nat} {r : M.Trip} {base : Nat} {v : Value} {w : World} (h : RouteV s L n r base v w) : ∃ A k c, v = .slice A k c ∧ (M.hasR s L n r = true → k = M.endK s L n r + 1 ∧ M.endK s L n r < s.nt - r.at_.toNat) := by
  by_cases hh : M.endK s L n r < s.nt - r.at_.toNat
  · obtain ⟨g, c, rfl⟩ := (h.yes hh).nz (Nat.succ_pos _)
    exact ⟨_, _, _, rfl, fun _ => ⟨rfl, hh⟩⟩
  · exact ⟨_, _, _, h.no hh, fun h2 => absurd (of_decide_eq_true h2) hh⟩
section
variable (W H : Int) (dA tA sA lA gA : Option Addr) (nd dc nt tc ns sc ln lc gn gc B : Nat) (dep : Nat → Int) (tide : Nat → Nat → Int) (sw : Nat → Int) (L : Nat → M.Leg) (R : Nat → M.Trip) (w : World)
set_option maxRecDepth 100000 in
set_option maxHeartbeats 6400000 in
theorem lanesPlanned_any (hnd : nd ≤ maxLen) (hnt : nt ≤ maxLen) (hns : ns ≤ maxLen) (hln : ln ≤ maxLen) (hgn : gn ≤ maxLen) (hw : Ways w) (hR : RdC w B dA tA sA nd nt ns dep tide sw) (hB : B ≤ w.heap.size) (hL : RdL w B lA ln L) (hG : RdT w B gA gn R) :
    Calls Tryd.prog 8 #[.agg #[.int .i64 W, .int .i64 H, .slice dA nd dc, .slice tA nt tc, .slice sA ns sc], .slice lA ln lc, .slice gA gn gc] w fun e w' => e = .returned (.bool true) ∧ Below w.heap.size w w' := by
  have HR := Lib.hid (belowAlloc w (.cells #[.int .i64 W, .int .i64 H, .slice dA nd dc, .slice tA nt tc, .slice sA ns sc] 25))
  have CR := Lib.hid (Blk.new w 25 #[.int .i64 W, .int .i64 H, .slice dA nd dc, .slice tA nt tc, .slice sA ns sc])
  obtain ⟨X, hX⟩ : ∃ X, X = w.alloc (.cells #[.int .i64 W, .int .i64 H, .slice dA nd dc, .slice tA nt tc, .slice sA ns sc] 25) := ⟨_, rfl⟩
  have HXe := Lib.hid hX
  rw [← hX] at HR CR
  clear hX
  have HRC := Lib.hid (fun V (hb2 : Below w.heap.size w V) => hR.below (hb2.mono hB))
  have HRL := Lib.hid (fun V (hb2 : Below w.heap.size w V) => hL.below (hb2.mono hB))
  have HRG := Lib.hid (fun V (hb2 : Below w.heap.size w V) => hG.below (hb2.mono hB))
  have HWY := Lib.hid (fun V (hb2 : Below w.heap.size w V) => hw.below hb2)
  have HBB := Lib.hid hB
  have HWO := Lib.hid (fun V (hb2 : Below w.heap.size w V) => works_any V (hw.below hb2))
  have HVA := Lib.hid (valid_cl W H dA tA sA lA nd dc nt tc ns sc ln lc B dep tide sw L X hnd hnt hns hln (HRC.out _ HR.out) (Nat.le_trans HBB.out HR.out.size) (HRL.out _ HR.out))
  have c0 := CR.out.cell 0
  have c1 := CR.out.cell 1
  have c2 := CR.out.cell 2
  have c3 := CR.out.cell 3
  have c4 := CR.out.cell 4
  clear hR hw hB hL hG
  have hgm : gn ≤ 9223372036854775807 := by unfold maxLen at hgn; omega
  by_cases h4 : 4 < gn
  · have g4 : decide ((4 : Int) < (gn : Int)) = true := decide_eq_true (by omega)
    have g4' : decide (4 < gn) = true := decide_eq_true h4
    clear h4
    go_enter Tryd.func8, Tryd.ntmps8
    go_upto_region 1 with fail
    rw [← HXe.out]
    clear HXe
    go_wp2_with (go_at_call 11; go_must (refine HVA.out.mono ?_); rintro e w1 ⟨⟨V, rfl, hV⟩, hb1⟩; clear hV; have HR' := Lib.hid (HR.out.trans (hb1.mono HR.out.size)); have CR' := Lib.hid (CR.out.below' hb1); clear hb1 HR CR c0 c1 c2 c3 c4; have HR := HR'; have CR := CR'; clear HR' CR'; have c0 := CR.out.cell 0; have c1 := CR.out.cell 1; have c2 := CR.out.cell 2; have c3 := CR.out.cell 3; have c4 := CR.out.cell 4; cases V)
    all_goals
      go_wp2_with (go_at_call 13; go_must (refine (HWO.out _ HR.out).mono ?_); rintro e w9 ⟨rfl, hb9⟩; have HB9 := Lib.hid (HR.out.trans (hb9.mono HR.out.size)); clear hb9)
      go_ret
      exact ⟨rfl, HB9.out⟩
  · have g4 : decide ((4 : Int) < (gn : Int)) = false := decide_eq_false (by omega)
    have g4' : decide (4 < gn) = false := decide_eq_false h4
    have HG4 := Lib.hid h4
    clear h4
    go_enter Tryd.func8, Tryd.ntmps8
    go_upto_region 1 with fail
    rw [← HXe.out]
    clear HXe
    go_upto_if 24 with (go_at_call 11; go_must (refine HVA.out.mono ?_); rintro e w1 ⟨⟨V, rfl, hV⟩, hb1⟩; have HV := Lib.hid hV; clear hV; have HR' := Lib.hid (HR.out.trans (hb1.mono HR.out.size)); have CR' := Lib.hid (CR.out.below' hb1); clear hb1 HR CR c0 c1 c2 c3 c4; have HR := HR'; have CR := CR'; clear HR' CR'; have c0 := CR.out.cell 0; have c1 := CR.out.cell 1; have c2 := CR.out.cell 2; have c3 := CR.out.cell 3; have c4 := CR.out.cell 4; cases V)
    · go_wp2_with (go_at_call 13; go_must (refine (HWO.out _ HR.out).mono ?_); rintro e w9 ⟨rfl, hb9⟩; have HB9 := Lib.hid (HR.out.trans (hb9.mono HR.out.size)); clear hb9)
      go_ret
      exact ⟨rfl, HB9.out⟩
    · obtain ⟨W', H', rfl, rfl, rfl, hs, hnd20, hnt8, hln5, hlo⟩ := HV.out (by first | rfl | trivial)
      obtain ⟨s, hsd⟩ : ∃ s : M.Sea, s = ⟨W', H', nd, ns, dep, tide, sw⟩ := ⟨_, rfl⟩
      have HSN := Lib.hid (show s.nd = nd ∧ s.nt = ns by rw [hsd]; exact ⟨rfl, rfl⟩)
      have HSO := Lib.hid (show s.Ok by rw [hsd]; exact hs)
      have HLO := Lib.hid (show M.legsOk s ln L = true by rw [hsd]; exact hlo)
      have HAT := Lib.hid (show ∀ i, i < ln → -100 ≤ (L i).at_ ∧ (L i).at_ ≤ 100 ∧ (L i).n ≤ 100 from fun i hi => by
        have hlo2 := HLO.out
        unfold M.legsOk at hlo2
        simp only [Bool.and_eq_true] at hlo2
        have h := M.legOk_iff.1 (M.allTo_iff.1 hlo2.2 i hi)
        have h0 := h.at0
        have h1 := h.at1
        have h2 := h.n1
        have h3 := HSN.out.2
        omega)
      have HIT := Lib.hid (fun V (r : M.Trip) (hb2 : Below w.heap.size w V) => (show Calls Tryd.prog 12 #[.agg #[.int .i64 (W' : Int), .int .i64 (H' : Int), .slice dA nd dc, .slice tA ns tc, .slice sA ns sc], .agg #[.int .i64 r.at_, .int .i64 r.lv, .int .i64 r.dr, .bool r.tail, .int .i64 r.from_, .int .i64 r.to_]] V fun e w' => e = .returned (.bool (M.tripOk s r)) ∧ Below V.heap.size V w' from by
        have hs := HSO.out
        have hlo := HLO.out
        subst hsd
        exact istrip_ok ⟨W', H', nd, ns, dep, tide, sw⟩ dA tA sA dc tc sc r.at_ r.lv r.dr r.from_ r.to_ r.tail V hs))
      have HRO := Lib.hid (fun V (r : M.Trip) (hto : M.tripOk s r = true) (hb2 : Below w.heap.size w V) => (show Calls Tryd.prog 14 #[.agg #[.int .i64 (W' : Int), .int .i64 (H' : Int), .slice dA nd dc, .slice tA ns tc, .slice sA ns sc], .slice lA ln lc, .agg #[.int .i64 r.at_, .int .i64 r.lv, .int .i64 r.dr, .bool r.tail, .int .i64 r.from_, .int .i64 r.to_]] V fun e w' => (∃ v, e = .returned (.tuple #[v, .int .i64 (M.routeE s L ln r)]) ∧ RouteV s L ln r V.heap.size v w') ∧ Below V.heap.size V w' from by
        have hs := HSO.out
        have hlo := HLO.out
        subst hsd
        exact Route_ok ⟨W', H', nd, ns, dep, tide, sw⟩ dA tA sA lA dc tc sc ln lc B L V r.at_ r.lv r.dr r.from_ r.to_ r.tail hs (HWY.out V hb2) (HRC.out V hb2) (Nat.le_trans HBB.out hb2.size) (HRL.out V hb2) (by omega) hlo hto))
      have HPN := Lib.hid (fun V (htr : ∀ k, k < gn → M.tripOk s (R k) = true) (hb2 : Below w.heap.size w V) => (show Calls Tryd.prog 30 #[.agg #[.int .i64 (W' : Int), .int .i64 (H' : Int), .slice dA nd dc, .slice tA ns tc, .slice sA ns sc], .slice lA ln lc, .slice gA gn gc] V fun e w' => (∃ v, e = .returned (.tuple #[v, .int .i64 0]) ∧ Own w' V.heap.size 3 1 v gn (ints (M.planE s L ln R))) ∧ Below V.heap.size V w' from by
        have hs := HSO.out
        have hlo := HLO.out
        subst hsd
        exact Plan_ok ⟨W', H', nd, ns, dep, tide, sw⟩ dA tA sA lA gA dc tc sc ln lc gn gc B L R V hs (HWY.out V hb2) (HRC.out V hb2) (Nat.le_trans HBB.out hb2.size) (HRL.out V hb2) hlo (HRG.out V hb2) (by have := HG4.out; omega) (by have := HG4.out; omega) htr))
      have hgn4 : gn ≤ 4 := by have := HG4.out; omega
      have hnt60 : s.nt ≤ 60 := HSO.out.t2
      clear hs hlo hnt8 hnd20 hsd
      obtain ⟨Z, rfl⟩ : ∃ Z, Z = w1 := ⟨_, rfl⟩
      have HZ := Lib.hid HR.out
      have CZ := Lib.hid CR.out
      have hzZ := HR.out.size
      clear c0 c1 c2 c3 c4 HR CR
      go_wp2_with fail
      go_loopw [7] (fun i wr => ∃ k : Nat, k ≤ gn ∧ i = .int .i64 (k : Int) ∧ Hid (∀ j, j < k → M.tripOk s (R j) = true) ∧ Below Z.heap.size Z wr) (fun i _ => gn - (intOf i).toNat)
      case atStart => exact ⟨0, Nat.zero_le _, rfl, Lib.hid fun j hj => absurd hj (by omega), Below.refl _ _⟩
      case round =>
        obtain ⟨k, hk, rfl, HTR, hbw⟩ := hrel
        have HW := Lib.hid hbw
        have hz := hbw.size
        have HR := Lib.hid (HZ.out.trans (hbw.mono hzZ))
        have CR := Lib.hid (CZ.out.below' hbw)
        clear hbw
        have c0 := CR.out.cell 0
        have c1 := CR.out.cell 1
        have c2 := CR.out.cell 2
        have c3 := CR.out.cell 3
        have c4 := CR.out.cell 4
        by_cases hlt : k < gn
        · obtain ⟨b, off, rfl, hb, x0, x1, x2, x3, x4, x5⟩ := (HRG.out wr HR.out).at_ hlt
          have kx : decide (gn ≤ k) = false := decide_eq_false (by omega)
          have HIK := Lib.hid (fun V (hb2 : Below wr.heap.size wr V) => HIT.out V (R k) (HR.out.trans (hb2.mono HR.out.size)))
          obtain ⟨tv, htv⟩ : ∃ tv, tv = M.tripOk s (R k) := ⟨_, rfl⟩
          rw [← htv] at HIK
          have HTV := Lib.hid htv
          clear htv
          go_upto_region 6 with fail
          go_still_tail 5, (by kernel_rfl)
          cases tv
          · go_wp2_with (first
              | (go_at_call 12; go_must (refine (HIK.out _ (Below.refl _ _).drew).mono ?_); rintro e w5 ⟨rfl, hb5⟩; have HB5 := Lib.hid (HR.out.trans (((Below.refl _ _).drew.trans (hb5.mono (Nat.le_refl _))).mono HR.out.size)); clear hb5)
              | (go_at_call 13; go_must (refine (HWO.out _ HB5.out).mono ?_); rintro e w9 ⟨rfl, hb9⟩; have HB9 := Lib.hid (HB5.out.trans (hb9.mono HB5.out.size)); clear hb9))
            go_ret
            exact ⟨rfl, HB9.out⟩
          · go_wp2_with (go_at_call 12; go_must (refine (HIK.out _ (Below.refl _ _).drew).mono ?_); rintro e w5 ⟨rfl, hb5⟩; have HB5 := Lib.hid ((Below.refl _ _).drew.trans (hb5.mono (Nat.le_refl _))); clear hb5)
            go_roundw
            case rel => exact ⟨k + 1, by omega, by go_num, Lib.hid fun j hj => by
              rcases Nat.lt_succ_iff_lt_or_eq.1 hj with h | h
              · exact HTR.out j h
              · subst h; exact HTV.out.symm, HW.out.trans (HB5.out.mono hz)⟩
            case measure => simp [intOf]; omega
        · obtain rfl : k = gn := by omega
          have HPK := Lib.hid (HPN.out wr HTR.out HR.out)
          have HRK := Lib.hid (fun V i (hi : i < k) (hb2 : Below w.heap.size w V) => HRO.out V (R i) (HTR.out i hi) hb2)
          have HRE := Lib.hid (fun i => (show M.routeE s L ln (R i) = if M.hasR s L ln (R i) then 0 else 3 by unfold M.routeE M.hasR; simp only [decide_eq_true_eq]))
          have HTA := Lib.hid (fun i (hi : i < k) => (show 0 ≤ (R i).at_ ∧ (R i).at_ < s.nt from (M.tripOk_iff.1 (HTR.out i hi)).1))
          have HGE := Lib.hid (fun i (hi : i < k) (he : 0 ≤ M.planE s L ln R i) => M.plan_ge (HTA.out i hi).1 he)
          have HOT := Lib.hid (fun i (ho : ∀ j, j < i → (R j).lv ≠ (R i).lv) => M.plan_other (s := s) (L := L) (n := ln) ho)
          go_upto_region 9 with (go_at_call 30; go_must (refine HPK.out.mono ?_); rintro e w2 ⟨⟨v, rfl, ho⟩, hb2⟩; have OE := Lib.hid (ho.less (base' := 0) (Nat.zero_le _)); obtain ⟨vA, vc, rfl⟩ := ho.form; clear ho; have HR' := Lib.hid (HR.out.trans (hb2.mono HR.out.size)); have CR' := Lib.hid (CR.out.below' hb2); clear hb2 HR CR c0 c1 c2 c3 c4; have HR := HR'; have CR := CR'; clear HR' CR'; have c0 := CR.out.cell 0; have c1 := CR.out.cell 1; have c2 := CR.out.cell 2; have c3 := CR.out.cell 3; have c4 := CR.out.cell 4)
          clear c0 c1 c2 c3 c4
          obtain ⟨Y, rfl⟩ : ∃ Y, Y = w2 := ⟨_, rfl⟩
          have HY := Lib.hid HR.out
          have CY := Lib.hid CR.out
          have hzY := HR.out.size
          clear HR CR
          go_wp2_with fail
          go_loopw [10] (fun i wr => ∃ j : Nat, j ≤ k ∧ i = .int .i64 (j : Int) ∧ Below Y.heap.size Y wr) (fun i _ => k - (intOf i).toNat)
          case atStart => exact ⟨0, Nat.zero_le _, rfl, Below.refl _ _⟩
          case round =>
            obtain ⟨j, hj, rfl, hbw⟩ := hrel
            have HWj := Lib.hid hbw
            have hzj := hbw.size
            have HR := Lib.hid (HY.out.trans (hbw.mono hzY))
            have CR := Lib.hid (CY.out.below' hbw)
            have OJ := Lib.hid (OE.out.below hbw)
            clear hbw
            have c0 := CR.out.cell 0
            have c1 := CR.out.cell 1
            have c2 := CR.out.cell 2
            have c3 := CR.out.cell 3
            have c4 := CR.out.cell 4
            by_cases hlt2 : j < k
            · obtain ⟨b, off, rfl, hb, x0, x1, x2, x3, x4, x5⟩ := (HRG.out wr HR.out).at_ hlt2
              have kx : decide (k ≤ j) = false := decide_eq_false (by omega)
              have HRJ := Lib.hid (fun V (hb2 : Below wr.heap.size wr V) => HRK.out V j hlt2 (HR.out.trans (hb2.mono HR.out.size)))
              rw [HRE.out] at HRJ
              have hbr : b < wr.heap.size := Nat.lt_of_lt_of_le hb (Nat.le_trans HBB.out HR.out.size)
              have HXC := Lib.hid (fun V (hb2 : Below wr.heap.size wr V) => (show V.cell? ⟨b, off + j * 6, none⟩ = some (.int .i64 (R j).at_) ∧ V.cell? ⟨b, off + j * 6 + 1, none⟩ = some (.int .i64 (R j).lv) ∧ V.cell? ⟨b, off + j * 6 + 2, none⟩ = some (.int .i64 (R j).dr) ∧ V.cell? ⟨b, off + j * 6 + 3, none⟩ = some (.bool (R j).tail) ∧ V.cell? ⟨b, off + j * 6 + 4, none⟩ = some (.int .i64 (R j).from_) ∧ V.cell? ⟨b, off + j * 6 + 5, none⟩ = some (.int .i64 (R j).to_) from
                ⟨(hb2.cell (p := ⟨b, off + j * 6, none⟩) hbr).trans x0, (hb2.cell (p := ⟨b, off + j * 6 + 1, none⟩) hbr).trans x1, (hb2.cell (p := ⟨b, off + j * 6 + 2, none⟩) hbr).trans x2, (hb2.cell (p := ⟨b, off + j * 6 + 3, none⟩) hbr).trans x3, (hb2.cell (p := ⟨b, off + j * 6 + 4, none⟩) hbr).trans x4, (hb2.cell (p := ⟨b, off + j * 6 + 5, none⟩) hbr).trans x5⟩))
              clear x0 x1 x2 x3 x4 x5
              obtain ⟨er, her⟩ : ∃ er : Int, er = if M.hasR s L ln (R j) then 0 else 3 := ⟨_, rfl⟩
              rw [← her] at HRJ
              have HER := Lib.hid her
              clear her
              obtain ⟨r, hr⟩ : ∃ r, r = R j := ⟨_, rfl⟩
              have HRR := Lib.hid hr
              rw [← hr] at HXC HRJ HER
              have HTJ := Lib.hid (HTA.out j hlt2)
              rw [← hr] at HTJ
              have HPJ := Lib.hid (HGE.out j hlt2)
              have HOJ := Lib.hid (HOT.out j)
              rw [← hr] at HPJ HOJ
              obtain ⟨al, hal⟩ : ∃ al, al = M.endT s ln L r := ⟨_, rfl⟩
              have HAE := Lib.hid (show al = if M.hasR s L ln r then r.at_ + M.endK s L ln r else -1 by rw [hal]; rfl)
              obtain ⟨pe, hpe⟩ : ∃ pe, pe = M.planE s L ln R j := ⟨_, rfl⟩
              have HPE := Lib.hid hpe
              rw [← hpe, ← hal] at HPJ HOJ
              clear hr hal hpe
              go_upto_region 14 with fail
              clear c0 c1 c2 c3 c4
              refine wp_region_T 11 (fun w' => Below wr.heap.size wr w') (by kernel_rfl) (Below.refl _ _).drew ?_
              intro hS
              refine wpAnyT_take (i := 0) (v := ?_) rfl (by kernel_rfl) (by kernel_rfl) (by kernel_rfl) (by kernel_rfl) (by kernel_rfl) (fun _ _ _ h => h) (.inl ⟨by kernel_rfl, ?_⟩) hS ?_
              rotate_left
              · (intro w' hw; have c0 := (CR.out.below' hw).cell 0; have c1 := (CR.out.below' hw).cell 1; have c2 := (CR.out.below' hw).cell 2; have c3 := (CR.out.below' hw).cell 3; have c4 := (CR.out.below' hw).cell 4; obtain ⟨x0, x1, x2, x3, x4, x5⟩ := HXC.out w' hw; go_simp; try with_reducible rfl)
              try simp only [put_laws]
              refine wpAnyT_take (i := 1) (v := ?_) rfl (by kernel_rfl) (by kernel_rfl) (by kernel_rfl) (by kernel_rfl) (by kernel_rfl) (fun _ _ _ h => h) (.inl ⟨by kernel_rfl, ?_⟩) hS ?_
              rotate_left
              · (intro w' hw; have c0 := (CR.out.below' hw).cell 0; have c1 := (CR.out.below' hw).cell 1; have c2 := (CR.out.below' hw).cell 2; have c3 := (CR.out.below' hw).cell 3; have c4 := (CR.out.below' hw).cell 4; obtain ⟨x0, x1, x2, x3, x4, x5⟩ := HXC.out w' hw; go_simp; try with_reducible rfl)
              try simp only [put_laws]
              refine wpAnyT_take (i := 2) (v := ?_) rfl (by kernel_rfl) (by kernel_rfl) (by kernel_rfl) (by kernel_rfl) (by kernel_rfl) (fun _ _ _ h => h) (.inl ⟨by kernel_rfl, ?_⟩) hS ?_
              rotate_left
              · (intro w' hw; have c0 := (CR.out.below' hw).cell 0; have c1 := (CR.out.below' hw).cell 1; have c2 := (CR.out.below' hw).cell 2; have c3 := (CR.out.below' hw).cell 3; have c4 := (CR.out.below' hw).cell 4; obtain ⟨x0, x1, x2, x3, x4, x5⟩ := HXC.out w' hw; go_simp; try with_reducible rfl)
              try simp only [put_laws]
              refine wpAnyT_take (i := 3) (v := ?_) rfl (by kernel_rfl) (by kernel_rfl) (by kernel_rfl) (by kernel_rfl) (by kernel_rfl) (fun _ _ _ h => h) (.inl ⟨by kernel_rfl, ?_⟩) hS ?_
              rotate_left
              · (intro w' hw; have c0 := (CR.out.below' hw).cell 0; have c1 := (CR.out.below' hw).cell 1; have c2 := (CR.out.below' hw).cell 2; have c3 := (CR.out.below' hw).cell 3; have c4 := (CR.out.below' hw).cell 4; obtain ⟨x0, x1, x2, x3, x4, x5⟩ := HXC.out w' hw; go_simp; try with_reducible rfl)
              try simp only [put_laws]
              refine wpAnyT_take (i := 4) (v := ?_) rfl (by kernel_rfl) (by kernel_rfl) (by kernel_rfl) (by kernel_rfl) (by kernel_rfl) (fun _ _ _ h => h) (.inl ⟨by kernel_rfl, ?_⟩) hS ?_
              rotate_left
              · (intro w' hw; have c0 := (CR.out.below' hw).cell 0; have c1 := (CR.out.below' hw).cell 1; have c2 := (CR.out.below' hw).cell 2; have c3 := (CR.out.below' hw).cell 3; have c4 := (CR.out.below' hw).cell 4; obtain ⟨x0, x1, x2, x3, x4, x5⟩ := HXC.out w' hw; go_simp; try with_reducible rfl)
              try simp only [put_laws]
              refine wpAnyT_take (i := 5) (v := ?_) rfl (by kernel_rfl) (by kernel_rfl) (by kernel_rfl) (by kernel_rfl) (by kernel_rfl) (fun _ _ _ h => h) (.inl ⟨by kernel_rfl, ?_⟩) hS ?_
              rotate_left
              · (intro w' hw; have c0 := (CR.out.below' hw).cell 0; have c1 := (CR.out.below' hw).cell 1; have c2 := (CR.out.below' hw).cell 2; have c3 := (CR.out.below' hw).cell 3; have c4 := (CR.out.below' hw).cell 4; obtain ⟨x0, x1, x2, x3, x4, x5⟩ := HXC.out w' hw; go_simp; try with_reducible rfl)
              try simp only [put_laws]
              refine wpAnyT_one (i := 6) (by kernel_rfl) rfl ?_
              intro K' hK'
              go_simp
              refine (HRJ.out _ hS).mono ?_
              rintro e w8 ⟨⟨v8, rfl, hv8⟩, hb8⟩
              replace hv8 := hv8.len
              obtain ⟨vA8, kk, vc8, rfl, hv8⟩ := hv8
              have hS' := Below.trans hS (Below.mono hb8 (Below.size hS))
              clear hS
              have hS := hS'
              clear hS' hb8
              refine hK'.out _ _ (.inr hS) ?_
              clear hK' K'
              try simp only [put_laws]
              refine wpAnyT_one (i := 7) (by kernel_rfl) rfl ?_
              intro K' hK'
              go_simp
              refine hK'.out _ _ (.inr hS) ?_
              clear hK' K'
              try simp only [put_laws]
              refine wpAnyT_take (i := 8) (v := ?_) rfl (by kernel_rfl) (by kernel_rfl) (by kernel_rfl) (by kernel_rfl) (by kernel_rfl) (fun _ _ _ h => h) (.inl ⟨by kernel_rfl, ?_⟩) hS ?_
              rotate_left
              · (intro w' hw; skip; go_simp; try with_reducible rfl)
              try simp only [put_laws]
              refine wpAnyT_take (i := 9) (v := ?_) rfl (by kernel_rfl) (by kernel_rfl) (by kernel_rfl) (by kernel_rfl) (by kernel_rfl) (fun _ _ _ h => h) (.inl ⟨by kernel_rfl, ?_⟩) hS ?_
              rotate_left
              · (intro w' hw; skip; go_simp; try with_reducible rfl)
              try simp only [put_laws]
              refine wpAnyT_one (i := 10) (by kernel_rfl) rfl ?_
              intro K' hK'
              go_simp
              refine hK'.out _ _ (.inr hS) ?_
              clear hK' K'
              try simp only [put_laws]
              refine wpAnyT_one (i := 11) (by kernel_rfl) rfl ?_
              intro K' hK'
              go_simp
              refine hK'.out _ _ (.inl rfl) ?_
              clear hK' K'
              try simp only [put_laws]
              refine wpAnyT_done (by kernel_rfl) ?_ _
              obtain ⟨w5, rfl⟩ : ∃ w5, w5 = w8 := ⟨_, rfl⟩
              have HW5 := Lib.hid (HWj.out.trans (Below.mono hS hzj))
              have HB5 := Lib.hid (HR.out.trans (Below.mono hS HR.out.size))
              obtain ⟨x0, y1, y2, y3, y4, y5⟩ := HXC.out w5 hS
              have O5 := Lib.hid (OJ.out.below hS)
              have HXD := Lib.hid (fun q (hq : q < k) n => (show (w5.drewN n).cell? ⟨b, off + q * 6 + 1, none⟩ = some (.int .i64 (R q).lv) from by
                obtain ⟨b', off', e, _, _, h1, _⟩ := (HRG.out w5 HB5.out).at_ hq
                injection e with e
                injection e with e1 e2 _
                subst e1; subst e2
                exact h1))
              clear y1 y2 y3 y4 y5 hS
              obtain ⟨gO, cO, eO⟩ := O5.out.nz (by omega)
              injection eO with eO1 _ eO2
              subst eO1; subst eO2
              have z0 : w5.cell? ⟨gO, j, none⟩ = some (.int .i64 pe) := by rw [HPE.out]; exact O5.out.cell1 hlt2
              have Z0 := Lib.hid (fun n => (show (w5.drewN n).cell? ⟨gO, j, none⟩ = some (.int .i64 pe) from z0))
              go_upto_region 15 with fail
              have hr60 : 0 ≤ r.at_ ∧ r.at_ ≤ 60 := by have := HTJ.out; omega
              cases hH : M.hasR s L ln r
              · rw [hH] at HER HAE
                obtain rfl : er = 3 := HER.out
                have HAL := Lib.hid (show al = -1 from HAE.out)
                clear hH hv8
                go_upto_region 20 with fail
                obtain rfl := HAL.out
                clear x0
                have HCMP := Lib.hid (show M.allTo k (fun q => q == j || (R q).lv != r.lv) = true → pe = (-1) from fun h => HOJ.out fun q hq => by
                  have h1 := M.allTo_iff.1 h q (by omega)
                  rw [show (q == j) = false from beq_eq_false_iff_ne.2 (by omega), Bool.false_or, bne_iff_ne] at h1
                  exact h1)
                have HZJ := Lib.hid (show j = 0 → pe = (-1) from fun h => HOJ.out fun q hq => absurd hq (by omega))
                have HLJ := Lib.hid (show (R j).lv = r.lv by rw [HRR.out])
                by_cases hp : 0 ≤ pe
                · exact absurd (HPJ.out hp).1 (by omega)
                · have q1 : decide (0 ≤ pe) = false := decide_eq_false hp
                  clear hp
                  by_cases hj0 : j = 0
                  · have q4 : ((j : Int) == 0) = true := by rw [beq_iff_eq]; omega
                    have q5 : (pe != (-1)) = false := by rw [HZJ.out hj0]; simp
                    clear hj0
                    go_wp2_with fail
                    clear z0
                    go_loopw [14, 15] (fun bo i wq => ∃ m n : Nat, m ≤ k ∧ i = .int .i64 (m : Int) ∧ bo = .bool (M.allTo m (fun q => q == j || (R q).lv != r.lv)) ∧ wq = w5.drewN n) (fun _ i _ => k - (intOf i).toNat)
                    case atStart => exact ⟨0, 0, Nat.zero_le _, rfl, rfl, rfl⟩
                    case round =>
                      obtain ⟨m, n, hm, rfl, rfl, rfl⟩ := hrel
                      have HDR := Lib.hid (show ∀ q, ∃ n'', (w5.drewN n).drewN q = w5.drewN n'' from fun q => ⟨n + q, by rw [World.drewN_drewN]⟩)
                      by_cases hlm : m < k
                      · have u1 := HXD.out m hlm n
                        have u2 := HXD.out j hlt2 n
                        rw [HLJ.out] at u2
                        have km : decide (k ≤ m) = false := decide_eq_false (by omega)
                        have HNX := Lib.hid (show M.allTo (m + 1) (fun q => q == j || (R q).lv != r.lv) = (M.allTo m (fun q => q == j || (R q).lv != r.lv) && (m == j || (R m).lv != r.lv)) from rfl)
                        obtain ⟨nv, hnv⟩ : ∃ nv, nv = M.allTo (m + 1) (fun q => q == j || (R q).lv != r.lv) := ⟨_, rfl⟩
                        obtain ⟨bv, hbv⟩ : ∃ bv, bv = M.allTo m (fun q => q == j || (R q).lv != r.lv) := ⟨_, rfl⟩
                        have HNV := Lib.hid hnv
                        rw [← hbv] at HNX
                        rw [← hnv] at HNX
                        rw [← hbv]
                        obtain ⟨lm, hlmv⟩ : ∃ lm, lm = (R m).lv := ⟨_, rfl⟩
                        rw [← hlmv] at u1 HNX
                        obtain ⟨lj, hlj⟩ : ∃ lj, lj = r.lv := ⟨_, rfl⟩
                        rw [← hlj] at u2 HNX
                        clear hnv hbv hlmv hlj
                        generalize w5.drewN n = Wn at u1 u2 HDR ⊢
                        cases bv
                        · have HVV := Lib.hid (show nv = false by rw [HNX.out]; rfl)
                          go_upto_region 26 with fail
                          go_quiet (fail)
                          go_wp2_with fail
                          go_roundw
                          case rel =>
                            obtain ⟨n'', hn''⟩ := HDR.out nq
                            exact ⟨m + 1, n'', by omega, by go_num, by rw [← HNV.out, HVV.out], hn''⟩
                          case measure => simp [intOf]; omega
                        · by_cases hmj : m = j
                          · have v1 : ((m : Int) == (j : Int)) = true := by rw [beq_iff_eq]; omega
                            have v1' : (m == j) = true := by rw [beq_iff_eq]; exact hmj
                            have HVV := Lib.hid (show nv = true by rw [HNX.out, v1']; rfl)
                            clear hmj
                            go_upto_region 26 with fail
                            go_quiet (fail)
                            go_wp2_with fail
                            go_roundw
                            case rel =>
                              obtain ⟨n'', hn''⟩ := HDR.out nq
                              exact ⟨m + 1, n'', by omega, by go_num, by rw [← HNV.out, HVV.out], hn''⟩
                            case measure => simp [intOf]; omega
                          · have v1 : ((m : Int) == (j : Int)) = false := by rw [beq_eq_false_iff_ne]; omega
                            have v1' : (m == j) = false := by rw [beq_eq_false_iff_ne]; exact hmj
                            have HVV := Lib.hid (show nv = (lm != lj) by rw [HNX.out, v1']; rfl)
                            obtain ⟨dv, hdv⟩ : ∃ dv, (lm != lj) = dv := ⟨_, rfl⟩
                            rw [hdv] at HVV
                            clear hmj
                            go_upto_region 26 with fail
                            go_quiet (fail)
                            go_wp2_with fail
                            go_roundw
                            case rel =>
                              obtain ⟨n'', hn''⟩ := HDR.out nq
                              exact ⟨m + 1, n'', by omega, by go_num, by rw [← HNV.out, HVV.out], hn''⟩
                            case measure => simp [intOf]; omega
                      · obtain rfl : m = k := by omega
                        have z0 := Z0.out n
                        have HB6 := Lib.hid (show Below Y.heap.size Y (w5.drewN n) from HW5.out.drewN n)
                        obtain ⟨bv, hbv⟩ : ∃ bv, bv = M.allTo m (fun q => q == j || (R q).lv != r.lv) := ⟨_, rfl⟩
                        have HBV := Lib.hid hbv
                        rw [← hbv]
                        clear hbv HDR
                        generalize w5.drewN n = Wn at z0 HB6 ⊢
                        cases bv
                        · go_wp2_with fail
                          go_roundw
                          case rel => exact ⟨j + 1, by omega, by go_num, HB6.out⟩
                          case measure => simp [intOf]; omega
                        · have q6 : (pe != (-1)) = false := by rw [HCMP.out HBV.out.symm]; simp
                          go_wp2_with fail
                          go_roundw
                          case rel => exact ⟨j + 1, by omega, by go_num, HB6.out⟩
                          case measure => simp [intOf]; omega
                  · have q4 : ((j : Int) == 0) = false := by rw [beq_eq_false_iff_ne]; omega
                    clear hj0
                    go_wp2_with fail
                    clear z0
                    go_loopw [14, 15] (fun bo i wq => ∃ m n : Nat, m ≤ k ∧ i = .int .i64 (m : Int) ∧ bo = .bool (M.allTo m (fun q => q == j || (R q).lv != r.lv)) ∧ wq = w5.drewN n) (fun _ i _ => k - (intOf i).toNat)
                    case atStart => exact ⟨0, 0, Nat.zero_le _, rfl, rfl, rfl⟩
                    case round =>
                      obtain ⟨m, n, hm, rfl, rfl, rfl⟩ := hrel
                      have HDR := Lib.hid (show ∀ q, ∃ n'', (w5.drewN n).drewN q = w5.drewN n'' from fun q => ⟨n + q, by rw [World.drewN_drewN]⟩)
                      by_cases hlm : m < k
                      · have u1 := HXD.out m hlm n
                        have u2 := HXD.out j hlt2 n
                        rw [HLJ.out] at u2
                        have km : decide (k ≤ m) = false := decide_eq_false (by omega)
                        have HNX := Lib.hid (show M.allTo (m + 1) (fun q => q == j || (R q).lv != r.lv) = (M.allTo m (fun q => q == j || (R q).lv != r.lv) && (m == j || (R m).lv != r.lv)) from rfl)
                        obtain ⟨nv, hnv⟩ : ∃ nv, nv = M.allTo (m + 1) (fun q => q == j || (R q).lv != r.lv) := ⟨_, rfl⟩
                        obtain ⟨bv, hbv⟩ : ∃ bv, bv = M.allTo m (fun q => q == j || (R q).lv != r.lv) := ⟨_, rfl⟩
                        have HNV := Lib.hid hnv
                        rw [← hbv] at HNX
                        rw [← hnv] at HNX
                        rw [← hbv]
                        obtain ⟨lm, hlmv⟩ : ∃ lm, lm = (R m).lv := ⟨_, rfl⟩
                        rw [← hlmv] at u1 HNX
                        obtain ⟨lj, hlj⟩ : ∃ lj, lj = r.lv := ⟨_, rfl⟩
                        rw [← hlj] at u2 HNX
                        clear hnv hbv hlmv hlj
                        generalize w5.drewN n = Wn at u1 u2 HDR ⊢
                        cases bv
                        · have HVV := Lib.hid (show nv = false by rw [HNX.out]; rfl)
                          go_upto_region 26 with fail
                          go_quiet (fail)
                          go_wp2_with fail
                          go_roundw
                          case rel =>
                            obtain ⟨n'', hn''⟩ := HDR.out nq
                            exact ⟨m + 1, n'', by omega, by go_num, by rw [← HNV.out, HVV.out], hn''⟩
                          case measure => simp [intOf]; omega
                        · by_cases hmj : m = j
                          · have v1 : ((m : Int) == (j : Int)) = true := by rw [beq_iff_eq]; omega
                            have v1' : (m == j) = true := by rw [beq_iff_eq]; exact hmj
                            have HVV := Lib.hid (show nv = true by rw [HNX.out, v1']; rfl)
                            clear hmj
                            go_upto_region 26 with fail
                            go_quiet (fail)
                            go_wp2_with fail
                            go_roundw
                            case rel =>
                              obtain ⟨n'', hn''⟩ := HDR.out nq
                              exact ⟨m + 1, n'', by omega, by go_num, by rw [← HNV.out, HVV.out], hn''⟩
                            case measure => simp [intOf]; omega
                          · have v1 : ((m : Int) == (j : Int)) = false := by rw [beq_eq_false_iff_ne]; omega
                            have v1' : (m == j) = false := by rw [beq_eq_false_iff_ne]; exact hmj
                            have HVV := Lib.hid (show nv = (lm != lj) by rw [HNX.out, v1']; rfl)
                            obtain ⟨dv, hdv⟩ : ∃ dv, (lm != lj) = dv := ⟨_, rfl⟩
                            rw [hdv] at HVV
                            clear hmj
                            go_upto_region 26 with fail
                            go_quiet (fail)
                            go_wp2_with fail
                            go_roundw
                            case rel =>
                              obtain ⟨n'', hn''⟩ := HDR.out nq
                              exact ⟨m + 1, n'', by omega, by go_num, by rw [← HNV.out, HVV.out], hn''⟩
                            case measure => simp [intOf]; omega
                      · obtain rfl : m = k := by omega
                        have z0 := Z0.out n
                        have HB6 := Lib.hid (show Below Y.heap.size Y (w5.drewN n) from HW5.out.drewN n)
                        obtain ⟨bv, hbv⟩ : ∃ bv, bv = M.allTo m (fun q => q == j || (R q).lv != r.lv) := ⟨_, rfl⟩
                        have HBV := Lib.hid hbv
                        rw [← hbv]
                        clear hbv HDR
                        generalize w5.drewN n = Wn at z0 HB6 ⊢
                        cases bv
                        · go_wp2_with fail
                          go_roundw
                          case rel => exact ⟨j + 1, by omega, by go_num, HB6.out⟩
                          case measure => simp [intOf]; omega
                        · have q6 : (pe != (-1)) = false := by rw [HCMP.out HBV.out.symm]; simp
                          go_wp2_with fail
                          go_roundw
                          case rel => exact ⟨j + 1, by omega, by go_num, HB6.out⟩
                          case measure => simp [intOf]; omega
              · rw [hH] at HER HAE
                obtain rfl : er = 0 := HER.out
                obtain ⟨hk1, hk2⟩ := hv8 hH
                have hkk : 1 ≤ kk ∧ kk ≤ 61 := by have := HTJ.out; omega
                have HAL := Lib.hid (show al = r.at_ + (kk : Int) - 1 by have h := HAE.out; simp only [if_true] at h; omega)
                have hwa : IntKind.i64.wrap (r.at_ + (kk : Int)) = r.at_ + (kk : Int) := wrapi _ (by omega)
                have hwb : wrap64 (r.at_ + (kk : Int)) = r.at_ + (kk : Int) := IntWalk.wrap64_in _ (by omega)
                have hwc : IntKind.i64.wrap (r.at_ + (kk : Int) - 1) = al := (wrapi _ (by omega)).trans HAL.out.symm
                have hwd : wrap64 (r.at_ + (kk : Int) - 1) = al := (IntWalk.wrap64_in _ (by omega)).trans HAL.out.symm
                clear hH hv8 hk1 hk2
                go_upto_region 20 with fail
                clear hwa hwb hwc hwd
                clear x0
                have HCMP := Lib.hid (show M.allTo k (fun q => q == j || (R q).lv != r.lv) = true → pe = al from fun h => HOJ.out fun q hq => by
                  have h1 := M.allTo_iff.1 h q (by omega)
                  rw [show (q == j) = false from beq_eq_false_iff_ne.2 (by omega), Bool.false_or, bne_iff_ne] at h1
                  exact h1)
                have HZJ := Lib.hid (show j = 0 → pe = al from fun h => HOJ.out fun q hq => absurd hq (by omega))
                have HLJ := Lib.hid (show (R j).lv = r.lv by rw [HRR.out])
                by_cases hp : 0 ≤ pe
                · have q1 : decide (0 ≤ pe) = true := decide_eq_true hp
                  have q2 : decide (al < 0) = false := decide_eq_false (by have := HPJ.out hp; omega)
                  have q3 : decide (pe < al) = false := decide_eq_false (by have := HPJ.out hp; omega)
                  clear hp
                  by_cases hj0 : j = 0
                  · have q4 : ((j : Int) == 0) = true := by rw [beq_iff_eq]; omega
                    have q5 : (pe != al) = false := by rw [HZJ.out hj0]; simp
                    clear hj0
                    go_wp2_with fail
                    clear z0
                    go_loopw [14, 15] (fun bo i wq => ∃ m n : Nat, m ≤ k ∧ i = .int .i64 (m : Int) ∧ bo = .bool (M.allTo m (fun q => q == j || (R q).lv != r.lv)) ∧ wq = w5.drewN n) (fun _ i _ => k - (intOf i).toNat)
                    case atStart => exact ⟨0, 0, Nat.zero_le _, rfl, rfl, rfl⟩
                    case round =>
                      obtain ⟨m, n, hm, rfl, rfl, rfl⟩ := hrel
                      have HDR := Lib.hid (show ∀ q, ∃ n'', (w5.drewN n).drewN q = w5.drewN n'' from fun q => ⟨n + q, by rw [World.drewN_drewN]⟩)
                      by_cases hlm : m < k
                      · have u1 := HXD.out m hlm n
                        have u2 := HXD.out j hlt2 n
                        rw [HLJ.out] at u2
                        have km : decide (k ≤ m) = false := decide_eq_false (by omega)
                        have HNX := Lib.hid (show M.allTo (m + 1) (fun q => q == j || (R q).lv != r.lv) = (M.allTo m (fun q => q == j || (R q).lv != r.lv) && (m == j || (R m).lv != r.lv)) from rfl)
                        obtain ⟨nv, hnv⟩ : ∃ nv, nv = M.allTo (m + 1) (fun q => q == j || (R q).lv != r.lv) := ⟨_, rfl⟩
                        obtain ⟨bv, hbv⟩ : ∃ bv, bv = M.allTo m (fun q => q == j || (R q).lv != r.lv) := ⟨_, rfl⟩
                        have HNV := Lib.hid hnv
                        rw [← hbv] at HNX
                        rw [← hnv] at HNX
                        rw [← hbv]
                        obtain ⟨lm, hlmv⟩ : ∃ lm, lm = (R m).lv := ⟨_, rfl⟩
                        rw [← hlmv] at u1 HNX
                        obtain ⟨lj, hlj⟩ : ∃ lj, lj = r.lv := ⟨_, rfl⟩
                        rw [← hlj] at u2 HNX
                        clear hnv hbv hlmv hlj
                        generalize w5.drewN n = Wn at u1 u2 HDR ⊢
                        cases bv
                        · have HVV := Lib.hid (show nv = false by rw [HNX.out]; rfl)
                          go_upto_region 26 with fail
                          go_quiet (fail)
                          go_wp2_with fail
                          go_roundw
                          case rel =>
                            obtain ⟨n'', hn''⟩ := HDR.out nq
                            exact ⟨m + 1, n'', by omega, by go_num, by rw [← HNV.out, HVV.out], hn''⟩
                          case measure => simp [intOf]; omega
                        · by_cases hmj : m = j
                          · have v1 : ((m : Int) == (j : Int)) = true := by rw [beq_iff_eq]; omega
                            have v1' : (m == j) = true := by rw [beq_iff_eq]; exact hmj
                            have HVV := Lib.hid (show nv = true by rw [HNX.out, v1']; rfl)
                            clear hmj
                            go_upto_region 26 with fail
                            go_quiet (fail)
                            go_wp2_with fail
                            go_roundw
                            case rel =>
                              obtain ⟨n'', hn''⟩ := HDR.out nq
                              exact ⟨m + 1, n'', by omega, by go_num, by rw [← HNV.out, HVV.out], hn''⟩
                            case measure => simp [intOf]; omega
                          · have v1 : ((m : Int) == (j : Int)) = false := by rw [beq_eq_false_iff_ne]; omega
                            have v1' : (m == j) = false := by rw [beq_eq_false_iff_ne]; exact hmj
                            have HVV := Lib.hid (show nv = (lm != lj) by rw [HNX.out, v1']; rfl)
                            obtain ⟨dv, hdv⟩ : ∃ dv, (lm != lj) = dv := ⟨_, rfl⟩
                            rw [hdv] at HVV
                            clear hmj
                            go_upto_region 26 with fail
                            go_quiet (fail)
                            go_wp2_with fail
                            go_roundw
                            case rel =>
                              obtain ⟨n'', hn''⟩ := HDR.out nq
                              exact ⟨m + 1, n'', by omega, by go_num, by rw [← HNV.out, HVV.out], hn''⟩
                            case measure => simp [intOf]; omega
                      · obtain rfl : m = k := by omega
                        have z0 := Z0.out n
                        have HB6 := Lib.hid (show Below Y.heap.size Y (w5.drewN n) from HW5.out.drewN n)
                        obtain ⟨bv, hbv⟩ : ∃ bv, bv = M.allTo m (fun q => q == j || (R q).lv != r.lv) := ⟨_, rfl⟩
                        have HBV := Lib.hid hbv
                        rw [← hbv]
                        clear hbv HDR
                        generalize w5.drewN n = Wn at z0 HB6 ⊢
                        cases bv
                        · go_wp2_with fail
                          go_roundw
                          case rel => exact ⟨j + 1, by omega, by go_num, HB6.out⟩
                          case measure => simp [intOf]; omega
                        · have q6 : (pe != al) = false := by rw [HCMP.out HBV.out.symm]; simp
                          go_wp2_with fail
                          go_roundw
                          case rel => exact ⟨j + 1, by omega, by go_num, HB6.out⟩
                          case measure => simp [intOf]; omega
                  · have q4 : ((j : Int) == 0) = false := by rw [beq_eq_false_iff_ne]; omega
                    clear hj0
                    go_wp2_with fail
                    clear z0
                    go_loopw [14, 15] (fun bo i wq => ∃ m n : Nat, m ≤ k ∧ i = .int .i64 (m : Int) ∧ bo = .bool (M.allTo m (fun q => q == j || (R q).lv != r.lv)) ∧ wq = w5.drewN n) (fun _ i _ => k - (intOf i).toNat)
                    case atStart => exact ⟨0, 0, Nat.zero_le _, rfl, rfl, rfl⟩
                    case round =>
                      obtain ⟨m, n, hm, rfl, rfl, rfl⟩ := hrel
                      have HDR := Lib.hid (show ∀ q, ∃ n'', (w5.drewN n).drewN q = w5.drewN n'' from fun q => ⟨n + q, by rw [World.drewN_drewN]⟩)
                      by_cases hlm : m < k
                      · have u1 := HXD.out m hlm n
                        have u2 := HXD.out j hlt2 n
                        rw [HLJ.out] at u2
                        have km : decide (k ≤ m) = false := decide_eq_false (by omega)
                        have HNX := Lib.hid (show M.allTo (m + 1) (fun q => q == j || (R q).lv != r.lv) = (M.allTo m (fun q => q == j || (R q).lv != r.lv) && (m == j || (R m).lv != r.lv)) from rfl)
                        obtain ⟨nv, hnv⟩ : ∃ nv, nv = M.allTo (m + 1) (fun q => q == j || (R q).lv != r.lv) := ⟨_, rfl⟩
                        obtain ⟨bv, hbv⟩ : ∃ bv, bv = M.allTo m (fun q => q == j || (R q).lv != r.lv) := ⟨_, rfl⟩
                        have HNV := Lib.hid hnv
                        rw [← hbv] at HNX
                        rw [← hnv] at HNX
                        rw [← hbv]
                        obtain ⟨lm, hlmv⟩ : ∃ lm, lm = (R m).lv := ⟨_, rfl⟩
                        rw [← hlmv] at u1 HNX
                        obtain ⟨lj, hlj⟩ : ∃ lj, lj = r.lv := ⟨_, rfl⟩
                        rw [← hlj] at u2 HNX
                        clear hnv hbv hlmv hlj
                        generalize w5.drewN n = Wn at u1 u2 HDR ⊢
                        cases bv
                        · have HVV := Lib.hid (show nv = false by rw [HNX.out]; rfl)
                          go_upto_region 26 with fail
                          go_quiet (fail)
                          go_wp2_with fail
                          go_roundw
                          case rel =>
                            obtain ⟨n'', hn''⟩ := HDR.out nq
                            exact ⟨m + 1, n'', by omega, by go_num, by rw [← HNV.out, HVV.out], hn''⟩
                          case measure => simp [intOf]; omega
                        · by_cases hmj : m = j
                          · have v1 : ((m : Int) == (j : Int)) = true := by rw [beq_iff_eq]; omega
                            have v1' : (m == j) = true := by rw [beq_iff_eq]; exact hmj
                            have HVV := Lib.hid (show nv = true by rw [HNX.out, v1']; rfl)
                            clear hmj
                            go_upto_region 26 with fail
                            go_quiet (fail)
                            go_wp2_with fail
                            go_roundw
                            case rel =>
                              obtain ⟨n'', hn''⟩ := HDR.out nq
                              exact ⟨m + 1, n'', by omega, by go_num, by rw [← HNV.out, HVV.out], hn''⟩
                            case measure => simp [intOf]; omega
                          · have v1 : ((m : Int) == (j : Int)) = false := by rw [beq_eq_false_iff_ne]; omega
                            have v1' : (m == j) = false := by rw [beq_eq_false_iff_ne]; exact hmj
                            have HVV := Lib.hid (show nv = (lm != lj) by rw [HNX.out, v1']; rfl)
                            obtain ⟨dv, hdv⟩ : ∃ dv, (lm != lj) = dv := ⟨_, rfl⟩
                            rw [hdv] at HVV
                            clear hmj
                            go_upto_region 26 with fail
                            go_quiet (fail)
                            go_wp2_with fail
                            go_roundw
                            case rel =>
                              obtain ⟨n'', hn''⟩ := HDR.out nq
                              exact ⟨m + 1, n'', by omega, by go_num, by rw [← HNV.out, HVV.out], hn''⟩
                            case measure => simp [intOf]; omega
                      · obtain rfl : m = k := by omega
                        have z0 := Z0.out n
                        have HB6 := Lib.hid (show Below Y.heap.size Y (w5.drewN n) from HW5.out.drewN n)
                        obtain ⟨bv, hbv⟩ : ∃ bv, bv = M.allTo m (fun q => q == j || (R q).lv != r.lv) := ⟨_, rfl⟩
                        have HBV := Lib.hid hbv
                        rw [← hbv]
                        clear hbv HDR
                        generalize w5.drewN n = Wn at z0 HB6 ⊢
                        cases bv
                        · go_wp2_with fail
                          go_roundw
                          case rel => exact ⟨j + 1, by omega, by go_num, HB6.out⟩
                          case measure => simp [intOf]; omega
                        · have q6 : (pe != al) = false := by rw [HCMP.out HBV.out.symm]; simp
                          go_wp2_with fail
                          go_roundw
                          case rel => exact ⟨j + 1, by omega, by go_num, HB6.out⟩
                          case measure => simp [intOf]; omega
                · have q1 : decide (0 ≤ pe) = false := decide_eq_false hp
                  clear hp
                  by_cases hj0 : j = 0
                  · have q4 : ((j : Int) == 0) = true := by rw [beq_iff_eq]; omega
                    have q5 : (pe != al) = false := by rw [HZJ.out hj0]; simp
                    clear hj0
                    go_wp2_with fail
                    clear z0
                    go_loopw [14, 15] (fun bo i wq => ∃ m n : Nat, m ≤ k ∧ i = .int .i64 (m : Int) ∧ bo = .bool (M.allTo m (fun q => q == j || (R q).lv != r.lv)) ∧ wq = w5.drewN n) (fun _ i _ => k - (intOf i).toNat)
                    case atStart => exact ⟨0, 0, Nat.zero_le _, rfl, rfl, rfl⟩
                    case round =>
                      obtain ⟨m, n, hm, rfl, rfl, rfl⟩ := hrel
                      have HDR := Lib.hid (show ∀ q, ∃ n'', (w5.drewN n).drewN q = w5.drewN n'' from fun q => ⟨n + q, by rw [World.drewN_drewN]⟩)
                      by_cases hlm : m < k
                      · have u1 := HXD.out m hlm n
                        have u2 := HXD.out j hlt2 n
                        rw [HLJ.out] at u2
                        have km : decide (k ≤ m) = false := decide_eq_false (by omega)
                        have HNX := Lib.hid (show M.allTo (m + 1) (fun q => q == j || (R q).lv != r.lv) = (M.allTo m (fun q => q == j || (R q).lv != r.lv) && (m == j || (R m).lv != r.lv)) from rfl)
                        obtain ⟨nv, hnv⟩ : ∃ nv, nv = M.allTo (m + 1) (fun q => q == j || (R q).lv != r.lv) := ⟨_, rfl⟩
                        obtain ⟨bv, hbv⟩ : ∃ bv, bv = M.allTo m (fun q => q == j || (R q).lv != r.lv) := ⟨_, rfl⟩
                        have HNV := Lib.hid hnv
                        rw [← hbv] at HNX
                        rw [← hnv] at HNX
                        rw [← hbv]
                        obtain ⟨lm, hlmv⟩ : ∃ lm, lm = (R m).lv := ⟨_, rfl⟩
                        rw [← hlmv] at u1 HNX
                        obtain ⟨lj, hlj⟩ : ∃ lj, lj = r.lv := ⟨_, rfl⟩
                        rw [← hlj] at u2 HNX
                        clear hnv hbv hlmv hlj
                        generalize w5.drewN n = Wn at u1 u2 HDR ⊢
                        cases bv
                        · have HVV := Lib.hid (show nv = false by rw [HNX.out]; rfl)
                          go_upto_region 26 with fail
                          go_quiet (fail)
                          go_wp2_with fail
                          go_roundw
                          case rel =>
                            obtain ⟨n'', hn''⟩ := HDR.out nq
                            exact ⟨m + 1, n'', by omega, by go_num, by rw [← HNV.out, HVV.out], hn''⟩
                          case measure => simp [intOf]; omega
                        · by_cases hmj : m = j
                          · have v1 : ((m : Int) == (j : Int)) = true := by rw [beq_iff_eq]; omega
                            have v1' : (m == j) = true := by rw [beq_iff_eq]; exact hmj
                            have HVV := Lib.hid (show nv = true by rw [HNX.out, v1']; rfl)
                            clear hmj
                            go_upto_region 26 with fail
                            go_quiet (fail)
                            go_wp2_with fail
                            go_roundw
                            case rel =>
                              obtain ⟨n'', hn''⟩ := HDR.out nq
                              exact ⟨m + 1, n'', by omega, by go_num, by rw [← HNV.out, HVV.out], hn''⟩
                            case measure => simp [intOf]; omega
                          · have v1 : ((m : Int) == (j : Int)) = false := by rw [beq_eq_false_iff_ne]; omega
                            have v1' : (m == j) = false := by rw [beq_eq_false_iff_ne]; exact hmj
                            have HVV := Lib.hid (show nv = (lm != lj) by rw [HNX.out, v1']; rfl)
                            obtain ⟨dv, hdv⟩ : ∃ dv, (lm != lj) = dv := ⟨_, rfl⟩
                            rw [hdv] at HVV
                            clear hmj
                            go_upto_region 26 with fail
                            go_quiet (fail)
                            go_wp2_with fail
                            go_roundw
                            case rel =>
                              obtain ⟨n'', hn''⟩ := HDR.out nq
                              exact ⟨m + 1, n'', by omega, by go_num, by rw [← HNV.out, HVV.out], hn''⟩
                            case measure => simp [intOf]; omega
                      · obtain rfl : m = k := by omega
                        have z0 := Z0.out n
                        have HB6 := Lib.hid (show Below Y.heap.size Y (w5.drewN n) from HW5.out.drewN n)
                        obtain ⟨bv, hbv⟩ : ∃ bv, bv = M.allTo m (fun q => q == j || (R q).lv != r.lv) := ⟨_, rfl⟩
                        have HBV := Lib.hid hbv
                        rw [← hbv]
                        clear hbv HDR
                        generalize w5.drewN n = Wn at z0 HB6 ⊢
                        cases bv
                        · go_wp2_with fail
                          go_roundw
                          case rel => exact ⟨j + 1, by omega, by go_num, HB6.out⟩
                          case measure => simp [intOf]; omega
                        · have q6 : (pe != al) = false := by rw [HCMP.out HBV.out.symm]; simp
                          go_wp2_with fail
                          go_roundw
                          case rel => exact ⟨j + 1, by omega, by go_num, HB6.out⟩
                          case measure => simp [intOf]; omega
                  · have q4 : ((j : Int) == 0) = false := by rw [beq_eq_false_iff_ne]; omega
                    clear hj0
                    go_wp2_with fail
                    clear z0
                    go_loopw [14, 15] (fun bo i wq => ∃ m n : Nat, m ≤ k ∧ i = .int .i64 (m : Int) ∧ bo = .bool (M.allTo m (fun q => q == j || (R q).lv != r.lv)) ∧ wq = w5.drewN n) (fun _ i _ => k - (intOf i).toNat)
                    case atStart => exact ⟨0, 0, Nat.zero_le _, rfl, rfl, rfl⟩
                    case round =>
                      obtain ⟨m, n, hm, rfl, rfl, rfl⟩ := hrel
                      have HDR := Lib.hid (show ∀ q, ∃ n'', (w5.drewN n).drewN q = w5.drewN n'' from fun q => ⟨n + q, by rw [World.drewN_drewN]⟩)
                      by_cases hlm : m < k
                      · have u1 := HXD.out m hlm n
                        have u2 := HXD.out j hlt2 n
                        rw [HLJ.out] at u2
                        have km : decide (k ≤ m) = false := decide_eq_false (by omega)
                        have HNX := Lib.hid (show M.allTo (m + 1) (fun q => q == j || (R q).lv != r.lv) = (M.allTo m (fun q => q == j || (R q).lv != r.lv) && (m == j || (R m).lv != r.lv)) from rfl)
                        obtain ⟨nv, hnv⟩ : ∃ nv, nv = M.allTo (m + 1) (fun q => q == j || (R q).lv != r.lv) := ⟨_, rfl⟩
                        obtain ⟨bv, hbv⟩ : ∃ bv, bv = M.allTo m (fun q => q == j || (R q).lv != r.lv) := ⟨_, rfl⟩
                        have HNV := Lib.hid hnv
                        rw [← hbv] at HNX
                        rw [← hnv] at HNX
                        rw [← hbv]
                        obtain ⟨lm, hlmv⟩ : ∃ lm, lm = (R m).lv := ⟨_, rfl⟩
                        rw [← hlmv] at u1 HNX
                        obtain ⟨lj, hlj⟩ : ∃ lj, lj = r.lv := ⟨_, rfl⟩
                        rw [← hlj] at u2 HNX
                        clear hnv hbv hlmv hlj
                        generalize w5.drewN n = Wn at u1 u2 HDR ⊢
                        cases bv
                        · have HVV := Lib.hid (show nv = false by rw [HNX.out]; rfl)
                          go_upto_region 26 with fail
                          go_quiet (fail)
                          go_wp2_with fail
                          go_roundw
                          case rel =>
                            obtain ⟨n'', hn''⟩ := HDR.out nq
                            exact ⟨m + 1, n'', by omega, by go_num, by rw [← HNV.out, HVV.out], hn''⟩
                          case measure => simp [intOf]; omega
                        · by_cases hmj : m = j
                          · have v1 : ((m : Int) == (j : Int)) = true := by rw [beq_iff_eq]; omega
                            have v1' : (m == j) = true := by rw [beq_iff_eq]; exact hmj
                            have HVV := Lib.hid (show nv = true by rw [HNX.out, v1']; rfl)
                            clear hmj
                            go_upto_region 26 with fail
                            go_quiet (fail)
                            go_wp2_with fail
                            go_roundw
                            case rel =>
                              obtain ⟨n'', hn''⟩ := HDR.out nq
                              exact ⟨m + 1, n'', by omega, by go_num, by rw [← HNV.out, HVV.out], hn''⟩
                            case measure => simp [intOf]; omega
                          · have v1 : ((m : Int) == (j : Int)) = false := by rw [beq_eq_false_iff_ne]; omega
                            have v1' : (m == j) = false := by rw [beq_eq_false_iff_ne]; exact hmj
                            have HVV := Lib.hid (show nv = (lm != lj) by rw [HNX.out, v1']; rfl)
                            obtain ⟨dv, hdv⟩ : ∃ dv, (lm != lj) = dv := ⟨_, rfl⟩
                            rw [hdv] at HVV
                            clear hmj
                            go_upto_region 26 with fail
                            go_quiet (fail)
                            go_wp2_with fail
                            go_roundw
                            case rel =>
                              obtain ⟨n'', hn''⟩ := HDR.out nq
                              exact ⟨m + 1, n'', by omega, by go_num, by rw [← HNV.out, HVV.out], hn''⟩
                            case measure => simp [intOf]; omega
                      · obtain rfl : m = k := by omega
                        have z0 := Z0.out n
                        have HB6 := Lib.hid (show Below Y.heap.size Y (w5.drewN n) from HW5.out.drewN n)
                        obtain ⟨bv, hbv⟩ : ∃ bv, bv = M.allTo m (fun q => q == j || (R q).lv != r.lv) := ⟨_, rfl⟩
                        have HBV := Lib.hid hbv
                        rw [← hbv]
                        clear hbv HDR
                        generalize w5.drewN n = Wn at z0 HB6 ⊢
                        cases bv
                        · go_wp2_with fail
                          go_roundw
                          case rel => exact ⟨j + 1, by omega, by go_num, HB6.out⟩
                          case measure => simp [intOf]; omega
                        · have q6 : (pe != al) = false := by rw [HCMP.out HBV.out.symm]; simp
                          go_wp2_with fail
                          go_roundw
                          case rel => exact ⟨j + 1, by omega, by go_num, HB6.out⟩
                          case measure => simp [intOf]; omega
            · obtain rfl : j = k := by omega
              go_wp2_with (go_at_call 13; go_must (refine (HWO.out _ HR.out).mono ?_); rintro e w9 ⟨rfl, hb9⟩; have HB9 := Lib.hid (HR.out.trans (hb9.mono HR.out.size)); clear hb9)
              go_ret
              exact ⟨rfl, HB9.out⟩
end
end Go.Proofs.YtkdpmihdhiokkaaDoor
