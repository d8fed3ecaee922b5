/- The program's Short. -/
import Derived.Test.YtaljmlkapbojeaaDoorTMath
import Derived.Test.YtaljmlkapbojeaaDoorD2
import Derived.Test.YtaljmlkapbojeaaDoorG10
import Derived.Test.YtaljmlkapbojeaaDoorS1
import Derived.Lib.SliceRun
namespace Go.Proofs.YtaljmlkapbojeaaDoor
open Go.RowKit

def ShortV (w : World) (gn bn : Nat) (G H : Nat → Nat → Int) (e : Ending) (w' : World) : Prop :=
  ∃ v, e = .returned (.tuple #[v, .int .i64 (shortE gn bn G H)]) ∧ Own w' w.heap.size 3 1 v (listOf bn (shortS gn bn G H)).length (ints (nats (listOf bn (shortS gn bn G H))))
theorem nil_nil (W : World) : (binOp .eql 33 (.slice none 0 0) (.slice none 0 0)).run Tryd.prog W = .ok (.bool true) W := Lib.run_eql_slice_nil W _ _ none 0 0 0 0 Tryd.underlying33
theorem some_nil (W : World) (a : Addr) (l c : Nat) : (binOp .eql 33 (.slice (some a) l c) (.slice none 0 0)).run Tryd.prog W = .ok (.bool false) W := Lib.run_eql_slice_nil W _ _ (some a) l c 0 0 Tryd.underlying33
/-- the best list so far -/
def BestV (wr : World) (base bn : Nat) (o : Option Nat) (v : Value) : Prop :=
  match o with
  | none => v = .slice none 0 0
  | some t => ∃ g c, v = .slice (some ⟨g, 0, none⟩) (M.elL bn t).length c ∧ Own wr base 3 1 v (M.elL bn t).length (ints (nats (M.elL bn t)))
theorem BestV.below {wr w' : World} {base bn : Nat} {o : Option Nat} {v : Value} (h : BestV wr base bn o v) (hb : Below wr.heap.size wr w') : BestV w' base bn o v := by
  cases o with
  | none => exact h
  | some t => obtain ⟨g, c, h1, h2⟩ := h; exact ⟨g, c, h1, h2.below hb⟩
theorem BestV.own {wr : World} {base bn : Nat} {o : Option Nat} {v : Value} (h : BestV wr base bn o v) : Own wr base 3 1 v (listOf bn o).length (ints (nats (listOf bn o))) := by
  cases o with
  | none => rw [show v = .slice none 0 0 from h]; exact Own.nil_
  | some t => obtain ⟨g, c, h1, h2⟩ := h; exact h2
theorem elL_pos {n s : Nat} (hs : s < 2 ^ n) (h0 : s ≠ 0) (hn : n ≤ 62) : 0 < (M.elL n s).length := by
  rw [(M.elL_next hs h0 hn).2.1]; simp

set_option maxRecDepth 100000 in
set_option maxHeartbeats 2000000 in
theorem gshort_bad (gA bA : Option Addr) (gn gc bn bc B : Nat) (G H : Nat → Nat → Int) (w : World) (hg : gn ≤ maxLen) (hb : bn ≤ maxLen) (hR : BookRd w B gA gn G bA bn H) (hB : B ≤ w.heap.size) (hok : M.okF gn bn G H = false) :
    Calls Tryd.prog 12 #[.agg #[.slice gA gn gc, .slice bA bn bc]] w fun e w' => ShortV w gn bn G H e w' ∧ Below w.heap.size w w' := by
  go_enter Tryd.func12, Tryd.ntmps12
  go_wp2_with (go_at_call 25; go_must (refine (open_bad _ _ _ _ _ _ B _ _ _ hg hb (by exact hR.below ((belowAlloc _ _).mono hB)) (by simp; omega) hok).mono ?_); rintro e w1 ⟨rfl, hb1⟩; have HB1 := Lib.hid hb1; clear hb1)
  go_ret2
  exact ⟨⟨.slice none 0 0, by simp [shortE, hok], by rw [show shortS gn bn G H = none by simp [shortS, hok]]; exact Own.nil_⟩, ((belowAlloc _ _).trans (HB1.out.mono (by simp))).alloc (by have := HB1.out.size; simp at this; omega) _⟩

set_option maxRecDepth 100000 in
set_option maxHeartbeats 4000000 in
theorem gshort_ok (gA bA : Option Addr) (gn gc bn bc B : Nat) (G H : Nat → Nat → Int) (w : World) (hR : BookRd w B gA gn G bA bn H) (hB : B ≤ w.heap.size) (hok : M.okF gn bn G H = true) (hT : TabAt 1 Lib.deBruijn64tab w) (hG : 1 < w.heap.size) :
    Calls Tryd.prog 12 #[.agg #[.slice gA gn gc, .slice bA bn bc]] w fun e w' => ShortV w gn bn G H e w' ∧ Below w.heap.size w w' := by
  have ok : Ok gn bn G H := M.okF_iff.1 hok
  have hbn := ok.2.1
  have hp8 : 2 ^ bn ≤ 2 ^ 8 := Nat.pow_le_pow_right (by omega) hbn
  have hn0 := nil_nil
  have hn1 := some_nil
  have SB := Lib.hid (spare_bd ok)
  have LK := Lib.hid (lok_of ok)
  have HT := Lib.hid hT
  have HSE := Lib.hid (show shortE gn bn G H = if M.lackTo gn bn G H (2 ^ bn) = none then 3 else 0 by simp [shortE, hok])
  have HSS := Lib.hid (show shortS gn bn G H = M.lackTo gn bn G H (2 ^ bn) by simp [shortS, hok])
  obtain ⟨q, hq⟩ : ∃ q, q = 2 ^ bn := ⟨_, rfl⟩
  rw [← hq] at hp8 HSE HSS
  have HQ := Lib.hid hq
  clear hq hT ok
  go_enter Tryd.func12, Tryd.ntmps12
  go_wp2_with (first | (go_at_call 25; go_must (refine (open_ok _ _ _ _ _ _ B _ _ _ hok (by exact hR.below ((belowAlloc _ _).mono hB)) (by simp; omega)).mono ?_); rintro e w1 ⟨v1, v2, v3, rfl, hl, hb1⟩; obtain ⟨A1, c1, A2, c2, A3, c3, rfl, rfl, rfl, hrd⟩ := hl.rd; have HB1 := Lib.hid hb1; have HRD := Lib.hid hrd; clear hb1 hrd hl) | (go_at_call 30; refine (sets_any _ _ _ _ _ _ _ _ _ _ hbn).mono ?_; rw [← HQ.out]; rintro e w2 ⟨rfl, hb2⟩; have HB2 := Lib.hid hb2; clear hb2))
  have hs1 : w.heap.size + 1 ≤ w1.heap.size := by have := HB1.out.size; simpa using this
  have hs2 : w1.heap.size + 1 ≤ w2.heap.size := by have := HB2.out.size; simpa using this
  have K2 := Lib.hid ((Blk.new w1 64 #[.slice A1 gn c1, .slice A2 bn c2, .slice A3 bn c3]).below HB2.out (by simp))
  have R2 := Lib.hid (HRD.out.below ((belowAlloc w1 (.cells #[.slice A1 gn c1, .slice A2 bn c2, .slice A3 bn c3] 64)).trans (HB2.out.mono (by simp))))
  have W2 := Lib.hid (((belowAlloc w (.cells #[.slice gA gn gc, .slice bA bn bc] 25)).trans (HB1.out.mono (by simp))).trans (((belowAlloc w1 (.cells #[.slice A1 gn c1, .slice A2 bn c2, .slice A3 bn c3] 64)).trans (HB2.out.mono (by simp))).mono (by omega)))
  obtain ⟨D, hD⟩ : ∃ D, D = w1.heap.size := ⟨_, rfl⟩
  rw [← hD] at K2 R2 hs1 hs2 ⊢
  clear HB1 HB2 HRD hR hD
  go_loopw [6, 21] (fun v i wr => ∃ s : Nat, s ≤ q ∧ i = .int .i64 s ∧ BestV wr w.heap.size bn (M.lackTo gn bn G H s) v ∧ Below w2.heap.size w2 wr) (fun _ i _ => q - (intOf i).toNat)
  case atStart => exact ⟨0, Nat.zero_le _, rfl, rfl, Below.refl _ _⟩
  case round =>
    obtain ⟨s, hs, rfl, hv, hbw⟩ := hrel
    have HV := Lib.hid hv
    have HB := Lib.hid hbw
    have hz := hbw.size
    have k2 := K2.out.below hbw K2.out.lt
    have b0 := k2.cell 0
    have b1 := k2.cell 1
    have b2 := k2.cell 2
    have HWR := Lib.hid (W2.out.trans (hbw.mono (by omega)))
    have HRD := Lib.hid (R2.out.below (hbw.mono (by omega)))
    by_cases hlt : s < q
    · have hsq : s < 2 ^ bn := by rw [← HQ.out]; exact hlt
      have hm : M.moneyF gn bn (s0 G H gn).L (s0 G H gn).N (s0 G H gn).U s = M.spareF gn bn G H s := money_spare s
      have hyb := SB.out s
      obtain ⟨y, hy⟩ : ∃ y, y = M.spareF gn bn G H s := ⟨_, rfl⟩
      rw [← hy] at hm hyb
      have HM := Lib.hid hm
      have HY := Lib.hid hy
      clear hm hy hbw hv k2
      by_cases hy0 : 0 ≤ y
      · have HK := Lib.hid (lack_keep (gn := gn) (bn := bn) (G := G) (H := H) (s := s) (by rw [← HY.out]; exact hy0))
        go_wp2_with (go_at_call 31; refine (lspare_any _ _ _ _ _ _ _ _ D _ _ _ _ _ LK.out (by exact HRD.out) (by omega)).mono ?_; rw [HM.out]; rintro e w3 ⟨rfl, hb3⟩; have HB3 := Lib.hid hb3; clear hb3)
        go_roundw
        case rel => exact ⟨s + 1, by omega, by go_num, by rw [HK.out]; exact HV.out.below HB3.out, HB.out.trans (HB3.out.mono hz)⟩
        case measure => simp [intOf]; omega
      · have hs0 : s ≠ 0 := fun e => by subst e; rw [HY.out, show ((0 : Nat) : Int) = 0 from rfl, spare_zero] at hy0; omega
        have hpos := elL_pos hsq hs0 (by omega)
        have HP := Lib.hid hpos
        have hlen := M.elL_len bn s
        have HN := Lib.hid (show M.spareF gn bn G H s < 0 by rw [← HY.out]; omega)
        clear hpos
        have hneg := HN.out
        cases h0 : M.lackTo gn bn G H s with
        | none =>
          have hv := HV.out
          rw [h0] at hv
          obtain rfl := (show _ = _ from hv)
          have HK := Lib.hid (lack_first hneg h0)
          clear h0 hneg hv HV
          go_wp2_with (first | (go_at_call 31; refine (lspare_any _ _ _ _ _ _ _ _ D _ _ _ _ _ LK.out (by exact HRD.out) (by omega)).mono ?_; rw [HM.out]; rintro e w3 ⟨rfl, hb3⟩; have HB3 := Lib.hid (HB.out.trans (hb3.mono hz)); clear hb3) | (go_at_call 32; go_must (refine (elements_any bn s hsq (by omega) _ (TabAt.below (g := 1) (tab := Lib.deBruijn64tab) (w := w) HT.out (W2.out.trans (HB3.out.mono (by omega))) hG) (by have := HB3.out.size; omega)).mono ?_); rintro e w4 ⟨⟨v4, rfl, ho4⟩, hb4⟩; obtain ⟨g4, c4, rfl⟩ := ho4.nz HP.out; have HO4 := Lib.hid ho4;  have HB4 := Lib.hid (HB3.out.trans (hb4.mono HB3.out.size)); have hz34 := hb4.size; clear ho4 hb4))
          go_roundw
          case rel => exact ⟨s + 1, by omega, by go_num, by rw [HK.out]; exact ⟨g4, c4, rfl, HO4.out.less (by have := HB3.out.size; omega)⟩, HB4.out⟩
          case measure => simp [intOf]; omega
        | some t =>
          have hv := HV.out
          rw [h0] at hv
          obtain ⟨g5, c5, rfl, ho5⟩ := hv
          have H5 := Lib.hid ho5
          have H0 := Lib.hid h0
          have HNG := Lib.hid hneg
          have hlt5 := M.elL_len bn t
          clear h0 hneg ho5 HV
          rcases Nat.lt_trichotomy (M.elL bn s).length (M.elL bn t).length with hab | hab | hab
          · have HK := Lib.hid (lack_sooner HNG.out H0.out (soonS_lt hab))
            have e1 : decide ((M.elL bn s).length < (M.elL bn t).length) = true := decide_eq_true hab
            clear hab
            go_wp2_with (first | (go_at_call 31; refine (lspare_any _ _ _ _ _ _ _ _ D _ _ _ _ _ LK.out (by exact HRD.out) (by omega)).mono ?_; rw [HM.out]; rintro e w3 ⟨rfl, hb3⟩; have H53 := Lib.hid (H5.out.below hb3);have HB3 := Lib.hid (HB.out.trans (hb3.mono hz)); clear hb3) | (go_at_call 32; go_must (refine (elements_any bn s hsq (by omega) _ (TabAt.below (g := 1) (tab := Lib.deBruijn64tab) (w := w) HT.out (W2.out.trans (HB3.out.mono (by omega))) hG) (by have := HB3.out.size; omega)).mono ?_); rintro e w4 ⟨⟨v4, rfl, ho4⟩, hb4⟩; obtain ⟨g4, c4, rfl⟩ := ho4.nz HP.out; have HO4 := Lib.hid ho4; have H54 := Lib.hid (H53.out.below hb4); have HB4 := Lib.hid (HB3.out.trans (hb4.mono HB3.out.size)); have hz34 := hb4.size; clear ho4 hb4))
            go_roundw
            case rel => exact ⟨s + 1, by omega, by go_num, by rw [HK.out]; exact ⟨g4, c4, rfl, HO4.out.less (by have := HB3.out.size; omega)⟩, HB4.out⟩
            case measure => simp [intOf]; omega
          · cases hc : M.cmpTo (nats (M.elL bn s)) (nats (M.elL bn t)) (M.elL bn s).length with
            | none =>
              have HK := Lib.hid (lack_later H0.out (by unfold M.soonS M.soonB; rw [if_pos hab]; unfold nats at hc; rw [hc]; rfl))
              have HC := Lib.hid (congrArg M.cmpI hc)
              have HAB := Lib.hid hab
              obtain ⟨n1, hn1⟩ : ∃ n1, n1 = (M.elL bn s).length := ⟨_, rfl⟩
              have hab2 : (M.elL bn t).length = n1 := by rw [hn1, hab]
              rw [hab2] at H5 hlt5 ⊢
              rw [← hn1] at HP HC hlen
              have HN1 := Lib.hid hn1
              have HAB2 := Lib.hid hab2
              clear hc hab hab2 hn1
              go_wp2_with (first | (go_at_call 31; refine (lspare_any _ _ _ _ _ _ _ _ D _ _ _ _ _ LK.out (by exact HRD.out) (by omega)).mono ?_; rw [HM.out]; rintro e w3 ⟨rfl, hb3⟩; have H53 := Lib.hid (H5.out.below hb3);have HB3 := Lib.hid (HB.out.trans (hb3.mono hz)); clear hb3) | (go_at_call 32; go_must (refine (elements_any bn s hsq (by omega) _ (TabAt.below (g := 1) (tab := Lib.deBruijn64tab) (w := w) HT.out (W2.out.trans (HB3.out.mono (by omega))) hG) (by have := HB3.out.size; omega)).mono ?_); rintro e w4 ⟨⟨v4, rfl, ho4⟩, hb4⟩; rw [← HN1.out] at ho4; obtain ⟨g4, c4, rfl⟩ := ho4.nz HP.out; have HO4 := Lib.hid ho4; have H54 := Lib.hid (H53.out.below hb4); have HB4 := Lib.hid (HB3.out.trans (hb4.mono HB3.out.size)); have hz34 := hb4.size; obtain ⟨B4, d4, be4, hm4⟩ := ho4.rd1; injection be4 with be4 _ be4c; subst be4 be4c; have R4 := Lib.hid hm4; obtain ⟨B5, d5, be5, hm5⟩ := H54.out.rd1; injection be5 with be5 _ be5c; subst be5 be5c; have R54 := Lib.hid hm5; clear ho4 hb4 hm4 hm5) | (go_at_call 33; go_must (refine (compare_any (some ⟨g4, 0, none⟩) (some ⟨g5, 0, none⟩) _ _ _ w4.heap.size (nats (M.elL bn s)) (nats (M.elL bn t)) _ (by omega) R4.out R54.out (Nat.le_refl _)).mono ?_); rw [HC.out]; rintro e w6 ⟨rfl, rfl⟩))
              go_roundw
              case rel => exact ⟨s + 1, by omega, by go_num, by rw [HK.out]; exact ⟨g5, c5, by rw [HAB2.out], by rw [HAB2.out]; exact H54.out⟩, HB4.out⟩
              case measure => simp [intOf]; omega
            | some x =>
              cases x with
              | true =>
                have HK := Lib.hid (lack_sooner HNG.out H0.out (by unfold M.soonS M.soonB; rw [if_pos hab]; unfold nats at hc; rw [hc]; rfl))
                have HC := Lib.hid (congrArg M.cmpI hc)
                have HAB := Lib.hid hab
                obtain ⟨n1, hn1⟩ : ∃ n1, n1 = (M.elL bn s).length := ⟨_, rfl⟩
                have hab2 : (M.elL bn t).length = n1 := by rw [hn1, hab]
                rw [hab2] at H5 hlt5 ⊢
                rw [← hn1] at HP HC hlen
                have HN1 := Lib.hid hn1
                have HAB2 := Lib.hid hab2
                clear hc hab hab2 hn1
                go_wp2_with (first | (go_at_call 31; refine (lspare_any _ _ _ _ _ _ _ _ D _ _ _ _ _ LK.out (by exact HRD.out) (by omega)).mono ?_; rw [HM.out]; rintro e w3 ⟨rfl, hb3⟩; have H53 := Lib.hid (H5.out.below hb3);have HB3 := Lib.hid (HB.out.trans (hb3.mono hz)); clear hb3) | (go_at_call 32; go_must (refine (elements_any bn s hsq (by omega) _ (TabAt.below (g := 1) (tab := Lib.deBruijn64tab) (w := w) HT.out (W2.out.trans (HB3.out.mono (by omega))) hG) (by have := HB3.out.size; omega)).mono ?_); rintro e w4 ⟨⟨v4, rfl, ho4⟩, hb4⟩; rw [← HN1.out] at ho4; obtain ⟨g4, c4, rfl⟩ := ho4.nz HP.out; have HO4 := Lib.hid ho4; have H54 := Lib.hid (H53.out.below hb4); have HB4 := Lib.hid (HB3.out.trans (hb4.mono HB3.out.size)); have hz34 := hb4.size; obtain ⟨B4, d4, be4, hm4⟩ := ho4.rd1; injection be4 with be4 _ be4c; subst be4 be4c; have R4 := Lib.hid hm4; obtain ⟨B5, d5, be5, hm5⟩ := H54.out.rd1; injection be5 with be5 _ be5c; subst be5 be5c; have R54 := Lib.hid hm5; clear ho4 hb4 hm4 hm5) | (go_at_call 33; go_must (refine (compare_any (some ⟨g4, 0, none⟩) (some ⟨g5, 0, none⟩) _ _ _ w4.heap.size (nats (M.elL bn s)) (nats (M.elL bn t)) _ (by omega) R4.out R54.out (Nat.le_refl _)).mono ?_); rw [HC.out]; rintro e w6 ⟨rfl, rfl⟩))
                go_roundw
                case rel => exact ⟨s + 1, by omega, by go_num, by rw [HK.out]; exact ⟨g4, c4, by rw [← HN1.out], by rw [← HN1.out]; exact HO4.out.less (by have := HB3.out.size; omega)⟩, HB4.out⟩
                case measure => simp [intOf]; omega
              | false =>
                have HK := Lib.hid (lack_later H0.out (by unfold M.soonS M.soonB; rw [if_pos hab]; unfold nats at hc; rw [hc]; rfl))
                have HC := Lib.hid (congrArg M.cmpI hc)
                have HAB := Lib.hid hab
                obtain ⟨n1, hn1⟩ : ∃ n1, n1 = (M.elL bn s).length := ⟨_, rfl⟩
                have hab2 : (M.elL bn t).length = n1 := by rw [hn1, hab]
                rw [hab2] at H5 hlt5 ⊢
                rw [← hn1] at HP HC hlen
                have HN1 := Lib.hid hn1
                have HAB2 := Lib.hid hab2
                clear hc hab hab2 hn1
                go_wp2_with (first | (go_at_call 31; refine (lspare_any _ _ _ _ _ _ _ _ D _ _ _ _ _ LK.out (by exact HRD.out) (by omega)).mono ?_; rw [HM.out]; rintro e w3 ⟨rfl, hb3⟩; have H53 := Lib.hid (H5.out.below hb3);have HB3 := Lib.hid (HB.out.trans (hb3.mono hz)); clear hb3) | (go_at_call 32; go_must (refine (elements_any bn s hsq (by omega) _ (TabAt.below (g := 1) (tab := Lib.deBruijn64tab) (w := w) HT.out (W2.out.trans (HB3.out.mono (by omega))) hG) (by have := HB3.out.size; omega)).mono ?_); rintro e w4 ⟨⟨v4, rfl, ho4⟩, hb4⟩; rw [← HN1.out] at ho4; obtain ⟨g4, c4, rfl⟩ := ho4.nz HP.out; have HO4 := Lib.hid ho4; have H54 := Lib.hid (H53.out.below hb4); have HB4 := Lib.hid (HB3.out.trans (hb4.mono HB3.out.size)); have hz34 := hb4.size; obtain ⟨B4, d4, be4, hm4⟩ := ho4.rd1; injection be4 with be4 _ be4c; subst be4 be4c; have R4 := Lib.hid hm4; obtain ⟨B5, d5, be5, hm5⟩ := H54.out.rd1; injection be5 with be5 _ be5c; subst be5 be5c; have R54 := Lib.hid hm5; clear ho4 hb4 hm4 hm5) | (go_at_call 33; go_must (refine (compare_any (some ⟨g4, 0, none⟩) (some ⟨g5, 0, none⟩) _ _ _ w4.heap.size (nats (M.elL bn s)) (nats (M.elL bn t)) _ (by omega) R4.out R54.out (Nat.le_refl _)).mono ?_); rw [HC.out]; rintro e w6 ⟨rfl, rfl⟩))
                go_roundw
                case rel => exact ⟨s + 1, by omega, by go_num, by rw [HK.out]; exact ⟨g5, c5, by rw [HAB2.out], by rw [HAB2.out]; exact H54.out⟩, HB4.out⟩
                case measure => simp [intOf]; omega
          · have HK := Lib.hid (lack_later H0.out (soonS_gt hab))
            have e1 : decide ((M.elL bn s).length < (M.elL bn t).length) = false := decide_eq_false (by omega)
            have e2 : (((M.elL bn s).length : Int) == ((M.elL bn t).length : Int)) = false := beq_eq_false_iff_ne.2 (by omega)
            clear hab
            go_wp2_with (first | (go_at_call 31; refine (lspare_any _ _ _ _ _ _ _ _ D _ _ _ _ _ LK.out (by exact HRD.out) (by omega)).mono ?_; rw [HM.out]; rintro e w3 ⟨rfl, hb3⟩; have H53 := Lib.hid (H5.out.below hb3);have HB3 := Lib.hid (HB.out.trans (hb3.mono hz)); clear hb3) | (go_at_call 32; go_must (refine (elements_any bn s hsq (by omega) _ (TabAt.below (g := 1) (tab := Lib.deBruijn64tab) (w := w) HT.out (W2.out.trans (HB3.out.mono (by omega))) hG) (by have := HB3.out.size; omega)).mono ?_); rintro e w4 ⟨⟨v4, rfl, ho4⟩, hb4⟩; obtain ⟨g4, c4, rfl⟩ := ho4.nz HP.out; have HO4 := Lib.hid ho4; have H54 := Lib.hid (H53.out.below hb4); have HB4 := Lib.hid (HB3.out.trans (hb4.mono HB3.out.size)); have hz34 := hb4.size; clear ho4 hb4))
            go_roundw
            case rel => exact ⟨s + 1, by omega, by go_num, by rw [HK.out]; exact ⟨g5, c5, rfl, H54.out⟩, HB4.out⟩
            case measure => simp [intOf]; omega
    · obtain rfl : s = q := by omega
      clear hbw hv k2
      cases h0 : M.lackTo gn bn G H s with
      | none =>
        have hv := HV.out
        rw [h0] at hv
        obtain rfl := (show _ = _ from hv)
        have H0 := Lib.hid h0
        clear h0 hv HV
        go_wp2_with fail
        go_ret2
        exact ⟨⟨.slice none 0 0, by rw [HSE.out, H0.out]; rfl, by rw [HSS.out, H0.out]; exact Own.nil_⟩, HWR.out⟩
      | some t =>
        have hv := HV.out
        rw [h0] at hv
        obtain ⟨g5, c5, rfl, ho5⟩ := hv
        have H5 := Lib.hid ho5
        have H0 := Lib.hid h0
        clear h0 ho5 HV
        go_wp2_with fail
        go_ret2
        exact ⟨⟨_, by rw [HSE.out, H0.out]; rfl, by rw [HSS.out, H0.out]; exact H5.out⟩, HWR.out⟩
end Go.Proofs.YtaljmlkapbojeaaDoor
