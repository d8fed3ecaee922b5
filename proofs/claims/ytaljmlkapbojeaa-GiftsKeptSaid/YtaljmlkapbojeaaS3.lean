/- The program's Left. -/
import Derived.Test.YtaljmlkapbojeaaS1
import Derived.Test.YtaljmlkapbojeaaLMath
import Derived.Test.YtaljmlkapbojeaaV1
import Derived.Test.YtaljmlkapbojeaaG9
namespace Go.Proofs.Ytaljmlkapbojeaa
open Go.RowKit

theorem money_bd {gn bn : Nat} {L Nd : Nat → Int} {U : Nat → Nat} (ok : LOk gn bn L Nd U) (s : Int) : -8000000 ≤ M.moneyF gn bn L Nd U s ∧ M.moneyF gn bn L Nd U s ≤ 10000000 := by
  have h1 := ok.need_bd s (Nat.le_refl _)
  have h2 := ok.left_bd (M.giftsF bn U s) (Nat.le_refl _)
  unfold M.moneyF
  omega

set_option maxHeartbeats 1000000 in
theorem gleft_bad (gA bA : Option Addr) (gn gc bn bc B : Nat) (G H : Nat → Nat → Int) (w : World) (hg : gn ≤ maxLen) (hb : bn ≤ maxLen) (hR : BookRd w B gA gn G bA bn H) (hB : B ≤ w.heap.size) (hok : M.okF gn bn G H = false) :
    Calls Try.prog 22 #[.agg #[.slice gA gn gc, .slice bA bn bc]] w fun e w' => e = .returned (.tuple #[.slice none 0 0, .int .i64 110]) ∧ Below w.heap.size w w' := by
  go_enter Try.func22, Try.ntmps22
  go_wp2_with (go_at_call 32; go_must (refine (open_bad _ _ _ _ _ _ B _ _ _ hg hb (by exact hR.below ((belowAlloc _ _).mono hB)) (by simp; omega) hok).mono ?_); rintro e w1 ⟨rfl, hb1⟩; have HB1 := Lib.hid hb1; clear hb1)
  go_ret2
  exact ⟨rfl, ((belowAlloc _ _).trans (HB1.out.mono (by simp))).alloc (by have := HB1.out.size; simp at this; omega) _⟩

set_option maxHeartbeats 1000000 in
theorem gleft_none (gA bA : Option Addr) (gn gc bn bc B : Nat) (G H : Nat → Nat → Int) (w : World) (hR : BookRd w B gA gn G bA bn H) (hB : B ≤ w.heap.size) (hok : M.okF gn bn G H = true) (hp : lpd gn bn G H = false) :
    Calls Try.prog 22 #[.agg #[.slice gA gn gc, .slice bA bn bc]] w fun e w' => e = .returned (.tuple #[.slice none 0 0, .int .i64 3]) ∧ Below w.heap.size w w' := by
  have ok : Ok gn bn G H := M.okF_iff.1 hok
  have HP := Lib.hid hp
  clear hp
  go_enter Try.func22, Try.ntmps22
  go_wp2_with (go_at_call 32; go_must (refine (open_ok _ _ _ _ _ _ B _ _ _ hok (by exact hR.below ((belowAlloc _ _).mono hB)) (by simp; omega)).mono ?_); rintro e w1 ⟨v1, v2, v3, rfl, hl, hb1⟩; obtain ⟨A1, c1, A2, c2, A3, c3, rfl, rfl, rfl, hrd⟩ := hl.rd; have HB1 := Lib.hid hb1; have HRD := Lib.hid hrd; clear hb1 hl hrd)
  go_wp2_with (go_at_call 33; go_must (refine (lpaid_any _ _ _ _ _ _ _ _ w1.heap.size _ _ _ _ (lok_of ok) (by exact HRD.out.below (belowAlloc _ _)) (by simp)).mono ?_); rw [show M.lpaidF gn bn (s0 G H gn).L (s0 G H gn).N (s0 G H gn).U = false from HP.out]; rintro e w2 ⟨rfl, hb2⟩; have HB2 := Lib.hid hb2; clear hb2)
  go_ret2
  exact ⟨rfl, (((belowAlloc _ _).trans (HB1.out.mono (by simp))).alloc (by have := HB1.out.size; simp at this; omega) _).trans (HB2.out.mono (by have := HB1.out.size; simp at this ⊢; omega))⟩

set_option maxRecDepth 100000 in
set_option maxHeartbeats 8000000 in
theorem gleft_ok (gA bA : Option Addr) (gn gc bn bc B : Nat) (G H : Nat → Nat → Int) (w : World) (hR : BookRd w B gA gn G bA bn H) (hB : B ≤ w.heap.size) (hok : M.okF gn bn G H = true) (hp : lpd gn bn G H = true) :
    Calls Try.prog 22 #[.agg #[.slice gA gn gc, .slice bA bn bc]] w fun e w' => (∃ A' c', e = .returned (.tuple #[.slice A' gn c', .int .i64 0]) ∧ Rd w' w'.heap.size A' 2 gn (leftSp gn bn G H)) ∧ Below w.heap.size w w' := by
  have ok : Ok gn bn G H := M.okF_iff.1 hok
  have hgn := ok.1
  have hbn := ok.2.1
  have HP := Lib.hid hp
  have hbt := toNat_i64_and_one
  have hp8 : 2 ^ bn ≤ 2 ^ 8 := Nat.pow_le_pow_right (by omega) hbn
  obtain ⟨q, hq⟩ : ∃ q, q = 2 ^ bn := ⟨_, rfl⟩
  rw [← hq] at hp8
  have HQ := Lib.hid hq
  obtain ⟨gi, hi, hz0, hz1, hz2⟩ := info_parts span_info
  have MI := Lib.hid (And.intro hi (And.intro hz0 (And.intro hz1 hz2)))
  clear hi hz0 hz1 hz2 hp hq
  go_enter Try.func22, Try.ntmps22
  go_wp2_with (go_at_call 32; go_must (refine (open_ok _ _ _ _ _ _ B _ _ _ hok (by exact hR.below ((belowAlloc _ _).mono hB)) (by simp; omega)).mono ?_); rintro e w1 ⟨v1, v2, v3, rfl, hl, hb1⟩; obtain ⟨A1, c1, A2, c2, A3, c3, rfl, rfl, rfl, hrd⟩ := hl.rd; have HB1 := Lib.hid hb1; have HRD := Lib.hid hrd; clear hb1 hrd hl)
  have hs1 : w.heap.size + 1 ≤ w1.heap.size := by have := HB1.out.size; simpa using this
  go_wp2_with (go_at_call 33; go_must (refine (lpaid_any _ _ _ _ _ _ _ _ w1.heap.size _ _ _ _ (lok_of ok) (by exact HRD.out.below (belowAlloc _ _)) (by simp)).mono ?_); rw [show M.lpaidF gn bn (s0 G H gn).L (s0 G H gn).N (s0 G H gn).U = true from HP.out]; rintro e w2 ⟨rfl, hb2⟩; obtain ⟨hc, hf⟩ := bcell hb2; have HB2 := Lib.hid hb2; clear hb2)
  have K4 := (Blk.new w1 69 #[.slice A1 gn c1, .slice A2 bn c2, .slice A3 bn c3]).below HB2.out (by simp)
  have L4 := (HRD.out.below (belowAlloc w1 (.cells #[.slice A1 gn c1, .slice A2 bn c2, .slice A3 bn c3] 69))).below (HB2.out.mono (by simp))
  have W4 : Below w.heap.size w w2 := ((((belowAlloc _ _).trans (HB1.out.mono (by simp))).alloc (by omega) _).trans (HB2.out.mono (by simp; omega)))
  have z2 : w1.heap.size + 1 ≤ w2.heap.size := by have := HB2.out.size; simpa using this
  clear hc hf HB2 HB1 HRD
  obtain ⟨S, hS⟩ : ∃ S, S = w1.heap.size := ⟨_, rfl⟩
  simp only [← hS] at K4 L4 W4 z2 hs1 ⊢
  clear hS
  replace L4 : LedRd w2 S A1 gn (s0 G H gn).L A2 A3 bn (s0 G H gn).N (s0 G H gn).U := L4
  have LK := lok_of ok
  have hsp : ∀ g, g < gn → _ ∧ _ := fun g hg => leftSp_prog (bn := bn) (G := G) (H := H) hg
  have HSP := Lib.hid hsp
  have SB := Lib.hid (money_bd LK)
  obtain ⟨L, hL⟩ : ∃ L, L = (s0 G H gn).L := ⟨_, rfl⟩
  obtain ⟨N, hN⟩ : ∃ N, N = (s0 G H gn).N := ⟨_, rfl⟩
  obtain ⟨U, hU⟩ : ∃ U, U = (s0 G H gn).U := ⟨_, rfl⟩
  rw [← hL, ← hN, ← hU] at L4 LK SB
  simp only [← hL, ← hN, ← hU] at HSP
  have HLK := Lib.hid LK
  have HL4 := Lib.hid L4
  have W4' := Lib.hid W4
  have HK4 := Lib.hid K4
  have k0 := K4.cell 0
  clear hsp hL hN hU LK L4 W4 K4
  go_wp2_with fail
  go_loopw [6, 34] (fun v i wr => ∃ g : Nat, g ≤ gn ∧ i = .int .i64 g ∧ Blk wr S 69 #[.slice A1 gn c1, .slice A2 bn c2, .slice A3 bn c3] ∧ LedRd wr S A1 gn L A2 A3 bn N U ∧ Own wr (S + 1) 56 2 v g (ints2 (leftSp gn bn G H)) ∧ Below w.heap.size w wr) (fun _ i _ => gn - (intOf i).toNat)
  case atStart => exact ⟨0, Nat.zero_le _, rfl, HK4.out, HL4.out, Own.nil_, W4'.out⟩
  case round =>
    clear HK4 HL4 W4' k0 z2
    obtain ⟨g, hg, rfl, k1, hl, ho, hW⟩ := hrel
    obtain ⟨vA, vc, rfl⟩ := ho.form
    have q0 := k1.cell 0
    have q1 := k1.cell 1
    have q2 := k1.cell 2
    have hks := k1.lt
    have hsz := hW.size
    have K1 := Lib.hid k1
    have HW := Lib.hid hW
    have HO := Lib.hid ho
    by_cases hlt : g < gn
    · obtain ⟨gb, go, rfl, hgb, c0⟩ := hl.1.at_ hlt
      have HL := Lib.hid hl
      have hgk := HLK.out.2.2.1 g hlt
      clear k1 hW ho hl hR ok
      obtain ⟨wo, hwo⟩ : ∃ wo, wo = wr := ⟨_, rfl⟩
      rw [← hwo] at q0 q1 q2 hks hsz K1 HW HO c0 HL ⊢
      clear hwo
      go_wp2_with fail
      go_loop [9, 42] (fun h i => ∃ k : Nat, k ≤ bn ∧ i = .int .i64 k ∧ h = .int .i64 (M.allF k N U g)) (fun _ i => bn - (intOf i).toNat)
      case atStart => exact ⟨0, Nat.zero_le _, rfl, rfl⟩
      case round =>
        obtain ⟨k, hk, rfl, rfl⟩ := hrel
        have hub := allF_bd (U := U) hbn HLK.out.2.2.2.1 g hk
        by_cases hltk : k < bn
        · obtain ⟨nb, no, rfl, hnb, k0⟩ := HL.out.2.1.at_ hltk
          obtain ⟨ub, uo, rfl, hub', k1⟩ := HL.out.2.2.at_ hltk
          have hnn := HLK.out.2.2.2.1 k hltk
          have hx : M.allF (k + 1) N U g = M.allF k N U g + M.sel (M.bt (U k) g) (N k) := rfl
          obtain ⟨x, hxx⟩ : ∃ x, x = M.allF k N U g := ⟨_, rfl⟩
          rw [← hxx] at hx hub ⊢
          clear hxx
          cases hc : M.bt (U k) g
          all_goals
            rw [hc] at hx
            have HX := Lib.hid hx
            unfold M.bt at hc
            clear hx
            go_wp2_with fail
            go_round
            case rel => exact ⟨k + 1, by omega, by go_num, by rw [HX.out] <;> simp only [M.sel] <;> first | (simp; done) | go_num⟩
            case measure => simp [intOf]; omega
        · obtain rfl : k = bn := by omega
          go_wp2_with (go_at_call 41; refine (sets_any _ _ _ _ _ _ _ _ _ _ hbn).mono ?_; rw [← HQ.out]; rintro e w3 ⟨rfl, hb3⟩; have HB3 := Lib.hid hb3; clear hb3)
          go_loopw [10, 62] (fun h i wr => ∃ s : Nat, s ≤ q ∧ i = .int .i64 s ∧ h = .int .i64 (M.leastTo gn k L N U g s) ∧ Below wo.heap.size wo wr) (fun _ i _ => q - (intOf i).toNat)
          case atStart => exact ⟨0, Nat.zero_le _, rfl, rfl, HB3.out⟩
          case round =>
            clear HB3
            obtain ⟨s, hs, rfl, rfl, hbw⟩ := hrel
            have b0 := (hbw.cell (p := ⟨S, 0, none⟩) hks).trans q0
            have b1 := (hbw.cell (p := ⟨S, 1, none⟩) hks).trans q1
            have b2 := (hbw.cell (p := ⟨S, 2, none⟩) hks).trans q2
            have hz := hbw.size
            have HB := Lib.hid hbw
            clear hbw
            have hbd := leastTo_bd (gn := gn) (bn := k) (L := L) (N := N) (U := U) (g := g) hgk SB.out s
            by_cases hlts : s < q
            · have hsb := SB.out s
              have hx : M.leastTo gn k L N U g (s + 1) = if M.bt (M.giftsF k U s) g then max (M.leastTo gn k L N U g s) (L g - M.moneyF gn k L N U s) else M.leastTo gn k L N U g s := rfl
              obtain ⟨x, hxx⟩ : ∃ x, x = M.leastTo gn k L N U g s := ⟨_, rfl⟩
              obtain ⟨y, hy⟩ : ∃ y, y = M.moneyF gn k L N U s := ⟨_, rfl⟩
              obtain ⟨z, hzz⟩ : ∃ z, z = M.giftsF k U s := ⟨_, rfl⟩
              have hzb := HLK.out.gifts_bd s (Nat.le_refl k)
              rw [← hzz] at hzb hx
              rw [← hxx, ← hy] at hx
              rw [← hxx] at hbd ⊢
              rw [← hy] at hsb
              have HY := Lib.hid hy
              have HZ := Lib.hid hzz
              clear hxx hy hzz
              cases hh : M.bt z g
              all_goals
                first | rw [hh, if_pos rfl] at hx | rw [hh, if_neg (by decide)] at hx | fail
                have HX := Lib.hid hx
                unfold M.bt at hh
                clear hx
                go_wp2_with (go_at_call 42; refine (lspare_any _ _ _ _ _ _ _ _ S L N U _ _ HLK.out (HL.out.below (HB.out.mono (by omega))) (by omega)).mono ?_; rw [← HY.out, ← HZ.out]; rintro e w4 ⟨rfl, hb4⟩; have HB4 := Lib.hid hb4; clear hb4)
                go_roundw
                case rel => exact ⟨s + 1, by omega, by go_num, by rw [HX.out], HB.out.trans (HB4.out.mono hz)⟩
                case measure => simp [intOf]; omega
            · obtain rfl : s = q := by omega
              have HO3 := Lib.hid (HO.out.below HB.out)
              have sp := HSP.out g hlt
              rw [← HQ.out] at sp
              have SP := Lib.hid sp
              clear sp
              go_wp2_with (at_builtin; refine wpList_app rfl (.tmp 82) (.tmp 92) 47 rfl (S + 1) 56 2 16 Try.underlying47 MI.out.1 MI.out.2.1 MI.out.2.2.1 MI.out.2.2.2 rfl (by decide) (by decide) (HO3.out.alloc _) rfl (by omega) (by simp; omega) wr.heap.size 1 (fun j => ints2 (leftSp gn k G H) g j) rfl (span_cells _ _ rfl _ _ _ _ SP.out.1 SP.out.2) (fun _ _ => rfl) ?_; intro v2 w2 o2 hg2 _; obtain ⟨A2, z2, rfl⟩ := o2.form; have HO2 := Lib.hid o2; have HG2 := Lib.hid hg2; clear o2 hg2)
              go_roundw
              case rel =>
                refine ⟨g + 1, by omega, by go_num, ((K1.out.below HB.out K1.out.lt).alloc _).grown HG2.out (HO3.out.ne_ (by omega)), ?_, ?_, ?_⟩
                · exact (HL.out.below (HB.out.mono (by omega))).below ((belowAlloc _ _).mono (by omega)) |>.below (Below.grown (Below.refl _ _) HG2.out (by simp; omega) (fun g hg => by have := (HO3.out.block hg).1; omega))
                · have o2 := HO2.out
                  rw [show (upd (ints2 (leftSp gn k G H)) g fun j => ints2 (leftSp gn k G H) g j) = ints2 (leftSp gn k G H) from upd_self _ g] at o2
                  exact o2
                · exact (((HW.out.trans (HB.out.mono hsz)).alloc (by omega) _).grown HG2.out (by simp; omega) (fun g hg => by have := (HO3.out.block hg).1; omega))
              case measure => simp [intOf]; omega
    · obtain rfl : g = gn := by omega
      clear k1 hW ho hR hl
      go_wp2_with fail
      go_ret2
      exact ⟨⟨_, _, rfl, by obtain ⟨A', c', e, h⟩ := HO.out.rd; injection e with e _ _; subst e; exact h⟩, HW.out⟩
end Go.Proofs.Ytaljmlkapbojeaa
