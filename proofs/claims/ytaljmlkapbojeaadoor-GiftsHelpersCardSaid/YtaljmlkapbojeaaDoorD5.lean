/- The program's Shops. -/
import Derived.Test.YtaljmlkapbojeaaDoorD4
import Derived.Test.YtaljmlkapbojeaaDoorG4
namespace Go.Proofs.YtaljmlkapbojeaaDoor
open Go.RowKit

theorem within_v {n a b : Int} {v : Bool} (w : World) (h : M.within n a b = v) : Calls Tryd.prog 37 #[.int .i64 n, .int .i64 a, .int .i64 b] w fun e w' => e = .returned (.bool v) ∧ w = w' :=
  (within_any n a b w).mono fun _ _ h2 => ⟨by rw [h2.1, h], h2.2⟩
theorem takes_eq {n : Nat} {S : Nat → Nat → Int} {st : Int} {s t : Nat} {b x y : Int} (h0 : M.brings n S s = x) (h2 : M.staffs n S s = y) : M.takes n S st s t b = (decide (y ≤ st) && (decide (b < x) || (decide (x = b) && M.soonS n s t))) := by unfold M.takes; rw [h0, h2]
theorem soon_lt {n s t : Nat} (h : (M.elL n s).length < (M.elL n t).length) : M.soonS n s t = true := by
  unfold M.soonS M.soonB; rw [if_neg (by omega)]; exact decide_eq_true h
theorem soon_gt {n s t : Nat} (h : (M.elL n t).length < (M.elL n s).length) : M.soonS n s t = false := by
  unfold M.soonS M.soonB; rw [if_neg (by omega)]; exact decide_eq_false (by omega)
theorem soon_eq {n s t : Nat} (h : (M.elL n s).length = (M.elL n t).length) : M.soonS n s t = (M.cmpTo (nats (M.elL n s)) (nats (M.elL n t)) (M.elL n s).length).getD false := by
  unfold M.soonS M.soonB; rw [if_pos h]

section
variable (A : Option Addr) (n c B : Nat) (st : Int) (S : Nat → Nat → Int) (w : World) (hn : n ≤ maxLen) (hR : Rd w B A 3 n S) (hB : B ≤ w.heap.size)
include hn hR hB
set_option maxRecDepth 100000 in
set_option maxHeartbeats 8000000 in
theorem gshops_any (hT : TabAt 1 Lib.deBruijn64tab w) (hG : 1 < w.heap.size) : Calls Tryd.prog 20 #[.slice A n c, .int .i64 st] w fun e w' => ShopsV n st S e w' ∧ Below w.heap.size w w' := by
  unfold maxLen at hn
  have HT := Lib.hid hT
  clear hT
  by_cases h12 : 12 < n
  · go_enter Tryd.func20, Tryd.ntmps20
    go_wp2_with fail
    go_ret3
    exact ⟨.inl ⟨by simp [M.chkS, h12], by simp [M.chkS, h12]⟩, Below.refl _ _⟩
  have h2n : 2 ^ n ≤ 4096 := by have := Nat.pow_le_pow_right (n := 2) (by omega) (Nat.le_of_not_lt h12); simpa using this
  have u2 : min n 64 = n := by omega
  have u3 := (pow_wrap (g := n) (by omega)).1
  have u4 := (pow_wrap (g := n) (by omega)).2
  obtain ⟨q, hq⟩ : ∃ q, q = 2 ^ n := ⟨_, rfl⟩
  rw [← hq] at h2n u3 u4
  have HQ := Lib.hid hq
  clear hq
  go_enter Tryd.func20, Tryd.ntmps20
  go_wp2_with fail
  go_loopw [4, 5, 20] (fun v b i wr => v = .slice none 0 0 ∧ b = .int .i64 0 ∧ ∃ k : Nat, k ≤ n ∧ i = .int .i64 k ∧ M.allTo k (M.okShop S) = true ∧ Below w.heap.size w wr) (fun _ _ i _ => n - (intOf i).toNat)
  case atStart => exact ⟨rfl, rfl, 0, Nat.zero_le _, rfl, rfl, Below.refl _ _⟩
  case round =>
    obtain ⟨rfl, rfl, k, hk, rfl, hf, hbw⟩ := hrel
    have HF := Lib.hid hf
    have HB := Lib.hid hbw
    clear hf
    by_cases hlt : k < n
    · obtain ⟨b, off, rfl, hb, c0, c1, c2⟩ := (hR.below (hbw.mono hB)).at3 hlt
      have hz := hbw.size
      have hbs : b < wr.heap.size := by omega
      have hx : M.allTo (k + 1) (M.okShop S) = (M.allTo k (M.okShop S) && M.okShop S k) := rfl
      rw [HF.out] at hx
      have HX := Lib.hid hx
      clear hx hbw hR
      have hbad : M.okShop S k = false → M.chkS n st S = 112 := chkS_bad (by omega) hlt
      have HBAD := Lib.hid hbad
      clear hbad
      by_cases g0 : S k 0 < -1000000
      · have HB0 := Lib.hid (HBAD.out (by simp [M.okShop, M.within]; omega))
        have e0 := decide_eq_true g0
        clear g0
        go_wp2_with fail
        go_ret3
        exact ⟨.inl ⟨by rw [HB0.out]; decide, by rw [HB0.out]; rfl⟩, HB.out.alloc hz _⟩
      by_cases g0' : S k 1 < S k 0
      · have HB0 := Lib.hid (HBAD.out (by simp [M.okShop, M.within]; omega))
        have e0 := decide_eq_false g0
        have e1 := decide_eq_true g0'
        clear g0 g0'
        go_wp2_with fail
        go_ret3
        exact ⟨.inl ⟨by rw [HB0.out]; decide, by rw [HB0.out]; rfl⟩, HB.out.alloc hz _⟩
      by_cases g1 : 1000000 < S k 1
      · have HB0 := Lib.hid (HBAD.out (by simp [M.okShop, g1]))
        have e0 := decide_eq_false g0
        have e1 := decide_eq_false g0'
        have e2 := decide_eq_true g1
        clear g0 g0' g1
        go_wp2_with fail
        go_ret3
        exact ⟨.inl ⟨by rw [HB0.out]; decide, by rw [HB0.out]; rfl⟩, HB.out.alloc hz _⟩
      have e0 := decide_eq_false g0
      have e1 := decide_eq_false g0'
      have e2 := decide_eq_false g1
      have hw : M.within (S k 0) (-1000000) (S k 1) = true := by simp [M.within]; omega
      cases g2 : M.within (S k 2) 0 100
      · have HB0 := Lib.hid (HBAD.out (by simp [M.okShop, g2]))
        have G2 := Lib.hid g2
        clear g0 g0' g1 g2 hw
        go_wp2_with (go_at_call 37; refine (within_v _ G2.out).mono ?_; rintro e w1 ⟨rfl, rfl⟩)
        go_ret3
        exact ⟨.inl ⟨by rw [HB0.out]; decide, by rw [HB0.out]; rfl⟩, HB.out.alloc hz _⟩
      · have hok : M.okShop S k = true := by simp [M.okShop, hw, g1, g2]
        have HOK := Lib.hid hok
        have G2 := Lib.hid g2
        clear g0 g0' g1 g2 hok hw
        go_wp2_with (go_at_call 37; refine (within_v _ G2.out).mono ?_; rintro e w1 ⟨rfl, rfl⟩)
        go_roundw
        case rel => exact ⟨rfl, rfl, k + 1, by omega, by go_num, by rw [HX.out, HOK.out]; rfl, HB.out.alloc hz _⟩
        case measure => simp [intOf]; omega
    · have hkn : k = n := by omega
      rw [hkn] at HF
      cases g3 : M.within st 0 1200
      · have HE := Lib.hid (show M.chkS n st S = 1 from by unfold M.chkS; rw [if_neg h12, if_neg (by rw [HF.out]; decide), g3]; rfl)
        have G3 := Lib.hid g3
        clear g3 hbw
        go_wp2_with (go_at_call 37; refine (within_v _ G3.out).mono ?_; rintro e w1 ⟨rfl, rfl⟩)
        go_ret3
        exact ⟨.inl ⟨by rw [HE.out]; decide, by rw [HE.out]; rfl⟩, HB.out⟩
      have HE0 := Lib.hid (show M.chkS n st S = 0 from by unfold M.chkS; rw [if_neg h12, if_neg (by rw [HF.out]; decide), g3]; rfl)
      have HBD := Lib.hid (fun i (hi : i < n) => M.shop_bd HF.out hi)
      have G3 := Lib.hid g3
      have HB1 := Lib.hid hbw
      clear g3 hbw HB HF
      go_wp2_with (go_at_call 37; refine (within_v _ G3.out).mono ?_; rintro e w1 ⟨rfl, rfl⟩)
      go_loopw [4, 5, 56] (fun v b i wr => ∃ s : Nat, s ≤ q ∧ i = .int .i64 s ∧ b = .int .i64 (M.shTo n S st s).2 ∧ ∃ A' c', v = .slice A' (M.elL n (M.shTo n S st s).1).length c' ∧ Rd1 wr wr.heap.size A' (M.elL n (M.shTo n S st s).1).length (nats (M.elL n (M.shTo n S st s).1)) ∧ Below w.heap.size w wr) (fun _ _ i _ => q - (intOf i).toNat)
      case atStart => exact ⟨0, Nat.zero_le _, rfl, rfl, none, 0, by simp [M.shTo, M.elL_zero], .inl (by simp [M.shTo, M.elL_zero]), HB1.out⟩
      case round =>
        clear HB1
        obtain ⟨s, hs, rfl, rfl, A', c', rfl, hr, hbw⟩ := hrel
        have HB := Lib.hid hbw
        have HR' := Lib.hid hr
        have hz := hbw.size
        by_cases hlt : s < q
        · have hsq : s < 2 ^ n := by rw [← HQ.out]; exact hlt
          have hx : M.shTo n S st (s + 1) = if M.takes n S st s (M.shTo n S st s).1 (M.shTo n S st s).2 then (s, M.brings n S s) else M.shTo n S st s := rfl
          have hl1 := M.elL_len n (M.shTo n S st s).1
          obtain ⟨t, ht⟩ : ∃ t, t = M.shTo n S st s := ⟨_, rfl⟩
          rw [← ht] at hx hl1
          simp only [← ht] at HR' ⊢
          obtain ⟨t1, t2⟩ := t
          dsimp only at hx hl1 HR' ⊢
          have HX := Lib.hid hx
          clear hbw hr hx ht
          go_wp2_with fail
          refine (elements_any n s hsq (by omega) _ (TabAt.below (g := 1) (tab := Lib.deBruijn64tab) (w := w) HT.out HB.out hG) (by omega)).mono ?_
          rintro e w2 ⟨⟨v, rfl, ho⟩, hb2⟩
          obtain ⟨B', d', rfl, hm⟩ := ho.rd1
          have HM := Lib.hid hm
          have HR2 := Lib.hid ((HR'.out.below hb2).more hb2.size)
          have HB2 := Lib.hid (HB.out.trans (hb2.mono hz))
          have hl2 := M.elL_len n s
          clear ho hm hb2
          obtain ⟨l, hl⟩ : ∃ l, l = M.elL n s := ⟨_, rfl⟩
          have hel : ∀ i, i < l.length → l.getD i 0 < n := fun i hi => by rw [hl] at hi ⊢; exact M.elL_lt hi
          have cb0 : ∀ k, k ≤ l.length → -(k * 1000000) ≤ M.colTo S 0 l k ∧ M.colTo S 0 l k ≤ k * 1000000 := fun k hk => by
            rw [hl] at hk ⊢
            exact M.colTo_bd (fun i hi => by have := HBD.out i hi; omega) hk
          have cb2 : ∀ k, k ≤ l.length → -(k * 1000000) ≤ M.colTo S 2 l k ∧ M.colTo S 2 l k ≤ k * 1000000 := fun k hk => by
            rw [hl] at hk ⊢
            exact M.colTo_bd (fun i hi => by have := HBD.out i hi; omega) hk
          have hbr : M.brings n S s = M.colTo S 0 l l.length := by rw [hl]; rfl
          have hst : M.staffs n S s = M.colTo S 2 l l.length := by rw [hl]; rfl
          rw [← hl] at hl2
          simp only [← hl] at HM ⊢
          have HL := Lib.hid hl
          have HEL := Lib.hid hel
          have CB0 := Lib.hid cb0
          have CB2 := Lib.hid cb2
          have HBR := Lib.hid hbr
          have HST := Lib.hid hst
          clear hl hel cb0 cb2 hbr hst
          go_wp2_with fail
          go_loop [11, 12, 63] (fun x y i => ∃ k : Nat, k ≤ l.length ∧ i = .int .i64 k ∧ x = .int .i64 (M.colTo S 0 l k) ∧ y = .int .i64 (M.colTo S 2 l k)) (fun _ _ i => l.length - (intOf i).toNat)
          case atStart => exact ⟨0, Nat.zero_le _, rfl, rfl, rfl⟩
          case round =>
            obtain ⟨k, hk, rfl, rfl, rfl⟩ := hrel
            have b0 := CB0.out k hk
            have b2 := CB2.out k hk
            by_cases hltk : k < l.length
            · obtain ⟨lb, lo, rfl, hlb, l0⟩ := HM.out.at_ hltk
              have hgl := HEL.out k hltk
              have e0 : M.colTo S 0 l (k + 1) = M.colTo S 0 l k + S (l.getD k 0) 0 := rfl
              have e2 : M.colTo S 2 l (k + 1) = M.colTo S 2 l k + S (l.getD k 0) 2 := rfl
              have l0' : w2.cell? ⟨lb, lo + k, none⟩ = some (.int .i64 ((l.getD k 0 : Nat) : Int)) := l0
              obtain ⟨g, hg⟩ : ∃ g, g = l.getD k 0 := ⟨_, rfl⟩
              rw [← hg] at hgl e0 e2 l0'
              obtain ⟨sb, so, rfl, hsb, s0, s1, s2⟩ := (hR.below (HB2.out.mono hB)).at3 hgl
              have hsd := HBD.out g hgl
              have hz2 := HB2.out.size
              have hsw : sb < w2.heap.size := by omega
              have ng : decide (n ≤ g) = false := decide_eq_false (by omega)
              have ng2 : decide ((n : Int) ≤ (g : Int)) = false := decide_eq_false (by omega)
              obtain ⟨x, hx⟩ : ∃ x, x = M.colTo S 0 l k := ⟨_, rfl⟩
              obtain ⟨y, hy⟩ : ∃ y, y = M.colTo S 2 l k := ⟨_, rfl⟩
              rw [← hx] at b0 e0 ⊢
              rw [← hy] at b2 e2 ⊢
              have E0 := Lib.hid e0
              have E2 := Lib.hid e2
              clear hx hy e0 e2 hg l0 hR
              go_wp2_with fail
              go_round
              case rel => exact ⟨k + 1, by omega, by go_num, by rw [E0.out], by rw [E2.out]⟩
              case measure => simp [intOf]; omega
            · obtain rfl : k = l.length := by omega
              obtain ⟨x, hx⟩ : ∃ x, x = M.colTo S 0 l l.length := ⟨_, rfl⟩
              obtain ⟨y, hy⟩ : ∃ y, y = M.colTo S 2 l l.length := ⟨_, rfl⟩
              rw [← hx] at b0 ⊢
              rw [← hy] at b2 ⊢
              have htk : M.takes n S st s t1 t2 = (decide (y ≤ st) && (decide (t2 < x) || (decide (x = t2) && M.soonS n s t1))) := by unfold M.takes; rw [HBR.out, HST.out, ← hx, ← hy]
              have hbx : M.brings n S s = x := by rw [HBR.out, ← hx]
              have HTK := Lib.hid htk
              have HBX := Lib.hid hbx
              clear hx hy htk hbx
              by_cases g0 : ¬ y ≤ st
              · have hf : M.takes n S st s t1 t2 = false := by rw [HTK.out]; simp [g0]
                have HF := Lib.hid hf
                have e0 : decide (st < y) = true := decide_eq_true (by omega)
                clear g0 hf
                go_wp2_with fail
                go_roundw
                case rel => exact ⟨s + 1, by omega, by go_num, by rw [HX.out, HF.out]; simp, A', c', by rw [HX.out, HF.out]; simp, by rw [HX.out, HF.out]; simpa using HR2.out, HB2.out⟩
                case measure => simp [intOf]; omega
              have g0' : y ≤ st := by omega
              have e0 : decide (st < y) = false := decide_eq_false (by omega)
              by_cases g1 : t2 < x
              · have hf : M.takes n S st s t1 t2 = true := by rw [HTK.out]; simp [g0', g1]
                have HF := Lib.hid hf
                have e1 := decide_eq_true g1
                have e2 : decide (x < t2) = false := decide_eq_false (by omega)
                clear g0 g0' g1 hf
                go_wp2_with fail
                go_roundw
                case rel => exact ⟨s + 1, by omega, by go_num, by rw [HX.out, HF.out, if_pos rfl, HBX.out], B', d', by rw [HX.out, HF.out, if_pos rfl, HL.out], by rw [HX.out, HF.out, if_pos rfl]; show Rd1 w2 w2.heap.size B' (M.elL n s).length (nats (M.elL n s)); rw [← HL.out]; exact HM.out, HB2.out⟩
                case measure => simp [intOf]; omega
              by_cases g2 : x < t2
              · have hf : M.takes n S st s t1 t2 = false := by rw [HTK.out]; simp [g1, show ¬ x = t2 by omega]
                have HF := Lib.hid hf
                have e2 := decide_eq_true g2
                clear g0 g0' g1 g2 hf
                go_wp2_with fail
                go_roundw
                case rel => exact ⟨s + 1, by omega, by go_num, by rw [HX.out, HF.out]; simp, A', c', by rw [HX.out, HF.out]; simp, by rw [HX.out, HF.out]; simpa using HR2.out, HB2.out⟩
                case measure => simp [intOf]; omega
              obtain rfl : x = t2 := by omega
              obtain ⟨L1, hL1⟩ : ∃ L1, L1 = (M.elL n t1).length := ⟨_, rfl⟩
              by_cases g3 : l.length < L1
              · have hf : M.takes n S st s t1 x = true := by rw [HTK.out, soon_lt (by rw [← HL.out, ← hL1]; exact g3)]; simp [g0']
                have HF := Lib.hid hf
                have e3 := decide_eq_true g3
                rw [← hL1] at hl1 ⊢
                clear hL1
                clear g0 g0' g1 g2 g3 hf
                go_wp2_with fail
                go_roundw
                case rel => exact ⟨s + 1, by omega, by go_num, by rw [HX.out, HF.out, if_pos rfl, HBX.out], B', d', by rw [HX.out, HF.out, if_pos rfl, HL.out], by rw [HX.out, HF.out, if_pos rfl]; show Rd1 w2 w2.heap.size B' (M.elL n s).length (nats (M.elL n s)); rw [← HL.out]; exact HM.out, HB2.out⟩
                case measure => simp [intOf]; omega
              by_cases g4 : L1 < l.length
              · have hf : M.takes n S st s t1 x = false := by rw [HTK.out, soon_gt (by rw [← HL.out, ← hL1]; exact g4)]; simp
                have HF := Lib.hid hf
                have e3 := decide_eq_false g3
                have e4 : ¬ l.length = L1 := by omega
                have HL1 := Lib.hid hL1
                rw [← hL1] at hl1 ⊢
                clear hL1
                clear g0 g0' g1 g2 g3 g4 hf
                go_wp2_with fail
                go_roundw
                case rel => exact ⟨s + 1, by omega, by go_num, by rw [HX.out, HF.out]; simp, A', c', by rw [HX.out, HF.out, HL1.out]; simp, by rw [HX.out, HF.out]; simpa using HR2.out, HB2.out⟩
                case measure => simp [intOf]; omega
              have hEq : l.length = (M.elL n t1).length := by omega
              have hcall : Calls Tryd.prog 33 #[.slice B' l.length d', .slice A' l.length c'] w2 fun e w' => e = .returned (.int .i64 (M.cmpI (M.cmpTo (nats l) (nats (M.elL n t1)) l.length))) ∧ w2 = w' :=
                compare_any B' A' l.length d' c' w2.heap.size (nats l) (nats (M.elL n t1)) w2 (by omega) HM.out (by rw [hEq]; exact HR2.out) (Nat.le_refl _)
              have hsoon : M.soonS n s t1 = (M.cmpTo (nats l) (nats (M.elL n t1)) l.length).getD false := by
                rw [soon_eq (by rw [← HL.out]; exact hEq), ← HL.out]
              have HEQ := Lib.hid hEq
              rw [← hEq] at hl1 ⊢
              clear hL1 hEq g3 g4
              generalize M.cmpTo (nats l) (nats (M.elL n t1)) l.length = cc at hcall hsoon
              rcases cc with _ | _ | _
              · simp only [M.cmpI] at hcall
                have hf : M.takes n S st s t1 x = false := by rw [HTK.out, hsoon]; simp
                have HF := Lib.hid hf
                have HC := Lib.hid hcall
                clear g0 g0' g1 g2 hf hcall hsoon
                go_wp2_with fail
                refine HC.out.mono ?_
                rintro e w3 ⟨rfl, rfl⟩
                go_wp2_with fail
                go_roundw
                case rel => exact ⟨s + 1, by omega, by go_num, by rw [HX.out, HF.out]; simp, A', c', by rw [HX.out, HF.out, HEQ.out]; simp, by rw [HX.out, HF.out]; simpa using HR2.out, HB2.out⟩
                case measure => simp [intOf]; omega
              · simp only [M.cmpI] at hcall
                have hf : M.takes n S st s t1 x = false := by rw [HTK.out, hsoon]; simp
                have HF := Lib.hid hf
                have HC := Lib.hid hcall
                clear g0 g0' g1 g2 hf hcall hsoon
                go_wp2_with fail
                refine HC.out.mono ?_
                rintro e w3 ⟨rfl, rfl⟩
                go_wp2_with fail
                go_roundw
                case rel => exact ⟨s + 1, by omega, by go_num, by rw [HX.out, HF.out]; simp, A', c', by rw [HX.out, HF.out, HEQ.out]; simp, by rw [HX.out, HF.out]; simpa using HR2.out, HB2.out⟩
                case measure => simp [intOf]; omega
              · simp only [M.cmpI] at hcall
                have hf : M.takes n S st s t1 x = true := by rw [HTK.out, hsoon]; simp [g0']
                have HF := Lib.hid hf
                have HC := Lib.hid hcall
                clear g0 g0' g1 g2 hf hcall hsoon
                go_wp2_with fail
                refine HC.out.mono ?_
                rintro e w3 ⟨rfl, rfl⟩
                go_wp2_with fail
                go_roundw
                case rel => exact ⟨s + 1, by omega, by go_num, by rw [HX.out, HF.out, if_pos rfl, HBX.out], B', d', by rw [HX.out, HF.out, if_pos rfl, HL.out], by rw [HX.out, HF.out, if_pos rfl]; show Rd1 w2 w2.heap.size B' (M.elL n s).length (nats (M.elL n s)); rw [← HL.out]; exact HM.out, HB2.out⟩
                case measure => simp [intOf]; omega
        · obtain rfl : s = q := by omega
          clear hbw hr
          go_wp2_with fail
          go_ret3
          refine ⟨.inr ⟨HE0.out, A', c', ?_, ?_⟩, HB.out⟩
          · rw [← HQ.out]; rfl
          · rw [← HQ.out]; exact HR'.out
end
end Go.Proofs.YtaljmlkapbojeaaDoor
