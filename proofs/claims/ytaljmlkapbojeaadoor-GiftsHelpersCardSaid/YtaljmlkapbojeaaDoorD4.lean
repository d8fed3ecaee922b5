/- The reference's Shops. -/
import Derived.Test.YtaljmlkapbojeaaDoorD3
namespace Go.Proofs.YtaljmlkapbojeaaDoor
open Go.RowKit

/-- what both Shops return -/
def ShopsV (n : Nat) (st : Int) (S : Nat → Nat → Int) (e : Ending) (w' : World) : Prop :=
  (M.chkS n st S ≠ 0 ∧ e = .returned (.tuple #[.slice none 0 0, .int .i64 0, .int .i64 (M.chkS n st S)])) ∨
  (M.chkS n st S = 0 ∧ ∃ A c, e = .returned (.tuple #[.slice A (M.elL n (M.shTo n S st (2 ^ n)).1).length c, .int .i64 (M.shTo n S st (2 ^ n)).2, .int .i64 0]) ∧ Rd1 w' w'.heap.size A (M.elL n (M.shTo n S st (2 ^ n)).1).length (nats (M.elL n (M.shTo n S st (2 ^ n)).1)))

theorem chkS_ok {n : Nat} {st : Int} {S : Nat → Nat → Int} (h : M.chkS n st S = 0) : n ≤ 12 ∧ M.allTo n (M.okShop S) = true ∧ 0 ≤ st ∧ st ≤ 1200 := by
  unfold M.chkS at h
  split at h
  · exact absurd h (by decide)
  · split at h
    · exact absurd h (by decide)
    · split at h
      · exact absurd h (by decide)
      · rename_i h1 h2 h3
        have h3' : M.within st 0 1200 = true := by simpa using h3
        simp [M.within] at h3'
        exact ⟨by omega, by simpa using h2, h3'.1, h3'.2⟩

section
variable (A : Option Addr) (n c B : Nat) (st : Int) (S : Nat → Nat → Int) (w : World) (hn : n ≤ maxLen) (hR : Rd w B A 3 n S) (hB : B ≤ w.heap.size)
include hn hR hB
set_option maxRecDepth 100000 in
set_option maxHeartbeats 8000000 in
theorem rshops_any : Calls Tryd.prog 21 #[.slice A n c, .int .i64 st] w fun e w' => ShopsV n st S e w' ∧ Below w.heap.size w w' := by
  by_cases hE : ¬ M.chkS n st S = 0
  · have hck := checkShops_any A n c B st S w hn hR hB
    obtain ⟨er, her⟩ : ∃ er, er = M.chkS n st S := ⟨_, rfl⟩
    have hE2 := hE
    rw [← her] at hE hck
    have HE2 := Lib.hid hE2
    have HCK := Lib.hid hck
    have HER := Lib.hid her
    have hE' : (er == 0) = false := by simpa using hE
    clear her hck hE hE2
    go_enter Tryd.func21, Tryd.ntmps21
    go_wp2_with fail
    refine HCK.out.mono ?_
    rintro e w1 ⟨rfl, hb1⟩
    have HB1 := Lib.hid hb1
    clear hb1
    go_wp2_with fail
    go_ret3
    exact ⟨.inl ⟨HE2.out, by rw [← HER.out]; rfl⟩, HB1.out⟩
  have hE0 : M.chkS n st S = 0 := by omega
  obtain ⟨h12, hall, hs0, hs1⟩ := chkS_ok hE0
  have hck := checkShops_any A n c B st S w hn hR hB
  rw [hE0] at hck
  have HCK := Lib.hid hck
  have HE0 := Lib.hid hE0
  have HBD := Lib.hid (fun i (hi : i < n) => M.shop_bd hall hi)
  have h2n : 2 ^ n ≤ 4096 := by have := Nat.pow_le_pow_right (n := 2) (by omega) h12; simpa using this
  have u1 : IntKind.u64.wrap (n : Int) = n := by rw [IntKind.wrap_u64]; omega
  have u2 : min n 64 = n := by omega
  have u3 := (pow_wrap (g := n) (by omega)).1
  have u4 := (pow_wrap (g := n) (by omega)).2
  obtain ⟨q, hq⟩ : ∃ q, q = 2 ^ n := ⟨_, rfl⟩
  rw [← hq] at h2n u3 u4
  have HQ := Lib.hid hq
  clear hck hE hE0 hall hq
  go_enter Tryd.func21, Tryd.ntmps21
  go_wp2_with fail
  refine HCK.out.mono ?_
  rintro e w1 ⟨rfl, hb1⟩
  have HB1 := Lib.hid hb1
  clear hb1
  go_wp2_with fail
  go_loopw [4, 5, 7] (fun v b i wr => ∃ s : Nat, s ≤ q ∧ i = .int .i64 s ∧ b = .int .i64 (M.shTo n S st s).2 ∧ ∃ A' c', v = .slice A' (M.elL n (M.shTo n S st s).1).length c' ∧ Rd1 wr wr.heap.size A' (M.elL n (M.shTo n S st s).1).length (nats (M.elL n (M.shTo n S st s).1)) ∧ Below w.heap.size w wr) (fun _ _ i _ => q - (intOf i).toNat)
  case atStart => exact ⟨0, Nat.zero_le _, rfl, rfl, none, 0, by simp [M.shTo, M.elL_zero], .inl (by simp [M.shTo, M.elL_zero]), HB1.out⟩
  case round =>
    clear HB1
    obtain ⟨s, hs, rfl, rfl, A', c', rfl, hr, hbw⟩ := hrel
    have HB := Lib.hid hbw
    have HR' := Lib.hid hr
    have hz := hbw.size
    by_cases hlt : s < q
    · have hsq : s < 2 ^ n := by rw [← HQ.out]; exact hlt
      have hx : M.shTo n S st (s + 1) = if M.takes n S st s (M.shTo n S st s).1 (M.shTo n S st s).2 then (s, M.brings n S s) else M.shTo n S st s := rfl
      have hl1 := M.elL_len n (M.shTo n S st s).1
      obtain ⟨t, ht⟩ : ∃ t, t = M.shTo n S st s := ⟨_, rfl⟩
      rw [← ht] at hx hl1
      simp only [← ht] at HR' ⊢
      obtain ⟨t1, t2⟩ := t
      dsimp only at hx hl1 HR' ⊢
      have HX := Lib.hid hx
      clear hbw hr hx ht
      go_wp2_with fail
      refine (members_any n s hsq (by omega) _).mono ?_
      rintro e w2 ⟨⟨v, rfl, ho⟩, hb2⟩
      obtain ⟨B', d', rfl, hm⟩ := ho.rd1
      have HM := Lib.hid hm
      have HR2 := Lib.hid ((HR'.out.below hb2).more hb2.size)
      have HB2 := Lib.hid (HB.out.trans (hb2.mono hz))
      have hl2 := M.elL_len n s
      clear ho hm hb2
      obtain ⟨l, hl⟩ : ∃ l, l = M.elL n s := ⟨_, rfl⟩
      have hel : ∀ i, i < l.length → l.getD i 0 < n := fun i hi => by rw [hl] at hi ⊢; exact M.elL_lt hi
      have cb0 : ∀ k, k ≤ l.length → -(k * 1000000) ≤ M.colTo S 0 l k ∧ M.colTo S 0 l k ≤ k * 1000000 := fun k hk => by
        rw [hl] at hk ⊢
        exact M.colTo_bd (fun i hi => by have := HBD.out i hi; omega) hk
      have cb2 : ∀ k, k ≤ l.length → -(k * 1000000) ≤ M.colTo S 2 l k ∧ M.colTo S 2 l k ≤ k * 1000000 := fun k hk => by
        rw [hl] at hk ⊢
        exact M.colTo_bd (fun i hi => by have := HBD.out i hi; omega) hk
      have hbr : M.brings n S s = M.colTo S 0 l l.length := by rw [hl]; rfl
      have hst : M.staffs n S s = M.colTo S 2 l l.length := by rw [hl]; rfl
      rw [← hl] at hl2
      simp only [← hl] at HM ⊢
      have HL := Lib.hid hl
      have HEL := Lib.hid hel
      have CB0 := Lib.hid cb0
      have CB2 := Lib.hid cb2
      have HBR := Lib.hid hbr
      have HST := Lib.hid hst
      clear hl hel cb0 cb2 hbr hst
      go_wp2_with fail
      go_loop [9, 10, 11] (fun x y i => ∃ k : Nat, k ≤ l.length ∧ i = .int .i64 k ∧ x = .int .i64 (M.colTo S 0 l k) ∧ y = .int .i64 (M.colTo S 2 l k)) (fun _ _ i => l.length - (intOf i).toNat)
      case atStart => exact ⟨0, Nat.zero_le _, rfl, rfl, rfl⟩
      case round =>
        obtain ⟨k, hk, rfl, rfl, rfl⟩ := hrel
        have b0 := CB0.out k hk
        have b2 := CB2.out k hk
        by_cases hltk : k < l.length
        · obtain ⟨lb, lo, rfl, hlb, l0⟩ := HM.out.at_ hltk
          have hgl := HEL.out k hltk
          have e0 : M.colTo S 0 l (k + 1) = M.colTo S 0 l k + S (l.getD k 0) 0 := rfl
          have e2 : M.colTo S 2 l (k + 1) = M.colTo S 2 l k + S (l.getD k 0) 2 := rfl
          have l0' : w2.cell? ⟨lb, lo + k, none⟩ = some (.int .i64 ((l.getD k 0 : Nat) : Int)) := l0
          obtain ⟨g, hg⟩ : ∃ g, g = l.getD k 0 := ⟨_, rfl⟩
          rw [← hg] at hgl e0 e2 l0'
          obtain ⟨sb, so, rfl, hsb, s0, s1, s2⟩ := (hR.below (HB2.out.mono hB)).at3 hgl
          have hsd := HBD.out g hgl
          have hz2 := HB2.out.size
          have hsw : sb < w2.heap.size := by omega
          have ng : decide (n ≤ g) = false := decide_eq_false (by omega)
          have ng2 : decide ((n : Int) ≤ (g : Int)) = false := decide_eq_false (by omega)
          obtain ⟨x, hx⟩ : ∃ x, x = M.colTo S 0 l k := ⟨_, rfl⟩
          obtain ⟨y, hy⟩ : ∃ y, y = M.colTo S 2 l k := ⟨_, rfl⟩
          rw [← hx] at b0 e0 ⊢
          rw [← hy] at b2 e2 ⊢
          have E0 := Lib.hid e0
          have E2 := Lib.hid e2
          clear hx hy e0 e2 hg l0 hR
          go_wp2_with fail
          go_round
          case rel => exact ⟨k + 1, by omega, by go_num, by rw [E0.out], by rw [E2.out]⟩
          case measure => simp [intOf]; omega
        · obtain rfl : k = l.length := by omega
          obtain ⟨x, hx⟩ : ∃ x, x = M.colTo S 0 l l.length := ⟨_, rfl⟩
          obtain ⟨y, hy⟩ : ∃ y, y = M.colTo S 2 l l.length := ⟨_, rfl⟩
          rw [← hx] at b0 ⊢
          rw [← hy] at b2 ⊢
          have htk : M.takes n S st s t1 t2 = (decide (y ≤ st) && (decide (t2 < x) || (decide (x = t2) && M.soonS n s t1))) := by unfold M.takes; rw [HBR.out, HST.out, ← hx, ← hy]
          have hbx : M.brings n S s = x := by rw [HBR.out, ← hx]
          have HTK := Lib.hid htk
          have HBX := Lib.hid hbx
          clear hx hy htk hbx
          by_cases g0 : ¬ y ≤ st
          · have hf : M.takes n S st s t1 t2 = false := by rw [HTK.out]; simp [g0]
            have HF := Lib.hid hf
            have e0 := decide_eq_false g0
            clear g0 hf
            go_wp2_with fail
            go_roundw
            case rel => exact ⟨s + 1, by omega, by go_num, by rw [HX.out, HF.out]; simp, A', c', by rw [HX.out, HF.out]; simp, by rw [HX.out, HF.out]; simpa using HR2.out, HB2.out⟩
            case measure => simp [intOf]; omega
          have g0' : y ≤ st := by omega
          have e0 := decide_eq_true g0'
          by_cases g1 : t2 < x
          · have hf : M.takes n S st s t1 t2 = true := by rw [HTK.out]; simp [g0', g1]
            have HF := Lib.hid hf
            have e1 := decide_eq_true g1
            clear g0 g0' g1 hf
            go_wp2_with fail
            go_roundw
            case rel => exact ⟨s + 1, by omega, by go_num, by rw [HX.out, HF.out, if_pos rfl, HBX.out], B', d', by rw [HX.out, HF.out, if_pos rfl, HL.out], by rw [HX.out, HF.out, if_pos rfl]; show Rd1 w2 w2.heap.size B' (M.elL n s).length (nats (M.elL n s)); rw [← HL.out]; exact HM.out, HB2.out⟩
            case measure => simp [intOf]; omega
          have e1 := decide_eq_false g1
          by_cases g2 : ¬ x = t2
          · have hf : M.takes n S st s t1 t2 = false := by rw [HTK.out]; simp [g1, g2]
            have HF := Lib.hid hf
            clear g0 g0' g1 hf
            go_wp2_with fail
            go_roundw
            case rel => exact ⟨s + 1, by omega, by go_num, by rw [HX.out, HF.out]; simp, A', c', by rw [HX.out, HF.out]; simp, by rw [HX.out, HF.out]; simpa using HR2.out, HB2.out⟩
            case measure => simp [intOf]; omega
          obtain rfl : x = t2 := by omega
          have hcall : Calls Tryd.prog 18 #[.slice B' l.length d', .slice A' (M.elL n t1).length c'] w2 fun e w' => e = .returned (.bool (M.soonS n s t1)) ∧ Below w2.heap.size w2 w' := by
            have h := sooner_any B' A' l.length (M.elL n t1).length d' c' w2.heap.size (nats l) (nats (M.elL n t1)) w2 (by omega) (by omega) HM.out HR2.out (Nat.le_refl _)
            rw [show M.soonS n s t1 = M.soonB l.length (M.elL n t1).length (nats l) (nats (M.elL n t1)) by rw [HL.out]; rfl]
            exact h
          cases hsv : M.soonS n s t1
          · have hf : M.takes n S st s t1 x = false := by rw [HTK.out, hsv]; simp [g1]
            rw [hsv] at hcall
            have HF := Lib.hid hf
            have HC := Lib.hid hcall
            clear g0 g0' g1 g2 hf hsv hcall
            go_wp2_with fail
            refine HC.out.mono ?_
            rintro e w3 ⟨rfl, hb3⟩
            have HB3 := Lib.hid hb3
            clear hb3
            go_wp2_with fail
            go_roundw
            case rel => exact ⟨s + 1, by omega, by go_num, by rw [HX.out, HF.out]; simp, A', c', by rw [HX.out, HF.out]; simp, by rw [HX.out, HF.out]; simpa using (HR2.out.below HB3.out).more HB3.out.size, HB2.out.trans (HB3.out.mono HB2.out.size)⟩
            case measure => simp [intOf]; omega
          · have hf : M.takes n S st s t1 x = true := by rw [HTK.out, hsv]; simp [g0']
            rw [hsv] at hcall
            have HF := Lib.hid hf
            have HC := Lib.hid hcall
            clear g0 g0' g1 g2 hf hsv hcall
            go_wp2_with fail
            refine HC.out.mono ?_
            rintro e w3 ⟨rfl, hb3⟩
            have HB3 := Lib.hid hb3
            clear hb3
            go_wp2_with fail
            go_roundw
            case rel => exact ⟨s + 1, by omega, by go_num, by rw [HX.out, HF.out, if_pos rfl, HBX.out], B', d', by rw [HX.out, HF.out, if_pos rfl, HL.out], by rw [HX.out, HF.out, if_pos rfl]; show Rd1 w3 w3.heap.size B' (M.elL n s).length (nats (M.elL n s)); rw [← HL.out]; exact (HM.out.below HB3.out).more HB3.out.size, HB2.out.trans (HB3.out.mono HB2.out.size)⟩
            case measure => simp [intOf]; omega
    · obtain rfl : s = q := by omega
      clear hbw hr
      go_wp2_with fail
      go_ret3
      refine ⟨.inr ⟨HE0.out, A', c', ?_, ?_⟩, HB.out⟩
      · rw [← HQ.out]; rfl
      · rw [← HQ.out]; exact HR'.out
end
end Go.Proofs.YtaljmlkapbojeaaDoor
