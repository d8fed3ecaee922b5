/- GiftsHelpers, walked. -/
import Derived.Test.YtaljmlkapbojeaaDoorD6
import Derived.Test.YtaljmlkapbojeaaDoorHMath
import Derived.BigQuiet
namespace Go.Proofs.YtaljmlkapbojeaaDoor
open Go.RowKit

section
variable (A : Option Addr) (n c B : Nat) (st x : Int) (S : Nat → Nat → Int) (w : World) (hn : n ≤ maxLen) (hR : Rd w B A 3 n S) (hB : B ≤ w.heap.size)
include hn hR hB
set_option maxRecDepth 100000 in
set_option maxHeartbeats 3200000 in
theorem helpers_out (h : 8 < n ∨ M.chkS n st S ≠ 0) :
    Calls Tryd.prog 6 #[.slice A n c, .int .i64 st, .int .i64 x] w fun e w' => e = .returned (.bool true) ∧ Below w.heap.size w w' := by
  by_cases h8 : 8 < n
  · have e0 := decide_eq_true h8
    clear h
    go_enter Tryd.func6, Tryd.ntmps6
    go_wp2_with (go_at_call 8; refine (works_any _).mono ?_; rintro e w9 ⟨rfl, hb9⟩; have HB9 := Lib.hid hb9; clear hb9)
    go_ret
    exact ⟨rfl, HB9.out⟩
  · have h0 : M.chkS n st S ≠ 0 := h.resolve_left h8
    have hck := checkShops_any A n c B st S w hn hR hB
    have e0 := decide_eq_false h8
    obtain ⟨er, her⟩ : ∃ er, er = M.chkS n st S := ⟨_, rfl⟩
    rw [← her] at h0 hck
    have HCK := Lib.hid hck
    have hE' : (er == 0) = false := by simpa using h0
    have hE2 : (er != 0) = true := by simpa using h0
    have e0' : decide ((8 : Int) < (n : Int)) = false := decide_eq_false (by omega)
    clear her hck h
    go_enter Tryd.func6, Tryd.ntmps6
    go_wp2_with (first | (go_at_call 22; refine HCK.out.mono ?_; rintro e w1 ⟨rfl, hb1⟩; have HB1 := Lib.hid hb1; clear hb1) | (go_at_call 8; refine (works_any _).mono ?_; rintro e w9 ⟨rfl, hb9⟩; have HB9 := Lib.hid hb9; clear hb9))
    go_ret
    exact ⟨rfl, HB1.out.trans (HB9.out.mono HB1.out.size)⟩
set_option maxRecDepth 100000 in
set_option maxHeartbeats 12800000 in
theorem helpers_in (hT : TabAt 1 Lib.deBruijn64tab w) (hG : 1 < w.heap.size) (h8 : n ≤ 8) (h0 : M.chkS n st S = 0) :
    Calls Tryd.prog 6 #[.slice A n c, .int .i64 st, .int .i64 x] w fun e w' => e = .returned (.bool true) ∧ Below w.heap.size w w' := by
  have hck := checkShops_any A n c B st S w hn hR hB
  rw [h0] at hck
  have HCK := Lib.hid hck
  obtain ⟨h12, hall, hs0, hs1⟩ := chkS_ok h0
  have hgs := fun W (hb : Below w.heap.size w W) => (gshops_any A n c B st S W hn (hR.below (hb.mono hB)) (Nat.le_trans hB hb.size) (TabAt.below (g := 1) (tab := Lib.deBruijn64tab) (w := w) hT hb hG) (Nat.lt_of_lt_of_le hG hb.size)).mono fun e W' h => (⟨h.1.form, h.2⟩ : (∃ A c, e = .returned (.tuple #[.slice A (shL n st S).length c, .int .i64 (shN n st S), .int .i64 (M.chkS n st S)]) ∧ Rd1 W' W'.heap.size A (shL n st S).length (nats (shL n st S))) ∧ Below W.heap.size W W')
  obtain ⟨i1, i2, i3⟩ := M.shTo_inv (n := n) (S := S) hs0 (2 ^ n)
  have eL : shL n st S = M.elL n (M.shTo n S st (2 ^ n)).1 := by unfold shL; rw [if_pos h0]
  have eN : shN n st S = (M.shTo n S st (2 ^ n)).2 := by unfold shN; rw [if_pos h0]
  rw [h0, eL, eN] at hgs
  obtain ⟨T, hTT⟩ : ∃ T, T = (M.shTo n S st (2 ^ n)).1 := ⟨_, rfl⟩
  obtain ⟨net, hnet⟩ : ∃ net, net = (M.shTo n S st (2 ^ n)).2 := ⟨_, rfl⟩
  rw [← hTT] at i1 i2 i3 hgs
  rw [← hnet] at i1 i3 hgs
  have hbd := fun i (hi : i < n) => M.shop_bd hall hi
  obtain ⟨L, hL⟩ : ∃ L, L = M.elL n T := ⟨_, rfl⟩
  have hLl : L.length ≤ n := by rw [hL]; exact M.elL_len n T
  have hLe : ∀ i, i < L.length → L.getD i 0 < n := fun i hi => by rw [hL] at hi ⊢; exact M.elL_lt hi
  have hLr : ∀ i, i + 1 < L.length → L.getD i 0 < L.getD (i + 1) 0 := fun i hi => by rw [hL] at hi ⊢; exact M.elL_rise hi
  have cb0 : ∀ k, k ≤ L.length → -(k * 1000000) ≤ M.colTo S 0 L k ∧ M.colTo S 0 L k ≤ k * 1000000 := fun k hk => by
    rw [hL] at hk ⊢
    exact M.colTo_bd (fun i hi => by have := hbd i hi; omega) hk
  have cb2 : ∀ k, k ≤ L.length → -(k * 1000000) ≤ M.colTo S 2 L k ∧ M.colTo S 2 L k ≤ k * 1000000 := fun k hk => by
    rw [hL] at hk ⊢
    exact M.colTo_bd (fun i hi => by have := hbd i hi; omega) hk
  have hsum : M.colTo S 0 L L.length = net := by rw [i1, hL]; rfl
  have hneed : M.colTo S 2 L L.length ≤ st := by rw [hL]; exact i2
  have HLQ := Lib.hid hL
  rw [← hL] at hgs
  have HGS := Lib.hid hgs
  have HI3 := Lib.hid i3
  have HBD := Lib.hid hbd
  have HLE := Lib.hid hLe
  have HLR := Lib.hid hLr
  have CB0 := Lib.hid cb0
  have CB2 := Lib.hid cb2
  have HSUM := Lib.hid hsum
  have HNEED := Lib.hid hneed
  obtain ⟨ii, hi, hz0, hz1, hz2⟩ := info_parts int_info
  have MI := Lib.hid (And.intro hi (And.intro hz0 (And.intro hz1 hz2)))
  have hbt := toNat_i64_and_one
  have e8 : decide (8 < n) = false := decide_eq_false (by omega)
  clear hi hz0 hz1 hz2 hck hT h0 h12 hall hs0 hs1 hgs i1 i2 i3 eL eN hTT hnet hbd hL hLe hLr cb0 cb2 hsum hneed
  go_enter Tryd.func6, Tryd.ntmps6
  go_wp2_with (go_at_call 22; refine HCK.out.mono ?_; rintro e w1 ⟨rfl, hb1⟩; have HB1 := Lib.hid hb1; clear hb1)
  refine (HGS.out w1 HB1.out).mono ?_
  rintro e w2 ⟨⟨LA, lc, rfl, hr⟩, hb2⟩
  have HLR2 := Lib.hid hr
  have HB2 := Lib.hid (HB1.out.trans (hb2.mono HB1.out.size))
  clear hr hb2 HCK HGS HB1
  go_wp2_with fail
  go_loopw [10, 11, 12] (fun s d i wr => ∃ k : Nat, k ≤ L.length ∧ i = .int .i64 k ∧ s = .int .i64 (M.colTo S 0 L k) ∧ d = .int .i64 (M.colTo S 2 L k) ∧ Below w2.heap.size w2 wr) (fun _ _ i _ => L.length - (intOf i).toNat)
  case atStart => exact ⟨0, Nat.zero_le _, rfl, rfl, rfl, Below.refl _ _⟩
  case round =>
    obtain ⟨k, hk, rfl, rfl, rfl, hbw⟩ := hrel
    have HB := Lib.hid hbw
    have hz := hbw.size
    have b0 := CB0.out k hk
    have b2 := CB2.out k hk
    by_cases hltk : k < L.length
    · obtain ⟨lb, lo, rfl, hlb, l0⟩ := (HLR2.out.below hbw).at_ hltk
      have hgl := HLE.out k hltk
      have e0 : M.colTo S 0 L (k + 1) = M.colTo S 0 L k + S (L.getD k 0) 0 := rfl
      have e2 : M.colTo S 2 L (k + 1) = M.colTo S 2 L k + S (L.getD k 0) 2 := rfl
      have l0' : wr.cell? ⟨lb, lo + k, none⟩ = some (.int .i64 ((L.getD k 0 : Nat) : Int)) := l0
      have hrise : 0 < k → ∃ p : Nat, L.getD (k - 1) 0 = p ∧ p < L.getD k 0 ∧ wr.cell? ⟨lb, lo + (k - 1), none⟩ = some (.int .i64 (p : Int)) := fun h => by
        have h1 := HLR.out (k - 1) (by omega)
        rw [show k - 1 + 1 = k by omega] at h1
        obtain ⟨lb', lo', e, _, l1⟩ := (HLR2.out.below hbw).at_ (show k - 1 < L.length by omega)
        injection e with e
        injection e with e3 e4 _
        subst e3; subst e4
        exact ⟨_, rfl, h1, l1⟩
      obtain ⟨g, hg⟩ : ∃ g, g = L.getD k 0 := ⟨_, rfl⟩
      rw [← hg] at hgl e0 e2 l0' hrise
      have hbb : Below w.heap.size w wr := HB2.out.trans (hbw.mono HB2.out.size)
      obtain ⟨sb, so, rfl, hsb, s0, s1, s2⟩ := (hR.below (hbb.mono hB)).at3 hgl
      have hsd := HBD.out g hgl
      have hz2 := hbb.size
      have hsw : sb < wr.heap.size := by omega
      have n0 : decide ((g : Int) < 0) = false := decide_eq_false (by omega)
      have ng : decide (n ≤ g) = false := decide_eq_false (by omega)
      have ng2 : decide ((n : Int) ≤ (g : Int)) = false := decide_eq_false (by omega)
      obtain ⟨y0, hy0⟩ : ∃ y, y = M.colTo S 0 L k := ⟨_, rfl⟩
      obtain ⟨y2, hy2⟩ : ∃ y, y = M.colTo S 2 L k := ⟨_, rfl⟩
      rw [← hy0] at b0 e0 ⊢
      rw [← hy2] at b2 e2 ⊢
      have E0 := Lib.hid e0
      have E2 := Lib.hid e2
      clear hy0 hy2 e0 e2 hg l0 hR hbw hbb
      by_cases hk0 : 0 < k
      · obtain ⟨p, _, hp, l1⟩ := hrise hk0
        have ek := decide_eq_true hk0
        have ek2 : decide ((0 : Int) < (k : Int)) = true := decide_eq_true (by omega)
        have ep : decide (g ≤ p) = false := decide_eq_false (by omega)
        have ep2 : decide ((g : Int) ≤ (p : Int)) = false := decide_eq_false (by omega)
        have ew : wrap64 ((k : Int) - 1) = ((k - 1 : Nat) : Int) := by rw [IntWalk.wrap64_in _ (by omega)]; omega
        clear hrise
        go_wp2_with fail
        go_quiet (fail)
        go_wp2_with fail
        go_roundw
        case rel => exact ⟨k + 1, by omega, by go_num, by rw [E0.out], by rw [E2.out], HB.out.drewN _⟩
        case measure => simp [intOf]; omega
      · obtain rfl : k = 0 := by omega
        have l0'' : wr.cell? ⟨lb, lo, none⟩ = some (.int .i64 (g : Int)) := l0'
        clear hrise hk0 l0'
        go_wp2_with fail
        go_quiet (fail)
        go_wp2_with fail
        go_roundw
        case rel => exact ⟨0 + 1, by omega, by go_num, by rw [E0.out], by rw [E2.out], HB.out.drewN _⟩
        case measure => simp [intOf]; omega
    · obtain rfl : k = L.length := by omega
      rw [HSUM.out]
      obtain ⟨nd, hnd⟩ : ∃ nd, nd = M.colTo S 2 L L.length := ⟨_, rfl⟩
      have hneed : nd ≤ st := by rw [hnd]; exact HNEED.out
      rw [← hnd] at b2 ⊢
      rw [HSUM.out] at b0
      have en : decide (st < nd) = false := decide_eq_false (by omega)
      obtain ⟨Y, hY⟩ : ∃ Y, Y = wr := ⟨_, rfl⟩
      rw [← hY] at HB hz ⊢
      have HBY := Lib.hid (HB2.out.trans (HB.out.mono HB2.out.size))
      have HLY := Lib.hid ((HLR2.out.below HB.out).more hz)
      have hzY := HBY.out.size
      clear hnd hneed hY hbw HB HB2 HLR2 hltk hk
      go_wp2_with fail
      go_loopw [13, 14, 15, 16] (fun v s d i wr => ∃ k : Nat, k ≤ n ∧ i = .int .i64 k ∧ s = .int .i64 (M.colTo S 0 (M.elP k (M.bt x)) (M.elP k (M.bt x)).length) ∧ d = .int .i64 (M.colTo S 2 (M.elP k (M.bt x)) (M.elP k (M.bt x)).length) ∧ Own wr Y.heap.size 3 1 v (M.elP k (M.bt x)).length (ints (nats (M.elP k (M.bt x)))) ∧ Below Y.heap.size Y wr) (fun _ _ _ i _ => n - (intOf i).toNat)
      case atStart => exact ⟨0, Nat.zero_le _, rfl, rfl, rfl, Own.nil_, Below.refl _ _⟩
      case round =>
        obtain ⟨k, hk, rfl, rfl, rfl, ho, hbw⟩ := hrel
        obtain ⟨vA, vc, rfl, hm⟩ := ho.rd1
        have HO := Lib.hid ho
        have HM := Lib.hid hm
        have HB := Lib.hid hbw
        have hz2 := hbw.size
        have hlk := M.elP_len k (M.bt x)
        have bd : ∀ j, j = 0 ∨ j = 2 → -(k * 1000000 : Int) ≤ M.colTo S j (M.elP k (M.bt x)) (M.elP k (M.bt x)).length ∧ M.colTo S j (M.elP k (M.bt x)) (M.elP k (M.bt x)).length ≤ k * 1000000 := fun j hj => by
          obtain ⟨s0, _, he⟩ := M.elP_set k (M.bt x)
          have h1 := M.colTo_bd (n := k) (s := s0) (j := j) (S := S) (c := 1000000) (fun i hi => by have := HBD.out i (by omega); rcases hj with rfl | rfl <;> omega) (Nat.le_refl _)
          have h2 := M.elL_len k s0
          rw [he]
          omega
        have b0 := bd 0 (.inl rfl)
        have b2 := bd 2 (.inr rfl)
        have hbb : Below w.heap.size w wr := HBY.out.trans (hbw.mono hzY)
        clear bd
        by_cases hlt : k < n
        · obtain ⟨sb, so, rfl, hsb, s0, s1, s2⟩ := (hR.below (hbb.mono hB)).at3 hlt
          have hsd := HBD.out k hlt
          have he := M.elP_succ k (M.bt x)
          have f0 := M.colTo_app S 0 (M.elP k (M.bt x)) k
          have f2 := M.colTo_app S 2 (M.elP k (M.bt x)) k
          have u1 : IntKind.u64.wrap (k : Int) = k := by rw [IntKind.wrap_u64]; omega
          have u2 : min k 64 = k := by omega
          have nk : decide (n ≤ k) = false := decide_eq_false (by omega)
          have hsw : sb < wr.heap.size := by have := hbb.size; omega
          obtain ⟨y0, hy0⟩ : ∃ y, y = M.colTo S 0 (M.elP k (M.bt x)) (M.elP k (M.bt x)).length := ⟨_, rfl⟩
          obtain ⟨y2, hy2⟩ : ∃ y, y = M.colTo S 2 (M.elP k (M.bt x)) (M.elP k (M.bt x)).length := ⟨_, rfl⟩
          rw [← hy0] at b0 f0 ⊢
          rw [← hy2] at b2 f2 ⊢
          have F0 := Lib.hid f0
          have F2 := Lib.hid f2
          have HY0 := Lib.hid hy0
          have HY2 := Lib.hid hy2
          obtain ⟨l, hl⟩ : ∃ l, l = M.elP k (M.bt x) := ⟨_, rfl⟩
          simp only [← hl] at HO HM F0 F2 hlk he HY0 HY2 ⊢
          clear ho hm hbw hbb hR hy0 hy2 f0 f2 hl
          cases hc : M.bt x k
          · rw [hc] at he
            have HE := Lib.hid he
            unfold M.bt at hc
            clear he
            go_wp2_with fail
            go_roundw
            case rel => exact ⟨k + 1, by omega, by go_num, by rw [HE.out]; simp [HY0.out], by rw [HE.out]; simp [HY2.out], by rw [HE.out]; simpa using HO.out, HB.out⟩
            case measure => simp [intOf]; omega
          · rw [hc] at he
            have HE := Lib.hid he
            unfold M.bt at hc
            clear he
            go_wp2_with (at_builtin; refine wpList_app rfl (.tmp 113) (.tmp 115) 33 rfl Y.heap.size 3 1 8 Tryd.underlying33 MI.out.1 MI.out.2.1 MI.out.2.2.1 MI.out.2.2.2 rfl (by decide) (by decide) (HO.out.alloc _) rfl (by omega) (by simp; omega) wr.heap.size 1 (fun _ => .int .i64 (k : Int)) rfl (cell_last rfl) (fun _ _ => rfl) ?_; intro v2 w3 o2 hg2 hat2; obtain ⟨A2, z2, rfl⟩ := o2.form; have HO2 := Lib.hid o2; have HG2 := Lib.hid hg2; have far : ∀ j, w3.cell? ⟨sb, j, none⟩ = wr.cell? ⟨sb, j, none⟩ := fun j => (hg2.cell_far ⟨sb, j, none⟩ (by simp; omega) (fun e : some sb = _ => by have := (HO.out.block e.symm).1; omega)).trans ((belowAlloc wr _).cell (p := ⟨sb, j, none⟩) hsw); have h0 := (far _).trans s0; have h2 := (far _).trans s2; clear far o2 hg2 hat2)
            go_roundw
            case rel =>
              refine ⟨k + 1, by omega, by go_num, ?_, ?_, ?_, ((HB.out.alloc hz2 _).grown HG2.out (by simp; omega) (fun g hg => (HO.out.block hg).1))⟩
              · rw [HE.out, if_pos rfl, F0.out]
              · rw [HE.out, if_pos rfl, F2.out]
              · rw [HE.out, if_pos rfl, List.length_append]
                exact HO2.out.congr fun i j hi _ => app_nats i j hi
            case measure => simp [intOf]; omega
        · obtain rfl : k = n := by omega
          obtain ⟨s0, hs0, hes⟩ := M.elP_set k (M.bt x)
          rw [hes] at HM b0 b2 ⊢
          have eb : M.colTo S 0 (M.elL k s0) (M.elL k s0).length = M.brings k S s0 := rfl
          have es : M.colTo S 2 (M.elL k s0) (M.elL k s0).length = M.staffs k S s0 := rfl
          rw [eb] at b0 ⊢
          rw [es] at b2 ⊢
          have hi3 := HI3.out s0 hs0
          have hll := M.elL_len k s0
          have hcall := sooner_any vA LA (M.elL k s0).length L.length vc lc wr.heap.size (nats (M.elL k s0)) (nats L) wr (by omega) (by omega) HM.out ((HLY.out.below hbw).more hz2) (Nat.le_refl _)
          have hso : M.soonB (M.elL k s0).length L.length (nats (M.elL k s0)) (nats L) = M.soonS k s0 T := by rw [HLQ.out]; rfl
          rw [hso] at hcall
          obtain ⟨bb, hbb0⟩ : ∃ bb, bb = M.brings k S s0 := ⟨_, rfl⟩
          obtain ⟨ss, hss0⟩ : ∃ ss, ss = M.staffs k S s0 := ⟨_, rfl⟩
          rw [← hbb0] at b0 hi3 ⊢
          rw [← hss0] at b2 hi3 ⊢
          have HBB := Lib.hid hbb
          clear ho hm hbw hbb hR hes eb es hso hbb0 hss0
          by_cases hst : ss ≤ st
          · have es : decide (st < ss) = false := decide_eq_false (by omega)
            rcases hi3 hst with h | ⟨h1, h2⟩
            · have eb := decide_eq_true h
              clear hi3 hst h hcall
              go_wp2_with (go_at_call 8; refine (works_any _).mono ?_; rintro e w9 ⟨rfl, hb9⟩; have HB9 := Lib.hid hb9; clear hb9)
              go_ret
              exact ⟨rfl, HBB.out.trans (HB9.out.mono HBB.out.size)⟩
            · rw [h2] at hcall
              have HC := Lib.hid hcall
              subst h1
              clear hi3 hst h2 hcall
              go_wp2_with (first | (go_at_call 18; refine HC.out.mono ?_; rintro e w8 ⟨rfl, hb8⟩; have HB8 := Lib.hid (HBB.out.trans (hb8.mono HBB.out.size)); clear hb8) | (go_at_call 8; refine (works_any _).mono ?_; rintro e w9 ⟨rfl, hb9⟩; have HB9 := Lib.hid hb9; clear hb9))
              go_ret
              exact ⟨rfl, HB8.out.trans (HB9.out.mono HB8.out.size)⟩
          · have es : decide (st < ss) = true := decide_eq_true (by omega)
            clear hi3 hst hcall
            go_wp2_with (go_at_call 8; refine (works_any _).mono ?_; rintro e w9 ⟨rfl, hb9⟩; have HB9 := Lib.hid hb9; clear hb9)
            go_ret
            exact ⟨rfl, HBB.out.trans (HB9.out.mono HBB.out.size)⟩
theorem giftsHelpers_any (hT : TabAt 1 Lib.deBruijn64tab w) (hG : 1 < w.heap.size) :
    Calls Tryd.prog 6 #[.slice A n c, .int .i64 st, .int .i64 x] w fun e w' => e = .returned (.bool true) ∧ Below w.heap.size w w' := by
  by_cases h : 8 < n ∨ M.chkS n st S ≠ 0
  · exact helpers_out A n c B st x S w hn hR hB h
  · exact helpers_in A n c B st x S w hn hR hB hT hG (by omega) (by omega)
end
end Go.Proofs.YtaljmlkapbojeaaDoor
