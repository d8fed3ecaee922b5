/- Contracts of the program's sets, spare, paid: over a ledger's three slices. -/
import Derived.Test.YtaljmlkapbojeaaDoorG2
namespace Go.Proofs.YtaljmlkapbojeaaDoor
open Go.RowKit

/-- A ledger in memory: what is left of each gift, what each bill needs, which gifts may be used for it. -/
def LedRd (w : World) (B : Nat) (lA : Option Addr) (gn : Nat) (L : Nat → Int) (nA uA : Option Addr) (bn : Nat) (Nd : Nat → Int) (U : Nat → Nat) : Prop := Rd1 w B lA gn L ∧ Rd1 w B nA bn Nd ∧ Rd1 w B uA bn fun i => (U i : Int)
theorem LedRd.below {w w' : World} {B gn bn : Nat} {lA nA uA : Option Addr} {L Nd : Nat → Int} {U : Nat → Nat} (h : LedRd w B lA gn L nA uA bn Nd U) (hb : Below B w w') : LedRd w' B lA gn L nA uA bn Nd U := ⟨h.1.below hb, h.2.1.below hb, h.2.2.below hb⟩
/-- Its numbers. -/
def LOk (gn bn : Nat) (L Nd : Nat → Int) (U : Nat → Nat) : Prop := gn ≤ 10 ∧ bn ≤ 8 ∧ (∀ g, g < gn → 0 ≤ L g ∧ L g ≤ 1000000) ∧ (∀ i, i < bn → 0 ≤ Nd i ∧ Nd i ≤ 1000000) ∧ (∀ i, i < bn → U i < 1024)
theorem LOk.need_bd {gn bn : Nat} {L Nd : Nat → Int} {U : Nat → Nat} (ok : LOk gn bn L Nd U) (s : Int) {k : Nat} (hk : k ≤ bn) : 0 ≤ M.needF k Nd s ∧ M.needF k Nd s ≤ 8000000 := by
  have h := M.sumTo_bd (n := k) (f := fun i => M.sel (M.bt s i) (Nd i)) (c := 1000000) fun i hi => M.sel_bd (by have := ok.2.2.2.1 i (by omega); omega)
  have := ok.2.1
  unfold M.needF
  omega
theorem LOk.left_bd {gn bn : Nat} {L Nd : Nat → Int} {U : Nat → Nat} (ok : LOk gn bn L Nd U) (s : Nat) {k : Nat} (hk : k ≤ gn) : 0 ≤ M.leftF k L s ∧ M.leftF k L s ≤ 10000000 := by
  have h := M.sumTo_bd (n := k) (f := fun i => M.sel (M.bt s i) (L i)) (c := 1000000) fun i hi => M.sel_bd (by have := ok.2.2.1 i (by omega); omega)
  have := ok.1
  unfold M.leftF
  omega
theorem LOk.gifts_bd {gn bn : Nat} {L Nd : Nat → Int} {U : Nat → Nat} (ok : LOk gn bn L Nd U) (s : Int) {k : Nat} (hk : k ≤ bn) : M.giftsF k U s < 1024 := by
  refine M.orTo_lt (b := 10) fun i hi => ?_
  have := ok.2.2.2.2 i (by omega)
  unfold M.selN
  split <;> omega

set_option maxHeartbeats 400000 in
theorem sets_any (lA nA uA : Option Addr) (gn lc bn nc un uc : Nat) (w : World) (hn : bn ≤ 8) :
    Calls Tryd.prog 30 #[.agg #[.slice lA gn lc, .slice nA bn nc, .slice uA un uc]] w fun e w' => e = .returned (.int .i64 (2 ^ bn : Nat)) ∧ Below w.heap.size w w' := by
  go_enter Tryd.func30, Tryd.ntmps30
  go_wp2_with fail
  go_ret
  have h : 2 ^ bn ≤ 2 ^ 8 := Nat.pow_le_pow_right (by omega) hn
  refine ⟨ret_int ?_, belowAlloc _ _⟩
  rw [show (2 : Int) ^ bn = ((2 ^ bn : Nat) : Int) from by simp]
  generalize 2 ^ bn = q at *
  exact IntWalk.wrap64_in _ (by omega)

set_option maxRecDepth 100000 in
set_option maxHeartbeats 1000000 in
theorem lspare_any (lA nA uA : Option Addr) (gn lc bn nc uc B : Nat) (L Nd : Nat → Int) (U : Nat → Nat) (s : Int) (w : World) (ok : LOk gn bn L Nd U) (hR : LedRd w B lA gn L nA uA bn Nd U) (hB : B ≤ w.heap.size) :
    Calls Tryd.prog 31 #[.agg #[.slice lA gn lc, .slice nA bn nc, .slice uA bn uc], .int .i64 s] w fun e w' =>
      e = .returned (.tuple #[.int .i64 (M.moneyF gn bn L Nd U s), .int .i64 (M.giftsF bn U s : Nat)]) ∧ Below w.heap.size w w' := by
  have hn := ok.2.1
  have hg := ok.1
  have hbt := toNat_i64_and_one
  go_enter Tryd.func31, Tryd.ntmps31
  go_wp2_with fail
  go_loop [4, 5, 13] (fun m g i => ∃ k : Nat, k ≤ bn ∧ i = .int .i64 k ∧ m = .int .i64 (- M.needF k Nd s) ∧ g = .int .i64 (M.giftsF k U s : Nat)) (fun _ _ i => bn - (intOf i).toNat)
  case atStart => exact ⟨0, Nat.zero_le _, rfl, rfl, rfl⟩
  case round =>
    obtain ⟨k, hk, rfl, rfl, rfl⟩ := hrel
    by_cases hlt : k < bn
    · obtain ⟨b, off, rfl, hb, c2⟩ := hR.2.1.at_ hlt
      obtain ⟨ub, uo, rfl, hub, u2⟩ := hR.2.2.at_ hlt
      have hb' : b < w.heap.size := by omega
      have hub' : ub < w.heap.size := by omega
      have hs := ok.need_bd s hk
      have hh := ok.2.2.2.1 k hlt
      have e1 : M.needF (k + 1) Nd s = M.needF k Nd s + M.sel (M.bt s k) (Nd k) := rfl
      have E1 := Lib.hid e1
      have e2 : M.giftsF (k + 1) U s = (M.giftsF k U s ||| M.selN (M.bt s k) (U k)) := rfl
      have E2 := Lib.hid e2
      have hor := i64_or_nat (M.giftsF k U s) (U k) (by have := ok.gifts_bd s hk; omega) (by have := ok.2.2.2.2 k hlt; omega)
      clear ok hR e1 e2
      cases hc : M.bt s k
      all_goals
        have HC := Lib.hid hc
        unfold M.bt at hc
        go_wp2_with fail
        go_round
        case rel => exact ⟨k + 1, by omega, by go_num, by (rw [E1.out, HC.out]) <;> simp only [M.sel] <;> first | (simp; done) | go_num, by rw [E2.out, HC.out]; simp [M.selN]⟩
        case measure => simp [intOf]; omega
    · obtain rfl : k = bn := by omega
      go_wp2_with fail
      go_loop [4, 37] (fun m i => ∃ j : Nat, j ≤ gn ∧ i = .int .i64 j ∧ m = .int .i64 (M.leftF j L (M.giftsF k U s) - M.needF k Nd s)) (fun _ i => gn - (intOf i).toNat)
      case atStart => exact ⟨0, Nat.zero_le _, rfl, by simp [M.leftF, M.sumTo]⟩
      case round =>
        obtain ⟨j, hj, rfl, rfl⟩ := hrel
        by_cases hlt' : j < gn
        · obtain ⟨b, off, rfl, hb, c2⟩ := hR.1.at_ hlt'
          have hb' : b < w.heap.size := by omega
          have hs := ok.need_bd s hk
          have hl := ok.left_bd (M.giftsF k U s) hj
          have hh := ok.2.2.1 j hlt'
          have e1 : M.leftF (j + 1) L (M.giftsF k U s) = M.leftF j L (M.giftsF k U s) + M.sel (M.bt (M.giftsF k U s) j) (L j) := rfl
          have E1 := Lib.hid e1
          clear ok hR e1
          cases hc : M.bt (M.giftsF k U s) j
          all_goals
            have HC := Lib.hid hc
            unfold M.bt at hc
            go_wp2_with fail
            go_round
            case rel => exact ⟨j + 1, by omega, by go_num, by (rw [E1.out, HC.out]) <;> simp only [M.sel] <;> first | (simp; done) | go_num⟩
            case measure => simp [intOf]; omega
        · obtain rfl : j = gn := by omega
          go_wp2_with fail
          go_ret2
          exact ⟨rfl, belowAlloc _ _⟩

set_option maxHeartbeats 1000000 in
theorem lpaid_any (lA nA uA : Option Addr) (gn lc bn nc uc B : Nat) (L Nd : Nat → Int) (U : Nat → Nat) (w : World) (ok : LOk gn bn L Nd U) (hR : LedRd w B lA gn L nA uA bn Nd U) (hB : B ≤ w.heap.size) :
    Calls Tryd.prog 26 #[.agg #[.slice lA gn lc, .slice nA bn nc, .slice uA bn uc]] w fun e w' => e = .returned (.bool (M.lpaidF gn bn L Nd U)) ∧ Below w.heap.size w w' := by
  have hn := ok.2.1
  have hp : 2 ^ bn ≤ 2 ^ 8 := Nat.pow_le_pow_right (by omega) hn
  obtain ⟨q, hq⟩ : ∃ q, q = 2 ^ bn := ⟨_, rfl⟩
  rw [← hq] at hp
  have HQ := Lib.hid hq
  clear hq
  go_enter Tryd.func26, Tryd.ntmps26
  go_wp2_with (go_at_call 30; refine (sets_any _ _ _ _ _ _ _ _ _ _ hn).mono ?_; rw [← HQ.out]; rintro e w1 ⟨rfl, hb1⟩)
  go_loopw [8] (fun i wr => ∃ k : Nat, k ≤ q ∧ i = .int .i64 k ∧ (M.allTo k fun s => decide (0 ≤ M.moneyF gn bn L Nd U s)) = true ∧ Below (w.heap.size + 1) (w.alloc (.cells #[.slice lA gn lc, .slice nA bn nc, .slice uA bn uc] 64)) wr) (fun i _ => q - (intOf i).toNat)
  case atStart => exact ⟨0, Nat.zero_le _, rfl, rfl, hb1.mono (by simp)⟩
  case round =>
    obtain ⟨k, hk, rfl, hf, hbw⟩ := hrel
    have HF := Lib.hid hf
    clear hf hb1
    have b0 := box_cell hbw 0
    have b1 := box_cell hbw 1
    have b2 := box_cell hbw 2
    have hsz := box_size hbw
    have HW := Lib.hid hbw
    have hR' := hR.below ((box_below hbw).mono hB)
    clear hbw hR
    by_cases hlt : k < q
    · cases hc : decide (0 ≤ M.moneyF gn bn L Nd U k)
      all_goals
        have HC := Lib.hid hc
        have hc' := hc
        simp only [decide_eq_true_eq, decide_eq_false_iff_not, Int.not_le] at hc'
        clear hc
        obtain ⟨mv, hmv⟩ : ∃ mv, mv = M.moneyF gn bn L Nd U k := ⟨_, rfl⟩
        rw [← hmv] at hc'
        have HM := Lib.hid hmv
        clear hmv
        go_wp2_with (go_at_call 31; refine (lspare_any _ _ _ _ _ _ _ _ _ _ _ _ _ _ ok hR' (by omega)).mono ?_; rw [← HM.out]; rintro e w2 ⟨rfl, hb2⟩; have HB2 := Lib.hid hb2; clear hb2)
      · go_ret
        refine ⟨ret_bool (Eq.symm ?_), (box_below HW.out).trans (HB2.out.mono (by omega))⟩
        rw [← Bool.not_eq_true, M.lpaidF, ← HQ.out, M.allTo_iff]
        intro h
        have := h k hlt
        rw [HC.out] at this
        cases this
      · go_roundw
        case rel => exact ⟨k + 1, by omega, by go_num, by simp only [M.allTo, HF.out]; rw [HC.out]; rfl, HW.out.trans (HB2.out.mono (by omega))⟩
        case measure => simp [intOf]; omega
    · obtain rfl : k = q := by omega
      go_wp2_with fail
      go_ret
      exact ⟨ret_bool (by rw [M.lpaidF, ← HQ.out]; exact HF.out.symm), box_below HW.out⟩

set_option maxRecDepth 100000 in
set_option maxHeartbeats 2000000 in
theorem lmost_any (lA nA uA : Option Addr) (gn lc bn nc uc B : Nat) (L Nd : Nat → Int) (U : Nat → Nat) (bill gift : Nat) (w : World) (ok : LOk gn bn L Nd U) (hR : LedRd w B lA gn L nA uA bn Nd U) (hB : B ≤ w.heap.size) (hbl : bill < bn) (hgf : gift < gn) :
    Calls Tryd.prog 27 #[.agg #[.slice lA gn lc, .slice nA bn nc, .slice uA bn uc], .int .i64 (bill : Int), .int .i64 (gift : Int)] w fun e w' => e = .returned (.int .i64 (M.mostF gn bn L Nd U bill gift)) ∧ Below w.heap.size w w' := by
  have hn := ok.2.1
  have hg := ok.1
  have hbt := toNat_i64_and_one
  have hp : 2 ^ bn ≤ 2 ^ 8 := Nat.pow_le_pow_right (by omega) hn
  obtain ⟨q, hq⟩ : ∃ q, q = 2 ^ bn := ⟨_, rfl⟩
  rw [← hq] at hp
  have HQ := Lib.hid hq
  clear hq
  obtain ⟨b, off, rfl, hb, c2⟩ := hR.2.1.at_ hbl
  obtain ⟨ub, uo, rfl, hub, u2⟩ := hR.2.2.at_ hbl
  obtain ⟨lb, lo, rfl, hlb, l2⟩ := hR.1.at_ hgf
  have hb' : b < w.heap.size := by omega
  have hub' : ub < w.heap.size := by omega
  have hlb' : lb < w.heap.size := by omega
  cases hs : M.bt (U bill) gift
  · have HS := Lib.hid hs
    unfold M.bt at hs
    have hs2 : (((U bill : Nat) : Int) / 2 ^ gift % 2 == 0) = true := by
      rw [beq_eq_false_iff_ne] at hs
      rw [beq_iff_eq]; omega
    go_enter Tryd.func27, Tryd.ntmps27
    go_wp2_with fail
    go_ret
    exact ⟨ret_int (by simp [M.mostF, HS.out]), belowAlloc _ _⟩
  · have HS := Lib.hid hs
    unfold M.bt at hs
    have hs2 : (((U bill : Nat) : Int) / 2 ^ gift % 2 == 0) = false := by
      rw [beq_iff_eq] at hs
      rw [beq_eq_false_iff_ne]; omega
    clear hs
    go_enter Tryd.func27, Tryd.ntmps27
    go_wp2_with fail
    go_quiet (fail)
    go_wp2_with (go_at_call 30; refine (sets_any _ _ _ _ _ _ _ _ _ _ hn).mono ?_; rw [← HQ.out]; rintro e w1 ⟨rfl, hb1⟩)
    go_loopw [7, 33] (fun n i wr => ∃ k : Nat, k ≤ q ∧ i = .int .i64 k ∧ n = .int .i64 (M.mostTo gn bn L Nd U bill gift k) ∧ Below (w.heap.size + 1) (w.alloc (.cells #[.slice (some ⟨lb, lo, none⟩) gn lc, .slice (some ⟨b, off, none⟩) bn nc, .slice (some ⟨ub, uo, none⟩) bn uc] 64)) wr) (fun _ i _ => q - (intOf i).toNat)
    case atStart => exact ⟨0, Nat.zero_le _, rfl, rfl, by first | exact hb1.mono (by simp) | exact ((Below.refl _ _).drewN _).trans (hb1.mono (by simp))⟩
    case round =>
      obtain ⟨k, hk, rfl, rfl, hbw⟩ := hrel
      clear hb1
      have b0 := box_cell hbw 0
      have b1 := box_cell hbw 1
      have b2 := box_cell hbw 2
      have hsz := box_size hbw
      have HW := Lib.hid hbw
      have hR' := hR.below ((box_below hbw).mono hB)
      clear hbw hR c2 u2 l2
      have e1 : M.mostTo gn bn L Nd U bill gift (k + 1) = if M.bt k bill then M.mostTo gn bn L Nd U bill gift k else if M.bt (M.giftsF bn U k) gift then min (M.mostTo gn bn L Nd U bill gift k) (M.moneyF gn bn L Nd U k) else M.mostTo gn bn L Nd U bill gift k := rfl
      have E1 := Lib.hid e1
      clear e1
      obtain ⟨cur, hcur⟩ : ∃ cur, cur = M.mostTo gn bn L Nd U bill gift k := ⟨_, rfl⟩
      rw [← hcur]
      have HCUR := Lib.hid hcur
      clear hcur
      by_cases hlt : k < q
      · cases hc : M.bt k bill
        · have HC := Lib.hid hc
          unfold M.bt at hc
          obtain ⟨mv, hmv⟩ : ∃ mv, mv = M.moneyF gn bn L Nd U k := ⟨_, rfl⟩
          obtain ⟨gv, hgv⟩ : ∃ gv, gv = M.giftsF bn U k := ⟨_, rfl⟩
          cases hd : M.bt (gv : Nat) gift
          all_goals
            have HD := Lib.hid hd
            unfold M.bt at hd
            have HM := Lib.hid hmv
            have HG := Lib.hid hgv
            clear hmv hgv
            go_wp2_with (go_at_call 31; refine (lspare_any _ _ _ _ _ _ _ _ _ _ _ _ _ _ ok hR' (by omega)).mono ?_; rw [← HM.out, ← HG.out]; rintro e w2 ⟨rfl, hb2⟩; have HB2 := Lib.hid hb2; clear hb2)
            go_roundw
            case rel => exact ⟨k + 1, by omega, by go_num, by rw [E1.out, HC.out, ← HG.out, HD.out, ← HCUR.out, ← HM.out]; simp, HW.out.trans (HB2.out.mono (by omega))⟩
            case measure => simp [intOf]; omega
        · have HC := Lib.hid hc
          unfold M.bt at hc
          go_wp2_with fail
          go_roundw
          case rel => exact ⟨k + 1, by omega, by go_num, by rw [E1.out, HC.out, ← HCUR.out]; simp, HW.out⟩
          case measure => simp [intOf]; omega
      · obtain rfl : k = q := by omega
        go_wp2_with fail
        go_ret
        exact ⟨ret_int (by rw [M.mostF, HS.out, HCUR.out, HQ.out]; simp), box_below HW.out⟩
end Go.Proofs.YtaljmlkapbojeaaDoor
