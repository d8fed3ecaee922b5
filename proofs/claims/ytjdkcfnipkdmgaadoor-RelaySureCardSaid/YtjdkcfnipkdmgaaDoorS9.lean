/- Capacity, the program's and the reference's. -/
import Derived.Test.YtjdkcfnipkdmgaaDoorCapM
namespace Go.Proofs.YtjdkcfnipkdmgaaDoor
open Go.RowKit

theorem quo2 (x : Int) (h : 1 ≤ x ∧ x ≤ 12) (W : World) : (Op.intDiv .quo .i64 (x - 1) 2).run Tryd.prog W = .ok (.int .i64 ((x - 1) / 2)) W := run_quo _ _ ⟨by omega, by omega, by omega⟩
theorem RdS.less' {w : World} {B n k : Nat} {A : Option Addr} {f : Nat → ByteArray} (h : RdS w B A n f) (hk : k ≤ n) : RdS w B A k f := by
  rcases h with h | ⟨b, off, hA, hb, hc⟩
  · exact .inl (by omega)
  · exact .inr ⟨b, off, hA, hb, fun i hi => hc i (by omega)⟩
section
variable (A : Option Addr) (n c B : Nat) (f : Nat → ByteArray) (w : World) (hn : n ≤ 1048576) (hR : RdS w B A n f) (hB : B ≤ w.heap.size) (hS : ∀ i, i < n → (f i).size ≤ 1048576)
include hn hR hB hS
set_option maxRecDepth 100000 in
set_option maxHeartbeats 3200000 in
theorem pcap_any (hnc : n ≤ c) (hc : c ≤ 9223372036854775807) :
    Calls Tryd.prog 25 #[.slice A n c] w fun e w' => e = .returned (.tuple #[.int .i64 (capN n f), .int .i64 (capE n f)]) ∧ Below w.heap.size w w' := by
  have HR := Lib.hid hR
  cases hV : M.isV n f
  · have HN := Lib.hid (show capN n f = 0 by unfold capN; rw [hV]; rfl)
    have HE := Lib.hid (show capE n f = 102 by unfold capE; rw [hV]; rfl)
    go_enter Tryd.func25, Tryd.ntmps25
    go_wp2_with fail
    refine (vocabulary_any A n c B f _ hn hnc hc hR hB hS).mono ?_
    rw [hV]
    rintro e w1 ⟨rfl, hb1⟩
    have HB1 := Lib.hid hb1
    clear hb1
    go_wp2_with fail
    go_ret2
    exact ⟨by rw [HN.out, HE.out]; rfl, HB1.out⟩
  · by_cases h2 : 2 ≤ n
    · have HN := Lib.hid (show capN n f = (M.least f n - 1) / 2 by unfold capN; rw [if_pos ⟨hV, h2⟩])
      have HE := Lib.hid (show capE n f = 0 by unfold capE; rw [hV, if_pos h2]; rfl)
      have HV := Lib.hid hV
      have HS := Lib.hid hS
      have g1 : decide ((n : Int) < 2) = false := decide_eq_false (by omega)
      clear hR hS hV
      go_enter Tryd.func25, Tryd.ntmps25
      go_wp2_with fail
      refine (vocabulary_any A n c B f _ hn hnc hc HR.out hB HS.out).mono ?_
      rw [HV.out]
      rintro e w1 ⟨rfl, hb1⟩
      have HB1 := Lib.hid hb1
      clear hb1
      go_wp2_with fail
      go_loopw [4, 5, 6, 8, 17] (fun v _ _ _ i wr => ∃ k : Nat, k ≤ n ∧ i = .int .i64 k ∧ v = .int .i64 (M.least f k) ∧ Below w.heap.size w wr) (fun _ _ _ _ i _ => n - (intOf i).toNat)
      case atStart => exact ⟨0, Nat.zero_le _, rfl, rfl, HB1.out⟩
      case round =>
        obtain ⟨k, hk, rfl, rfl, hbw⟩ := hrel
        have HB := Lib.hid hbw
        have hz := hbw.size
        have hbd := least_bd HV.out k hk
        by_cases hlt : k < n
        · obtain ⟨b, off, rfl, hb, c0⟩ := (HR.out.below (hbw.mono hB)).at_ hlt
          clear hbw
          have kc : k ≤ c := by omega
          go_wp2_with fail
          clear c0
          go_loopw [4, 8, 26] (fun v _ i wr => ∃ j : Nat, j ≤ k ∧ i = .int .i64 j ∧ v = .int .i64 (M.inr f k j (M.least f k)) ∧ Below w.heap.size w wr) (fun _ _ i _ => k - (intOf i).toNat)
          case atStart => exact ⟨0, Nat.zero_le _, rfl, rfl, HB.out⟩
          case round =>
            obtain ⟨j, hj, rfl, rfl, hbw2⟩ := hrel
            have HB2 := Lib.hid hbw2
            have hz2 := hbw2.size
            by_cases hlt2 : j < k
            · obtain ⟨b', off', ee, _, c1⟩ := (HR.out.below (hbw2.mono hB)).at_ (show j < n by omega)
              injection ee with ee
              injection ee with e1 e2 _
              subst e1; subst e2
              have HX := Lib.hid (show M.inr f k (j + 1) (M.least f k) = min (M.inr f k j (M.least f k)) (M.dst (f k) (f j)) from rfl)
              clear hbw2
              go_wp2_with (go_at_call 45; refine (apart_any (f k) (f j) _ (by have := HS.out k hlt; omega) (by have := voc_pair HV.out hlt hlt2; omega) (voc_pair HV.out hlt hlt2).2.2.2).mono ?_; rintro e w3 ⟨rfl, hb3⟩; have HB3 := Lib.hid (HB2.out.trans (hb3.mono hz2)); clear hb3)
              go_roundw
              case rel => exact ⟨j + 1, by omega, by go_num, by rw [HX.out], HB3.out⟩
              case measure => simp [intOf]; omega
            · obtain rfl : j = k := by omega
              clear hbw2
              have HX := Lib.hid (show M.least f (j + 1) = M.inr f j j (M.least f j) from rfl)
              go_wp2_with fail
              go_roundw
              case rel => exact ⟨j + 1, by omega, by go_num, by rw [HX.out], HB2.out⟩
              case measure => simp [intOf]; omega
        · obtain rfl : k = n := by omega
          clear hbw
          have hq := quo2 (M.least f k) hbd
          go_wp2_with fail
          go_ret2
          exact ⟨by rw [HN.out, HE.out]; rfl, HB.out⟩
    · have HN := Lib.hid (show capN n f = 0 by unfold capN; rw [if_neg fun e => h2 e.2])
      have HE := Lib.hid (show capE n f = 3 by unfold capE; rw [hV, if_neg h2]; rfl)
      have g1 : decide ((n : Int) < 2) = true := decide_eq_true (by omega)
      go_enter Tryd.func25, Tryd.ntmps25
      go_wp2_with fail
      refine (vocabulary_any A n c B f _ hn hnc hc hR hB hS).mono ?_
      rw [hV]
      rintro e w1 ⟨rfl, hb1⟩
      have HB1 := Lib.hid hb1
      clear hb1
      go_wp2_with fail
      go_ret2
      exact ⟨by rw [HN.out, HE.out]; rfl, HB1.out⟩
omit hB in
set_option maxRecDepth 100000 in
set_option maxHeartbeats 3200000 in
theorem rcap_any :
    Calls Tryd.prog 26 #[.slice A n c] w fun e w' => e = .returned (.tuple #[.int .i64 (capN n f), .int .i64 (capE n f)]) ∧ ∃ m, w' = w.drewN m := by
  have HR := Lib.hid hR
  have hnm : n ≤ maxLen := by unfold maxLen; omega
  cases hV : M.isV n f
  · have HN := Lib.hid (show capN n f = 0 by unfold capN; rw [hV]; rfl)
    have HE := Lib.hid (show capE n f = 102 by unfold capE; rw [hV]; rfl)
    go_enter Tryd.func26, Tryd.ntmps26
    go_wp2_with fail
    refine (isvoc_any A n c B f _ hnm hR hS).mono ?_
    rw [hV]
    rintro e w1 ⟨rfl, hb1⟩
    have HB1 := Lib.hid hb1
    clear hb1
    go_wp2_with fail
    go_ret2
    exact ⟨by rw [HN.out, HE.out]; rfl, HB1.out⟩
  · by_cases h2 : 2 ≤ n
    · have HN := Lib.hid (show capN n f = (M.least f n - 1) / 2 by unfold capN; rw [if_pos ⟨hV, h2⟩])
      have HE := Lib.hid (show capE n f = 0 by unfold capE; rw [hV, if_pos h2]; rfl)
      have HV := Lib.hid hV
      have HS := Lib.hid hS
      have g1 : decide ((n : Int) < 2) = false := decide_eq_false (by omega)
      clear hR hS hV
      go_enter Tryd.func26, Tryd.ntmps26
      go_wp2_with fail
      refine (isvoc_any A n c B f _ hnm HR.out HS.out).mono ?_
      rw [HV.out]
      rintro e w1 ⟨rfl, hb1⟩
      have HB1 := Lib.hid hb1
      clear hb1
      go_wp2_with fail
      go_loopw [4, 5, 6] (fun v i _ wr => ∃ k : Nat, k ≤ n ∧ i = .int .i64 k ∧ v = .int .i64 (M.least f k) ∧ ∃ m, wr = w.drewN m) (fun _ i _ _ => n - (intOf i).toNat)
      case atStart => exact ⟨0, Nat.zero_le _, rfl, rfl, HB1.out⟩
      case round =>
        obtain ⟨k, hk, rfl, rfl, hbw⟩ := hrel
        have HB := Lib.hid hbw
        have hbd := least_bd HV.out k hk
        clear hbw
        by_cases hlt : k < n
        · go_wp2_with fail
          go_loopw [4, 6] (fun v i wr => ∃ j : Nat, j ≤ k ∧ i = .int .i64 j ∧ v = .int .i64 (M.inr f k j (M.least f k)) ∧ ∃ m, wr = w.drewN m) (fun _ i _ => k - (intOf i).toNat)
          case atStart => exact ⟨0, Nat.zero_le _, rfl, rfl, HB.out⟩
          case round =>
            obtain ⟨j, hj, rfl, rfl, hbw2⟩ := hrel
            have HB2 := Lib.hid hbw2
            by_cases hlt2 : j < k
            · have hr2 : RdS wr B A n f := by obtain ⟨m, e⟩ := hbw2; rw [e]; exact HR.out
              obtain ⟨b, off, rfl, hb, c0⟩ := hr2.at_ hlt
              obtain ⟨b', off', ee, _, c1⟩ := hr2.at_ (show j < n by omega)
              injection ee with ee
              injection ee with e1 e2 _
              subst e1; subst e2
              have HX := Lib.hid (show M.inr f k (j + 1) (M.least f k) = min (M.inr f k j (M.least f k)) (M.dst (f k) (f j)) from rfl)
              have HD : ∀ (W : World), Calls Tryd.prog 23 #[.string (f k), .string (f j)] W fun e w'' => e = .returned (.int .i64 (M.dst (f k) (f j))) ∧ ∃ m, w'' = W.drewN m := fun W => (distance_any _ _ W (by have := HS.out k hlt; omega) (by have := voc_pair HV.out hlt hlt2; omega))
              have HD := Lib.hid HD
              have k1 : decide (n ≤ k) = false := decide_eq_false (by omega)
              have k2 : decide (n ≤ j) = false := decide_eq_false (by omega)
              clear hbw2 hr2
              go_wp2_with fail
              go_quiet (exact Calls.quiet_of (HD.out _))
              go_wp2_with fail
              go_roundw
              case rel => exact ⟨j + 1, by omega, by go_num, by rw [HX.out], by obtain ⟨m, e⟩ := HB2.out; exact ⟨m + nq, by rw [e, World.drewN_drewN]⟩⟩
              case measure => simp [intOf]; omega
            · obtain rfl : j = k := by omega
              clear hbw2
              have HX := Lib.hid (show M.least f (j + 1) = M.inr f j j (M.least f j) from rfl)
              go_wp2_with fail
              go_roundw
              case rel => exact ⟨j + 1, by omega, by go_num, by rw [HX.out], HB2.out⟩
              case measure => simp [intOf]; omega
        · obtain rfl : k = n := by omega
          have hq := quo2 (M.least f k) hbd
          go_wp2_with fail
          go_ret2
          exact ⟨by rw [HN.out, HE.out]; rfl, HB.out⟩
    · have HN := Lib.hid (show capN n f = 0 by unfold capN; rw [if_neg fun e => h2 e.2])
      have HE := Lib.hid (show capE n f = 3 by unfold capE; rw [hV, if_neg h2]; rfl)
      have g1 : decide ((n : Int) < 2) = true := decide_eq_true (by omega)
      go_enter Tryd.func26, Tryd.ntmps26
      go_wp2_with fail
      refine (isvoc_any A n c B f _ hnm hR hS).mono ?_
      rw [hV]
      rintro e w1 ⟨rfl, hb1⟩
      have HB1 := Lib.hid hb1
      clear hb1
      go_wp2_with fail
      go_ret2
      exact ⟨by rw [HN.out, HE.out]; rfl, HB1.out⟩
end
end Go.Proofs.YtjdkcfnipkdmgaaDoor
