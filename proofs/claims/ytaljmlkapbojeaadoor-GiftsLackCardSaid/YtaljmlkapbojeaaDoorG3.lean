/- Contracts of the reference's helps, spare, Paid. -/
import Derived.Test.YtaljmlkapbojeaaDoorG2
namespace Go.Proofs.YtaljmlkapbojeaaDoor
open Go.RowKit

set_option maxRecDepth 100000 in
set_option maxHeartbeats 400000 in
theorem helps_any (gA bA : Option Addr) (gn gc bn bc B : Nat) (G H : Nat → Nat → Int) (g : Nat) (s : Int) (w : World) (ok : Ok gn bn G H) (hR : BookRd w B gA gn G bA bn H) (hB : B ≤ w.heap.size) (hg : g < gn) :
    Calls Tryd.prog 46 #[.agg #[.slice gA gn gc, .slice bA bn bc], .int .i64 (g : Int), .int .i64 s] w fun e w' => e = .returned (.bool (M.helpsF bn G H g s)) ∧ Below w.heap.size w w' := by
  have hn := ok.2.1
  have hbt := toNat_i64_and_one
  obtain ⟨gb, go, rfl, hgb, g0, g1, g2⟩ := hR.1.at3 hg
  go_enter Tryd.func46, Tryd.ntmps46
  go_wp2_with fail
  go_loopw [7] (fun i wr => ∃ k : Nat, k ≤ bn ∧ i = .int .i64 k ∧ M.helpsF k G H g s = false ∧ Below (w.heap.size + 1) (w.alloc (.cells #[.slice (some ⟨gb, go, none⟩) gn gc, .slice bA bn bc] 25)) wr) (fun i _ => bn - (intOf i).toNat)
  case atStart => exact ⟨0, Nat.zero_le _, rfl, rfl, Below.refl _ _⟩
  case round =>
    obtain ⟨k, hk, rfl, hf, hbw⟩ := hrel
    have HF := Lib.hid hf
    clear hf
    by_cases hlt : k < bn
    · obtain ⟨b, off, rfl, hb, c0, c1, c2⟩ := hR.2.at3 hlt
      have hh := ok.2.2.2 k hlt
      have hsz := hbw.size
      simp only [size_alloc] at hsz
      have e1 : M.helpsF (k + 1) G H g s = (M.helpsF k G H g s || (M.bt s k && M.srv G H g k)) := rfl
      have E1 := Lib.hid e1
      clear e1
      have b0 : wr.cell? ⟨w.heap.size, 0, none⟩ = some (.slice (some ⟨gb, go, none⟩) gn gc) := by rw [hbw.cell (by simp)]; simp
      have b1 : wr.cell? ⟨w.heap.size, 1, none⟩ = some (.slice (some ⟨b, off, none⟩) bn bc) := by rw [hbw.cell (by simp)]; simp
      have k0 := (hbw.cell (p := ⟨b, off + k * 3, none⟩) (by simp; omega)).trans ((World.cell?_alloc_lt w _ _ (by simp; omega)).trans c0)
      have k1 := (hbw.cell (p := ⟨b, off + k * 3 + 1, none⟩) (by simp; omega)).trans ((World.cell?_alloc_lt w _ _ (by simp; omega)).trans c1)
      have k2 := (hbw.cell (p := ⟨b, off + k * 3 + 2, none⟩) (by simp; omega)).trans ((World.cell?_alloc_lt w _ _ (by simp; omega)).trans c2)
      have j0 := (hbw.cell (p := ⟨gb, go + g * 3, none⟩) (by simp; omega)).trans ((World.cell?_alloc_lt w _ _ (by simp; omega)).trans g0)
      have j1 := (hbw.cell (p := ⟨gb, go + g * 3 + 1, none⟩) (by simp; omega)).trans ((World.cell?_alloc_lt w _ _ (by simp; omega)).trans g1)
      have j2 := (hbw.cell (p := ⟨gb, go + g * 3 + 2, none⟩) (by simp; omega)).trans ((World.cell?_alloc_lt w _ _ (by simp; omega)).trans g2)
      have HW := Lib.hid hbw
      have H0 := hh.1
      have H7 := hh.2.1
      clear hbw c0 c1 c2 g0 g1 g2 ok hR hh
      cases hc : M.bt s k
      · have HC := Lib.hid hc
        unfold M.bt at hc
        have hc' : (s / 2 ^ k % 2 == 1) = false := hc
        go_wp2_with fail
        go_quiet (fail)
        go_wp2_with fail
        go_roundw
        case rel => exact ⟨k + 1, by omega, by go_num, by rw [E1.out, HF.out, HC.out]; rfl, HW.out.drewN _⟩
        case measure => simp [intOf]; omega
      · have HC := Lib.hid hc
        unfold M.bt at hc
        have u1 : IntKind.u64.wrap (k : Int) = k := by rw [IntKind.wrap_u64]; omega
        have u2 : min k 64 = k := by omega
        cases hs : M.srv G H g k
        all_goals
          have HS := Lib.hid hs
          have hs' : (M.bt (G g 0) (H k 0).toNat && decide (G g 1 ≤ H k 1)) = M.srv G H g k := rfl
          rw [hs] at hs'
          have HS' := Lib.hid hs'
          clear hs hs'
          go_wp2_with fail
          go_still_tail 17, (by kernel_rfl)
          change wpList _ _ _ _ _ wr.drew
          clear u1 u2
          go_wp2_with (go_at_call 19; refine (serves_any _ _ _ _ _ _ _ H0 H7).mono ?_; rw [HS'.out]; rintro e w1 ⟨rfl, hb1⟩; have HB1 := Lib.hid hb1; clear hb1)
        · go_roundw
          case rel => exact ⟨k + 1, by omega, by go_num, by rw [E1.out, HF.out, HC.out, HS.out]; rfl, HW.out.drew.trans (HB1.out.mono (by simpa using hsz))⟩
          case measure => simp [intOf]; omega
        · go_ret
          refine ⟨ret_bool ?_, ?_⟩
          · refine (M.anyTo_iff.2 ⟨k, hlt, ?_⟩).symm
            rw [HC.out, HS.out]; rfl
          · exact (belowAlloc w _).trans ((HW.out.mono (by omega)).drew.trans (HB1.out.mono (by simp; omega)))
    · obtain rfl : k = bn := by omega
      have b1 : wr.cell? ⟨w.heap.size, 1, none⟩ = some (.slice bA k bc) := by rw [hbw.cell (by simp)]; simp
      have HW := Lib.hid hbw
      clear hbw g0 g1 g2
      go_wp2_with fail
      go_ret
      exact ⟨ret_bool HF.out.symm, (belowAlloc w _).trans (HW.out.mono (by omega))⟩
end Go.Proofs.YtaljmlkapbojeaaDoor
