/- Contracts of the reference's needs, helps, spare, Paid. -/
import Derived.Test.YtaljmlkapbojeaaDoorG1
namespace Go.Proofs.YtaljmlkapbojeaaDoor
open Go.RowKit

/-- A book in memory: two slices of structs of three ints, below block B. -/
def BookRd (w : World) (B : Nat) (gA : Option Addr) (gn : Nat) (G : Nat → Nat → Int) (bA : Option Addr) (bn : Nat) (H : Nat → Nat → Int) : Prop := Rd w B gA 3 gn G ∧ Rd w B bA 3 bn H
theorem BookRd.below {w w' : World} {B gn bn : Nat} {gA bA : Option Addr} {G H : Nat → Nat → Int} (h : BookRd w B gA gn G bA bn H) (hb : Below B w w') : BookRd w' B gA gn G bA bn H := ⟨h.1.below hb, h.2.below hb⟩

/-- What a valid book's numbers are. -/
def Ok (gn bn : Nat) (G H : Nat → Nat → Int) : Prop := gn ≤ 10 ∧ bn ≤ 8 ∧ (∀ g, g < gn → 0 ≤ G g 0 ∧ G g 0 ≤ 255 ∧ 0 ≤ G g 1 ∧ G g 1 ≤ 99999 ∧ 0 ≤ G g 2 ∧ G g 2 ≤ 1000000) ∧
    (∀ i, i < bn → 0 ≤ H i 0 ∧ H i 0 ≤ 7 ∧ 0 ≤ H i 1 ∧ H i 1 ≤ 99999 ∧ 0 ≤ H i 2 ∧ H i 2 ≤ 1000000)
theorem needs_bd {gn bn : Nat} {G H : Nat → Nat → Int} (ok : Ok gn bn G H) (s : Int) {k : Nat} (hk : k ≤ bn) : 0 ≤ M.needsF k H s ∧ M.needsF k H s ≤ 8000000 := by
  have h := M.sumTo_bd (n := k) (f := fun i => M.sel (M.bt s i) (H i 2)) (c := 1000000) fun i hi => M.sel_bd (by have := ok.2.2.2 i (by omega); omega)
  have := ok.2.1
  unfold M.needsF
  omega
theorem have_bd {gn bn : Nat} {G H : Nat → Nat → Int} (ok : Ok gn bn G H) (s : Int) {k : Nat} (hk : k ≤ gn) : 0 ≤ M.haveF k bn G H s ∧ M.haveF k bn G H s ≤ 10000000 := by
  have h := M.sumTo_bd (n := k) (f := fun g => M.sel (M.helpsF bn G H g s) (G g 2)) (c := 1000000) fun i hi => M.sel_bd (by have := ok.2.2.1 i (by omega); omega)
  have := ok.1
  unfold M.haveF
  omega

set_option maxHeartbeats 400000 in
theorem needs_any (gA bA : Option Addr) (gn gc bn bc B : Nat) (G H : Nat → Nat → Int) (s : Int) (w : World) (ok : Ok gn bn G H) (hR : BookRd w B gA gn G bA bn H) (hB : B ≤ w.heap.size) :
    Calls Tryd.prog 49 #[.agg #[.slice gA gn gc, .slice bA bn bc], .int .i64 s] w fun e w' => e = .returned (.int .i64 (M.needsF bn H s)) ∧ Below w.heap.size w w' := by
  have hn := ok.2.1
  have hbt := toNat_i64_and_one
  go_enter Tryd.func49, Tryd.ntmps49
  go_wp2_with fail
  go_loop [5, 6] (fun n i => ∃ k : Nat, k ≤ bn ∧ i = .int .i64 k ∧ n = .int .i64 (M.needsF k H s)) (fun _ i => bn - (intOf i).toNat)
  case atStart => exact ⟨0, Nat.zero_le _, rfl, rfl⟩
  case round =>
    obtain ⟨k, hk, rfl, rfl⟩ := hrel
    by_cases hlt : k < bn
    · obtain ⟨b, off, rfl, hb, _, _, c2⟩ := hR.2.at3 hlt
      have hb' : b < w.heap.size := by omega
      have hs := needs_bd ok s hk
      have hh := ok.2.2.2 k hlt
      have e1 : M.needsF (k + 1) H s = M.needsF k H s + M.sel (M.bt s k) (H k 2) := rfl
      have E1 := Lib.hid e1
      clear ok hR e1
      cases hc : M.bt s k
      all_goals
        have HC := Lib.hid hc
        unfold M.bt at hc
        go_wp2_with fail
        go_round
        case rel => exact ⟨k + 1, by omega, by go_num, by rw [E1.out, HC.out]; simp [M.sel]⟩
        case measure => simp [intOf]; omega
    · obtain rfl : k = bn := by omega
      go_wp2_with fail
      go_ret
      exact ⟨rfl, belowAlloc _ _⟩
end Go.Proofs.YtaljmlkapbojeaaDoor
