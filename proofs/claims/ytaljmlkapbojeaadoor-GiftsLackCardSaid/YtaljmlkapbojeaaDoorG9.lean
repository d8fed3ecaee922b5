/- The contract of Pay. -/
import Derived.Test.YtaljmlkapbojeaaDoorG8
namespace Go.Proofs.YtaljmlkapbojeaaDoor
open Go.RowKit

theorem rows_info : (Tryd.prog.info? 33).map (fun i => (i.zero, i.size, i.bytes)) = some (some (.slice none 0 0), 1, 24) := by kernel_rfl
def s0 (G H : Nat → Nat → Int) (gn : Nat) : M.St := ⟨fun g => G g 2, fun i => H i 2, fun i => M.useTo G H i gn⟩
def lpd (gn bn : Nat) (G H : Nat → Nat → Int) : Bool := M.lpaidF gn bn (s0 G H gn).L (s0 G H gn).N (s0 G H gn).U
theorem lok_of {gn bn : Nat} {G H : Nat → Nat → Int} (ok : Ok gn bn G H) : LOk gn bn (s0 G H gn).L (s0 G H gn).N (s0 G H gn).U :=
  ⟨ok.1, ok.2.1, fun g hg => (ok.2.2.1 g hg).2.2.2.2, fun i hi => (ok.2.2.2 i hi).2.2.2.2, fun _ _ => M.useTo_lt (n := 10) ok.1⟩
theorem Ledger.rd {w : World} {base gn bn : Nat} {v1 v2 v3 : Value} {L N : Nat → Int} {U : Nat → Nat} (h : Ledger w base v1 v2 v3 gn bn L N U) :
    ∃ A1 c1 A2 c2 A3 c3, v1 = .slice A1 gn c1 ∧ v2 = .slice A2 bn c2 ∧ v3 = .slice A3 bn c3 ∧ LedRd w w.heap.size A1 gn L A2 A3 bn N U := by
  obtain ⟨A1, c1, rfl, r1⟩ := h.1.rd1
  obtain ⟨A2, c2, rfl, r2⟩ := h.2.1.rd1
  obtain ⟨A3, c3, rfl, r3⟩ := h.2.2.1.rd1
  exact ⟨A1, c1, A2, c2, A3, c3, rfl, rfl, rfl, r1, r2, r3⟩

theorem pay_bad (gA bA : Option Addr) (gn gc bn bc B : Nat) (G H : Nat → Nat → Int) (w : World) (hg : gn ≤ maxLen) (hb : bn ≤ maxLen) (hR : BookRd w B gA gn G bA bn H) (hB : B ≤ w.heap.size) (hok : M.okF gn bn G H = false) :
    Calls Tryd.prog 10 #[.agg #[.slice gA gn gc, .slice bA bn bc]] w fun e w' => e = .returned (.tuple #[.slice none 0 0, .int .i64 110]) ∧ Below w.heap.size w w' := by
  go_enter Tryd.func10, Tryd.ntmps10
  go_wp2_with (go_at_call 25; go_must (refine (open_bad _ _ _ _ _ _ B _ _ _ hg hb (by exact hR.below ((belowAlloc _ _).mono hB)) (by simp; omega) hok).mono ?_); rintro e w1 ⟨rfl, hb1⟩; have HB1 := Lib.hid hb1; clear hb1)
  go_ret2
  exact ⟨rfl, ((belowAlloc _ _).trans (HB1.out.mono (by simp))).alloc (by have := HB1.out.size; simp at this; omega) _⟩

set_option maxHeartbeats 1000000 in
theorem pay_none (gA bA : Option Addr) (gn gc bn bc B : Nat) (G H : Nat → Nat → Int) (w : World) (hR : BookRd w B gA gn G bA bn H) (hB : B ≤ w.heap.size) (hok : M.okF gn bn G H = true) (hp : lpd gn bn G H = false) :
    Calls Tryd.prog 10 #[.agg #[.slice gA gn gc, .slice bA bn bc]] w fun e w' => e = .returned (.tuple #[.slice none 0 0, .int .i64 3]) ∧ Below w.heap.size w w' := by
  have ok : Ok gn bn G H := M.okF_iff.1 hok
  have HP := Lib.hid hp
  clear hp
  go_enter Tryd.func10, Tryd.ntmps10
  go_wp2_with (go_at_call 25; go_must (refine (open_ok _ _ _ _ _ _ B _ _ _ hok (by exact hR.below ((belowAlloc _ _).mono hB)) (by simp; omega)).mono ?_); rintro e w1 ⟨v1, v2, v3, rfl, hl, hb1⟩; obtain ⟨A1, c1, A2, c2, A3, c3, rfl, rfl, rfl, hrd⟩ := hl.rd; have HB1 := Lib.hid hb1; have HRD := Lib.hid hrd; clear hb1 hl hrd)
  go_wp2_with (go_at_call 26; go_must (refine (lpaid_any _ _ _ _ _ _ _ _ w1.heap.size _ _ _ _ (lok_of ok) (by exact HRD.out.below (belowAlloc _ _)) (by simp)).mono ?_); rw [show M.lpaidF gn bn (s0 G H gn).L (s0 G H gn).N (s0 G H gn).U = false from HP.out]; rintro e w2 ⟨rfl, hb2⟩; have HB2 := Lib.hid hb2; clear hb2)
  go_ret2
  exact ⟨rfl, (((belowAlloc _ _).trans (HB1.out.mono (by simp))).alloc (by have := HB1.out.size; simp at this; omega) _).trans (HB2.out.mono (by have := HB1.out.size; simp at this ⊢; omega))⟩
end Go.Proofs.YtaljmlkapbojeaaDoor
