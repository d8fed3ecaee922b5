/- The examples: sameInts, Example, works. -/
import Derived.Test.YtbjggnecfppjgaaDoorS8
import Derived.Test.YtbjggnecfppjgaaDoorT10
namespace Go.Proofs.YtbjggnecfppjgaaDoor
open Go.RowKit

def sameF (n n' : Nat) (f f' : Nat → Int) : Bool := decide (n = n') && M.allTo n fun i => decide (f i = f' i)

set_option maxHeartbeats 1000000 in
theorem sameInts_any (A A' : Option Addr) (n n' c c' B : Nat) (f f' : Nat → Int) (w : World) (hn : n ≤ maxLen) (hn' : n' ≤ maxLen) (hR : Rd1 w B A n f) (hR' : Rd1 w B A' n' f') :
    Calls Tryd.prog 21 #[.slice A n c, .slice A' n' c'] w fun e w' => e = .returned (.bool (sameF n n' f f')) ∧ Below w.heap.size w w' := by
  unfold maxLen at hn hn'
  by_cases h : n = n'
  · subst h
    go_enter Tryd.func21, Tryd.ntmps21
    go_wp2_with fail
    go_loopw [5] (fun i wr => ∃ k : Nat, k ≤ n ∧ i = .int .i64 k ∧ M.allTo k (fun i => decide (f i = f' i)) = true ∧ Below w.heap.size w wr ∧ wr.heap = w.heap) (fun i _ => n - (intOf i).toNat)
    case atStart => exact ⟨0, Nat.zero_le _, rfl, rfl, Below.refl _ _, rfl⟩
    case round =>
      obtain ⟨k, hk, rfl, hf, hbw, hh⟩ := hrel
      have HF := Lib.hid hf
      have HW := Lib.hid hbw
      have HH := Lib.hid hh
      have keep : ∀ p : Addr, wr.cell? p = w.cell? p := fun p => by unfold World.cell?; rw [hh]
      by_cases hlt : k < n
      · obtain ⟨b, off, rfl, hb, c0⟩ := (hR.keep fun p _ => keep p).at_ hlt
        obtain ⟨b', off', rfl, hb', c0'⟩ := (hR'.keep fun p _ => keep p).at_ hlt
        clear hf hbw hh keep hR hR'
        by_cases he : f k = f' k
        all_goals
          go_wp2_with fail
          go_quiet (fail)
          go_wp2_with fail
        · go_roundw
          case rel => exact ⟨k + 1, by omega, by go_num, by simp [M.allTo, HF.out, he], HW.out.drewN _, HH.out⟩
          case measure => simp [intOf]; omega
        · go_ret
          refine ⟨ret_bool ?_, HW.out.drewN _⟩
          unfold sameF
          refine (Bool.eq_false_iff.2 fun h => ?_).symm
          simp only [Bool.and_eq_true] at h
          have := M.allTo_iff.1 h.2 k hlt
          simp [he] at this
      · obtain rfl : k = n := by omega
        clear hf hbw hh keep hR hR'
        go_wp2_with fail
        go_ret
        exact ⟨ret_bool (by simp [sameF, HF.out]), HW.out⟩
  · go_enter Tryd.func21, Tryd.ntmps21
    go_wp2_with fail
    go_ret
    exact ⟨ret_bool (by simp [sameF, h]), Below.refl _ _⟩

theorem same_self (n : Nat) (f : Nat → Int) : sameF n n f f = true := by
  unfold sameF
  rw [M.allTo_iff.2 fun i _ => by simp]; simp
def exE : Nat → Nat → Int := fun i j => ([1, 0, 1, 2, 0, 0, 2, 0, 0] : List Int).getD (i * 3 + j) 0
def north : ByteArray := ⟨#[110, 111, 114, 116, 104]⟩
def south : ByteArray := ⟨#[115, 111, 117, 116, 104]⟩
def mouth : ByteArray := ⟨#[109, 111, 117, 116, 104]⟩
def mouxh : ByteArray := ⟨#[109, 111, 117, 120, 104]⟩
def exW : Nat → ByteArray := fun i => if i = 0 then north else if i = 1 then south else mouth
set_option maxRecDepth 100000 in
theorem ex_resp : M.resp (M.runF 3 (0 : Nat) exE 3) = [1] := by kernel_rfl
set_option maxRecDepth 100000 in
theorem ex_dcN : dcN 2 (fun i => exW (i + 1)) mouxh 1 = 1 := by kernel_rfl
set_option maxRecDepth 100000 in
theorem ex_dcE : dcE 2 (fun i => exW (i + 1)) mouxh 1 = 0 := by kernel_rfl
set_option maxHeartbeats 1600000 in
theorem example_any (w : World) :
    Calls Tryd.prog 29 #[] w fun e w' => e = .returned (.tuple #[.slice (some ⟨w.heap.size, 0, none⟩) 3 3, .slice (some ⟨w.heap.size + 1, 0, none⟩) 3 3]) ∧ Rd w' (w.heap.size + 1) (some ⟨w.heap.size, 0, none⟩) 3 3 exE ∧
      RdS w' (w.heap.size + 2) (some ⟨w.heap.size + 1, 0, none⟩) 3 exW ∧ Below w.heap.size w w' ∧ w'.heap.size = w.heap.size + 2 := by
  go_enter Tryd.func29, Tryd.ntmps29
  go_wp2_with fail
  go_ret2
  refine ⟨rfl, .inr ⟨w.heap.size, 0, rfl, by omega, fun i j hi hj => ?_⟩, .inr ⟨w.heap.size + 1, 0, rfl, by omega, fun i hi => ?_⟩, belowAlloc2 _ _ _, by simp⟩
  · refine (((Blk.new w _ _).alloc _).cell _).trans ?_
    obtain rfl | rfl | rfl : i = 0 ∨ i = 1 ∨ i = 2 := by omega
    all_goals (obtain rfl | rfl | rfl : j = 0 ∨ j = 1 ∨ j = 2 := by omega)
    all_goals rfl
  · refine ((Blk.new1 w _ _ _).cell _).trans ?_
    obtain rfl | rfl | rfl : i = 0 ∨ i = 1 ∨ i = 2 := by omega
    all_goals rfl
set_option maxRecDepth 100000 in
set_option maxHeartbeats 3200000 in
theorem works_any (w : World) : Calls Tryd.prog 11 #[] w fun e w' => e = .returned (.bool true) ∧ Below w.heap.size w w' := by
  have hsz : ∀ i, i < 2 → (exW (i + 1)).size ≤ 1048576 := fun i hi => by
    obtain rfl | rfl : i = 0 ∨ i = 1 := by omega
    all_goals decide
  have HSZ := Lib.hid hsz
  clear hsz
  go_enter Tryd.func11, Tryd.ntmps11
  go_wp2_with (first
    | (go_at_call 29; refine (example_any _).mono ?_; rintro e w1 ⟨rfl, hE, hW, hb1, hz1⟩; have HE := Lib.hid hE; have HW := Lib.hid (show RdS w1 (w.heap.size + 2) (some ⟨w.heap.size + 1, 1, none⟩) 2 (fun i => exW (i + 1)) by (rcases hW with h | ⟨b, off, ee, hb, hc⟩; (exact absurd h (by omega)); (injection ee with ee; injection ee with e1 e2 _; subst e1; subst e2; exact .inr ⟨_, 1, rfl, hb, fun i hi => by (have := hc (i + 1) (by omega); rw [show 1 + i = 0 + (i + 1) by omega]; exact this)⟩))); have HB1 := Lib.hid hb1; clear hE hW hb1)
    | (go_at_call 19; go_must (refine (resp_ok 3 0 (some ⟨w.heap.size, 0, none⟩) 3 3 (w.heap.size + 1) exE _ (by omega) (by omega) (by omega) HE.out (by omega)).mono ?_); rintro e w2 ⟨⟨v, rfl, ho⟩, hb2⟩; rw [ex_resp, show ([1] : List Nat).length = 1 from rfl] at ho; obtain ⟨lA, lc, rfl, hl⟩ := ho.rd1; have HL := Lib.hid hl; have HB2 := Lib.hid hb2; have hz2 := hb2.size; clear hb2 ho hl)
    | (go_at_call 30; go_must (refine (pdecode_any (some ⟨w.heap.size + 1, 1, none⟩) 2 2 (w.heap.size + 2) (fun i => exW (i + 1)) mouxh 1 _ (by omega) (HW.out.below (HB2.out.mono (by omega))) (by omega) HSZ.out (by decide) (by omega) (by omega)).mono ?_); rw [ex_dcN, ex_dcE]; rintro e w3 ⟨rfl, hb3⟩; have HB3 := Lib.hid hb3; have hz3 := hb3.size; clear hb3)
    | (go_at_call 21; go_must (refine (sameInts_any lA (some ⟨w3.heap.size, 0, none⟩) 1 1 lc 1 (w3.heap.size + 1) (nats [1]) (fun _ => 1) _ (by unfold maxLen; omega) (by unfold maxLen; omega) (((HL.out.below HB3.out).below ((belowAlloc w3 _).mono hz3)).more (by omega)) (.inr ⟨w3.heap.size, 0, rfl, by omega, fun i hi => by (obtain rfl : i = 0 := by omega); exact (Blk.new w3 _ _).cell 0⟩)).mono ?_); rw [show sameF 1 1 (nats [1]) (fun _ => 1) = true from by decide]; rintro e w4 ⟨rfl, hb4⟩; have HB4 := Lib.hid hb4; clear hb4))
  go_ret
  exact ⟨rfl, HB1.out.trans ((HB2.out.mono (by omega)).trans ((HB3.out.mono (by omega)).trans ((belowAlloc w3 _).trans (HB4.out.mono (by simp)) |>.mono (by omega))))⟩
end Go.Proofs.YtbjggnecfppjgaaDoor
