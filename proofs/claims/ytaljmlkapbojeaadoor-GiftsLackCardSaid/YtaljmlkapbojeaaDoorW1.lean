/- Contracts of sameInts and sameRows. -/
import Derived.Test.YtaljmlkapbojeaaDoorOwn
import Derived.Test.YtaljmlkapbojeaaDoorGMath
namespace Go.Proofs.YtaljmlkapbojeaaDoor
open Go.RowKit

def sameF (n n' : Nat) (f f' : Nat → Int) : Bool := decide (n = n') && M.allTo n fun i => decide (f i = f' i)

set_option maxHeartbeats 1000000 in
theorem sameInts_any (A A' : Option Addr) (n n' c c' B : Nat) (f f' : Nat → Int) (w : World) (hn : n ≤ maxLen) (hn' : n' ≤ maxLen) (hR : Rd1 w B A n f) (hR' : Rd1 w B A' n' f') :
    Calls Tryd.prog 17 #[.slice A n c, .slice A' n' c'] w fun e w' => e = .returned (.bool (sameF n n' f f')) ∧ Below w.heap.size w w' := by
  unfold maxLen at hn hn'
  by_cases h : n = n'
  · subst h
    go_enter Tryd.func17, Tryd.ntmps17
    go_wp2_with fail
    go_loopw [5] (fun i wr => ∃ k : Nat, k ≤ n ∧ i = .int .i64 k ∧ M.allTo k (fun i => decide (f i = f' i)) = true ∧ Below w.heap.size w wr ∧ wr.heap = w.heap) (fun i _ => n - (intOf i).toNat)
    case atStart => exact ⟨0, Nat.zero_le _, rfl, rfl, Below.refl _ _, rfl⟩
    case round =>
      obtain ⟨k, hk, rfl, hf, hbw, hh⟩ := hrel
      have HF := Lib.hid hf
      have HW := Lib.hid hbw
      have HH := Lib.hid hh
      have keep : ∀ p : Addr, wr.cell? p = w.cell? p := fun p => by unfold World.cell?; rw [hh]
      by_cases hlt : k < n
      · obtain ⟨b, off, rfl, hb, c0⟩ := (hR.keep fun p _ => keep p).at_ hlt
        obtain ⟨b', off', rfl, hb', c0'⟩ := (hR'.keep fun p _ => keep p).at_ hlt
        clear hf hbw hh keep hR hR'
        by_cases he : f k = f' k
        all_goals
          go_wp2_with fail
          go_quiet (fail)
          go_wp2_with fail
        · go_roundw
          case rel => exact ⟨k + 1, by omega, by go_num, by simp [M.allTo, HF.out, he], HW.out.drewN _, HH.out⟩
          case measure => simp [intOf]; omega
        · go_ret
          refine ⟨ret_bool ?_, HW.out.drewN _⟩
          unfold sameF
          refine (Bool.eq_false_iff.2 fun h => ?_).symm
          simp only [Bool.and_eq_true] at h
          have := M.allTo_iff.1 h.2 k hlt
          simp [he] at this
      · obtain rfl : k = n := by omega
        clear hf hbw hh keep hR hR'
        go_wp2_with fail
        go_ret
        exact ⟨ret_bool (by simp [sameF, HF.out]), HW.out⟩
  · go_enter Tryd.func17, Tryd.ntmps17
    go_wp2_with fail
    go_ret
    exact ⟨ret_bool (by simp [sameF, h]), Below.refl _ _⟩

/-- rows of ints, below block B -/
def RR (w : World) (B : Nat) (A : Option Addr) (n : Nat) (m : Nat → Nat) (f : Nat → Nat → Int) : Prop :=
  n = 0 ∨ ∃ b off, A = some ⟨b, off, none⟩ ∧ b < B ∧ ∀ i, i < n → ∃ A' c', w.cell? ⟨b, off + i, none⟩ = some (.slice A' (m i) c') ∧ Rd1 w B A' (m i) (f i)
section
variable {w w' : World} {B B' n : Nat} {A : Option Addr} {m : Nat → Nat} {f : Nat → Nat → Int}
theorem RR.keep (h : RR w B A n m f) (hk : ∀ p : Addr, p.block < B → w'.cell? p = w.cell? p) : RR w' B A n m f := by
  rcases h with h | ⟨b, off, hA, hb, hc⟩
  · exact .inl h
  · exact .inr ⟨b, off, hA, hb, fun i hi => by obtain ⟨A', c', h1, h2⟩ := hc i hi; exact ⟨A', c', (hk _ hb).trans h1, h2.keep hk⟩⟩
theorem RR.below (h : RR w B A n m f) (hb : Below B w w') : RR w' B A n m f := h.keep fun _ hp => hb.cell hp
theorem RR.more (h : RR w B A n m f) (hB : B ≤ B') : RR w B' A n m f := by
  rcases h with h | ⟨b, off, hA, hb, hc⟩
  · exact .inl h
  · exact .inr ⟨b, off, hA, by omega, fun i hi => by obtain ⟨A', c', h1, h2⟩ := hc i hi; exact ⟨A', c', h1, h2.more hB⟩⟩
theorem RR.at_ (h : RR w B A n m f) {k : Nat} (hk : k < n) : ∃ b off, A = some ⟨b, off, none⟩ ∧ b < B ∧ ∃ A' c', w.cell? ⟨b, off + k, none⟩ = some (.slice A' (m k) c') ∧ Rd1 w B A' (m k) (f k) := by
  rcases h with h | ⟨b, off, hA, hb, hc⟩
  · omega
  · exact ⟨b, off, hA, hb, hc k hk⟩
end
def sameRF (n n' : Nat) (m m' : Nat → Nat) (f f' : Nat → Nat → Int) : Bool := decide (n = n') && M.allTo n fun i => sameF (m i) (m' i) (f i) (f' i)

set_option maxRecDepth 100000 in
set_option maxHeartbeats 1000000 in
theorem sameRows_any (A A' : Option Addr) (n n' c c' B : Nat) (m m' : Nat → Nat) (f f' : Nat → Nat → Int) (w : World) (hn : n ≤ maxLen) (hn' : n' ≤ maxLen) (hm : ∀ i, i < n → m i ≤ maxLen) (hm' : ∀ i, i < n' → m' i ≤ maxLen) (hR : RR w B A n m f) (hR' : RR w B A' n' m' f') (hB : B ≤ w.heap.size) :
    Calls Tryd.prog 16 #[.slice A n c, .slice A' n' c'] w fun e w' => e = .returned (.bool (sameRF n n' m m' f f')) ∧ Below w.heap.size w w' := by
  have HM := Lib.hid hm
  have HM' := Lib.hid hm'
  clear hm hm'
  unfold maxLen at hn hn'
  by_cases h : n = n'
  · subst h
    go_enter Tryd.func16, Tryd.ntmps16
    go_wp2_with fail
    go_loopw [5] (fun i wr => ∃ k : Nat, k ≤ n ∧ i = .int .i64 k ∧ M.allTo k (fun i => sameF (m i) (m' i) (f i) (f' i)) = true ∧ Below w.heap.size w wr) (fun i _ => n - (intOf i).toNat)
    case atStart => exact ⟨0, Nat.zero_le _, rfl, rfl, Below.refl _ _⟩
    case round =>
      obtain ⟨k, hk, rfl, hf, hbw⟩ := hrel
      have HF := Lib.hid hf
      have HW := Lib.hid hbw
      by_cases hlt : k < n
      · obtain ⟨b, off, rfl, hb, R, rc, c0, hr⟩ := (hR.below (hbw.mono hB)).at_ hlt
        obtain ⟨b', off', rfl, hb', R', rc', c0', hr'⟩ := (hR'.below (hbw.mono hB)).at_ hlt
        have hsz := hbw.size
        clear hf hbw
        cases he : sameF (m k) (m' k) (f k) (f' k)
        all_goals
          have HE := Lib.hid he
          clear he
          go_wp2_with fail
          go_still_tail 8, (by kernel_rfl)
          change wpList _ _ _ _ _ wr.drew
          go_wp2_with (go_at_call 17; refine (sameInts_any R R' _ _ rc rc' B _ _ _ (HM.out k hlt) (HM'.out k hlt) (by exact hr) (by exact hr')).mono ?_; rw [HE.out]; rintro e w1 ⟨rfl, hb1⟩; have HB1 := Lib.hid hb1; clear hb1)
        · go_ret
          refine ⟨ret_bool ?_, (HW.out.drew).trans (HB1.out.mono (by simpa using hsz))⟩
          unfold sameRF
          refine (Bool.eq_false_iff.2 fun h => ?_).symm
          simp only [Bool.and_eq_true] at h
          have := M.allTo_iff.1 h.2 k hlt
          rw [HE.out] at this
          cases this
        · go_roundw
          case rel => exact ⟨k + 1, by omega, by go_num, by simp [M.allTo, HF.out, HE.out], (HW.out.drew).trans (HB1.out.mono (by simpa using hsz))⟩
          case measure => simp [intOf]; omega
      · obtain rfl : k = n := by omega
        clear hf hbw hR hR'
        go_wp2_with fail
        go_ret
        exact ⟨ret_bool (by simp [sameRF, HF.out]), HW.out⟩
  · go_enter Tryd.func16, Tryd.ntmps16
    go_wp2_with fail
    go_ret
    exact ⟨ret_bool (by simp [sameRF, h]), Below.refl _ _⟩
end Go.Proofs.YtaljmlkapbojeaaDoor
