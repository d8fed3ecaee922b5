/- The reference: Settled, and reach. -/
import Derived.Test.YtfnfjmjejffjiaaDoorF7
import Derived.Test.YtfnfjmjejffjiaaDoorRSet
namespace Go.Proofs.YtfnfjmjejffjiaaDoor
open Go.RowKit

/-- the first k centres neither offer nor take -/
def M.setN (s : M.St) : Nat → Bool
  | 0 => true
  | k + 1 => M.setN s k && !(decide (s.c k 0 = 2) || decide (s.c k 0 = 3))
theorem M.setN_iff {s : M.St} : ∀ {n : Nat}, M.setN s n = true ↔ M.Setd n s
  | 0 => ⟨fun _ i hi => absurd hi (by omega), fun _ => rfl⟩
  | n + 1 => by
    unfold M.setN
    rw [Bool.and_eq_true, M.setN_iff (n := n)]
    simp only [Bool.not_eq_true', Bool.or_eq_false_iff, decide_eq_false_iff_not]
    constructor
    · rintro ⟨h, h2⟩ i hi
      by_cases e : i = n
      · rw [e]; exact h2
      · exact h i (by omega)
    · intro h
      exact ⟨fun i hi => h i (by omega), h n (by omega)⟩
theorem M.setN_no {s : M.St} {k : Nat} : ∀ {n : Nat}, k < n → (s.c k 0 = 2 ∨ s.c k 0 = 3) → M.setN s n = false := fun {n} hk h => by
  cases e : M.setN s n
  · rfl
  · have := M.setN_iff.1 e k hk
    rcases h with h | h
    · exact absurd h this.1
    · exact absurd h this.2
section
variable {n base : Nat} {s : M.St} {v : Value} {w : World}
set_option maxRecDepth 100000 in
set_option maxHeartbeats 6400000 in
theorem rsettled_any (hv : CallV n s base v w) (hn : n ≤ 4) :
    Calls Tryd.prog 10 #[v] w fun e w' => e = .returned (.bool (M.setN s n)) ∧ Below w.heap.size w w' := by
  obtain ⟨A, c, A', c', rfl, o1, o2⟩ := hv
  have RC := Lib.hid (o1.rdI.below (belowAlloc w (.cells #[.slice A n c, .slice A' s.k c'] 31)))
  have D0 := Lib.hid (Blk.new w 31 #[.slice A n c, .slice A' s.k c'])
  have B0 := Lib.hid (belowAlloc w (.cells #[.slice A n c, .slice A' s.k c'] 31))
  clear o1 o2
  obtain ⟨r, hr⟩ : ∃ r, r = M.setN s n := ⟨_, rfl⟩
  rw [← hr]
  have HR := Lib.hid hr
  clear hr
  go_enter Tryd.func10, Tryd.ntmps10
  go_wp2_with fail
  obtain ⟨W, hW⟩ : ∃ W, W = w.alloc (.cells #[.slice A n c, .slice A' s.k c'] 31) := ⟨_, rfl⟩
  rw [← hW] at RC D0 B0 ⊢
  clear hW
  go_loopw [3] (fun i wr => ∃ k : Nat, k ≤ n ∧ i = .int .i64 (k : Int) ∧ Hid (M.setN s k = true) ∧ wr = W) (fun i _ => n - (intOf i).toNat)
  case atStart => exact ⟨0, Nat.zero_le _, rfl, Lib.hid rfl, rfl⟩
  case round =>
    obtain ⟨k, hk, rfl, HK, hwr⟩ := hrel
    obtain rfl := hwr
    have d0 := D0.out.cell 0
    by_cases hlt : k < n
    · have g1 : decide (k < n) = true := decide_eq_true hlt
      obtain ⟨b, off, rfl, hb, c0, -, -⟩ := RC.out.at3 hlt
      by_cases h2 : s.c k 0 = 2
      · have e2 : (s.c k 0 == 2) = true := by rw [h2]; rfl
        have HF := Lib.hid (HR.out.trans (M.setN_no hlt (.inl h2)))
        clear h2
        go_wp2_with fail
        go_ret
        exact ⟨by rw [HF.out]; rfl, B0.out⟩
      · have e2 : (s.c k 0 == 2) = false := by rw [beq_eq_false_iff_ne]; exact h2
        by_cases h3 : s.c k 0 = 3
        · have e3 : (s.c k 0 == 3) = true := by rw [h3]; rfl
          have HF := Lib.hid (HR.out.trans (M.setN_no hlt (.inr h3)))
          clear h2 h3
          go_wp2_with fail
          go_ret
          exact ⟨by rw [HF.out]; rfl, B0.out⟩
        · have e3 : (s.c k 0 == 3) = false := by rw [beq_eq_false_iff_ne]; exact h3
          have HN := Lib.hid (show M.setN s (k + 1) = true from by unfold M.setN; rw [HK.out]; simp [h2, h3])
          clear h2 h3
          go_wp2_with fail
          go_roundw
          case rel => exact ⟨k + 1, by omega, by go_num, HN, trivial⟩
          case measure => simp [intOf]; omega
    · obtain rfl : k = n := by omega
      have g1 : decide (k < k) = false := decide_eq_false (Nat.lt_irrefl _)
      go_wp2_with fail
      go_ret
      exact ⟨by rw [HR.out, HK.out]; rfl, B0.out⟩
end
end Go.Proofs.YtfnfjmjejffjiaaDoor
