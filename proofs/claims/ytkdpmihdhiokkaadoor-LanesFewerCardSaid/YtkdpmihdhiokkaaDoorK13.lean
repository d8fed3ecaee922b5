/- Where a valid leg is. -/
import Derived.Test.YtkdpmihdhiokkaaDoorK12
namespace Go.Proofs.YtkdpmihdhiokkaaDoor
open Go.RowKit

section
variable (s : M.Sea) (l : M.Leg) (cc B : Nat) (cA : Option Addr) (t : Int) (w : World)
theorem lat_any (hs : s.Ok) (hl : M.LegOk s l) (ht : -1 ≤ t ∧ t ≤ 60) (hR : Rd1 w B cA l.n l.c) (hB : B ≤ w.heap.size) :
    Calls Tryd.prog 41 #[.agg #[.int .i64 l.at_, .int .i64 l.lv, .int .i64 l.dr, .bool l.tail, .slice cA l.n cc], .int .i64 t] w fun e w' =>
      (∃ (a b c : Int) (d : Bool), e = .returned (.tuple #[.agg #[.int .i64 a, .int .i64 b, .int .i64 c, .bool d], .bool (decide (0 ≤ M.atC l t))]) ∧ (0 ≤ M.atC l t → a = l.lv ∧ b = M.atC l (t - 1) ∧ c = M.atC l t ∧ d = l.tail)) ∧ Below w.heap.size w w' := by
  have hnt := hs.t2
  have h1 := hl.n1
  have h2 := hl.at0
  have h3 := hl.at1
  have h0 := hl.n0
  by_cases hin : l.at_ ≤ t ∧ t < l.at_ + l.n
  · obtain ⟨k, hk⟩ : ∃ k : Nat, t - l.at_ = (k : Int) := ⟨(t - l.at_).toNat, by omega⟩
    have hp : 0 ≤ M.atC l t := (M.atC_nn hl).2 hin
    refine (at_in l.at_ l.lv l.dr l.tail l.n cc B l.c cA t w k (by omega) (by omega) (by omega) hk hR hB).mono fun e w' h => ⟨⟨l.lv, (if k = 0 then -1 else l.c (k - 1)), l.c k, l.tail, ?_, fun _ => ⟨rfl, ?_, ?_, rfl⟩⟩, h.2⟩
    · rw [decide_eq_true hp]; exact h.1
    · by_cases hk0 : k = 0
      · rw [if_pos hk0, M.atC_out (.inl (by omega))]
      · rw [if_neg hk0, M.atC_in (by omega) (by omega)]
        congr 1; omega
    · rw [M.atC_in hin.1 hin.2]
      congr 1; omega
  · have hq : M.atC l t = -1 := M.atC_out (by omega)
    refine (at_out l.at_ l.lv l.dr l.tail l.n cc cA t w (by omega) (by omega) (by omega)).mono fun e w' h => ⟨⟨0, 0, 0, false, ?_, fun h' => by omega⟩, h.2⟩
    rw [hq]; exact h.1
end
end Go.Proofs.YtkdpmihdhiokkaaDoor
