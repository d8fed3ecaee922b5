/- Far, Check; small lemmas for the rows of this chapter. -/
import Derived.Test.YtfnfjmjejffjiaaDoorC1
import Derived.Test.YtfnfjmjejffjiaaDoorT10
namespace Go.Proofs.YtfnfjmjejffjiaaDoor
open Go.RowKit

theorem near_of {n : Nat} {f : Nat → ByteArray} (h : farF n f = false) : n ≤ 60 ∧ ∀ i, i < n → (f i).size ≤ 1048576 := by
  unfold farF at h
  simp only [Bool.or_eq_false_iff, decide_eq_false_iff_not] at h
  refine ⟨by omega, fun i hi => ?_⟩
  refine Classical.byContradiction fun hn => ?_
  rw [M.anyTo_iff.2 ⟨i, hi, decide_eq_true (by omega)⟩] at h
  cases h.1
theorem drewN_below {w w' : World} {B : Nat} (h : ∃ m, w' = w.drewN m) : Below B w w' := by
  obtain ⟨m, rfl⟩ := h
  exact (Below.refl _ _).drewN m
def farE (en : Nat) : Bool := (decide (60 < en) && decide (en ≤ 200)) || decide (300 < en)
def chkE (n o : Int) (en : Nat) : Int := if n < 2 ∨ 4 < n ∨ o < 0 ∨ n ≤ o then 100 else if 200 < en then 101 else 0
theorem fit_of_chk {n o : Int} {en : Nat} (hf : farE en = false) (hc : chkE n o en = 0) : ∃ n' o' : Nat, n = n' ∧ o = o' ∧ 2 ≤ n' ∧ n' ≤ 4 ∧ o' < n' ∧ en ≤ 60 := by
  unfold chkE at hc
  split at hc
  · omega
  · split at hc
    · omega
    · rename_i h1 h2
      unfold farE at hf
      simp only [Bool.or_eq_false_iff, Bool.and_eq_false_iff, decide_eq_false_iff_not] at hf
      exact ⟨n.toNat, o.toNat, by omega, by omega, by omega, by omega, by omega, by omega⟩
set_option maxHeartbeats 1600000 in
theorem far_any (A : Option Addr) (en ec : Nat) (w : World) :
    Calls Tryd.prog 4 #[.slice A en ec] w fun e w' => e = .returned (.bool (farE en)) ∧ w = w' := by
  by_cases h1 : 60 < en
  · have g1 : decide ((60 : Int) < (en : Int)) = true := decide_eq_true (by omega)
    by_cases h2 : en ≤ 200
    · have g2 : decide ((en : Int) ≤ 200) = true := decide_eq_true (by omega)
      go_enter Tryd.func4, Tryd.ntmps4
      go_wp2_with fail
      go_ret
      exact ⟨ret_bool (by unfold farE; rw [decide_eq_true h1, decide_eq_true h2]; rfl), rfl⟩
    · have g2 : decide ((en : Int) ≤ 200) = false := decide_eq_false (by omega)
      go_enter Tryd.func4, Tryd.ntmps4
      go_wp2_with fail
      go_ret
      exact ⟨ret_bool (by unfold farE; rw [decide_eq_false h2, Bool.and_false, Bool.false_or, decide_eq_decide]; omega), rfl⟩
  · have g1 : decide ((60 : Int) < (en : Int)) = false := decide_eq_false (by omega)
    go_enter Tryd.func4, Tryd.ntmps4
    go_wp2_with fail
    go_ret
    exact ⟨ret_bool (by unfold farE; rw [decide_eq_false h1, Bool.false_and, Bool.false_or, decide_eq_decide]; omega), rfl⟩
set_option maxHeartbeats 1600000 in
theorem check_any (n o : Int) (A : Option Addr) (en ec : Nat) (w : World) :
    Calls Tryd.prog 20 #[.int .i64 n, .int .i64 o, .slice A en ec] w fun e w' => e = .returned (.int .i64 (chkE n o en)) ∧ w = w' := by
  by_cases h1 : n < 2
  · have g1 : decide (n < 2) = true := decide_eq_true h1
    go_enter Tryd.func20, Tryd.ntmps20
    go_wp2_with fail
    go_ret
    exact ⟨ret_int (by unfold chkE; rw [if_pos (by omega)]), rfl⟩
  · have g1 : decide (n < 2) = false := decide_eq_false h1
    by_cases h2 : 4 < n
    · have g2 : decide (4 < n) = true := decide_eq_true h2
      go_enter Tryd.func20, Tryd.ntmps20
      go_wp2_with fail
      go_ret
      exact ⟨ret_int (by unfold chkE; rw [if_pos (by omega)]), rfl⟩
    · have g2 : decide (4 < n) = false := decide_eq_false h2
      by_cases h3 : o < 0
      · have g3 : decide (o < 0) = true := decide_eq_true h3
        go_enter Tryd.func20, Tryd.ntmps20
        go_wp2_with fail
        go_ret
        exact ⟨ret_int (by unfold chkE; rw [if_pos (by omega)]), rfl⟩
      · have g3 : decide (o < 0) = false := decide_eq_false h3
        by_cases h4 : n ≤ o
        · have g4 : decide (n ≤ o) = true := decide_eq_true h4
          go_enter Tryd.func20, Tryd.ntmps20
          go_wp2_with fail
          go_ret
          exact ⟨ret_int (by unfold chkE; rw [if_pos (by omega)]), rfl⟩
        · have g4 : decide (n ≤ o) = false := decide_eq_false h4
          by_cases h5 : 200 < en
          · have g5 : decide ((200 : Int) < (en : Int)) = true := decide_eq_true (by omega)
            go_enter Tryd.func20, Tryd.ntmps20
            go_wp2_with fail
            go_ret
            exact ⟨ret_int (by unfold chkE; rw [if_neg (by omega), if_pos h5]), rfl⟩
          · have g5 : decide ((200 : Int) < (en : Int)) = false := decide_eq_false (by omega)
            go_enter Tryd.func20, Tryd.ntmps20
            go_wp2_with fail
            go_ret
            exact ⟨ret_int (by unfold chkE; rw [if_neg (by omega), if_neg h5]), rfl⟩
theorem Own.rdI {w : World} {b t m n c : Nat} {A : Option Addr} {F : Nat → Nat → Int} (h : Own w b t m (.slice A n c) n (ints2 F)) : Rd w w.heap.size A m n F := h.rdV
theorem Rd.less {w : World} {B m n k : Nat} {A : Option Addr} {f : Nat → Nat → Int} (h : Rd w B A m n f) (hk : k ≤ n) : Rd w B A m k f := by
  rcases h with h | ⟨b, off, hA, hb, hc⟩
  · exact .inl (by omega)
  · exact .inr ⟨b, off, hA, hb, fun i j hi hj => hc i j (by omega) hj⟩
theorem Rd.c3 {w : World} {B n b off : Nat} {f : Nat → Nat → Int} (h : Rd w B (some ⟨b, off, none⟩) 3 n f) {k : Nat} (hk : k < n) : w.cell? ⟨b, off + k * 3, none⟩ = some (.int .i64 (f k 0)) ∧ w.cell? ⟨b, off + k * 3 + 1, none⟩ = some (.int .i64 (f k 1)) ∧ w.cell? ⟨b, off + k * 3 + 2, none⟩ = some (.int .i64 (f k 2)) := by
  obtain ⟨b', o', ee, -, c0, c1, c2⟩ := h.at3 hk
  injection ee with ee
  injection ee with e1 e2 _
  subst e1; subst e2
  exact ⟨c0, c1, c2⟩
theorem RdS.c0 {w : World} {B n b off : Nat} {f : Nat → ByteArray} (h : RdS w B (some ⟨b, off, none⟩) n f) (hn : 0 < n) : w.cell? ⟨b, off, none⟩ = some (.string (f 0)) := by
  rcases h with h | ⟨b', off', e, hb, hc⟩
  · omega
  · injection e with e; injection e with e1 e2 _; subst e1; subst e2; exact hc 0 hn
theorem RdS.ci {w : World} {B n b off : Nat} {f : Nat → ByteArray} (h : RdS w B (some ⟨b, off, none⟩) n f) {i : Nat} (hi : i < n) : w.cell? ⟨b, off + i, none⟩ = some (.string (f i)) := by
  rcases h with h | ⟨b', off', e, hb, hc⟩
  · omega
  · injection e with e; injection e with e1 e2 _; subst e1; subst e2; exact hc i hi
end Go.Proofs.YtfnfjmjejffjiaaDoor
