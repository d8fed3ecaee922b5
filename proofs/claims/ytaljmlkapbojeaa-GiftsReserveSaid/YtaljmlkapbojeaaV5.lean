/- GiftsReserve, walked. -/
import Derived.Test.YtaljmlkapbojeaaV4a
import Derived.Test.YtaljmlkapbojeaaV4b
import Derived.Test.YtaljmlkapbojeaaV4c
import Derived.Test.YtaljmlkapbojeaaV4d
namespace Go.Proofs.Ytaljmlkapbojeaa
open Go.RowKit

set_option maxRecDepth 100000 in
set_option maxHeartbeats 3200000 in
theorem reserve_bad (r le : Int) (A fA : Option Addr) (n c fn fc B : Nat) (m : Nat → Nat → Int) (w : World) (hn : n ≤ maxLen) (hR : Rd w B A 4 n m) (hB : B ≤ w.heap.size) (hok : M.okY r le n m = false) :
    Calls Try.prog 5 #[.agg #[.int .i64 r, .int .i64 le, .slice A n c], .slice fA fn fc] w fun e w' => e = .returned (.bool true) ∧ Below w.heap.size w w' := by
  have hk : M.chkY r le n m = 111 := by simp [M.chkY, hok]
  go_enter Try.func5, Try.ntmps5
  go_wp2_with fail
  refine (rcheckYear_any r le A n c B m _ hn (by exact hR.below ((belowAlloc _ _).mono hB)) (by simp; omega)).mono ?_
  rw [hk]
  rintro e w1 ⟨rfl, hb1⟩
  have HB1 := Lib.hid hb1
  clear hb1
  go_wp2_with (go_at_call 12; refine (works_any _).mono ?_; rintro e w9 ⟨rfl, hb9⟩; have HB9 := Lib.hid hb9; clear hb9)
  go_ret
  exact ⟨rfl, (belowAlloc _ _).trans ((HB1.out.mono (by simp)).trans (HB9.out.mono (by have := HB1.out.size; simp at this; omega)))⟩
set_option maxRecDepth 100000 in
set_option maxHeartbeats 3200000 in
theorem reserve_far (r le : Int) (A fA : Option Addr) (n c fn fc B : Nat) (m : Nat → Nat → Int) (w : World) (hn : n ≤ maxLen) (hfn : fn ≤ maxLen) (hR : Rd w B A 4 n m) (hB : B ≤ w.heap.size) (hok : M.okY r le n m = true) (h : 60 < fn) :
    Calls Try.prog 5 #[.agg #[.int .i64 r, .int .i64 le, .slice A n c], .slice fA fn fc] w fun e w' => e = .returned (.bool true) ∧ Below w.heap.size w w' := by
  have hk : M.chkY r le n m = 0 := by simp [M.chkY, hok]
  unfold maxLen at hfn
  go_enter Try.func5, Try.ntmps5
  go_wp2_with fail
  refine (rcheckYear_any r le A n c B m _ hn (by exact hR.below ((belowAlloc _ _).mono hB)) (by simp; omega)).mono ?_
  rw [hk]
  rintro e w1 ⟨rfl, hb1⟩
  have HB1 := Lib.hid hb1
  clear hb1
  go_wp2_with (go_at_call 12; refine (works_any _).mono ?_; rintro e w9 ⟨rfl, hb9⟩; have HB9 := Lib.hid hb9; clear hb9)
  go_ret
  exact ⟨rfl, (belowAlloc _ _).trans ((HB1.out.mono (by simp)).trans (HB9.out.mono (by have := HB1.out.size; simp at this; omega)))⟩
theorem giftsReserve_any (r le : Int) (A fA : Option Addr) (n c fn fc B : Nat) (m f : Nat → Nat → Int) (w : World) (hn : n ≤ maxLen) (hfn : fn ≤ maxLen) (hR : Rd w B A 4 n m) (hF : Rd w B fA 2 fn f) (hB : B ≤ w.heap.size) :
    Calls Try.prog 5 #[.agg #[.int .i64 r, .int .i64 le, .slice A n c], .slice fA fn fc] w fun e w' => e = .returned (.bool true) ∧ Below w.heap.size w w' := by
  cases hok : M.okY r le n m
  · exact reserve_bad r le A fA n c fn fc B m w hn hR hB hok
  by_cases h60 : 60 < fn
  · exact reserve_far r le A fA n c fn fc B m w hn hfn hR hB hok h60
  have h1 := (onceTo_bd (c := 60000000) (by omega) (over_bd hok)).1
  have h2 := (monTo_bd2 (c := 60000000) (by omega) (over_bd hok)).1
  rcases Int.lt_or_eq_of_le h1 with h3 | h3 <;> rcases Int.lt_or_eq_of_le h2 with h4 | h4
  · exact reserve_11 r le A fA n c fn fc B m f w hR hF hB hok (by omega) h3 h4
  · exact reserve_10 r le A fA n c fn fc B m f w hR hF hB hok (by omega) h3 h4
  · exact reserve_01 r le A fA n c fn fc B m f w hR hF hB hok (by omega) h3 h4
  · exact reserve_00 r le A fA n c fn fc B m f w hR hF hB hok (by omega) h3 h4
end Go.Proofs.Ytaljmlkapbojeaa
