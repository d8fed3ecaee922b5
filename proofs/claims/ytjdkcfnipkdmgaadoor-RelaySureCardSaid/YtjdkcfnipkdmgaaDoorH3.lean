/- RelaySure, walked. -/
import Derived.Test.YtjdkcfnipkdmgaaDoorS9
import Derived.Test.YtjdkcfnipkdmgaaDoorHB
namespace Go.Proofs.YtjdkcfnipkdmgaaDoor
open Go.RowKit

section
variable (A : Option Addr) (n c B : Nat) (f : Nat → ByteArray) (s : ByteArray) (o e : Int) (w : World) (hn : n ≤ maxLen) (hR : RdS w B A n f) (hB : B ≤ w.heap.size)
include hn hR hB
set_option maxRecDepth 100000 in
set_option maxHeartbeats 3200000 in
theorem sure_far1 (h1 : farF n f = true) :
    Calls Tryd.prog 6 #[.slice A n c, .agg #[.int .i64 o, .string s, .int .i64 e]] w fun en w' => en = .returned (.bool true) ∧ Below w.heap.size w w' := by
  have HR := Lib.hid hR
  have H1 := Lib.hid h1
  clear hR h1
  go_enter Tryd.func6, Tryd.ntmps6
  go_wp2_with fail
  go_quiet (fail)
  go_wp2_with (first
    | (go_at_call 14; refine (farwords_any _ _ _ B f _ hn (HR.out.below (((belowAlloc w _).drewN nq).mono hB))).mono ?_; rw [H1.out]; rintro en w1 ⟨rfl, rfl⟩)
    | (go_at_call 21; refine (isvoc_any _ _ _ B f _ hn (HR.out.below (((belowAlloc w _).drewN nq).mono hB)) HS.out).mono ?_; rw [HV.out]; rintro en w1 ⟨rfl, hb1⟩; have HB1 := Lib.hid (((belowAlloc w _).drewN nq).trans (drewN_below hb1 : Below w.heap.size _ w1)); clear hb1)
    | (go_at_call 27; refine (isword_any s _ (by omega)).mono ?_; rw [HW.out]; rintro en w2 ⟨rfl, rfl⟩)
    | (go_at_call 15; refine (works_any _).mono ?_; rintro en w9 ⟨rfl, hb9⟩; have HB9 := Lib.hid hb9; clear hb9))
  go_ret
  exact ⟨rfl, ((belowAlloc w _).drewN nq).trans (HB9.out.mono (by show _ ≤ (w.alloc _).heap.size; simp))⟩
set_option maxRecDepth 100000 in
set_option maxHeartbeats 3200000 in
theorem sure_far2 (h1 : farF n f = false) (h2 : 60 < s.size) :
    Calls Tryd.prog 6 #[.slice A n c, .agg #[.int .i64 o, .string s, .int .i64 e]] w fun en w' => en = .returned (.bool true) ∧ Below w.heap.size w w' := by
  have HR := Lib.hid hR
  have H1 := Lib.hid h1
  have HS := Lib.hid (near_of h1).2
  have h60 := (near_of h1).1
  have g2 : decide ((60 : Int) < (s.size : Int)) = true := decide_eq_true (by omega)
  clear hR h1
  go_enter Tryd.func6, Tryd.ntmps6
  go_wp2_with fail
  go_quiet (fail)
  go_wp2_with (first
    | (go_at_call 14; refine (farwords_any _ _ _ B f _ hn (HR.out.below (((belowAlloc w _).drewN nq).mono hB))).mono ?_; rw [H1.out]; rintro en w1 ⟨rfl, rfl⟩)
    | (go_at_call 21; refine (isvoc_any _ _ _ B f _ hn (HR.out.below (((belowAlloc w _).drewN nq).mono hB)) HS.out).mono ?_; rw [HV.out]; rintro en w1 ⟨rfl, hb1⟩; have HB1 := Lib.hid (((belowAlloc w _).drewN nq).trans (drewN_below hb1 : Below w.heap.size _ w1)); clear hb1)
    | (go_at_call 27; refine (isword_any s _ (by omega)).mono ?_; rw [HW.out]; rintro en w2 ⟨rfl, rfl⟩)
    | (go_at_call 15; refine (works_any _).mono ?_; rintro en w9 ⟨rfl, hb9⟩; have HB9 := Lib.hid hb9; clear hb9))
  go_ret
  exact ⟨rfl, ((belowAlloc w _).drewN nq).trans (HB9.out.mono (by show _ ≤ (w.alloc _).heap.size; simp))⟩
set_option maxRecDepth 100000 in
set_option maxHeartbeats 3200000 in
theorem sure_far3 (h1 : farF n f = false) (h2 : ¬ 60 < s.size) (h3 : M.isV n f = false) :
    Calls Tryd.prog 6 #[.slice A n c, .agg #[.int .i64 o, .string s, .int .i64 e]] w fun en w' => en = .returned (.bool true) ∧ Below w.heap.size w w' := by
  have HR := Lib.hid hR
  have H1 := Lib.hid h1
  have HS := Lib.hid (near_of h1).2
  have h60 := (near_of h1).1
  have g2 : decide ((60 : Int) < (s.size : Int)) = false := decide_eq_false (by omega)
  have HV := Lib.hid h3
  clear hR h1 h3
  go_enter Tryd.func6, Tryd.ntmps6
  go_wp2_with fail
  go_quiet (fail)
  go_wp2_with (first
    | (go_at_call 14; refine (farwords_any _ _ _ B f _ hn (HR.out.below (((belowAlloc w _).drewN nq).mono hB))).mono ?_; rw [H1.out]; rintro en w1 ⟨rfl, rfl⟩)
    | (go_at_call 21; refine (isvoc_any _ _ _ B f _ hn (HR.out.below (((belowAlloc w _).drewN nq).mono hB)) HS.out).mono ?_; rw [HV.out]; rintro en w1 ⟨rfl, hb1⟩; have HB1 := Lib.hid (((belowAlloc w _).drewN nq).trans (drewN_below hb1 : Below w.heap.size _ w1)); clear hb1)
    | (go_at_call 27; refine (isword_any s _ (by omega)).mono ?_; rw [HW.out]; rintro en w2 ⟨rfl, rfl⟩)
    | (go_at_call 15; refine (works_any _).mono ?_; rintro en w9 ⟨rfl, hb9⟩; have HB9 := Lib.hid hb9; clear hb9))
  go_ret
  exact ⟨rfl, HB1.out.trans (HB9.out.mono HB1.out.size)⟩
set_option maxRecDepth 100000 in
set_option maxHeartbeats 3200000 in
theorem sure_far4 (h1 : farF n f = false) (h2 : ¬ 60 < s.size) (h3 : M.isV n f = true) (h4 : n < 2) :
    Calls Tryd.prog 6 #[.slice A n c, .agg #[.int .i64 o, .string s, .int .i64 e]] w fun en w' => en = .returned (.bool true) ∧ Below w.heap.size w w' := by
  have HR := Lib.hid hR
  have H1 := Lib.hid h1
  have HS := Lib.hid (near_of h1).2
  have h60 := (near_of h1).1
  have g2 : decide ((60 : Int) < (s.size : Int)) = false := decide_eq_false (by omega)
  have HV := Lib.hid h3
  have g4 : decide ((n : Int) < 2) = true := decide_eq_true (by omega)
  clear hR h1 h3
  go_enter Tryd.func6, Tryd.ntmps6
  go_wp2_with fail
  go_quiet (fail)
  go_wp2_with (first
    | (go_at_call 14; refine (farwords_any _ _ _ B f _ hn (HR.out.below (((belowAlloc w _).drewN nq).mono hB))).mono ?_; rw [H1.out]; rintro en w1 ⟨rfl, rfl⟩)
    | (go_at_call 21; refine (isvoc_any _ _ _ B f _ hn (HR.out.below (((belowAlloc w _).drewN nq).mono hB)) HS.out).mono ?_; rw [HV.out]; rintro en w1 ⟨rfl, hb1⟩; have HB1 := Lib.hid (((belowAlloc w _).drewN nq).trans (drewN_below hb1 : Below w.heap.size _ w1)); clear hb1)
    | (go_at_call 27; refine (isword_any s _ (by omega)).mono ?_; rw [HW.out]; rintro en w2 ⟨rfl, rfl⟩)
    | (go_at_call 15; refine (works_any _).mono ?_; rintro en w9 ⟨rfl, hb9⟩; have HB9 := Lib.hid hb9; clear hb9))
  go_ret
  exact ⟨rfl, HB1.out.trans (HB9.out.mono HB1.out.size)⟩
set_option maxRecDepth 100000 in
set_option maxHeartbeats 3200000 in
theorem sure_far5 (h1 : farF n f = false) (h2 : ¬ 60 < s.size) (h3 : M.isV n f = true) (h4 : ¬ n < 2) (h5 : o < 0) :
    Calls Tryd.prog 6 #[.slice A n c, .agg #[.int .i64 o, .string s, .int .i64 e]] w fun en w' => en = .returned (.bool true) ∧ Below w.heap.size w w' := by
  have HR := Lib.hid hR
  have H1 := Lib.hid h1
  have HS := Lib.hid (near_of h1).2
  have h60 := (near_of h1).1
  have g2 : decide ((60 : Int) < (s.size : Int)) = false := decide_eq_false (by omega)
  have HV := Lib.hid h3
  have g4 : decide ((n : Int) < 2) = false := decide_eq_false (by omega)
  have g5 : decide (o < 0) = true := decide_eq_true (by omega)
  clear hR h1 h3
  go_enter Tryd.func6, Tryd.ntmps6
  go_wp2_with fail
  go_quiet (fail)
  go_wp2_with (first
    | (go_at_call 14; refine (farwords_any _ _ _ B f _ hn (HR.out.below (((belowAlloc w _).drewN nq).mono hB))).mono ?_; rw [H1.out]; rintro en w1 ⟨rfl, rfl⟩)
    | (go_at_call 21; refine (isvoc_any _ _ _ B f _ hn (HR.out.below (((belowAlloc w _).drewN nq).mono hB)) HS.out).mono ?_; rw [HV.out]; rintro en w1 ⟨rfl, hb1⟩; have HB1 := Lib.hid (((belowAlloc w _).drewN nq).trans (drewN_below hb1 : Below w.heap.size _ w1)); clear hb1)
    | (go_at_call 27; refine (isword_any s _ (by omega)).mono ?_; rw [HW.out]; rintro en w2 ⟨rfl, rfl⟩)
    | (go_at_call 15; refine (works_any _).mono ?_; rintro en w9 ⟨rfl, hb9⟩; have HB9 := Lib.hid hb9; clear hb9))
  go_ret
  exact ⟨rfl, HB1.out.trans (HB9.out.mono HB1.out.size)⟩
set_option maxRecDepth 100000 in
set_option maxHeartbeats 3200000 in
theorem sure_far6 (h1 : farF n f = false) (h2 : ¬ 60 < s.size) (h3 : M.isV n f = true) (h4 : ¬ n < 2) (h5 : ¬ o < 0) (h6 : n ≤ o) :
    Calls Tryd.prog 6 #[.slice A n c, .agg #[.int .i64 o, .string s, .int .i64 e]] w fun en w' => en = .returned (.bool true) ∧ Below w.heap.size w w' := by
  have HR := Lib.hid hR
  have H1 := Lib.hid h1
  have HS := Lib.hid (near_of h1).2
  have h60 := (near_of h1).1
  have g2 : decide ((60 : Int) < (s.size : Int)) = false := decide_eq_false (by omega)
  have HV := Lib.hid h3
  have g4 : decide ((n : Int) < 2) = false := decide_eq_false (by omega)
  have g5 : decide (o < 0) = false := decide_eq_false (by omega)
  obtain ⟨o, rfl⟩ := Int.eq_ofNat_of_zero_le (show 0 ≤ o by omega)
  have g6 : decide ((n : Int) ≤ (o : Int)) = true := decide_eq_true (by omega)
  have g6n : decide (n ≤ o) = true := decide_eq_true (by omega)
  clear hR h1 h3
  go_enter Tryd.func6, Tryd.ntmps6
  go_wp2_with fail
  go_quiet (fail)
  go_wp2_with (first
    | (go_at_call 14; refine (farwords_any _ _ _ B f _ hn (HR.out.below (((belowAlloc w _).drewN nq).mono hB))).mono ?_; rw [H1.out]; rintro en w1 ⟨rfl, rfl⟩)
    | (go_at_call 21; refine (isvoc_any _ _ _ B f _ hn (HR.out.below (((belowAlloc w _).drewN nq).mono hB)) HS.out).mono ?_; rw [HV.out]; rintro en w1 ⟨rfl, hb1⟩; have HB1 := Lib.hid (((belowAlloc w _).drewN nq).trans (drewN_below hb1 : Below w.heap.size _ w1)); clear hb1)
    | (go_at_call 27; refine (isword_any s _ (by omega)).mono ?_; rw [HW.out]; rintro en w2 ⟨rfl, rfl⟩)
    | (go_at_call 15; refine (works_any _).mono ?_; rintro en w9 ⟨rfl, hb9⟩; have HB9 := Lib.hid hb9; clear hb9))
  go_ret
  exact ⟨rfl, HB1.out.trans (HB9.out.mono HB1.out.size)⟩
set_option maxRecDepth 100000 in
set_option maxHeartbeats 3200000 in
theorem sure_far7 (h1 : farF n f = false) (h2 : ¬ 60 < s.size) (h3 : M.isV n f = true) (h4 : ¬ n < 2) (h5 : ¬ o < 0) (h6 : ¬ n ≤ o) (h7 : M.isW s = false) :
    Calls Tryd.prog 6 #[.slice A n c, .agg #[.int .i64 o, .string s, .int .i64 e]] w fun en w' => en = .returned (.bool true) ∧ Below w.heap.size w w' := by
  have HR := Lib.hid hR
  have H1 := Lib.hid h1
  have HS := Lib.hid (near_of h1).2
  have h60 := (near_of h1).1
  have g2 : decide ((60 : Int) < (s.size : Int)) = false := decide_eq_false (by omega)
  have HV := Lib.hid h3
  have g4 : decide ((n : Int) < 2) = false := decide_eq_false (by omega)
  have g5 : decide (o < 0) = false := decide_eq_false (by omega)
  obtain ⟨o, rfl⟩ := Int.eq_ofNat_of_zero_le (show 0 ≤ o by omega)
  have g6 : decide ((n : Int) ≤ (o : Int)) = false := decide_eq_false (by omega)
  have g6n : decide (n ≤ o) = false := decide_eq_false (by omega)
  have HW := Lib.hid h7
  clear hR h1 h3 h7
  go_enter Tryd.func6, Tryd.ntmps6
  go_wp2_with fail
  go_quiet (fail)
  go_wp2_with (first
    | (go_at_call 14; refine (farwords_any _ _ _ B f _ hn (HR.out.below (((belowAlloc w _).drewN nq).mono hB))).mono ?_; rw [H1.out]; rintro en w1 ⟨rfl, rfl⟩)
    | (go_at_call 21; refine (isvoc_any _ _ _ B f _ hn (HR.out.below (((belowAlloc w _).drewN nq).mono hB)) HS.out).mono ?_; rw [HV.out]; rintro en w1 ⟨rfl, hb1⟩; have HB1 := Lib.hid (((belowAlloc w _).drewN nq).trans (drewN_below hb1 : Below w.heap.size _ w1)); clear hb1)
    | (go_at_call 27; refine (isword_any s _ (by omega)).mono ?_; rw [HW.out]; rintro en w2 ⟨rfl, rfl⟩)
    | (go_at_call 15; refine (works_any _).mono ?_; rintro en w9 ⟨rfl, hb9⟩; have HB9 := Lib.hid hb9; clear hb9))
  go_ret
  exact ⟨rfl, HB1.out.trans (HB9.out.mono HB1.out.size)⟩
set_option maxRecDepth 100000 in
set_option maxHeartbeats 3200000 in
theorem sure_far8 (h1 : farF n f = false) (h2 : ¬ 60 < s.size) (h3 : M.isV n f = true) (h4 : ¬ n < 2) (h5 : ¬ o < 0) (h6 : ¬ n ≤ o) (h7 : M.isW s = true) (h8 : ¬ s.size = (f 0).size) :
    Calls Tryd.prog 6 #[.slice A n c, .agg #[.int .i64 o, .string s, .int .i64 e]] w fun en w' => en = .returned (.bool true) ∧ Below w.heap.size w w' := by
  have HR := Lib.hid hR
  have H1 := Lib.hid h1
  have HS := Lib.hid (near_of h1).2
  have h60 := (near_of h1).1
  have g2 : decide ((60 : Int) < (s.size : Int)) = false := decide_eq_false (by omega)
  have HV := Lib.hid h3
  have g4 : decide ((n : Int) < 2) = false := decide_eq_false (by omega)
  have g5 : decide (o < 0) = false := decide_eq_false (by omega)
  obtain ⟨o, rfl⟩ := Int.eq_ofNat_of_zero_le (show 0 ≤ o by omega)
  have g6 : decide ((n : Int) ≤ (o : Int)) = false := decide_eq_false (by omega)
  have g6n : decide (n ≤ o) = false := decide_eq_false (by omega)
  have HW := Lib.hid h7
  have g8 : ((s.size : Int) != ((f 0).size : Int)) = true := by rw [bne_iff_ne]; omega
  have hs0 := HS.out 0 (by omega)
  obtain ⟨b, off, rfl, hb, -⟩ := hR.at_ (show 0 < n by omega)
  have n0 : 0 < n := by omega
  clear hR h1 h3 h7
  go_enter Tryd.func6, Tryd.ntmps6
  go_wp2_with fail
  go_quiet (fail)
  go_wp2_with (first
    | (go_at_call 14; refine (farwords_any _ _ _ B f _ hn (HR.out.below (((belowAlloc w _).drewN nq).mono hB))).mono ?_; rw [H1.out]; rintro en w1 ⟨rfl, rfl⟩)
    | (go_at_call 21; refine (isvoc_any _ _ _ B f _ hn (HR.out.below (((belowAlloc w _).drewN nq).mono hB)) HS.out).mono ?_; rw [HV.out]; rintro en w1 ⟨rfl, hb1⟩; have HB1 := Lib.hid (((belowAlloc w _).drewN nq).trans (drewN_below hb1 : Below w.heap.size _ w1)); clear hb1; have c0 := (HR.out.below (HB1.out.mono hB)).c0 n0)
    | (go_at_call 27; refine (isword_any s _ (by omega)).mono ?_; rw [HW.out]; rintro en w2 ⟨rfl, rfl⟩)
    | (go_at_call 15; refine (works_any _).mono ?_; rintro en w9 ⟨rfl, hb9⟩; have HB9 := Lib.hid hb9; clear hb9))
  go_ret
  exact ⟨rfl, HB1.out.trans (HB9.out.mono HB1.out.size)⟩
set_option maxRecDepth 100000 in
set_option maxHeartbeats 6400000 in
theorem sure_near (hnc : n ≤ c) (hc : c ≤ 9223372036854775807) (h1 : farF n f = false) (h2 : ¬ 60 < s.size) (h3 : M.isV n f = true) (h4 : ¬ n < 2) (h5 : ¬ o < 0) (h6 : ¬ n ≤ o) (h7 : M.isW s = true) (h8 : s.size = (f 0).size) :
    Calls Tryd.prog 6 #[.slice A n c, .agg #[.int .i64 o, .string s, .int .i64 e]] w fun en w' => en = .returned (.bool true) ∧ Below w.heap.size w w' := by
  have HR := Lib.hid hR
  have H1 := Lib.hid h1
  have HS := Lib.hid (near_of h1).2
  have h60 := (near_of h1).1
  have g2 : decide ((60 : Int) < (s.size : Int)) = false := decide_eq_false (by omega)
  have HV := Lib.hid h3
  have g4 : decide ((n : Int) < 2) = false := decide_eq_false (by omega)
  have g5 : decide (o < 0) = false := decide_eq_false (by omega)
  obtain ⟨o, rfl⟩ := Int.eq_ofNat_of_zero_le (show 0 ≤ o by omega)
  have g6 : decide ((n : Int) ≤ (o : Int)) = false := decide_eq_false (by omega)
  have g6n : decide (n ≤ o) = false := decide_eq_false (by omega)
  have HW := Lib.hid h7
  have g8 : ((s.size : Int) != ((f 0).size : Int)) = false := by rw [h8]; simp
  have hs0 := HS.out 0 (by omega)
  obtain ⟨b, off, rfl, hb, -⟩ := hR.at_ (show 0 < n by omega)
  have n0 : 0 < n := by omega
  have HCN := Lib.hid (show capE n f = 0 by unfold capE; rw [if_pos h3, if_pos (show 2 ≤ n by omega)])
  obtain ⟨C, hC⟩ : ∃ C, C = capN n f := ⟨_, rfl⟩
  have hbd := capN_bd h3 (show 2 ≤ n by omega)
  rw [← hC] at hbd
  have hC0 := hbd.2.1
  have hC5 : C ≤ 5 := by omega
  have g9 : decide (C < 0) = false := decide_eq_false (by omega)
  have g10 : decide (12 < 2 * C + 1) = false := decide_eq_false (by omega)
  have HC := Lib.hid hC
  have HNEAR := Lib.hid (show M.anyTo n (nearAt f C) = true by rw [hC]; exact near_all h3 (by omega))
  have HSURE := Lib.hid (fun (he : 0 ≤ e ∧ e ≤ C) (hd : M.dst (f o) s ≤ e) => sure_dec h3 (show 2 ≤ n by omega) h7 h8 (show 0 ≤ e ∧ e ≤ capN n f by rw [← hC]; exact he) (show o < n by omega) hd)
  have HD : ∀ i s', i < n → (f i).size ≤ s'.size → ∀ (W : World), Calls Tryd.prog 23 #[.string (f i), .string s'] W fun e w'' => e = .returned (.int .i64 (M.dst (f i) s')) ∧ ∃ m, w'' = W.drewN m := fun i s' hi hz W => distance_any _ _ W (by have := HS.out i hi; omega) hz
  have HSZ := Lib.hid (fun i (hi : i < n) => (voc_one h3 hi).1)
  have HD := Lib.hid HD
  have hon : o < n := by omega
  have hsO := HSZ.out o hon
  have hsOS : (f o).size ≤ s.size := by omega
  clear hR h1 h3 h7 hbd hC hsO
  go_enter Tryd.func6, Tryd.ntmps6
  go_wp2_with fail
  go_quiet (fail)
  go_upto_region 5 with (first
    | (go_at_call 14; refine (farwords_any _ _ _ B f _ hn (HR.out.below (((belowAlloc w _).drewN nq).mono hB))).mono ?_; rw [H1.out]; rintro en w1 ⟨rfl, rfl⟩)
    | (go_at_call 21; refine (isvoc_any _ _ _ B f _ hn (HR.out.below (((belowAlloc w _).drewN nq).mono hB)) HS.out).mono ?_; rw [HV.out]; rintro en w1 ⟨rfl, hb1⟩; have HB1 := Lib.hid (((belowAlloc w _).drewN nq).trans (drewN_below hb1 : Below w.heap.size _ w1)); clear hb1; have c0 := (HR.out.below (HB1.out.mono hB)).c0 n0)
    | (go_at_call 27; refine (isword_any s _ (by omega)).mono ?_; rw [HW.out]; rintro en w2 ⟨rfl, rfl⟩)
    | (go_at_call 25; go_must (refine (pcap_any (some ⟨b, off, none⟩) n c B f w1 (by omega) (HR.out.below (HB1.out.mono hB)) (by have := HB1.out.size; omega) HS.out hnc hc).mono ?_); rw [← HC.out, HCN.out]; rintro en w2 ⟨rfl, hb2⟩; have HB2 := Lib.hid (HB1.out.trans (hb2.mono HB1.out.size)); clear hb2))
  have cO := (HR.out.below (HB2.out.mono hB)).ci hon
  have ko : decide (n ≤ o) = false := g6n
  clear c0
  have loops : True := trivial
  by_cases q1 : 0 ≤ e
  · by_cases q2 : e ≤ C
    · have k1 : decide (0 ≤ e) = true := decide_eq_true q1
      have k2 : decide (e ≤ C) = true := decide_eq_true q2
      have HDO := Lib.hid (HD.out o s hon hsOS)
      by_cases q3 : M.dst (f o) s ≤ e
      · obtain ⟨r1, r2⟩ := HSURE.out ⟨q1, q2⟩ q3
        have k3 : decide (M.dst (f o) s ≤ e) = true := decide_eq_true q3
        have R := Lib.hid (And.intro r1 r2)
        have e1 : ((o : Int) != (o : Int)) = false := by simp
        clear r1 r2
        go_wp2_with (first
          | (go_at_call 23; refine (HDO.out _).mono ?_; rintro en w3 ⟨rfl, hb3⟩; have HB3 := Lib.hid (HB2.out.trans (drewN_below hb3)); clear hb3)
          | (go_at_call 19; go_must (refine (pdecode_any (some ⟨b, off, none⟩) n c B f s e w3 (by omega) (HR.out.below (HB3.out.mono hB)) (by have := HB3.out.size; omega) HS.out (by omega) hnc hc).mono ?_); rw [R.out.1, R.out.2]; rintro en w4 ⟨rfl, hb4⟩; have HB4 := Lib.hid (HB3.out.trans (hb4.mono HB3.out.size)); clear hb4))
        obtain ⟨w8, hw8⟩ : ∃ w8, w8 = w4 := ⟨_, rfl⟩
        rw [← hw8] at HB4 ⊢
        have HB8 := HB4
        clear hw8
        go_loopw [12, 13, 14] (fun v i _ wr => ∃ k : Nat, k ≤ n ∧ i = .int .i64 k ∧ v = .bool (M.anyTo k (nearAt f C)) ∧ Below w.heap.size w wr) (fun _ i _ _ => n - (intOf i).toNat)
        case atStart => exact ⟨0, Nat.zero_le _, rfl, rfl, HB8.out⟩
        case round =>
          obtain ⟨k, hk, rfl, rfl, hbw⟩ := hrel
          have HBk := Lib.hid hbw
          clear hbw
          by_cases hlt : k < n
          · go_wp2_with fail
            go_loopw [12, 14] (fun v i wr => ∃ j : Nat, j ≤ k ∧ i = .int .i64 j ∧ v = .bool (M.anyTo k (nearAt f C) || M.anyTo j fun q => decide (M.dst (f k) (f q) ≤ 2 * C + 2)) ∧ Below w.heap.size w wr) (fun _ i _ => k - (intOf i).toNat)
            case atStart => exact ⟨0, Nat.zero_le _, rfl, by simp [M.anyTo], HBk.out⟩
            case round =>
              obtain ⟨j, hj, rfl, rfl, hbw2⟩ := hrel
              have HBj := Lib.hid hbw2
              clear hbw2
              by_cases hlt2 : j < k
              · have hjn : j < n := by omega
                have c1 := (HR.out.below (HBj.out.mono hB)).ci hlt
                have c2 := (HR.out.below (HBj.out.mono hB)).ci hjn
                have HX := Lib.hid (show (M.anyTo k (nearAt f C) || M.anyTo (j + 1) fun q => decide (M.dst (f k) (f q) ≤ 2 * C + 2)) = ((M.anyTo k (nearAt f C) || M.anyTo j fun q => decide (M.dst (f k) (f q) ≤ 2 * C + 2)) || decide (M.dst (f k) (f j) ≤ 2 * C + 2)) by simp only [M.anyTo, Bool.or_assoc])
                generalize (M.anyTo k (nearAt f C) || M.anyTo j fun q => decide (M.dst (f k) (f q) ≤ 2 * C + 2)) = acc at HX ⊢
                have HDj := Lib.hid (HD.out k (f j) hlt (by have := HSZ.out k hlt; have := HSZ.out j hjn; omega))
                have k4 : decide (n ≤ k) = false := decide_eq_false (by omega)
                have k5 : decide (n ≤ j) = false := decide_eq_false (by omega)
                cases acc
                · go_wp2_with fail
                  go_quiet (exact Calls.quiet_of (HDj.out _))
                  go_wp2_with fail
                  go_roundw
                  case rel => exact ⟨j + 1, by omega, by go_num, by rw [HX.out, Bool.false_or], HBj.out.drewN _⟩
                  case measure => simp [intOf]; omega
                · go_wp2_with fail
                  go_quiet (exact Calls.quiet_of (HDj.out _))
                  go_wp2_with fail
                  go_roundw
                  case rel => exact ⟨j + 1, by omega, by go_num, by rw [HX.out, Bool.true_or], HBj.out.drewN _⟩
                  case measure => simp [intOf]; omega
              · obtain rfl : j = k := by omega
                go_wp2_with fail
                go_roundw
                case rel => exact ⟨j + 1, by omega, by go_num, rfl, HBj.out⟩
                case measure => simp [intOf]; omega
          · obtain rfl : k = n := by omega
            rw [HNEAR.out]
            go_wp2_with (go_at_call 15; refine (works_any _).mono ?_; rintro en w9 ⟨rfl, hb9⟩; have HB9 := Lib.hid hb9; clear hb9)
            go_ret
            exact ⟨rfl, HBk.out.trans (HB9.out.mono HBk.out.size)⟩
      · have k3 : decide (M.dst (f o) s ≤ e) = false := decide_eq_false q3
        go_wp2_with (go_at_call 23; refine (HDO.out _).mono ?_; rintro en w3 ⟨rfl, hb3⟩; have HB3 := Lib.hid (HB2.out.trans (drewN_below hb3)); clear hb3)
        have HB8 := HB3
        go_loopw [12, 13, 14] (fun v i _ wr => ∃ k : Nat, k ≤ n ∧ i = .int .i64 k ∧ v = .bool (M.anyTo k (nearAt f C)) ∧ Below w.heap.size w wr) (fun _ i _ _ => n - (intOf i).toNat)
        case atStart => exact ⟨0, Nat.zero_le _, rfl, rfl, HB8.out⟩
        case round =>
          obtain ⟨k, hk, rfl, rfl, hbw⟩ := hrel
          have HBk := Lib.hid hbw
          clear hbw
          by_cases hlt : k < n
          · go_wp2_with fail
            go_loopw [12, 14] (fun v i wr => ∃ j : Nat, j ≤ k ∧ i = .int .i64 j ∧ v = .bool (M.anyTo k (nearAt f C) || M.anyTo j fun q => decide (M.dst (f k) (f q) ≤ 2 * C + 2)) ∧ Below w.heap.size w wr) (fun _ i _ => k - (intOf i).toNat)
            case atStart => exact ⟨0, Nat.zero_le _, rfl, by simp [M.anyTo], HBk.out⟩
            case round =>
              obtain ⟨j, hj, rfl, rfl, hbw2⟩ := hrel
              have HBj := Lib.hid hbw2
              clear hbw2
              by_cases hlt2 : j < k
              · have hjn : j < n := by omega
                have c1 := (HR.out.below (HBj.out.mono hB)).ci hlt
                have c2 := (HR.out.below (HBj.out.mono hB)).ci hjn
                have HX := Lib.hid (show (M.anyTo k (nearAt f C) || M.anyTo (j + 1) fun q => decide (M.dst (f k) (f q) ≤ 2 * C + 2)) = ((M.anyTo k (nearAt f C) || M.anyTo j fun q => decide (M.dst (f k) (f q) ≤ 2 * C + 2)) || decide (M.dst (f k) (f j) ≤ 2 * C + 2)) by simp only [M.anyTo, Bool.or_assoc])
                generalize (M.anyTo k (nearAt f C) || M.anyTo j fun q => decide (M.dst (f k) (f q) ≤ 2 * C + 2)) = acc at HX ⊢
                have HDj := Lib.hid (HD.out k (f j) hlt (by have := HSZ.out k hlt; have := HSZ.out j hjn; omega))
                have k4 : decide (n ≤ k) = false := decide_eq_false (by omega)
                have k5 : decide (n ≤ j) = false := decide_eq_false (by omega)
                cases acc
                · go_wp2_with fail
                  go_quiet (exact Calls.quiet_of (HDj.out _))
                  go_wp2_with fail
                  go_roundw
                  case rel => exact ⟨j + 1, by omega, by go_num, by rw [HX.out, Bool.false_or], HBj.out.drewN _⟩
                  case measure => simp [intOf]; omega
                · go_wp2_with fail
                  go_quiet (exact Calls.quiet_of (HDj.out _))
                  go_wp2_with fail
                  go_roundw
                  case rel => exact ⟨j + 1, by omega, by go_num, by rw [HX.out, Bool.true_or], HBj.out.drewN _⟩
                  case measure => simp [intOf]; omega
              · obtain rfl : j = k := by omega
                go_wp2_with fail
                go_roundw
                case rel => exact ⟨j + 1, by omega, by go_num, rfl, HBj.out⟩
                case measure => simp [intOf]; omega
          · obtain rfl : k = n := by omega
            rw [HNEAR.out]
            go_wp2_with (go_at_call 15; refine (works_any _).mono ?_; rintro en w9 ⟨rfl, hb9⟩; have HB9 := Lib.hid hb9; clear hb9)
            go_ret
            exact ⟨rfl, HBk.out.trans (HB9.out.mono HBk.out.size)⟩
    · have k1 : decide (0 ≤ e) = true := decide_eq_true q1
      have k2 : decide (e ≤ C) = false := decide_eq_false q2
      go_wp2_with fail
      have HB8 := HB2
      go_loopw [12, 13, 14] (fun v i _ wr => ∃ k : Nat, k ≤ n ∧ i = .int .i64 k ∧ v = .bool (M.anyTo k (nearAt f C)) ∧ Below w.heap.size w wr) (fun _ i _ _ => n - (intOf i).toNat)
      case atStart => exact ⟨0, Nat.zero_le _, rfl, rfl, HB8.out⟩
      case round =>
        obtain ⟨k, hk, rfl, rfl, hbw⟩ := hrel
        have HBk := Lib.hid hbw
        clear hbw
        by_cases hlt : k < n
        · go_wp2_with fail
          go_loopw [12, 14] (fun v i wr => ∃ j : Nat, j ≤ k ∧ i = .int .i64 j ∧ v = .bool (M.anyTo k (nearAt f C) || M.anyTo j fun q => decide (M.dst (f k) (f q) ≤ 2 * C + 2)) ∧ Below w.heap.size w wr) (fun _ i _ => k - (intOf i).toNat)
          case atStart => exact ⟨0, Nat.zero_le _, rfl, by simp [M.anyTo], HBk.out⟩
          case round =>
            obtain ⟨j, hj, rfl, rfl, hbw2⟩ := hrel
            have HBj := Lib.hid hbw2
            clear hbw2
            by_cases hlt2 : j < k
            · have hjn : j < n := by omega
              have c1 := (HR.out.below (HBj.out.mono hB)).ci hlt
              have c2 := (HR.out.below (HBj.out.mono hB)).ci hjn
              have HX := Lib.hid (show (M.anyTo k (nearAt f C) || M.anyTo (j + 1) fun q => decide (M.dst (f k) (f q) ≤ 2 * C + 2)) = ((M.anyTo k (nearAt f C) || M.anyTo j fun q => decide (M.dst (f k) (f q) ≤ 2 * C + 2)) || decide (M.dst (f k) (f j) ≤ 2 * C + 2)) by simp only [M.anyTo, Bool.or_assoc])
              generalize (M.anyTo k (nearAt f C) || M.anyTo j fun q => decide (M.dst (f k) (f q) ≤ 2 * C + 2)) = acc at HX ⊢
              have HDj := Lib.hid (HD.out k (f j) hlt (by have := HSZ.out k hlt; have := HSZ.out j hjn; omega))
              have k4 : decide (n ≤ k) = false := decide_eq_false (by omega)
              have k5 : decide (n ≤ j) = false := decide_eq_false (by omega)
              cases acc
              · go_wp2_with fail
                go_quiet (exact Calls.quiet_of (HDj.out _))
                go_wp2_with fail
                go_roundw
                case rel => exact ⟨j + 1, by omega, by go_num, by rw [HX.out, Bool.false_or], HBj.out.drewN _⟩
                case measure => simp [intOf]; omega
              · go_wp2_with fail
                go_quiet (exact Calls.quiet_of (HDj.out _))
                go_wp2_with fail
                go_roundw
                case rel => exact ⟨j + 1, by omega, by go_num, by rw [HX.out, Bool.true_or], HBj.out.drewN _⟩
                case measure => simp [intOf]; omega
            · obtain rfl : j = k := by omega
              go_wp2_with fail
              go_roundw
              case rel => exact ⟨j + 1, by omega, by go_num, rfl, HBj.out⟩
              case measure => simp [intOf]; omega
        · obtain rfl : k = n := by omega
          rw [HNEAR.out]
          go_wp2_with (go_at_call 15; refine (works_any _).mono ?_; rintro en w9 ⟨rfl, hb9⟩; have HB9 := Lib.hid hb9; clear hb9)
          go_ret
          exact ⟨rfl, HBk.out.trans (HB9.out.mono HBk.out.size)⟩
  · have k1 : decide (0 ≤ e) = false := decide_eq_false q1
    go_wp2_with fail
    have HB8 := HB2
    go_loopw [12, 13, 14] (fun v i _ wr => ∃ k : Nat, k ≤ n ∧ i = .int .i64 k ∧ v = .bool (M.anyTo k (nearAt f C)) ∧ Below w.heap.size w wr) (fun _ i _ _ => n - (intOf i).toNat)
    case atStart => exact ⟨0, Nat.zero_le _, rfl, rfl, HB8.out⟩
    case round =>
      obtain ⟨k, hk, rfl, rfl, hbw⟩ := hrel
      have HBk := Lib.hid hbw
      clear hbw
      by_cases hlt : k < n
      · go_wp2_with fail
        go_loopw [12, 14] (fun v i wr => ∃ j : Nat, j ≤ k ∧ i = .int .i64 j ∧ v = .bool (M.anyTo k (nearAt f C) || M.anyTo j fun q => decide (M.dst (f k) (f q) ≤ 2 * C + 2)) ∧ Below w.heap.size w wr) (fun _ i _ => k - (intOf i).toNat)
        case atStart => exact ⟨0, Nat.zero_le _, rfl, by simp [M.anyTo], HBk.out⟩
        case round =>
          obtain ⟨j, hj, rfl, rfl, hbw2⟩ := hrel
          have HBj := Lib.hid hbw2
          clear hbw2
          by_cases hlt2 : j < k
          · have hjn : j < n := by omega
            have c1 := (HR.out.below (HBj.out.mono hB)).ci hlt
            have c2 := (HR.out.below (HBj.out.mono hB)).ci hjn
            have HX := Lib.hid (show (M.anyTo k (nearAt f C) || M.anyTo (j + 1) fun q => decide (M.dst (f k) (f q) ≤ 2 * C + 2)) = ((M.anyTo k (nearAt f C) || M.anyTo j fun q => decide (M.dst (f k) (f q) ≤ 2 * C + 2)) || decide (M.dst (f k) (f j) ≤ 2 * C + 2)) by simp only [M.anyTo, Bool.or_assoc])
            generalize (M.anyTo k (nearAt f C) || M.anyTo j fun q => decide (M.dst (f k) (f q) ≤ 2 * C + 2)) = acc at HX ⊢
            have HDj := Lib.hid (HD.out k (f j) hlt (by have := HSZ.out k hlt; have := HSZ.out j hjn; omega))
            have k4 : decide (n ≤ k) = false := decide_eq_false (by omega)
            have k5 : decide (n ≤ j) = false := decide_eq_false (by omega)
            cases acc
            · go_wp2_with fail
              go_quiet (exact Calls.quiet_of (HDj.out _))
              go_wp2_with fail
              go_roundw
              case rel => exact ⟨j + 1, by omega, by go_num, by rw [HX.out, Bool.false_or], HBj.out.drewN _⟩
              case measure => simp [intOf]; omega
            · go_wp2_with fail
              go_quiet (exact Calls.quiet_of (HDj.out _))
              go_wp2_with fail
              go_roundw
              case rel => exact ⟨j + 1, by omega, by go_num, by rw [HX.out, Bool.true_or], HBj.out.drewN _⟩
              case measure => simp [intOf]; omega
          · obtain rfl : j = k := by omega
            go_wp2_with fail
            go_roundw
            case rel => exact ⟨j + 1, by omega, by go_num, rfl, HBj.out⟩
            case measure => simp [intOf]; omega
      · obtain rfl : k = n := by omega
        rw [HNEAR.out]
        go_wp2_with (go_at_call 15; refine (works_any _).mono ?_; rintro en w9 ⟨rfl, hb9⟩; have HB9 := Lib.hid hb9; clear hb9)
        go_ret
        exact ⟨rfl, HBk.out.trans (HB9.out.mono HBk.out.size)⟩
theorem relaySure_any (hnc : n ≤ c) (hc : c ≤ 9223372036854775807) :
    Calls Tryd.prog 6 #[.slice A n c, .agg #[.int .i64 o, .string s, .int .i64 e]] w fun en w' => en = .returned (.bool true) ∧ Below w.heap.size w w' := by
  cases h1 : farF n f
  · by_cases h2 : 60 < s.size
    · exact sure_far2 A n c B f s o e w hn hR hB h1 h2
    · cases h3 : M.isV n f
      · exact sure_far3 A n c B f s o e w hn hR hB h1 h2 h3
      · by_cases h4 : n < 2
        · exact sure_far4 A n c B f s o e w hn hR hB h1 h2 h3 h4
        · by_cases h5 : o < 0
          · exact sure_far5 A n c B f s o e w hn hR hB h1 h2 h3 h4 h5
          · by_cases h6 : n ≤ o
            · exact sure_far6 A n c B f s o e w hn hR hB h1 h2 h3 h4 h5 h6
            · cases h7 : M.isW s
              · exact sure_far7 A n c B f s o e w hn hR hB h1 h2 h3 h4 h5 h6 h7
              · by_cases h8 : s.size = (f 0).size
                · exact sure_near A n c B f s o e w hn hR hB hnc hc h1 h2 h3 h4 h5 h6 h7 h8
                · exact sure_far8 A n c B f s o e w hn hR hB h1 h2 h3 h4 h5 h6 h7 h8
  · exact sure_far1 A n c B f s o e w hn hR hB h1
end
end Go.Proofs.YtjdkcfnipkdmgaaDoor
