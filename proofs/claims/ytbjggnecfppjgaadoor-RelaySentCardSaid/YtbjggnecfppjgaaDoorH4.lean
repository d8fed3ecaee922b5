/- RelaySent, walked. -/
import Derived.Test.YtbjggnecfppjgaaDoorH4a
import Derived.Test.YtbjggnecfppjgaaDoorT11
namespace Go.Proofs.YtbjggnecfppjgaaDoor
open Go.RowKit

set_option maxHeartbeats 1600000 in
theorem has_any (A : Option Addr) (n c B : Nat) (f : Nat → Int) (x : Int) (w : World) (hn : n ≤ maxLen) (hR : Rd1 w B A n f) :
    Calls Tryd.prog 14 #[.slice A n c, .int .i64 x] w fun e w' => e = .returned (.bool (hasF n f x)) ∧ w = w' := by
  unfold maxLen at hn
  go_enter Tryd.func14, Tryd.ntmps14
  go_wp2_with fail
  go_loop [5] (fun i => ∃ k : Nat, k ≤ n ∧ i = .int .i64 k ∧ M.anyTo k (fun i => decide (f i = x)) = false) (fun i => n - (intOf i).toNat)
  case atStart => exact ⟨0, Nat.zero_le _, rfl, rfl⟩
  case round =>
    obtain ⟨k, hk, rfl, hf⟩ := hrel
    have HF := Lib.hid hf
    clear hf
    by_cases hlt : k < n
    · obtain ⟨b, off, rfl, hb, c0⟩ := hR.at_ hlt
      clear hR
      by_cases h1 : f k = x
      · have g1 : (f k == x) = true := by rw [h1]; simp
        have HX := Lib.hid h1
        clear h1
        go_wp2_with fail
        go_ret
        exact ⟨ret_bool (by unfold hasF; rw [M.anyTo_iff.2 ⟨k, hlt, decide_eq_true HX.out⟩]), rfl⟩
      · have g1 : (f k == x) = false := by rw [beq_eq_false_iff_ne]; exact h1
        have HX := Lib.hid h1
        clear h1
        go_wp2_with fail
        go_round
        case rel => exact ⟨k + 1, by omega, by go_num, by simp only [M.anyTo, HF.out, Bool.false_or]; exact decide_eq_false HX.out⟩
        case measure => simp [intOf]; omega
    · obtain rfl : k = n := by omega
      go_wp2_with fail
      go_ret
      exact ⟨ret_bool (by unfold hasF; rw [HF.out]), rfl⟩
theorem allTo_false {n k : Nat} {p : Nat → Bool} (h : p k = false) (hk : k < n) : M.allTo n p = false := by
  refine Bool.eq_false_iff.2 fun h1 => ?_
  have := M.allTo_iff.1 h1 k hk
  rw [h] at this; cases this
section
variable (wA gA : Option Addr) (wn wc gn gc B : Nat) (f g : Nat → ByteArray) (e o q : Int) (m : ByteArray) (w : World) (hwn : wn ≤ maxLen) (hgn : gn ≤ maxLen) (hW : RdS w B wA wn f) (hG : RdS w B gA gn g) (hB : B ≤ w.heap.size)
include hwn hgn hW hG hB
omit hgn hG in
set_option maxRecDepth 100000 in
set_option maxHeartbeats 3200000 in
theorem sent_far1 (h1 : farF wn f = true) :
    Calls Tryd.prog 3 #[.slice wA wn wc, .agg #[.slice gA gn gc, .int .i64 e], .agg #[.int .i64 o, .string m, .int .i64 q]] w fun en w' => en = .returned (.bool true) ∧ Below w.heap.size w w' := by
  have HW := Lib.hid hW
  have H1 := Lib.hid h1
  have HB0 := Lib.hid (belowAlloc2 w (.cells #[.slice gA gn gc, .int .i64 e] 24) (.cells #[.int .i64 o, .string m, .int .i64 q] 26))
  have RB0 := Lib.hid ((Blk.new w 24 #[.slice gA gn gc, .int .i64 e]).alloc (.cells #[.int .i64 o, .string m, .int .i64 q] 26))
  clear hW h1
  go_enter Tryd.func3, Tryd.ntmps3
  go_wp2_with fail
  go_quiet (fail)
  have HB1 := Lib.hid (HB0.out.drewN nq)
  go_wp2_with fail
  refine (farwords_any wA wn wc B f _ hwn (HW.out.below (HB1.out.mono hB))).mono ?_
  rw [H1.out]
  rintro en w1 ⟨rfl, rfl⟩
  go_wp2_with (first
    | (go_at_call 11; refine (works_any _).mono ?_; rintro en w9 ⟨rfl, hb9⟩; have HB9 := Lib.hid hb9; clear hb9)
    | fail)
  go_ret
  exact ⟨rfl, HB1.out.trans (HB9.out.mono HB1.out.size)⟩
set_option maxRecDepth 100000 in
set_option maxHeartbeats 3200000 in
theorem sent_far2 (h1 : farF wn f = false) (h2 : farF gn g = true) :
    Calls Tryd.prog 3 #[.slice wA wn wc, .agg #[.slice gA gn gc, .int .i64 e], .agg #[.int .i64 o, .string m, .int .i64 q]] w fun en w' => en = .returned (.bool true) ∧ Below w.heap.size w w' := by
  have HW := Lib.hid hW
  have HG := Lib.hid hG
  have H1 := Lib.hid h1
  have HB0 := Lib.hid (belowAlloc2 w (.cells #[.slice gA gn gc, .int .i64 e] 24) (.cells #[.int .i64 o, .string m, .int .i64 q] 26))
  have RB0 := Lib.hid ((Blk.new w 24 #[.slice gA gn gc, .int .i64 e]).alloc (.cells #[.int .i64 o, .string m, .int .i64 q] 26))
  have H2 := Lib.hid h2
  have HSf := Lib.hid (near_of h1).2
  have hw60 := (near_of h1).1
  clear hW h1 hG h2
  go_enter Tryd.func3, Tryd.ntmps3
  go_wp2_with fail
  go_quiet (fail)
  have HB1 := Lib.hid (HB0.out.drewN nq)
  go_wp2_with fail
  refine (farwords_any wA wn wc B f _ hwn (HW.out.below (HB1.out.mono hB))).mono ?_
  rw [H1.out]
  rintro en w1 ⟨rfl, rfl⟩
  go_wp2_with fail
  refine (farwords_any gA gn gc B g _ hgn (HG.out.below (HB1.out.mono hB))).mono ?_
  rw [H2.out]
  rintro en w1 ⟨rfl, rfl⟩
  go_wp2_with (first
    | (go_at_call 11; refine (works_any _).mono ?_; rintro en w9 ⟨rfl, hb9⟩; have HB9 := Lib.hid hb9; clear hb9)
    | fail)
  go_ret
  exact ⟨rfl, HB1.out.trans (HB9.out.mono HB1.out.size)⟩
set_option maxRecDepth 100000 in
set_option maxHeartbeats 3200000 in
theorem sent_far3 (h1 : farF wn f = false) (h2 : farF gn g = false) (h3 : 60 < m.size) :
    Calls Tryd.prog 3 #[.slice wA wn wc, .agg #[.slice gA gn gc, .int .i64 e], .agg #[.int .i64 o, .string m, .int .i64 q]] w fun en w' => en = .returned (.bool true) ∧ Below w.heap.size w w' := by
  have HW := Lib.hid hW
  have HG := Lib.hid hG
  have H1 := Lib.hid h1
  have HB0 := Lib.hid (belowAlloc2 w (.cells #[.slice gA gn gc, .int .i64 e] 24) (.cells #[.int .i64 o, .string m, .int .i64 q] 26))
  have RB0 := Lib.hid ((Blk.new w 24 #[.slice gA gn gc, .int .i64 e]).alloc (.cells #[.int .i64 o, .string m, .int .i64 q] 26))
  have H2 := Lib.hid h2
  have HSf := Lib.hid (near_of h1).2
  have hw60 := (near_of h1).1
  have HSg := Lib.hid (near_of h2).2
  have hg60 := (near_of h2).1
  have g3 : decide ((60 : Int) < (m.size : Int)) = true := decide_eq_true (by omega)
  clear hW h1 hG h2
  go_enter Tryd.func3, Tryd.ntmps3
  go_wp2_with fail
  go_quiet (fail)
  have HB1 := Lib.hid (HB0.out.drewN nq)
  go_wp2_with fail
  refine (farwords_any wA wn wc B f _ hwn (HW.out.below (HB1.out.mono hB))).mono ?_
  rw [H1.out]
  rintro en w1 ⟨rfl, rfl⟩
  go_wp2_with fail
  refine (farwords_any gA gn gc B g _ hgn (HG.out.below (HB1.out.mono hB))).mono ?_
  rw [H2.out]
  rintro en w1 ⟨rfl, rfl⟩
  go_wp2_with (first
    | (go_at_call 11; refine (works_any _).mono ?_; rintro en w9 ⟨rfl, hb9⟩; have HB9 := Lib.hid hb9; clear hb9)
    | fail)
  go_ret
  exact ⟨rfl, HB1.out.trans (HB9.out.mono HB1.out.size)⟩
set_option maxRecDepth 100000 in
set_option maxHeartbeats 3200000 in
theorem sent_far4 (h1 : farF wn f = false) (h2 : farF gn g = false) (h3 : ¬ 60 < m.size) (h4 : M.isV wn f = false) :
    Calls Tryd.prog 3 #[.slice wA wn wc, .agg #[.slice gA gn gc, .int .i64 e], .agg #[.int .i64 o, .string m, .int .i64 q]] w fun en w' => en = .returned (.bool true) ∧ Below w.heap.size w w' := by
  have HW := Lib.hid hW
  have HG := Lib.hid hG
  have H1 := Lib.hid h1
  have HB0 := Lib.hid (belowAlloc2 w (.cells #[.slice gA gn gc, .int .i64 e] 24) (.cells #[.int .i64 o, .string m, .int .i64 q] 26))
  have RB0 := Lib.hid ((Blk.new w 24 #[.slice gA gn gc, .int .i64 e]).alloc (.cells #[.int .i64 o, .string m, .int .i64 q] 26))
  have H2 := Lib.hid h2
  have HSf := Lib.hid (near_of h1).2
  have hw60 := (near_of h1).1
  have HSg := Lib.hid (near_of h2).2
  have hg60 := (near_of h2).1
  have g3 : decide ((60 : Int) < (m.size : Int)) = false := decide_eq_false (by omega)
  have HV := Lib.hid h4
  clear hW h1 hG h2 h4
  go_enter Tryd.func3, Tryd.ntmps3
  go_wp2_with fail
  go_quiet (fail)
  have HB1 := Lib.hid (HB0.out.drewN nq)
  go_wp2_with fail
  refine (farwords_any wA wn wc B f _ hwn (HW.out.below (HB1.out.mono hB))).mono ?_
  rw [H1.out]
  rintro en w1 ⟨rfl, rfl⟩
  go_wp2_with fail
  refine (farwords_any gA gn gc B g _ hgn (HG.out.below (HB1.out.mono hB))).mono ?_
  rw [H2.out]
  rintro en w1 ⟨rfl, rfl⟩
  go_wp2_with (first
    | (go_at_call 11; refine (works_any _).mono ?_; rintro en w9 ⟨rfl, hb9⟩; have HB9 := Lib.hid hb9; clear hb9)
    | (go_at_call 9; go_must (refine (isvoc_any wA wn wc B f _ hwn (HW.out.below (HB1.out.mono hB)) HSf.out).mono ?_); rw [HV.out]; rintro en w1 ⟨rfl, hb1⟩; have HB2 := Lib.hid (HB1.out.trans (drewN_below hb1 : Below w.heap.size _ w1)); have RB1 := Lib.hid ((RB0.out.drewN nq).below' (drewN_below hb1)); have q0 := RB1.out.cell 0; have q1 := RB1.out.cell 1; clear hb1))
  go_ret
  exact ⟨rfl, HB2.out.trans (HB9.out.mono HB2.out.size)⟩
set_option maxRecDepth 100000 in
set_option maxHeartbeats 3200000 in
theorem sent_far5 (h1 : farF wn f = false) (h2 : farF gn g = false) (h3 : ¬ 60 < m.size) (h4 : M.isV wn f = true) (h5 : M.isR wn f gn g e = false) :
    Calls Tryd.prog 3 #[.slice wA wn wc, .agg #[.slice gA gn gc, .int .i64 e], .agg #[.int .i64 o, .string m, .int .i64 q]] w fun en w' => en = .returned (.bool true) ∧ Below w.heap.size w w' := by
  have HW := Lib.hid hW
  have HG := Lib.hid hG
  have H1 := Lib.hid h1
  have HB0 := Lib.hid (belowAlloc2 w (.cells #[.slice gA gn gc, .int .i64 e] 24) (.cells #[.int .i64 o, .string m, .int .i64 q] 26))
  have RB0 := Lib.hid ((Blk.new w 24 #[.slice gA gn gc, .int .i64 e]).alloc (.cells #[.int .i64 o, .string m, .int .i64 q] 26))
  have H2 := Lib.hid h2
  have HSf := Lib.hid (near_of h1).2
  have hw60 := (near_of h1).1
  have HSg := Lib.hid (near_of h2).2
  have hg60 := (near_of h2).1
  have g3 : decide ((60 : Int) < (m.size : Int)) = false := decide_eq_false (by omega)
  have HV := Lib.hid h4
  have HRr := Lib.hid h5
  clear hW h1 hG h2 h4 h5
  go_enter Tryd.func3, Tryd.ntmps3
  go_wp2_with fail
  go_quiet (fail)
  have HB1 := Lib.hid (HB0.out.drewN nq)
  go_wp2_with fail
  refine (farwords_any wA wn wc B f _ hwn (HW.out.below (HB1.out.mono hB))).mono ?_
  rw [H1.out]
  rintro en w1 ⟨rfl, rfl⟩
  go_wp2_with fail
  refine (farwords_any gA gn gc B g _ hgn (HG.out.below (HB1.out.mono hB))).mono ?_
  rw [H2.out]
  rintro en w1 ⟨rfl, rfl⟩
  go_wp2_with (first
    | (go_at_call 11; refine (works_any _).mono ?_; rintro en w9 ⟨rfl, hb9⟩; have HB9 := Lib.hid hb9; clear hb9)
    | (go_at_call 9; go_must (refine (isvoc_any wA wn wc B f _ hwn (HW.out.below (HB1.out.mono hB)) HSf.out).mono ?_); rw [HV.out]; rintro en w1 ⟨rfl, hb1⟩; have HB2 := Lib.hid (HB1.out.trans (drewN_below hb1 : Below w.heap.size _ w1)); have RB1 := Lib.hid ((RB0.out.drewN nq).below' (drewN_below hb1)); have q0 := RB1.out.cell 0; have q1 := RB1.out.cell 1; clear hb1)
    | (go_at_call 10; go_must (refine (isradio_any wA gA wn wc gn gc B f g e w1 (by omega) (by omega) (HW.out.below (HB2.out.mono hB)) (HG.out.below (HB2.out.mono hB)) (by have h := HB2.out.size; omega) HSf.out HSg.out).mono ?_); rw [HRr.out]; rintro en w2 ⟨rfl, hb2⟩; have HB3 := Lib.hid (HB2.out.trans (hb2.mono HB2.out.size)); have RB2 := Lib.hid (RB1.out.below' hb2); clear hb2))
  go_ret
  exact ⟨rfl, HB3.out.trans (HB9.out.mono HB3.out.size)⟩
set_option maxRecDepth 100000 in
set_option maxHeartbeats 12800000 in
theorem sent_near (hwc : wn ≤ wc) (hwc2 : wc ≤ 9223372036854775807) (h1 : farF wn f = false) (h2 : farF gn g = false) (h3 : ¬ 60 < m.size) (h4 : M.isV wn f = true) (h5 : M.isR wn f gn g e = true) :
    Calls Tryd.prog 3 #[.slice wA wn wc, .agg #[.slice gA gn gc, .int .i64 e], .agg #[.int .i64 o, .string m, .int .i64 q]] w fun en w' => en = .returned (.bool true) ∧ Below w.heap.size w w' := by
  have HW := Lib.hid hW
  have HG := Lib.hid hG
  have H1 := Lib.hid h1
  have HB0 := Lib.hid (belowAlloc2 w (.cells #[.slice gA gn gc, .int .i64 e] 24) (.cells #[.int .i64 o, .string m, .int .i64 q] 26))
  have RB0 := Lib.hid ((Blk.new w 24 #[.slice gA gn gc, .int .i64 e]).alloc (.cells #[.int .i64 o, .string m, .int .i64 q] 26))
  have H2 := Lib.hid h2
  have HSf := Lib.hid (near_of h1).2
  have hw60 := (near_of h1).1
  have HSg := Lib.hid (near_of h2).2
  have hg60 := (near_of h2).1
  have g3 : decide ((60 : Int) < (m.size : Int)) = false := decide_eq_false (by omega)
  have HV := Lib.hid h4
  have HRr := Lib.hid h5
  clear hW h1 hG h2 h4 h5
  have HE3 := Lib.hid (show idE wn f gn g e = 0 by unfold idE; rw [HV.out, HRr.out]; rfl)
  have HHW := Lib.hid (fun k (hk : k < wn) => has_word (wn := wn) (f := f) (gn := gn) (g := g) (e := e) HV.out HRr.out hk)
  have hl60 : (idL wn f gn g e).length ≤ 60 := by unfold idL; split; exact Nat.le_trans (M.elP_len _ _) hw60; simp
  obtain ⟨L, hL⟩ : ∃ L, L = idL wn f gn g e := ⟨_, rfl⟩
  rw [← hL] at HHW hl60
  have HLL := Lib.hid hL
  have HSm := Lib.hid (show ∀ i, i < gn + 1 → (more gn g m i).size ≤ 1048576 from fun i hi => by unfold more; split; exact HSg.out i (by assumption); omega)
  have HFit := Lib.hid (fun i (hi : i < wn) k (hk : k < gn) => fit_of HV.out HRr.out hi hk)
  clear hL
  go_enter Tryd.func3, Tryd.ntmps3
  go_wp2_with fail
  go_quiet (fail)
  have HB1 := Lib.hid (HB0.out.drewN nq)
  go_wp2_with fail
  refine (farwords_any wA wn wc B f _ hwn (HW.out.below (HB1.out.mono hB))).mono ?_
  rw [H1.out]
  rintro en w1 ⟨rfl, rfl⟩
  go_wp2_with fail
  refine (farwords_any gA gn gc B g _ hgn (HG.out.below (HB1.out.mono hB))).mono ?_
  rw [H2.out]
  rintro en w1 ⟨rfl, rfl⟩
  go_upto_region 7 with (first
    | (go_at_call 9; go_must (refine (isvoc_any wA wn wc B f _ hwn (HW.out.below (HB1.out.mono hB)) HSf.out).mono ?_); rw [HV.out]; rintro en w1 ⟨rfl, hb1⟩; have HB2 := Lib.hid (HB1.out.trans (drewN_below hb1 : Below w.heap.size _ w1)); have RB1 := Lib.hid ((RB0.out.drewN nq).below' (drewN_below hb1)); have q0 := RB1.out.cell 0; have q1 := RB1.out.cell 1; clear hb1)
    | (go_at_call 10; go_must (refine (isradio_any wA gA wn wc gn gc B f g e w1 (by omega) (by omega) (HW.out.below (HB2.out.mono hB)) (HG.out.below (HB2.out.mono hB)) (by have h := HB2.out.size; omega) HSf.out HSg.out).mono ?_); rw [HRr.out]; rintro en w2 ⟨rfl, hb2⟩; have HB3 := Lib.hid (HB2.out.trans (hb2.mono HB2.out.size)); have RB2 := Lib.hid (RB1.out.below' hb2); have q2 := RB2.out.cell 0; have q3 := RB2.out.cell 1; clear hb2)
    | (go_at_call 12; go_must (refine (pidentify_any wA gA wn wc gn gc B f g e w2 (by omega) (by omega) (HW.out.below (HB3.out.mono hB)) (HG.out.below (HB3.out.mono hB)) (by have h := HB3.out.size; omega) HSf.out HSg.out hwc hwc2).mono ?_); unfold IdV; rw [HE3.out, ← HLL.out]; rintro en w3 ⟨⟨v3, rfl, ho3⟩, hb3⟩; obtain ⟨lA, lc, rfl, hl3⟩ := ho3.rd1; have HBY := Lib.hid (HB3.out.trans (hb3.mono HB3.out.size)); have RBY := Lib.hid (RB2.out.below' hb3); have HLY := Lib.hid hl3; clear ho3 hl3 hb3))
  clear HB0 RB0 HB1 HB2 RB1 HB3 RB2 q0 q1 q2 q3
  by_cases p1 : 0 ≤ o
  · obtain ⟨o, rfl⟩ := Int.eq_ofNat_of_zero_le p1
    have k1 : decide ((0 : Int) ≤ (o : Int)) = true := decide_eq_true (by omega)
    by_cases p2 : o < wn
    · have k2 : decide ((o : Int) < (wn : Int)) = true := decide_eq_true (by omega)
      have k2n : decide (o < wn) = true := decide_eq_true p2
      have HHO := Lib.hid (HHW.out o p2)
      have z0 := RBY.out.cell 0
      have HW3 := Lib.hid (HW.out.below (HBY.out.mono hB))
      have HG3 := Lib.hid (HG.out.below (HBY.out.mono hB))
      go_wp2_with fail
      clear z0
      go_loopw [11, 12] (fun v i wr => ∃ k : Nat, k ≤ gn ∧ i = .int .i64 k ∧ v = .bool (M.allTo k fun i => decide (M.dst (f o) (g i) ≤ e)) ∧ ∃ n, wr = w3.drewN n) (fun _ i _ => gn - (intOf i).toNat)
      case atStart => exact ⟨0, Nat.zero_le _, rfl, rfl, 0, rfl⟩
      case round =>
        obtain ⟨k, hk, rfl, rfl, hm⟩ := hrel
        have HM := Lib.hid hm
        have z0 : wr.cell? ⟨w.heap.size, 0, none⟩ = some (.slice gA gn gc) := by obtain ⟨n, e⟩ := hm; rw [e]; exact RBY.out.cell 0
        have z1 : wr.cell? ⟨w.heap.size, 1, none⟩ = some (.int .i64 e) := by obtain ⟨n, e⟩ := hm; rw [e]; exact RBY.out.cell 1
        by_cases hlt : k < gn
        · have r1 : RdS wr B wA wn f := by obtain ⟨n, e⟩ := hm; rw [e]; exact HW3.out
          have r2 : RdS wr B gA gn g := by obtain ⟨n, e⟩ := hm; rw [e]; exact HG3.out
          obtain ⟨b1, o1, rfl, -, c1⟩ := r1.at_ p2
          obtain ⟨b2, o2, rfl, -, c2⟩ := r2.at_ hlt
          have HD : ∀ (W : World), Calls Tryd.prog 13 #[.string (f o), .string (g k)] W fun en w'' => en = .returned (.int .i64 (M.dst (f o) (g k))) ∧ ∃ n, w'' = W.drewN n := fun W => distance_any _ _ W (by have := (HFit.out o p2 k hlt).1; omega) (HFit.out o p2 k hlt).2.1
          have HD := Lib.hid HD
          have HX := Lib.hid (show (M.allTo (k + 1) fun i => decide (M.dst (f o) (g i) ≤ e)) = ((M.allTo k fun i => decide (M.dst (f o) (g i) ≤ e)) && decide (M.dst (f o) (g k) ≤ e)) from rfl)
          generalize (M.allTo k fun i => decide (M.dst (f o) (g i) ≤ e)) = acc at HX ⊢
          have k4 : decide (gn ≤ k) = false := decide_eq_false (by omega)
          have k5 : decide (wn ≤ o) = false := decide_eq_false (by omega)
          clear hm r1 r2
          cases acc
          · go_wp2_with fail
            go_quiet (exact Calls.quiet_of (HD.out _))
            go_wp2_with fail
            go_roundw
            case rel => exact ⟨k + 1, by omega, by go_num, by rw [HX.out, Bool.false_and], by obtain ⟨n, e⟩ := HM.out; exact ⟨n + nq, by rw [e, World.drewN_drewN]⟩⟩
            case measure => simp [intOf]; omega
          · go_wp2_with fail
            go_quiet (exact Calls.quiet_of (HD.out _))
            go_wp2_with fail
            go_roundw
            case rel => exact ⟨k + 1, by omega, by go_num, by rw [HX.out, Bool.true_and], by obtain ⟨n, e⟩ := HM.out; exact ⟨n + nq, by rw [e, World.drewN_drewN]⟩⟩
            case measure => simp [intOf]; omega
        · obtain rfl : gn = k := by omega
          have hmay : (M.allTo gn fun i => decide (M.dst (f o) (g i) ≤ e)) = M.may gn g e (f o) := rfl
          rw [hmay]
          have HBw := HBY
          have HBY := Lib.hid (show Below w.heap.size w wr by obtain ⟨n, e⟩ := hm; rw [e]; exact HBw.out.drewN n)
          have RBw := RBY
          have RBY := Lib.hid (show Blk wr w.heap.size 24 #[.slice gA gn gc, .int .i64 e] by obtain ⟨n, e⟩ := hm; rw [e]; exact RBw.out.drewN n)
          have HLw := HLY
          have HLY := Lib.hid (show Rd1 wr wr.heap.size lA L.length (nats L) by obtain ⟨n, e⟩ := hm; rw [e]; exact HLw.out)
          have HGY := Lib.hid (fun W (hb : Below wr.heap.size wr W) => HG.out.below ((HBY.out.trans (hb.mono HBY.out.size)).mono hB))
          generalize hmy : M.may gn g e (f o) = mb at HHO ⊢
          have k6 : (mb != mb) = false := by simp
          clear hm HM hmay hmy HBw RBw HLw HW3 HG3
          go_upto_region 15 with (go_at_call 14; go_must (refine (has_any lA L.length lc _ (nats L) (o : Int) _ (by unfold maxLen; omega) HLY.out).mono ?_); rw [HHO.out]; rintro en w7 ⟨rfl, rfl⟩)
          clear z0 z1
          refine sent_seg gA gn gc B e g m w _ _ _ hg60 RBY.out HGY.out ?_
          intro g13 A4 d4 wx x89 x90 x91 x92 x93 x94 x95 x96 x97 x98 b13 oN hbY
          apply_assumption
          have HBx := Lib.hid (HBY.out.trans (hbY.mono HBY.out.size))
          have HLx := Lib.hid ((HLY.out.below hbY).more hbY.size)
          have B13 := Lib.hid b13
          have RN := Lib.hid oN.rdS
          have WN := Lib.hid ((HW.out.below (HBx.out.mono hB)).more (show B ≤ wx.heap.size from Nat.le_trans hB HBx.out.size))
          have e0 := b13.cell 0
          have e1 := b13.cell 1
          clear b13 oN hbY
          cases hR' : M.isR wn f (gn + 1) (more gn g m) e
          · have HR' := Lib.hid hR'
            have HE5 := Lib.hid (show idE wn f (gn + 1) (more gn g m) e = 1 by unfold idE; rw [HV.out, hR']; rfl)
            clear hR'
            go_wp2_with (first
              | (go_at_call 12; go_must (refine (pidentify_any wA A4 wn wc (gn + 1) d4 wx.heap.size f (more gn g m) e wx (by omega) (by omega) WN.out RN.out.1 (Nat.le_refl _) HSf.out HSm.out hwc hwc2).mono ?_); unfold IdV; rw [HE5.out]; rintro en w5 ⟨⟨v5, rfl, ho5⟩, hb5⟩; obtain ⟨mA, mc, rfl, hl5⟩ := ho5.rd1; have HB5 := Lib.hid (HBx.out.trans (hb5.mono HBx.out.size)); have B5 := Lib.hid (B13.out.below' hb5); have WN5 := Lib.hid (WN.out.below hb5); have RN5 := Lib.hid (RN.out.1.below hb5); have e0 := B5.out.cell 0; have e1 := B5.out.cell 1; have hz5 := hb5.size; clear ho5 hl5 hb5)
              | (go_at_call 10; go_must (refine (isradio_any wA A4 wn wc (gn + 1) d4 wx.heap.size f (more gn g m) e w5 (by omega) (by omega) WN5.out RN5.out hz5 HSf.out HSm.out).mono ?_); rw [HR'.out]; rintro en w6 ⟨rfl, hb6⟩; have HB6 := Lib.hid (HB5.out.trans (hb6.mono HB5.out.size)); clear hb6)
              | (go_at_call 11; refine (works_any _).mono ?_; rintro en w9 ⟨rfl, hb9⟩; have HB9 := Lib.hid hb9; clear hb9))
            go_ret
            exact ⟨rfl, HB6.out.trans (HB9.out.mono HB6.out.size)⟩
          · have HR' := Lib.hid hR'
            have HE5 := Lib.hid (show idE wn f (gn + 1) (more gn g m) e = 0 by unfold idE; rw [HV.out, hR']; rfl)
            have HMO := Lib.hid (fun j (hj : j < (idL wn f (gn + 1) (more gn g m) e).length) => has_more (wn := wn) (f := f) (gn := gn) (g := g) (s := m) (e := e) HV.out HRr.out hj)
            have hl60' : (idL wn f (gn + 1) (more gn g m) e).length ≤ 60 := by unfold idL; split; exact Nat.le_trans (M.elP_len _ _) hw60; simp
            obtain ⟨L', hL'⟩ : ∃ L', L' = idL wn f (gn + 1) (more gn g m) e := ⟨_, rfl⟩
            rw [← hL'] at HMO hl60'
            have HL' := Lib.hid hL'
            rw [← HLL.out] at HMO
            clear hR' hL'
            go_wp2_with (first
              | (go_at_call 12; go_must (refine (pidentify_any wA A4 wn wc (gn + 1) d4 wx.heap.size f (more gn g m) e wx (by omega) (by omega) WN.out RN.out.1 (Nat.le_refl _) HSf.out HSm.out hwc hwc2).mono ?_); unfold IdV; rw [HE5.out, ← HL'.out]; rintro en w5 ⟨⟨v5, rfl, ho5⟩, hb5⟩; obtain ⟨mA, mc, rfl, hl5⟩ := ho5.rd1; have HM5 := Lib.hid hl5; have HL5 := Lib.hid ((HLx.out.below hb5).more hb5.size); have HB5 := Lib.hid (HBx.out.trans (hb5.mono HBx.out.size)); have B5 := Lib.hid (B13.out.below' hb5); have WN5 := Lib.hid (WN.out.below hb5); have RN5 := Lib.hid (RN.out.1.below hb5); have e0 := B5.out.cell 0; have e1 := B5.out.cell 1; have hz5 := hb5.size; clear ho5 hl5 hb5)
              | (go_at_call 10; go_must (refine (isradio_any wA A4 wn wc (gn + 1) d4 wx.heap.size f (more gn g m) e w5 (by omega) (by omega) WN5.out RN5.out hz5 HSf.out HSm.out).mono ?_); rw [HR'.out]; rintro en w6 ⟨rfl, hb6⟩; have HB6 := Lib.hid (HB5.out.trans (hb6.mono HB5.out.size)); have HM6 := Lib.hid (HM5.out.below hb6); have HL6 := Lib.hid (HL5.out.below hb6); clear hb6))
            clear e0 e1
            go_loop [16] (fun i => ∃ k : Nat, k ≤ L'.length ∧ i = .int .i64 k) (fun i => L'.length - (intOf i).toNat)
            case atStart => exact ⟨0, Nat.zero_le _, rfl⟩
            case round =>
              obtain ⟨k, hk, rfl⟩ := hrel
              by_cases hlt : k < L'.length
              · obtain ⟨b', off', rfl, hb', c0⟩ := HM6.out.at_ hlt
                have HX := Lib.hid (HMO.out k hlt)
                go_wp2_with (go_at_call 14; go_must (refine (has_any lA L.length lc _ (nats L) (nats L' k) _ (by unfold maxLen; omega) HL6.out).mono ?_); rw [HX.out]; rintro en w7 ⟨rfl, rfl⟩)
                go_round
                case rel => exact ⟨k + 1, by omega, by go_num⟩
                case measure => simp [intOf]; omega
              · obtain rfl : k = L'.length := by omega
                go_wp2_with (go_at_call 11; refine (works_any _).mono ?_; rintro en w9 ⟨rfl, hb9⟩; have HB9 := Lib.hid hb9; clear hb9)
                go_ret
                exact ⟨rfl, HB6.out.trans (HB9.out.mono HB6.out.size)⟩
    · have k2 : decide ((o : Int) < (wn : Int)) = false := decide_eq_false (by omega)
      have k2n : decide (o < wn) = false := decide_eq_false p2
      have HGY := Lib.hid (fun W (hb : Below w3.heap.size w3 W) => HG.out.below ((HBY.out.trans (hb.mono HBY.out.size)).mono hB))
      go_upto_region 15 with fail
      refine sent_seg gA gn gc B e g m w _ _ _ hg60 RBY.out HGY.out ?_
      intro g13 A4 d4 wx x89 x90 x91 x92 x93 x94 x95 x96 x97 x98 b13 oN hbY
      apply_assumption
      have HBx := Lib.hid (HBY.out.trans (hbY.mono HBY.out.size))
      have HLx := Lib.hid ((HLY.out.below hbY).more hbY.size)
      have B13 := Lib.hid b13
      have RN := Lib.hid oN.rdS
      have WN := Lib.hid ((HW.out.below (HBx.out.mono hB)).more (show B ≤ wx.heap.size from Nat.le_trans hB HBx.out.size))
      have e0 := b13.cell 0
      have e1 := b13.cell 1
      clear b13 oN hbY
      cases hR' : M.isR wn f (gn + 1) (more gn g m) e
      · have HR' := Lib.hid hR'
        have HE5 := Lib.hid (show idE wn f (gn + 1) (more gn g m) e = 1 by unfold idE; rw [HV.out, hR']; rfl)
        clear hR'
        go_wp2_with (first
          | (go_at_call 12; go_must (refine (pidentify_any wA A4 wn wc (gn + 1) d4 wx.heap.size f (more gn g m) e wx (by omega) (by omega) WN.out RN.out.1 (Nat.le_refl _) HSf.out HSm.out hwc hwc2).mono ?_); unfold IdV; rw [HE5.out]; rintro en w5 ⟨⟨v5, rfl, ho5⟩, hb5⟩; obtain ⟨mA, mc, rfl, hl5⟩ := ho5.rd1; have HB5 := Lib.hid (HBx.out.trans (hb5.mono HBx.out.size)); have B5 := Lib.hid (B13.out.below' hb5); have WN5 := Lib.hid (WN.out.below hb5); have RN5 := Lib.hid (RN.out.1.below hb5); have e0 := B5.out.cell 0; have e1 := B5.out.cell 1; have hz5 := hb5.size; clear ho5 hl5 hb5)
          | (go_at_call 10; go_must (refine (isradio_any wA A4 wn wc (gn + 1) d4 wx.heap.size f (more gn g m) e w5 (by omega) (by omega) WN5.out RN5.out hz5 HSf.out HSm.out).mono ?_); rw [HR'.out]; rintro en w6 ⟨rfl, hb6⟩; have HB6 := Lib.hid (HB5.out.trans (hb6.mono HB5.out.size)); clear hb6)
          | (go_at_call 11; refine (works_any _).mono ?_; rintro en w9 ⟨rfl, hb9⟩; have HB9 := Lib.hid hb9; clear hb9))
        go_ret
        exact ⟨rfl, HB6.out.trans (HB9.out.mono HB6.out.size)⟩
      · have HR' := Lib.hid hR'
        have HE5 := Lib.hid (show idE wn f (gn + 1) (more gn g m) e = 0 by unfold idE; rw [HV.out, hR']; rfl)
        have HMO := Lib.hid (fun j (hj : j < (idL wn f (gn + 1) (more gn g m) e).length) => has_more (wn := wn) (f := f) (gn := gn) (g := g) (s := m) (e := e) HV.out HRr.out hj)
        have hl60' : (idL wn f (gn + 1) (more gn g m) e).length ≤ 60 := by unfold idL; split; exact Nat.le_trans (M.elP_len _ _) hw60; simp
        obtain ⟨L', hL'⟩ : ∃ L', L' = idL wn f (gn + 1) (more gn g m) e := ⟨_, rfl⟩
        rw [← hL'] at HMO hl60'
        have HL' := Lib.hid hL'
        rw [← HLL.out] at HMO
        clear hR' hL'
        go_wp2_with (first
          | (go_at_call 12; go_must (refine (pidentify_any wA A4 wn wc (gn + 1) d4 wx.heap.size f (more gn g m) e wx (by omega) (by omega) WN.out RN.out.1 (Nat.le_refl _) HSf.out HSm.out hwc hwc2).mono ?_); unfold IdV; rw [HE5.out, ← HL'.out]; rintro en w5 ⟨⟨v5, rfl, ho5⟩, hb5⟩; obtain ⟨mA, mc, rfl, hl5⟩ := ho5.rd1; have HM5 := Lib.hid hl5; have HL5 := Lib.hid ((HLx.out.below hb5).more hb5.size); have HB5 := Lib.hid (HBx.out.trans (hb5.mono HBx.out.size)); have B5 := Lib.hid (B13.out.below' hb5); have WN5 := Lib.hid (WN.out.below hb5); have RN5 := Lib.hid (RN.out.1.below hb5); have e0 := B5.out.cell 0; have e1 := B5.out.cell 1; have hz5 := hb5.size; clear ho5 hl5 hb5)
          | (go_at_call 10; go_must (refine (isradio_any wA A4 wn wc (gn + 1) d4 wx.heap.size f (more gn g m) e w5 (by omega) (by omega) WN5.out RN5.out hz5 HSf.out HSm.out).mono ?_); rw [HR'.out]; rintro en w6 ⟨rfl, hb6⟩; have HB6 := Lib.hid (HB5.out.trans (hb6.mono HB5.out.size)); have HM6 := Lib.hid (HM5.out.below hb6); have HL6 := Lib.hid (HL5.out.below hb6); clear hb6))
        clear e0 e1
        go_loop [16] (fun i => ∃ k : Nat, k ≤ L'.length ∧ i = .int .i64 k) (fun i => L'.length - (intOf i).toNat)
        case atStart => exact ⟨0, Nat.zero_le _, rfl⟩
        case round =>
          obtain ⟨k, hk, rfl⟩ := hrel
          by_cases hlt : k < L'.length
          · obtain ⟨b', off', rfl, hb', c0⟩ := HM6.out.at_ hlt
            have HX := Lib.hid (HMO.out k hlt)
            go_wp2_with (go_at_call 14; go_must (refine (has_any lA L.length lc _ (nats L) (nats L' k) _ (by unfold maxLen; omega) HL6.out).mono ?_); rw [HX.out]; rintro en w7 ⟨rfl, rfl⟩)
            go_round
            case rel => exact ⟨k + 1, by omega, by go_num⟩
            case measure => simp [intOf]; omega
          · obtain rfl : k = L'.length := by omega
            go_wp2_with (go_at_call 11; refine (works_any _).mono ?_; rintro en w9 ⟨rfl, hb9⟩; have HB9 := Lib.hid hb9; clear hb9)
            go_ret
            exact ⟨rfl, HB6.out.trans (HB9.out.mono HB6.out.size)⟩
  · have k1 : decide (0 ≤ o) = false := decide_eq_false p1
    have HGY := Lib.hid (fun W (hb : Below w3.heap.size w3 W) => HG.out.below ((HBY.out.trans (hb.mono HBY.out.size)).mono hB))
    go_upto_region 15 with fail
    refine sent_seg gA gn gc B e g m w _ _ _ hg60 RBY.out HGY.out ?_
    intro g13 A4 d4 wx x89 x90 x91 x92 x93 x94 x95 x96 x97 x98 b13 oN hbY
    apply_assumption
    have HBx := Lib.hid (HBY.out.trans (hbY.mono HBY.out.size))
    have HLx := Lib.hid ((HLY.out.below hbY).more hbY.size)
    have B13 := Lib.hid b13
    have RN := Lib.hid oN.rdS
    have WN := Lib.hid ((HW.out.below (HBx.out.mono hB)).more (show B ≤ wx.heap.size from Nat.le_trans hB HBx.out.size))
    have e0 := b13.cell 0
    have e1 := b13.cell 1
    clear b13 oN hbY
    cases hR' : M.isR wn f (gn + 1) (more gn g m) e
    · have HR' := Lib.hid hR'
      have HE5 := Lib.hid (show idE wn f (gn + 1) (more gn g m) e = 1 by unfold idE; rw [HV.out, hR']; rfl)
      clear hR'
      go_wp2_with (first
        | (go_at_call 12; go_must (refine (pidentify_any wA A4 wn wc (gn + 1) d4 wx.heap.size f (more gn g m) e wx (by omega) (by omega) WN.out RN.out.1 (Nat.le_refl _) HSf.out HSm.out hwc hwc2).mono ?_); unfold IdV; rw [HE5.out]; rintro en w5 ⟨⟨v5, rfl, ho5⟩, hb5⟩; obtain ⟨mA, mc, rfl, hl5⟩ := ho5.rd1; have HB5 := Lib.hid (HBx.out.trans (hb5.mono HBx.out.size)); have B5 := Lib.hid (B13.out.below' hb5); have WN5 := Lib.hid (WN.out.below hb5); have RN5 := Lib.hid (RN.out.1.below hb5); have e0 := B5.out.cell 0; have e1 := B5.out.cell 1; have hz5 := hb5.size; clear ho5 hl5 hb5)
        | (go_at_call 10; go_must (refine (isradio_any wA A4 wn wc (gn + 1) d4 wx.heap.size f (more gn g m) e w5 (by omega) (by omega) WN5.out RN5.out hz5 HSf.out HSm.out).mono ?_); rw [HR'.out]; rintro en w6 ⟨rfl, hb6⟩; have HB6 := Lib.hid (HB5.out.trans (hb6.mono HB5.out.size)); clear hb6)
        | (go_at_call 11; refine (works_any _).mono ?_; rintro en w9 ⟨rfl, hb9⟩; have HB9 := Lib.hid hb9; clear hb9))
      go_ret
      exact ⟨rfl, HB6.out.trans (HB9.out.mono HB6.out.size)⟩
    · have HR' := Lib.hid hR'
      have HE5 := Lib.hid (show idE wn f (gn + 1) (more gn g m) e = 0 by unfold idE; rw [HV.out, hR']; rfl)
      have HMO := Lib.hid (fun j (hj : j < (idL wn f (gn + 1) (more gn g m) e).length) => has_more (wn := wn) (f := f) (gn := gn) (g := g) (s := m) (e := e) HV.out HRr.out hj)
      have hl60' : (idL wn f (gn + 1) (more gn g m) e).length ≤ 60 := by unfold idL; split; exact Nat.le_trans (M.elP_len _ _) hw60; simp
      obtain ⟨L', hL'⟩ : ∃ L', L' = idL wn f (gn + 1) (more gn g m) e := ⟨_, rfl⟩
      rw [← hL'] at HMO hl60'
      have HL' := Lib.hid hL'
      rw [← HLL.out] at HMO
      clear hR' hL'
      go_wp2_with (first
        | (go_at_call 12; go_must (refine (pidentify_any wA A4 wn wc (gn + 1) d4 wx.heap.size f (more gn g m) e wx (by omega) (by omega) WN.out RN.out.1 (Nat.le_refl _) HSf.out HSm.out hwc hwc2).mono ?_); unfold IdV; rw [HE5.out, ← HL'.out]; rintro en w5 ⟨⟨v5, rfl, ho5⟩, hb5⟩; obtain ⟨mA, mc, rfl, hl5⟩ := ho5.rd1; have HM5 := Lib.hid hl5; have HL5 := Lib.hid ((HLx.out.below hb5).more hb5.size); have HB5 := Lib.hid (HBx.out.trans (hb5.mono HBx.out.size)); have B5 := Lib.hid (B13.out.below' hb5); have WN5 := Lib.hid (WN.out.below hb5); have RN5 := Lib.hid (RN.out.1.below hb5); have e0 := B5.out.cell 0; have e1 := B5.out.cell 1; have hz5 := hb5.size; clear ho5 hl5 hb5)
        | (go_at_call 10; go_must (refine (isradio_any wA A4 wn wc (gn + 1) d4 wx.heap.size f (more gn g m) e w5 (by omega) (by omega) WN5.out RN5.out hz5 HSf.out HSm.out).mono ?_); rw [HR'.out]; rintro en w6 ⟨rfl, hb6⟩; have HB6 := Lib.hid (HB5.out.trans (hb6.mono HB5.out.size)); have HM6 := Lib.hid (HM5.out.below hb6); have HL6 := Lib.hid (HL5.out.below hb6); clear hb6))
      clear e0 e1
      go_loop [16] (fun i => ∃ k : Nat, k ≤ L'.length ∧ i = .int .i64 k) (fun i => L'.length - (intOf i).toNat)
      case atStart => exact ⟨0, Nat.zero_le _, rfl⟩
      case round =>
        obtain ⟨k, hk, rfl⟩ := hrel
        by_cases hlt : k < L'.length
        · obtain ⟨b', off', rfl, hb', c0⟩ := HM6.out.at_ hlt
          have HX := Lib.hid (HMO.out k hlt)
          go_wp2_with (go_at_call 14; go_must (refine (has_any lA L.length lc _ (nats L) (nats L' k) _ (by unfold maxLen; omega) HL6.out).mono ?_); rw [HX.out]; rintro en w7 ⟨rfl, rfl⟩)
          go_round
          case rel => exact ⟨k + 1, by omega, by go_num⟩
          case measure => simp [intOf]; omega
        · obtain rfl : k = L'.length := by omega
          go_wp2_with (go_at_call 11; refine (works_any _).mono ?_; rintro en w9 ⟨rfl, hb9⟩; have HB9 := Lib.hid hb9; clear hb9)
          go_ret
          exact ⟨rfl, HB6.out.trans (HB9.out.mono HB6.out.size)⟩
theorem relaySent_any (hwc : wn ≤ wc) (hwc2 : wc ≤ 9223372036854775807) :
    Calls Tryd.prog 3 #[.slice wA wn wc, .agg #[.slice gA gn gc, .int .i64 e], .agg #[.int .i64 o, .string m, .int .i64 q]] w fun en w' => en = .returned (.bool true) ∧ Below w.heap.size w w' := by
  cases h1 : farF wn f
  · cases h2 : farF gn g
    · by_cases h3 : 60 < m.size
      · exact sent_far3 wA gA wn wc gn gc B f g e o q m w hwn hgn hW hG hB h1 h2 h3
      · cases h4 : M.isV wn f
        · exact sent_far4 wA gA wn wc gn gc B f g e o q m w hwn hgn hW hG hB h1 h2 h3 h4
        · cases h5 : M.isR wn f gn g e
          · exact sent_far5 wA gA wn wc gn gc B f g e o q m w hwn hgn hW hG hB h1 h2 h3 h4 h5
          · exact sent_near wA gA wn wc gn gc B f g e o q m w hwn hgn hW hG hB hwc hwc2 h1 h2 h3 h4 h5
    · exact sent_far2 wA gA wn wc gn gc B f g e o q m w hwn hgn hW hG hB h1 h2
  · exact sent_far1 wA gA wn wc gn gc B f e o q m w hwn hW hB h1
end
end Go.Proofs.YtbjggnecfppjgaaDoor
