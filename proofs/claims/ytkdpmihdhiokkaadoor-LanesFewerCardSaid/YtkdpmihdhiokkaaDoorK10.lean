/- Where a leg is, and whether two units clash: lanes.at, (step).occupies, (step).clashes. -/
import Derived.Test.YtkdpmihdhiokkaaDoorK9
namespace Go.Proofs.YtkdpmihdhiokkaaDoor
open Go.RowKit

theorem step_size : (Tryd.prog.info? 82).map (·.size) = some 4 := by kernel_rfl
section
variable (at_ lv dr : Int) (tl : Bool) (n cc B : Nat) (c : Nat → Int) (cA : Option Addr) (t : Int) (w : World)
set_option maxRecDepth 100000 in
set_option maxHeartbeats 1600000 in
theorem at_out (hb : -1000 ≤ t ∧ t ≤ 1000 ∧ -1000 ≤ at_ ∧ at_ ≤ 1000) (hn : n ≤ 1000) (h : t < at_ ∨ at_ + n ≤ t) :
    Calls Tryd.prog 41 #[.agg #[.int .i64 at_, .int .i64 lv, .int .i64 dr, .bool tl, .slice cA n cc], .int .i64 t] w fun e w' => e = .returned (.tuple #[.agg #[.int .i64 0, .int .i64 0, .int .i64 0, .bool false], .bool false]) ∧ Below w.heap.size w w' := by
  have q : M.inB 0 ((n : Int) - 1) (t - at_) = false := M.inB_not.2 (by omega)
  have HB0 := Lib.hid (belowAlloc2 w (.cells #[.int .i64 at_, .int .i64 lv, .int .i64 dr, .bool tl, .slice cA n cc] 41) (.cells #[.int .i64 0, .int .i64 0, .int .i64 0, .bool false] 82))
  have R0 := Lib.hid (Blk.new1 w (.cells #[.int .i64 at_, .int .i64 lv, .int .i64 dr, .bool tl, .slice cA n cc] 41) 82 #[.int .i64 0, .int .i64 0, .int .i64 0, .bool false])
  clear h
  go_enter Tryd.func41, Tryd.ntmps41
  go_wp2_with (go_at_call 45; refine (lwithin_any _ _ _ _).mono ?_; rintro e w1 ⟨rfl, rfl⟩)
  refine bodyPost_ret (results_cell_row1 rfl _ _ (w.heap.size + 1) 82 #[.int .i64 0, .int .i64 0, .int .i64 0, .bool false] (0, 0) _ rfl R0.out Tryd.underlying82 rfl step_size) rfl ⟨rfl, ?_⟩
  exact HB0.out
set_option maxRecDepth 100000 in
set_option maxHeartbeats 3200000 in
theorem at_in (k : Nat) (hb : -1000 ≤ t ∧ t ≤ 1000 ∧ -1000 ≤ at_ ∧ at_ ≤ 1000) (hn : n ≤ 1000) (hk : k < n) (htk : t - at_ = (k : Int)) (hl : Rd1 w B cA n c) (hB : B ≤ w.heap.size) :
    Calls Tryd.prog 41 #[.agg #[.int .i64 at_, .int .i64 lv, .int .i64 dr, .bool tl, .slice cA n cc], .int .i64 t] w fun e w' => e = .returned (.tuple #[.agg #[.int .i64 lv, .int .i64 (if k = 0 then -1 else c (k - 1)), .int .i64 (c k), .bool tl], .bool true]) ∧ Below w.heap.size w w' := by
  have q : M.inB 0 ((n : Int) - 1) (k : Int) = true := M.inB_iff.2 (by omega)
  have HB0 := Lib.hid (belowAlloc2 w (.cells #[.int .i64 at_, .int .i64 lv, .int .i64 dr, .bool tl, .slice cA n cc] 41) (.cells #[.int .i64 0, .int .i64 0, .int .i64 0, .bool false] 82))
  have HL0 := Lib.hid (hl.below (HB0.out.mono hB))
  obtain ⟨cb, co, rfl, hcb, c0⟩ := HL0.out.at_ hk
  have R0 := Lib.hid (Blk.new1 w (.cells #[.int .i64 at_, .int .i64 lv, .int .i64 dr, .bool tl, .slice (some ⟨cb, co, none⟩) n cc] 41) 82 #[.int .i64 0, .int .i64 0, .int .i64 0, .bool false])
  have D0 := Lib.hid ((Blk.new w 41 #[.int .i64 at_, .int .i64 lv, .int .i64 dr, .bool tl, .slice (some ⟨cb, co, none⟩) n cc]).alloc (.cells #[.int .i64 0, .int .i64 0, .int .i64 0, .bool false] 82))
  have kx : decide (n ≤ k) = false := decide_eq_false (by omega)
  clear hl
  obtain ⟨ck, hck⟩ : ∃ ck, ck = c k := ⟨_, rfl⟩
  obtain ⟨pk, hpk⟩ : ∃ pk, pk = if k = 0 then -1 else c (k - 1) := ⟨_, rfl⟩
  rw [← hpk]
  rw [← hck] at c0
  rw [← hck]
  have HPK := Lib.hid hpk
  clear hck hpk
  go_enter Tryd.func41, Tryd.ntmps41
  go_upto_region 4 with (go_at_call 45; refine (lwithin_any _ _ _ _).mono ?_; rintro e w1 ⟨rfl, rfl⟩)
  obtain ⟨X, hX⟩ : ∃ X, X = (w.alloc (.cells #[.int .i64 at_, .int .i64 lv, .int .i64 dr, .bool tl, .slice (some ⟨cb, co, none⟩) n cc] 41)).alloc (.cells #[.int .i64 0, .int .i64 0, .int .i64 0, .bool false] 82) := ⟨_, rfl⟩
  rw [← hX] at HB0 HL0 R0 D0 c0
  rw [← hX]
  have hBX : B ≤ X.heap.size := Nat.le_trans hB HB0.out.size
  clear hX
  have HK := Lib.hid (fun (Z : World) (hb : Below X.heap.size X Z) => (show Z.cell? ⟨w.heap.size, 1, none⟩ = some (.int .i64 lv) ∧ Z.cell? ⟨w.heap.size, 3, none⟩ = some (.bool tl) ∧ Z.cell? ⟨w.heap.size, 4, none⟩ = some (.slice (some ⟨cb, co, none⟩) n cc) ∧ Z.cell? ⟨cb, co + k, none⟩ = some (.int .i64 ck) ∧ Below X.heap.size X Z from ⟨(D0.out.below' hb).cell 1, (D0.out.below' hb).cell 3, (D0.out.below' hb).cell 4, (hb.cell (p := ⟨cb, co + k, none⟩) (Nat.lt_of_lt_of_le hcb hBX)).trans c0, hb⟩))
  go_region_held3 (fun Z => Z.cell? ⟨w.heap.size, 1, none⟩ = some (.int .i64 lv) ∧ Z.cell? ⟨w.heap.size, 3, none⟩ = some (.bool tl) ∧ Z.cell? ⟨w.heap.size, 4, none⟩ = some (.slice (some ⟨cb, co, none⟩) n cc) ∧ Z.cell? ⟨cb, co + k, none⟩ = some (.int .i64 ck) ∧ Below X.heap.size X Z)
    (first
      | assumption
      | exact HK.out _ (Below.refl _ _).drew
      | exact HK.out _ (belowAlloc X _).drew
      | (go_split_ands; exact HK.out _ (Below.alloc (by assumption) (Below.size (by assumption)) _))
      | fail)
    (fail)
  all_goals
    obtain ⟨Y, hY⟩ : ∃ Y, Y = (X.alloc (.cells #[.int .i64 lv, .int .i64 (-1), .int .i64 ck, .bool tl] 82)).drew := ⟨_, rfl⟩
    have D1 := Lib.hid (show Blk Y w.heap.size 41 _ from by rw [hY]; exact blk_dr.2 (D0.out.alloc _))
    have R1 := Lib.hid (show Blk Y (w.heap.size + 1) 82 _ from by rw [hY]; exact blk_dr.2 (R0.out.alloc _))
    have S1 := Lib.hid (show Blk Y X.heap.size 82 #[.int .i64 lv, .int .i64 (-1), .int .i64 ck, .bool tl] from by rw [hY]; exact blk_dr.2 (Blk.new X _ _))
    have HB1 := Lib.hid (show Below w.heap.size w Y from by rw [hY]; exact (HB0.out.alloc HB0.out.size _).drew)
    have HBY := Lib.hid (show Below X.heap.size X Y from by rw [hY]; exact (belowAlloc X _).drew)
    rw [← hY]
    have hXr : w.heap.size + 1 < X.heap.size := R0.out.lt
    clear hY HK c0
    obtain ⟨G, hG⟩ : ∃ G, G = X.heap.size := ⟨_, rfl⟩
    rw [← hG] at S1 hXr
    rw [← hG]
    have HLY := Lib.hid (HL0.out.below (HBY.out.mono hBX))
    have r0 := R1.out.cell 0
    have r1 := R1.out.cell 1
    have r2 := R1.out.cell 2
    have r3 := R1.out.cell 3
    have f0 := R1.out.frz 0
    have f1 := R1.out.frz 1
    have f2 := R1.out.frz 2
    have f3 := R1.out.frz 3
    have s0 := S1.out.cell 0
    have s1 := S1.out.cell 1
    have s2 := S1.out.cell 2
    have s3 := S1.out.cell 3
    have t1 := S1.out.frz 1
    have d4 := D1.out.cell 4
    have hw : w.heap.size ≤ w.heap.size + 1 := Nat.le_succ _
    clear hG HL0 HBY D0 R0
    by_cases hk0 : k = 0
    · have gk : decide ((0 : Int) < (k : Int)) = false := decide_eq_false (by omega)
      have gkn : decide (0 < k) = false := decide_eq_false (by omega)
      have HK0 := Lib.hid hk0
      clear hk0
      go_wp2_with fail
      refine bodyPost_ret (results_cell_row1 rfl _ _ (w.heap.size + 1) 82 #[.int .i64 lv, .int .i64 (-1), .int .i64 ck, .bool tl] (0, 0) _ rfl ((((R1.out.set_ 0 _).set_ 1 _).set_ 2 _).set_ 3 _) Tryd.underlying82 rfl step_size) rfl ⟨by rw [HPK.out, if_pos HK0.out]; rfl, ?_⟩
      exact (((HB1.out.setCell (p := ⟨w.heap.size + 1, 0, none⟩) hw _).setCell (p := ⟨w.heap.size + 1, 1, none⟩) hw _).setCell (p := ⟨w.heap.size + 1, 2, none⟩) hw _).setCell (p := ⟨w.heap.size + 1, 3, none⟩) hw _
    · obtain ⟨j, rfl⟩ : ∃ j, k = j + 1 := ⟨k - 1, by omega⟩
      have HPJ := Lib.hid (show pk = c j from by rw [HPK.out, if_neg hk0]; rfl)
      have gk : decide ((0 : Int) < (j : Int) + 1) = true := decide_eq_true (by omega)
      have gkn : decide (0 < j + 1) = true := decide_eq_true (by omega)
      have cj := HLY.out.cx (show j < n by omega)
      have kj : decide (n ≤ j) = false := decide_eq_false (by omega)
      have hGw : w.heap.size + 1 ≠ G := by omega
      have hGw' : G ≠ w.heap.size + 1 := by omega
      clear hk0
      go_wp2_with fail
      refine bodyPost_ret (results_cell_row1 rfl _ _ (w.heap.size + 1) 82 #[.int .i64 lv, .int .i64 (c j), .int .i64 ck, .bool tl] (0, 0) _ rfl (((((R1.out.far (p := ⟨G, 1, none⟩) hGw _).set_ 0 _).set_ 1 _).set_ 2 _).set_ 3 _) Tryd.underlying82 rfl step_size) rfl ⟨by rw [HPJ.out]; rfl, ?_⟩
      exact ((((HB1.out.setCell (p := ⟨G, 1, none⟩) (by show w.heap.size ≤ G; omega) _).setCell (p := ⟨w.heap.size + 1, 0, none⟩) hw _).setCell (p := ⟨w.heap.size + 1, 1, none⟩) hw _).setCell (p := ⟨w.heap.size + 1, 2, none⟩) hw _).setCell (p := ⟨w.heap.size + 1, 3, none⟩) hw _
end
section
variable (lv lv' : Int) (tl tl' : Bool) (p q p' q' y : Int) (w : World)
theorem occupies_any :
    Calls Tryd.prog 49 #[.agg #[.int .i64 lv, .int .i64 p, .int .i64 q, .bool tl], .int .i64 y] w fun e w' => e = .returned (.bool (M.occ tl p q y)) ∧ Below w.heap.size w w' := by
  unfold M.occ
  have HB0 := Lib.hid (belowAlloc w (.cells #[.int .i64 lv, .int .i64 p, .int .i64 q, .bool tl] 82))
  by_cases h1 : y = q
  · have g1 : (y == q) = true := by rw [beq_iff_eq]; exact h1
    have H1 := Lib.hid h1
    clear h1
    go_enter Tryd.func49, Tryd.ntmps49
    go_wp2_with fail
    go_ret
    exact ⟨ret_bool (by rw [decide_eq_true H1.out]; rfl), HB0.out⟩
  · have g1 : (y == q) = false := by rw [beq_eq_false_iff_ne]; exact h1
    have H1 := Lib.hid h1
    clear h1
    cases tl
    · go_enter Tryd.func49, Tryd.ntmps49
      go_wp2_with fail
      go_ret
      exact ⟨ret_bool (by rw [decide_eq_false H1.out]; rfl), HB0.out⟩
    · go_enter Tryd.func49, Tryd.ntmps49
      go_wp2_with fail
      go_ret
      exact ⟨ret_bool (by rw [decide_eq_false H1.out]; rfl), HB0.out⟩
end
end Go.Proofs.YtkdpmihdhiokkaaDoor
