/- The reference: IsTrip, LegOf; is a route one (isRoute). -/
import Derived.Test.YtkdpmihdhiokkaaDoorR7
import Derived.Test.YtkdpmihdhiokkaaDoorR9
import Derived.Test.YtkdpmihdhiokkaaDoorK12
namespace Go.Proofs.YtkdpmihdhiokkaaDoor
open Go.RowKit

theorem leg_size : (Tryd.prog.info? 41).map (·.size) = some 5 := by kernel_rfl
section
variable (s : M.Sea) (dA tA sA : Option Addr) (dc tc sc : Nat) (at_ lv dr fr dst : Int) (tl : Bool) (w : World)
set_option maxRecDepth 100000 in
set_option maxHeartbeats 6400000 in
theorem istrip_ok (hs : s.Ok) :
    Calls Tryd.prog 12 #[.agg #[.int .i64 (s.W : Int), .int .i64 (s.H : Int), .slice dA s.nd dc, .slice tA s.nt tc, .slice sA s.nt sc], .agg #[.int .i64 at_, .int .i64 lv, .int .i64 dr, .bool tl, .int .i64 fr, .int .i64 dst]] w fun e w' => e = .returned (.bool (M.tripOk s ⟨at_, lv, dr, tl, fr, dst⟩)) ∧ Below w.heap.size w w' := by
  have HT := Lib.hid (show M.tripOk s ⟨at_, lv, dr, tl, fr, dst⟩ = (M.inB 0 ((s.nt : Int) - 1) at_ && M.inB 0 ((s.nd : Int) - 1) fr && M.inB 0 ((s.nd : Int) - 1) dst && M.unit lv dr) from rfl)
  obtain ⟨tv, htv⟩ : ∃ tv, tv = M.tripOk s ⟨at_, lv, dr, tl, fr, dst⟩ := ⟨_, rfl⟩
  rw [← htv] at HT
  rw [← htv]
  have HR := Lib.hid (belowAlloc2 w (.cells #[.int .i64 (s.W : Int), .int .i64 (s.H : Int), .slice dA s.nd dc, .slice tA s.nt tc, .slice sA s.nt sc] 25) (.cells #[.int .i64 at_, .int .i64 lv, .int .i64 dr, .bool tl, .int .i64 fr, .int .i64 dst] 28))
  have CR := Lib.hid ((Blk.new w 25 #[.int .i64 (s.W : Int), .int .i64 (s.H : Int), .slice dA s.nd dc, .slice tA s.nt tc, .slice sA s.nt sc]).alloc (.cells #[.int .i64 at_, .int .i64 lv, .int .i64 dr, .bool tl, .int .i64 fr, .int .i64 dst] 28))
  have PR := Lib.hid (Blk.new1 w (.cells #[.int .i64 (s.W : Int), .int .i64 (s.H : Int), .slice dA s.nd dc, .slice tA s.nt tc, .slice sA s.nt sc] 25) 28 #[.int .i64 at_, .int .i64 lv, .int .i64 dr, .bool tl, .int .i64 fr, .int .i64 dst])
  obtain ⟨X, hX⟩ : ∃ X, X = (w.alloc (.cells #[.int .i64 (s.W : Int), .int .i64 (s.H : Int), .slice dA s.nd dc, .slice tA s.nt tc, .slice sA s.nt sc] 25)).alloc (.cells #[.int .i64 at_, .int .i64 lv, .int .i64 dr, .bool tl, .int .i64 fr, .int .i64 dst] 28) := ⟨_, rfl⟩
  have HXe := Lib.hid hX
  rw [← hX] at HR CR PR
  clear hX htv
  have c0 := CR.out.cell 0
  have c1 := CR.out.cell 1
  have c2 := CR.out.cell 2
  have c3 := CR.out.cell 3
  have c4 := CR.out.cell 4
  have p0 := PR.out.cell 0
  have p1 := PR.out.cell 1
  have p2 := PR.out.cell 2
  have p4 := PR.out.cell 4
  have p5 := PR.out.cell 5
  have HTK := Lib.hid (fun W => ristick_ok s dA tA sA dc tc sc W at_ hs)
  have HCE := Lib.hid (fun W (q : Int) => riscell_ok s dA tA sA dc tc sc W q hs)
  have HUN := Lib.hid (fun W => runit_any lv dr W)
  clear hs
  cases q1 : M.inB 0 ((s.nt : Int) - 1) at_ <;> cases q2 : M.inB 0 ((s.nd : Int) - 1) fr <;> cases q3 : M.inB 0 ((s.nd : Int) - 1) dst <;> cases q4 : M.unit lv dr
  all_goals
    rw [q1, q2, q3, q4] at HT
    rw [q1] at HTK
    rw [q4] at HUN
    clear q1 q4
    go_enter Tryd.func12, Tryd.ntmps12
    go_upto_region 1 with fail
    rw [← HXe.out]
    clear HXe
    go_wp2_with (first
      | (go_at_call 32; go_must (refine (HTK.out _).mono ?_); rintro e w5 ⟨rfl, hb5⟩; have HR' := Lib.hid (HR.out.trans (hb5.mono HR.out.size)); have CR' := Lib.hid (CR.out.below' hb5); have PR' := Lib.hid (PR.out.below' hb5); clear hb5 HR CR PR c0 c1 c2 c3 c4 p0 p1 p2 p4 p5; have HR := HR'; have CR := CR'; have PR := PR'; clear HR' CR' PR'; have c0 := CR.out.cell 0; have c1 := CR.out.cell 1; have c2 := CR.out.cell 2; have c3 := CR.out.cell 3; have c4 := CR.out.cell 4; have p1 := PR.out.cell 1; have p2 := PR.out.cell 2; have p4 := PR.out.cell 4; have p5 := PR.out.cell 5)
      | (go_at_call 33; go_must (refine (HCE.out _ _).mono ?_); rintro e w5 ⟨rfl, hb5⟩; have HR' := Lib.hid (HR.out.trans (hb5.mono HR.out.size)); have CR' := Lib.hid (CR.out.below' hb5); have PR' := Lib.hid (PR.out.below' hb5); clear hb5 HR CR PR c0 c1 c2 c3 c4 p1 p2 p4 p5; have HR := HR'; have CR := CR'; have PR := PR'; clear HR' CR' PR'; have c0 := CR.out.cell 0; have c1 := CR.out.cell 1; have c2 := CR.out.cell 2; have c3 := CR.out.cell 3; have c4 := CR.out.cell 4; have p1 := PR.out.cell 1; have p2 := PR.out.cell 2; have p4 := PR.out.cell 4; have p5 := PR.out.cell 5)
      | (go_at_call 34; go_must (refine (HUN.out _).mono ?_); rintro e w5 ⟨rfl, h5⟩; rw [h5]; clear h5))
    go_ret
    exact ⟨ret_bool HT.out.symm, HR.out⟩
set_option maxRecDepth 100000 in
set_option maxHeartbeats 3200000 in
theorem legof_any (cA : Option Addr) (n cc : Nat) :
    Calls Tryd.prog 18 #[.agg #[.int .i64 at_, .int .i64 lv, .int .i64 dr, .bool tl, .int .i64 fr, .int .i64 dst], .slice cA n cc] w fun e w' => e = .returned (.agg #[.int .i64 at_, .int .i64 lv, .int .i64 dr, .bool tl, .slice cA n cc]) ∧ Below w.heap.size w w' := by
  have HB0 := Lib.hid (belowAlloc2 w (.cells #[.int .i64 at_, .int .i64 lv, .int .i64 dr, .bool tl, .int .i64 fr, .int .i64 dst] 28) (.cells #[.int .i64 0, .int .i64 0, .int .i64 0, .bool false, .slice none 0 0] 41))
  have R0 := Lib.hid (Blk.new1 w (.cells #[.int .i64 at_, .int .i64 lv, .int .i64 dr, .bool tl, .int .i64 fr, .int .i64 dst] 28) 41 #[.int .i64 0, .int .i64 0, .int .i64 0, .bool false, .slice none 0 0])
  have P0 := Lib.hid ((Blk.new w 28 #[.int .i64 at_, .int .i64 lv, .int .i64 dr, .bool tl, .int .i64 fr, .int .i64 dst]).alloc (.cells #[.int .i64 0, .int .i64 0, .int .i64 0, .bool false, .slice none 0 0] 41))
  obtain ⟨X, hX⟩ : ∃ X, X = (w.alloc (.cells #[.int .i64 at_, .int .i64 lv, .int .i64 dr, .bool tl, .int .i64 fr, .int .i64 dst] 28)).alloc (.cells #[.int .i64 0, .int .i64 0, .int .i64 0, .bool false, .slice none 0 0] 41) := ⟨_, rfl⟩
  have HXe := Lib.hid hX
  rw [← hX] at HB0 R0 P0
  clear hX
  have p0 := P0.out.cell 0
  have p1 := P0.out.cell 1
  have p2 := P0.out.cell 2
  have p3 := P0.out.cell 3
  have p4 := P0.out.cell 4
  have r0 := R0.out.cell 0
  have r1 := R0.out.cell 1
  have r2 := R0.out.cell 2
  have r3 := R0.out.cell 3
  have r4 := R0.out.cell 4
  have f0 := R0.out.frz 0
  have f1 := R0.out.frz 1
  have f2 := R0.out.frz 2
  have f3 := R0.out.frz 3
  have f4 := R0.out.frz 4
  go_enter Tryd.func18, Tryd.ntmps18
  go_upto_region 1 with fail
  rw [← HXe.out]
  clear HXe
  go_wp2_with fail
  have R1 := Lib.hid (((((R0.out.set_ 0 (.int .i64 at_)).set_ 1 (.int .i64 lv)).set_ 2 (.int .i64 dr)).set_ 3 (.bool tl)).set_ 4 (.slice cA n cc))
  refine bodyPost_ret (results_cell_row rfl _ _ (w.heap.size + 1) 41 _ (0, 0) _ rfl R1.out Tryd.underlying41 rfl leg_size) rfl ⟨rfl, ?_⟩
  exact ((((HB0.out.setCell (p := ⟨w.heap.size + 1, 0, none⟩) (Nat.le_succ _) _).setCell (p := ⟨w.heap.size + 1, 1, none⟩) (Nat.le_succ _) _).setCell (p := ⟨w.heap.size + 1, 2, none⟩) (Nat.le_succ _) _).setCell (p := ⟨w.heap.size + 1, 3, none⟩) (Nat.le_succ _) _).setCell (p := ⟨w.heap.size + 1, 4, none⟩) (Nat.le_succ _) _
end
end Go.Proofs.YtkdpmihdhiokkaaDoor
/- Is a route one, and clashes with no leg: coblelaw06.isRoute. -/
namespace Go.Proofs.YtkdpmihdhiokkaaDoor
open Go.RowKit

section
variable (s : M.Sea) (dA tA sA lA cA : Option Addr) (dc tc sc ln lc n cc B : Nat) (L : Nat → M.Leg) (f : Nat → Int) (at_ lv dr fr dst : Int) (tl : Bool) (w : World)
set_option maxRecDepth 100000 in
set_option maxHeartbeats 64000000 in
theorem isroute_ok (hs : s.Ok) (hR : RdC w B dA tA sA s.nd s.nt s.nt s.dep s.tide s.sw) (hB : B ≤ w.heap.size) (hL : RdL w B lA ln L) (hln : ln ≤ 1048576) (hat : ∀ i, i < ln → -100 ≤ (L i).at_ ∧ (L i).at_ ≤ 100 ∧ (L i).n ≤ 100) (hl : Rd1 w B cA n f) (hn : n ≤ maxLen) :
    Calls Tryd.prog 15 #[.agg #[.int .i64 (s.W : Int), .int .i64 (s.H : Int), .slice dA s.nd dc, .slice tA s.nt tc, .slice sA s.nt sc], .slice lA ln lc, .agg #[.int .i64 at_, .int .i64 lv, .int .i64 dr, .bool tl, .int .i64 fr, .int .i64 dst], .slice cA n cc] w fun e w' => e = .returned (.bool (M.isRoute s L ln ⟨at_, lv, dr, tl, fr, dst⟩ n f)) ∧ Below w.heap.size w w' := by
  have hnt := hs.t2
  obtain ⟨l, hll⟩ : ∃ l : M.Leg, l = M.legOf ⟨at_, lv, dr, tl, fr, dst⟩ n f := ⟨_, rfl⟩
  have HIR := Lib.hid (show M.isRoute s L ln ⟨at_, lv, dr, tl, fr, dst⟩ n f = (decide (n ≤ 80) && M.legOk s l && decide (f 0 = fr) && decide (f (n - 1) = dst) && M.allTo ln fun i => M.allTo s.nt fun t => !M.legC l (L i) t) by rw [hll]; rfl)
  obtain ⟨R, hRR⟩ : ∃ R, R = M.isRoute s L ln ⟨at_, lv, dr, tl, fr, dst⟩ n f := ⟨_, rfl⟩
  rw [← hRR] at HIR
  rw [← hRR]
  have HLL := Lib.hid (show l.at_ = at_ ∧ l.lv = lv ∧ l.dr = dr ∧ l.tail = tl ∧ l.n = n ∧ l.c = f by rw [hll]; exact ⟨rfl, rfl, rfl, rfl, rfl, rfl⟩)
  have HB0 := Lib.hid (belowAlloc2 w (.cells #[.int .i64 (s.W : Int), .int .i64 (s.H : Int), .slice dA s.nd dc, .slice tA s.nt tc, .slice sA s.nt sc] 25) (.cells #[.int .i64 at_, .int .i64 lv, .int .i64 dr, .bool tl, .int .i64 fr, .int .i64 dst] 28))
  have C0 := Lib.hid ((Blk.new w 25 #[.int .i64 (s.W : Int), .int .i64 (s.H : Int), .slice dA s.nd dc, .slice tA s.nt tc, .slice sA s.nt sc]).alloc (.cells #[.int .i64 at_, .int .i64 lv, .int .i64 dr, .bool tl, .int .i64 fr, .int .i64 dst] 28))
  have P0 := Lib.hid (Blk.new1 w (.cells #[.int .i64 (s.W : Int), .int .i64 (s.H : Int), .slice dA s.nd dc, .slice tA s.nt tc, .slice sA s.nt sc] 25) 28 #[.int .i64 at_, .int .i64 lv, .int .i64 dr, .bool tl, .int .i64 fr, .int .i64 dst])
  obtain ⟨X, hX⟩ : ∃ X, X = (w.alloc (.cells #[.int .i64 (s.W : Int), .int .i64 (s.H : Int), .slice dA s.nd dc, .slice tA s.nt tc, .slice sA s.nt sc] 25)).alloc (.cells #[.int .i64 at_, .int .i64 lv, .int .i64 dr, .bool tl, .int .i64 fr, .int .i64 dst] 28) := ⟨_, rfl⟩
  have HXe := Lib.hid hX
  rw [← hX] at HB0 C0 P0
  have HLO := Lib.hid (legof_any at_ lv dr fr dst tl X cA n cc)
  have HLV := Lib.hid (fun W (hb : Below w.heap.size w W) => hL.below (hb.mono hB))
  have HCV := Lib.hid (fun W (hb : Below w.heap.size w W) => hl.below (hb.mono hB))
  have HIL0 := Lib.hid (fun W (hb : Below w.heap.size w W) => (show Calls Tryd.prog 39 #[.agg #[.int .i64 (s.W : Int), .int .i64 (s.H : Int), .slice dA s.nd dc, .slice tA s.nt tc, .slice sA s.nt sc], .agg #[.int .i64 at_, .int .i64 lv, .int .i64 dr, .bool tl, .slice cA n cc]] W fun e w' => e = .returned (.bool (M.legOk s l)) ∧ Below W.heap.size W w' from by
    rw [hll]
    exact isleg_ok s dA tA sA cA dc tc sc cc B (M.legOf ⟨at_, lv, dr, tl, fr, dst⟩ n f) W hs (hR.below (hb.mono hB)) (Nat.le_trans hB hb.size) (hl.below (hb.mono hB)) hn))
  have HBB := Lib.hid hB
  have HAT := Lib.hid hat
  clear hX hRR hR hL hl hs hB hat hll
  have p0 := P0.out.cell 0
  have p1 := P0.out.cell 1
  have p2 := P0.out.cell 2
  have p3 := P0.out.cell 3
  have p4 := P0.out.cell 4
  have p5 := P0.out.cell 5
  go_enter Tryd.func15, Tryd.ntmps15
  go_upto_region 1 with fail
  rw [← HXe.out]
  clear HXe
  go_upto_region 2 with (go_at_call 18; go_must (refine HLO.out.mono ?_); rintro e w1 ⟨rfl, hb1⟩; have HBX := Lib.hid hb1; clear hb1)
  clear p0 p1 p2 p3 p4 p5
  have HY := Lib.hid ((HB0.out.trans (HBX.out.mono HB0.out.size)).alloc (HB0.out.trans (HBX.out.mono HB0.out.size)).size (.cells #[.int .i64 at_, .int .i64 lv, .int .i64 dr, .bool tl, .slice cA n cc] 41))
  have CY := Lib.hid ((C0.out.below' HBX.out).alloc (.cells #[.int .i64 at_, .int .i64 lv, .int .i64 dr, .bool tl, .slice cA n cc] 41))
  have PY := Lib.hid ((P0.out.below' HBX.out).alloc (.cells #[.int .i64 at_, .int .i64 lv, .int .i64 dr, .bool tl, .slice cA n cc] 41))
  have GY := Lib.hid (Blk.new w1 41 #[.int .i64 at_, .int .i64 lv, .int .i64 dr, .bool tl, .slice cA n cc])
  obtain ⟨G, hG⟩ : ∃ G, G = w1.heap.size := ⟨_, rfl⟩
  rw [← hG] at GY
  rw [← hG]
  generalize w1.alloc (.cells #[.int .i64 at_, .int .i64 lv, .int .i64 dr, .bool tl, .slice cA n cc] 41) = Y at HY CY PY GY ⊢
  clear hG C0 P0 HB0 HBX
  have HIL := Lib.hid (fun W (hb : Below Y.heap.size Y W) => HIL0.out W (HY.out.trans (hb.mono HY.out.size)))
  have hzY := HY.out.size
  by_cases h80 : n ≤ 80
  rotate_left
  · have g80 : decide (80 < n) = true := decide_eq_true (by omega)
    have i80 : decide ((80 : Int) < (n : Int)) = true := decide_eq_true (by omega)
    have HEF := Lib.hid (show R = false by rw [HIR.out, decide_eq_false h80]; rfl)
    clear h80
    refine wp_region_T 27 (fun w' => Below Y.heap.size Y w') (by kernel_rfl) (Below.refl _ _).drew ?_
    intro hS
    refine wpAnyT_take (i := 0) (v := ?_) rfl (by kernel_rfl) (by kernel_rfl) (by kernel_rfl) (by kernel_rfl) (by kernel_rfl) (fun _ _ _ h => h) (.inl ⟨by kernel_rfl, ?_⟩) hS ?_
    rotate_left
    · (intro w' hw; have c0 := (CY.out.below' hw).cell 0; have c1 := (CY.out.below' hw).cell 1; have c2 := (CY.out.below' hw).cell 2; have c3 := (CY.out.below' hw).cell 3; have c4 := (CY.out.below' hw).cell 4; have g0 := (GY.out.below' hw).cell 0; have g1 := (GY.out.below' hw).cell 1; have g2 := (GY.out.below' hw).cell 2; have g3 := (GY.out.below' hw).cell 3; have g4 := (GY.out.below' hw).cell 4; have p4 := (PY.out.below' hw).cell 4; have p5 := (PY.out.below' hw).cell 5; go_simp; try with_reducible rfl)
    try simp only [put_laws]
    refine wpAnyT_take (i := 1) (v := ?_) rfl (by kernel_rfl) (by kernel_rfl) (by kernel_rfl) (by kernel_rfl) (by kernel_rfl) (fun _ _ _ h => h) (.inl ⟨by kernel_rfl, ?_⟩) hS ?_
    rotate_left
    · (intro w' hw; have c0 := (CY.out.below' hw).cell 0; have c1 := (CY.out.below' hw).cell 1; have c2 := (CY.out.below' hw).cell 2; have c3 := (CY.out.below' hw).cell 3; have c4 := (CY.out.below' hw).cell 4; have g0 := (GY.out.below' hw).cell 0; have g1 := (GY.out.below' hw).cell 1; have g2 := (GY.out.below' hw).cell 2; have g3 := (GY.out.below' hw).cell 3; have g4 := (GY.out.below' hw).cell 4; have p4 := (PY.out.below' hw).cell 4; have p5 := (PY.out.below' hw).cell 5; go_simp; try with_reducible rfl)
    try simp only [put_laws]
    refine wpAnyT_take (i := 2) (v := ?_) rfl (by kernel_rfl) (by kernel_rfl) (by kernel_rfl) (by kernel_rfl) (by kernel_rfl) (fun _ _ _ h => h) (.inl ⟨by kernel_rfl, ?_⟩) hS ?_
    rotate_left
    · (intro w' hw; have c0 := (CY.out.below' hw).cell 0; have c1 := (CY.out.below' hw).cell 1; have c2 := (CY.out.below' hw).cell 2; have c3 := (CY.out.below' hw).cell 3; have c4 := (CY.out.below' hw).cell 4; have g0 := (GY.out.below' hw).cell 0; have g1 := (GY.out.below' hw).cell 1; have g2 := (GY.out.below' hw).cell 2; have g3 := (GY.out.below' hw).cell 3; have g4 := (GY.out.below' hw).cell 4; have p4 := (PY.out.below' hw).cell 4; have p5 := (PY.out.below' hw).cell 5; go_simp; try with_reducible rfl)
    try simp only [put_laws]
    refine wpAnyT_take (i := 3) (v := ?_) rfl (by kernel_rfl) (by kernel_rfl) (by kernel_rfl) (by kernel_rfl) (by kernel_rfl) (fun _ _ _ h => h) (.inl ⟨by kernel_rfl, ?_⟩) hS ?_
    rotate_left
    · (intro w' hw; have c0 := (CY.out.below' hw).cell 0; have c1 := (CY.out.below' hw).cell 1; have c2 := (CY.out.below' hw).cell 2; have c3 := (CY.out.below' hw).cell 3; have c4 := (CY.out.below' hw).cell 4; have g0 := (GY.out.below' hw).cell 0; have g1 := (GY.out.below' hw).cell 1; have g2 := (GY.out.below' hw).cell 2; have g3 := (GY.out.below' hw).cell 3; have g4 := (GY.out.below' hw).cell 4; have p4 := (PY.out.below' hw).cell 4; have p5 := (PY.out.below' hw).cell 5; go_simp; try with_reducible rfl)
    try simp only [put_laws]
    refine wpAnyT_take (i := 4) (v := undef) rfl (by kernel_rfl) (by kernel_rfl) (by kernel_rfl) (by kernel_rfl) (by kernel_rfl) (fun _ _ _ h => h) (.inr ⟨by kernel_rfl, rfl⟩) hS ?_
    refine wpAnyT_take (i := 5) (v := undef) rfl (by kernel_rfl) (by kernel_rfl) (by kernel_rfl) (by kernel_rfl) (by kernel_rfl) (fun _ _ _ h => h) (.inr ⟨by kernel_rfl, rfl⟩) hS ?_
    try simp only [put_laws]
    refine wpAnyT_one (i := 6) (by kernel_rfl) rfl ?_
    intro K' hK'
    go_simp
    refine hK'.out _ _ (.inr hS) ?_
    clear hK' K'
    try simp only [put_laws]
    refine wpAnyT_one (i := 7) (by kernel_rfl) rfl ?_
    intro K' hK'
    go_simp
    refine hK'.out _ _ (.inr hS) ?_
    clear hK' K'
    try simp only [put_laws]
    refine wpAnyT_one (i := 8) (by kernel_rfl) rfl ?_
    intro K' hK'
    go_simp
    refine hK'.out _ _ (.inr hS) ?_
    clear hK' K'
    try simp only [put_laws]
    refine wpAnyT_one (i := 9) (by kernel_rfl) rfl ?_
    intro K' hK'
    go_simp
    refine hK'.out _ _ (.inr hS) ?_
    clear hK' K'
    try simp only [put_laws]
    refine wpAnyT_take (i := 10) (v := undef) rfl (by kernel_rfl) (by kernel_rfl) (by kernel_rfl) (by kernel_rfl) (by kernel_rfl) (fun _ _ _ h => h) (.inr ⟨by kernel_rfl, rfl⟩) hS ?_
    refine wpAnyT_take (i := 11) (v := undef) rfl (by kernel_rfl) (by kernel_rfl) (by kernel_rfl) (by kernel_rfl) (by kernel_rfl) (fun _ _ _ h => h) (.inr ⟨by kernel_rfl, rfl⟩) hS ?_
    refine wpAnyT_take (i := 12) (v := undef) rfl (by kernel_rfl) (by kernel_rfl) (by kernel_rfl) (by kernel_rfl) (by kernel_rfl) (fun _ _ _ h => h) (.inr ⟨by kernel_rfl, rfl⟩) hS ?_
    refine wpAnyT_take (i := 13) (v := undef) rfl (by kernel_rfl) (by kernel_rfl) (by kernel_rfl) (by kernel_rfl) (by kernel_rfl) (fun _ _ _ h => h) (.inr ⟨by kernel_rfl, rfl⟩) hS ?_
    refine wpAnyT_take (i := 14) (v := undef) rfl (by kernel_rfl) (by kernel_rfl) (by kernel_rfl) (by kernel_rfl) (by kernel_rfl) (fun _ _ _ h => h) (.inr ⟨by kernel_rfl, rfl⟩) hS ?_
    refine wpAnyT_take (i := 15) (v := undef) rfl (by kernel_rfl) (by kernel_rfl) (by kernel_rfl) (by kernel_rfl) (by kernel_rfl) (fun _ _ _ h => h) (.inr ⟨by kernel_rfl, rfl⟩) hS ?_
    try simp only [put_laws]
    refine wpAnyT_one (i := 16) (by kernel_rfl) rfl ?_
    intro K' hK'
    go_simp
    refine hK'.out _ _ (.inr hS) ?_
    clear hK' K'
    try simp only [put_laws]
    refine wpAnyT_one (i := 17) (by kernel_rfl) rfl ?_
    intro K' hK'
    go_simp
    refine hK'.out _ _ (.inr hS) ?_
    clear hK' K'
    try simp only [put_laws]
    refine wpAnyT_take (i := 18) (v := undef) rfl (by kernel_rfl) (by kernel_rfl) (by kernel_rfl) (by kernel_rfl) (by kernel_rfl) (fun _ _ _ h => h) (.inr ⟨by kernel_rfl, rfl⟩) hS ?_
    refine wpAnyT_take (i := 19) (v := undef) rfl (by kernel_rfl) (by kernel_rfl) (by kernel_rfl) (by kernel_rfl) (by kernel_rfl) (fun _ _ _ h => h) (.inr ⟨by kernel_rfl, rfl⟩) hS ?_
    refine wpAnyT_take (i := 20) (v := undef) rfl (by kernel_rfl) (by kernel_rfl) (by kernel_rfl) (by kernel_rfl) (by kernel_rfl) (fun _ _ _ h => h) (.inr ⟨by kernel_rfl, rfl⟩) hS ?_
    refine wpAnyT_take (i := 21) (v := undef) rfl (by kernel_rfl) (by kernel_rfl) (by kernel_rfl) (by kernel_rfl) (by kernel_rfl) (fun _ _ _ h => h) (.inr ⟨by kernel_rfl, rfl⟩) hS ?_
    refine wpAnyT_take (i := 22) (v := undef) rfl (by kernel_rfl) (by kernel_rfl) (by kernel_rfl) (by kernel_rfl) (by kernel_rfl) (fun _ _ _ h => h) (.inr ⟨by kernel_rfl, rfl⟩) hS ?_
    refine wpAnyT_take (i := 23) (v := undef) rfl (by kernel_rfl) (by kernel_rfl) (by kernel_rfl) (by kernel_rfl) (by kernel_rfl) (fun _ _ _ h => h) (.inr ⟨by kernel_rfl, rfl⟩) hS ?_
    refine wpAnyT_take (i := 24) (v := undef) rfl (by kernel_rfl) (by kernel_rfl) (by kernel_rfl) (by kernel_rfl) (by kernel_rfl) (fun _ _ _ h => h) (.inr ⟨by kernel_rfl, rfl⟩) hS ?_
    refine wpAnyT_take (i := 25) (v := undef) rfl (by kernel_rfl) (by kernel_rfl) (by kernel_rfl) (by kernel_rfl) (by kernel_rfl) (fun _ _ _ h => h) (.inr ⟨by kernel_rfl, rfl⟩) hS ?_
    refine wpAnyT_take (i := 26) (v := undef) rfl (by kernel_rfl) (by kernel_rfl) (by kernel_rfl) (by kernel_rfl) (by kernel_rfl) (fun _ _ _ h => h) (.inr ⟨by kernel_rfl, rfl⟩) hS ?_
    try simp only [put_laws]
    refine wpAnyT_one (i := 27) (by kernel_rfl) rfl ?_
    intro K' hK'
    go_simp
    refine hK'.out _ _ (.inl rfl) ?_
    clear hK' K'
    try simp only [put_laws]
    refine wpAnyT_done (by kernel_rfl) ?_ _
    go_wp2_with fail
    go_ret
    exact ⟨ret_bool HEF.out.symm, HY.out.trans (Below.mono hS hzY)⟩
  · have g80 : decide (80 < n) = false := decide_eq_false (by omega)
    have i80 : decide ((80 : Int) < (n : Int)) = false := decide_eq_false (by omega)
    cases hlo : M.legOk s l
    · rw [hlo] at HIL
      have HEF := Lib.hid (show R = false by rw [HIR.out, hlo]; simp)
      clear hlo h80
      refine wp_region_T 27 (fun w' => Below Y.heap.size Y w') (by kernel_rfl) (Below.refl _ _).drew ?_
      intro hS
      refine wpAnyT_take (i := 0) (v := ?_) rfl (by kernel_rfl) (by kernel_rfl) (by kernel_rfl) (by kernel_rfl) (by kernel_rfl) (fun _ _ _ h => h) (.inl ⟨by kernel_rfl, ?_⟩) hS ?_
      rotate_left
      · (intro w' hw; have c0 := (CY.out.below' hw).cell 0; have c1 := (CY.out.below' hw).cell 1; have c2 := (CY.out.below' hw).cell 2; have c3 := (CY.out.below' hw).cell 3; have c4 := (CY.out.below' hw).cell 4; have g0 := (GY.out.below' hw).cell 0; have g1 := (GY.out.below' hw).cell 1; have g2 := (GY.out.below' hw).cell 2; have g3 := (GY.out.below' hw).cell 3; have g4 := (GY.out.below' hw).cell 4; have p4 := (PY.out.below' hw).cell 4; have p5 := (PY.out.below' hw).cell 5; go_simp; try with_reducible rfl)
      try simp only [put_laws]
      refine wpAnyT_take (i := 1) (v := ?_) rfl (by kernel_rfl) (by kernel_rfl) (by kernel_rfl) (by kernel_rfl) (by kernel_rfl) (fun _ _ _ h => h) (.inl ⟨by kernel_rfl, ?_⟩) hS ?_
      rotate_left
      · (intro w' hw; have c0 := (CY.out.below' hw).cell 0; have c1 := (CY.out.below' hw).cell 1; have c2 := (CY.out.below' hw).cell 2; have c3 := (CY.out.below' hw).cell 3; have c4 := (CY.out.below' hw).cell 4; have g0 := (GY.out.below' hw).cell 0; have g1 := (GY.out.below' hw).cell 1; have g2 := (GY.out.below' hw).cell 2; have g3 := (GY.out.below' hw).cell 3; have g4 := (GY.out.below' hw).cell 4; have p4 := (PY.out.below' hw).cell 4; have p5 := (PY.out.below' hw).cell 5; go_simp; try with_reducible rfl)
      try simp only [put_laws]
      refine wpAnyT_take (i := 2) (v := ?_) rfl (by kernel_rfl) (by kernel_rfl) (by kernel_rfl) (by kernel_rfl) (by kernel_rfl) (fun _ _ _ h => h) (.inl ⟨by kernel_rfl, ?_⟩) hS ?_
      rotate_left
      · (intro w' hw; have c0 := (CY.out.below' hw).cell 0; have c1 := (CY.out.below' hw).cell 1; have c2 := (CY.out.below' hw).cell 2; have c3 := (CY.out.below' hw).cell 3; have c4 := (CY.out.below' hw).cell 4; have g0 := (GY.out.below' hw).cell 0; have g1 := (GY.out.below' hw).cell 1; have g2 := (GY.out.below' hw).cell 2; have g3 := (GY.out.below' hw).cell 3; have g4 := (GY.out.below' hw).cell 4; have p4 := (PY.out.below' hw).cell 4; have p5 := (PY.out.below' hw).cell 5; go_simp; try with_reducible rfl)
      try simp only [put_laws]
      refine wpAnyT_take (i := 3) (v := ?_) rfl (by kernel_rfl) (by kernel_rfl) (by kernel_rfl) (by kernel_rfl) (by kernel_rfl) (fun _ _ _ h => h) (.inl ⟨by kernel_rfl, ?_⟩) hS ?_
      rotate_left
      · (intro w' hw; have c0 := (CY.out.below' hw).cell 0; have c1 := (CY.out.below' hw).cell 1; have c2 := (CY.out.below' hw).cell 2; have c3 := (CY.out.below' hw).cell 3; have c4 := (CY.out.below' hw).cell 4; have g0 := (GY.out.below' hw).cell 0; have g1 := (GY.out.below' hw).cell 1; have g2 := (GY.out.below' hw).cell 2; have g3 := (GY.out.below' hw).cell 3; have g4 := (GY.out.below' hw).cell 4; have p4 := (PY.out.below' hw).cell 4; have p5 := (PY.out.below' hw).cell 5; go_simp; try with_reducible rfl)
      try simp only [put_laws]
      refine wpAnyT_take (i := 4) (v := ?_) rfl (by kernel_rfl) (by kernel_rfl) (by kernel_rfl) (by kernel_rfl) (by kernel_rfl) (fun _ _ _ h => h) (.inl ⟨by kernel_rfl, ?_⟩) hS ?_
      rotate_left
      · (intro w' hw; have c0 := (CY.out.below' hw).cell 0; have c1 := (CY.out.below' hw).cell 1; have c2 := (CY.out.below' hw).cell 2; have c3 := (CY.out.below' hw).cell 3; have c4 := (CY.out.below' hw).cell 4; have g0 := (GY.out.below' hw).cell 0; have g1 := (GY.out.below' hw).cell 1; have g2 := (GY.out.below' hw).cell 2; have g3 := (GY.out.below' hw).cell 3; have g4 := (GY.out.below' hw).cell 4; have p4 := (PY.out.below' hw).cell 4; have p5 := (PY.out.below' hw).cell 5; go_simp; try with_reducible rfl)
      try simp only [put_laws]
      refine wpAnyT_take (i := 5) (v := ?_) rfl (by kernel_rfl) (by kernel_rfl) (by kernel_rfl) (by kernel_rfl) (by kernel_rfl) (fun _ _ _ h => h) (.inl ⟨by kernel_rfl, ?_⟩) hS ?_
      rotate_left
      · (intro w' hw; have c0 := (CY.out.below' hw).cell 0; have c1 := (CY.out.below' hw).cell 1; have c2 := (CY.out.below' hw).cell 2; have c3 := (CY.out.below' hw).cell 3; have c4 := (CY.out.below' hw).cell 4; have g0 := (GY.out.below' hw).cell 0; have g1 := (GY.out.below' hw).cell 1; have g2 := (GY.out.below' hw).cell 2; have g3 := (GY.out.below' hw).cell 3; have g4 := (GY.out.below' hw).cell 4; have p4 := (PY.out.below' hw).cell 4; have p5 := (PY.out.below' hw).cell 5; go_simp; try with_reducible rfl)
      try simp only [put_laws]
      refine wpAnyT_one (i := 6) (by kernel_rfl) rfl ?_
      intro K' hK'
      go_simp
      refine (HIL.out _ hS).mono ?_
      rintro e w8 ⟨rfl, hb8⟩
      have hS' := Below.trans hS (Below.mono hb8 (Below.size hS))
      clear hS
      have hS := hS'
      clear hS' hb8
      refine hK'.out _ _ (.inr hS) ?_
      clear hK' K'
      try simp only [put_laws]
      refine wpAnyT_one (i := 7) (by kernel_rfl) rfl ?_
      intro K' hK'
      go_simp
      refine hK'.out _ _ (.inr hS) ?_
      clear hK' K'
      try simp only [put_laws]
      refine wpAnyT_one (i := 8) (by kernel_rfl) rfl ?_
      intro K' hK'
      go_simp
      refine hK'.out _ _ (.inr hS) ?_
      clear hK' K'
      try simp only [put_laws]
      refine wpAnyT_one (i := 9) (by kernel_rfl) rfl ?_
      intro K' hK'
      go_simp
      refine hK'.out _ _ (.inr hS) ?_
      clear hK' K'
      try simp only [put_laws]
      refine wpAnyT_take (i := 10) (v := undef) rfl (by kernel_rfl) (by kernel_rfl) (by kernel_rfl) (by kernel_rfl) (by kernel_rfl) (fun _ _ _ h => h) (.inr ⟨by kernel_rfl, rfl⟩) hS ?_
      refine wpAnyT_take (i := 11) (v := undef) rfl (by kernel_rfl) (by kernel_rfl) (by kernel_rfl) (by kernel_rfl) (by kernel_rfl) (fun _ _ _ h => h) (.inr ⟨by kernel_rfl, rfl⟩) hS ?_
      refine wpAnyT_take (i := 12) (v := undef) rfl (by kernel_rfl) (by kernel_rfl) (by kernel_rfl) (by kernel_rfl) (by kernel_rfl) (fun _ _ _ h => h) (.inr ⟨by kernel_rfl, rfl⟩) hS ?_
      refine wpAnyT_take (i := 13) (v := undef) rfl (by kernel_rfl) (by kernel_rfl) (by kernel_rfl) (by kernel_rfl) (by kernel_rfl) (fun _ _ _ h => h) (.inr ⟨by kernel_rfl, rfl⟩) hS ?_
      refine wpAnyT_take (i := 14) (v := undef) rfl (by kernel_rfl) (by kernel_rfl) (by kernel_rfl) (by kernel_rfl) (by kernel_rfl) (fun _ _ _ h => h) (.inr ⟨by kernel_rfl, rfl⟩) hS ?_
      refine wpAnyT_take (i := 15) (v := undef) rfl (by kernel_rfl) (by kernel_rfl) (by kernel_rfl) (by kernel_rfl) (by kernel_rfl) (fun _ _ _ h => h) (.inr ⟨by kernel_rfl, rfl⟩) hS ?_
      try simp only [put_laws]
      refine wpAnyT_one (i := 16) (by kernel_rfl) rfl ?_
      intro K' hK'
      go_simp
      refine hK'.out _ _ (.inr hS) ?_
      clear hK' K'
      try simp only [put_laws]
      refine wpAnyT_one (i := 17) (by kernel_rfl) rfl ?_
      intro K' hK'
      go_simp
      refine hK'.out _ _ (.inr hS) ?_
      clear hK' K'
      try simp only [put_laws]
      refine wpAnyT_take (i := 18) (v := undef) rfl (by kernel_rfl) (by kernel_rfl) (by kernel_rfl) (by kernel_rfl) (by kernel_rfl) (fun _ _ _ h => h) (.inr ⟨by kernel_rfl, rfl⟩) hS ?_
      refine wpAnyT_take (i := 19) (v := undef) rfl (by kernel_rfl) (by kernel_rfl) (by kernel_rfl) (by kernel_rfl) (by kernel_rfl) (fun _ _ _ h => h) (.inr ⟨by kernel_rfl, rfl⟩) hS ?_
      refine wpAnyT_take (i := 20) (v := undef) rfl (by kernel_rfl) (by kernel_rfl) (by kernel_rfl) (by kernel_rfl) (by kernel_rfl) (fun _ _ _ h => h) (.inr ⟨by kernel_rfl, rfl⟩) hS ?_
      refine wpAnyT_take (i := 21) (v := undef) rfl (by kernel_rfl) (by kernel_rfl) (by kernel_rfl) (by kernel_rfl) (by kernel_rfl) (fun _ _ _ h => h) (.inr ⟨by kernel_rfl, rfl⟩) hS ?_
      refine wpAnyT_take (i := 22) (v := undef) rfl (by kernel_rfl) (by kernel_rfl) (by kernel_rfl) (by kernel_rfl) (by kernel_rfl) (fun _ _ _ h => h) (.inr ⟨by kernel_rfl, rfl⟩) hS ?_
      refine wpAnyT_take (i := 23) (v := undef) rfl (by kernel_rfl) (by kernel_rfl) (by kernel_rfl) (by kernel_rfl) (by kernel_rfl) (fun _ _ _ h => h) (.inr ⟨by kernel_rfl, rfl⟩) hS ?_
      refine wpAnyT_take (i := 24) (v := undef) rfl (by kernel_rfl) (by kernel_rfl) (by kernel_rfl) (by kernel_rfl) (by kernel_rfl) (fun _ _ _ h => h) (.inr ⟨by kernel_rfl, rfl⟩) hS ?_
      refine wpAnyT_take (i := 25) (v := undef) rfl (by kernel_rfl) (by kernel_rfl) (by kernel_rfl) (by kernel_rfl) (by kernel_rfl) (fun _ _ _ h => h) (.inr ⟨by kernel_rfl, rfl⟩) hS ?_
      refine wpAnyT_take (i := 26) (v := undef) rfl (by kernel_rfl) (by kernel_rfl) (by kernel_rfl) (by kernel_rfl) (by kernel_rfl) (fun _ _ _ h => h) (.inr ⟨by kernel_rfl, rfl⟩) hS ?_
      try simp only [put_laws]
      refine wpAnyT_one (i := 27) (by kernel_rfl) rfl ?_
      intro K' hK'
      go_simp
      refine hK'.out _ _ (.inl rfl) ?_
      clear hK' K'
      try simp only [put_laws]
      refine wpAnyT_done (by kernel_rfl) ?_ _
      go_wp2_with fail
      go_ret
      exact ⟨ret_bool HEF.out.symm, HY.out.trans (Below.mono hS hzY)⟩
    · rw [hlo] at HIL
      have HLO2 := Lib.hid (M.legOk_iff.1 hlo)
      have hn0 : 0 < n := by have h := HLO2.out.n0; rw [HLL.out.2.2.2.2.1] at h; exact h
      have HAL := Lib.hid (show 0 ≤ l.at_ ∧ l.at_ ≤ 100 ∧ l.n ≤ 100 by have h0 := HLO2.out.at0; have h1 := HLO2.out.at1; have h2 := HLO2.out.n1; omega)
      obtain ⟨cb, co, hcA, hcb, _⟩ := (HCV.out Y HY.out).at_ hn0
      subst hcA
      have HE0 := Lib.hid (fun W (hb : Below Y.heap.size Y W) => (show W.cell? ⟨cb, co, none⟩ = some (.int .i64 (f 0)) from (HCV.out W (HY.out.trans (hb.mono HY.out.size))).cx hn0))
      have HE1 := Lib.hid (fun W (hb : Below Y.heap.size Y W) => (show W.cell? ⟨cb, co + (n - 1), none⟩ = some (.int .i64 (f (n - 1))) from (HCV.out W (HY.out.trans (hb.mono HY.out.size))).cx (by omega)))
      have HIR2 := Lib.hid (show R = (decide (f 0 = fr) && decide (f (n - 1) = dst) && M.allTo ln fun i => M.allTo s.nt fun t => !M.legC l (L i) t) by rw [HIR.out, hlo, decide_eq_true h80]; rfl)
      have hwn : IntKind.i64.wrap ((n : Int) - 1) = ((n - 1 : Nat) : Int) := by rw [IntKind.wrap_i64]; omega
      have hwn2 : wrap64 ((n : Int) - 1) = ((n - 1 : Nat) : Int) := by rw [IntWalk.wrap64_in _ (by omega)]; omega
      have kn : decide (n ≤ n - 1) = false := decide_eq_false (by omega)
      have kn0 : decide (n ≤ 0) = false := decide_eq_false (by omega)
      have in0 : (0 : Int) < (n : Int) := by omega
      have in1 : ((n - 1 : Nat) : Int) < (n : Int) := by omega
      obtain ⟨f0, hf0⟩ : ∃ f0, f0 = f 0 := ⟨_, rfl⟩
      obtain ⟨f1, hf1⟩ : ∃ f1, f1 = f (n - 1) := ⟨_, rfl⟩
      rw [← hf0] at HE0 HIR2
      rw [← hf1] at HE1 HIR2
      clear hlo h80 hf0 hf1 HIR
      by_cases q1 : f0 = fr
      rotate_left
      · have HEF := Lib.hid (show R = false by rw [HIR2.out, decide_eq_false q1]; rfl)
        have d1 : (f0 != fr) = true := by rw [bne_iff_ne]; exact q1
        clear q1
        refine wp_region_T 27 (fun w' => Below Y.heap.size Y w') (by kernel_rfl) (Below.refl _ _).drew ?_
        intro hS
        refine wpAnyT_take (i := 0) (v := ?_) rfl (by kernel_rfl) (by kernel_rfl) (by kernel_rfl) (by kernel_rfl) (by kernel_rfl) (fun _ _ _ h => h) (.inl ⟨by kernel_rfl, ?_⟩) hS ?_
        rotate_left
        · (intro w' hw; have c0 := (CY.out.below' hw).cell 0; have c1 := (CY.out.below' hw).cell 1; have c2 := (CY.out.below' hw).cell 2; have c3 := (CY.out.below' hw).cell 3; have c4 := (CY.out.below' hw).cell 4; have g0 := (GY.out.below' hw).cell 0; have g1 := (GY.out.below' hw).cell 1; have g2 := (GY.out.below' hw).cell 2; have g3 := (GY.out.below' hw).cell 3; have g4 := (GY.out.below' hw).cell 4; have p4 := (PY.out.below' hw).cell 4; have p5 := (PY.out.below' hw).cell 5; have e0 := HE0.out w' hw; have e1 := HE1.out w' hw; go_simp; try with_reducible rfl)
        try simp only [put_laws]
        refine wpAnyT_take (i := 1) (v := ?_) rfl (by kernel_rfl) (by kernel_rfl) (by kernel_rfl) (by kernel_rfl) (by kernel_rfl) (fun _ _ _ h => h) (.inl ⟨by kernel_rfl, ?_⟩) hS ?_
        rotate_left
        · (intro w' hw; have c0 := (CY.out.below' hw).cell 0; have c1 := (CY.out.below' hw).cell 1; have c2 := (CY.out.below' hw).cell 2; have c3 := (CY.out.below' hw).cell 3; have c4 := (CY.out.below' hw).cell 4; have g0 := (GY.out.below' hw).cell 0; have g1 := (GY.out.below' hw).cell 1; have g2 := (GY.out.below' hw).cell 2; have g3 := (GY.out.below' hw).cell 3; have g4 := (GY.out.below' hw).cell 4; have p4 := (PY.out.below' hw).cell 4; have p5 := (PY.out.below' hw).cell 5; have e0 := HE0.out w' hw; have e1 := HE1.out w' hw; go_simp; try with_reducible rfl)
        try simp only [put_laws]
        refine wpAnyT_take (i := 2) (v := ?_) rfl (by kernel_rfl) (by kernel_rfl) (by kernel_rfl) (by kernel_rfl) (by kernel_rfl) (fun _ _ _ h => h) (.inl ⟨by kernel_rfl, ?_⟩) hS ?_
        rotate_left
        · (intro w' hw; have c0 := (CY.out.below' hw).cell 0; have c1 := (CY.out.below' hw).cell 1; have c2 := (CY.out.below' hw).cell 2; have c3 := (CY.out.below' hw).cell 3; have c4 := (CY.out.below' hw).cell 4; have g0 := (GY.out.below' hw).cell 0; have g1 := (GY.out.below' hw).cell 1; have g2 := (GY.out.below' hw).cell 2; have g3 := (GY.out.below' hw).cell 3; have g4 := (GY.out.below' hw).cell 4; have p4 := (PY.out.below' hw).cell 4; have p5 := (PY.out.below' hw).cell 5; have e0 := HE0.out w' hw; have e1 := HE1.out w' hw; go_simp; try with_reducible rfl)
        try simp only [put_laws]
        refine wpAnyT_take (i := 3) (v := ?_) rfl (by kernel_rfl) (by kernel_rfl) (by kernel_rfl) (by kernel_rfl) (by kernel_rfl) (fun _ _ _ h => h) (.inl ⟨by kernel_rfl, ?_⟩) hS ?_
        rotate_left
        · (intro w' hw; have c0 := (CY.out.below' hw).cell 0; have c1 := (CY.out.below' hw).cell 1; have c2 := (CY.out.below' hw).cell 2; have c3 := (CY.out.below' hw).cell 3; have c4 := (CY.out.below' hw).cell 4; have g0 := (GY.out.below' hw).cell 0; have g1 := (GY.out.below' hw).cell 1; have g2 := (GY.out.below' hw).cell 2; have g3 := (GY.out.below' hw).cell 3; have g4 := (GY.out.below' hw).cell 4; have p4 := (PY.out.below' hw).cell 4; have p5 := (PY.out.below' hw).cell 5; have e0 := HE0.out w' hw; have e1 := HE1.out w' hw; go_simp; try with_reducible rfl)
        try simp only [put_laws]
        refine wpAnyT_take (i := 4) (v := ?_) rfl (by kernel_rfl) (by kernel_rfl) (by kernel_rfl) (by kernel_rfl) (by kernel_rfl) (fun _ _ _ h => h) (.inl ⟨by kernel_rfl, ?_⟩) hS ?_
        rotate_left
        · (intro w' hw; have c0 := (CY.out.below' hw).cell 0; have c1 := (CY.out.below' hw).cell 1; have c2 := (CY.out.below' hw).cell 2; have c3 := (CY.out.below' hw).cell 3; have c4 := (CY.out.below' hw).cell 4; have g0 := (GY.out.below' hw).cell 0; have g1 := (GY.out.below' hw).cell 1; have g2 := (GY.out.below' hw).cell 2; have g3 := (GY.out.below' hw).cell 3; have g4 := (GY.out.below' hw).cell 4; have p4 := (PY.out.below' hw).cell 4; have p5 := (PY.out.below' hw).cell 5; have e0 := HE0.out w' hw; have e1 := HE1.out w' hw; go_simp; try with_reducible rfl)
        try simp only [put_laws]
        refine wpAnyT_take (i := 5) (v := ?_) rfl (by kernel_rfl) (by kernel_rfl) (by kernel_rfl) (by kernel_rfl) (by kernel_rfl) (fun _ _ _ h => h) (.inl ⟨by kernel_rfl, ?_⟩) hS ?_
        rotate_left
        · (intro w' hw; have c0 := (CY.out.below' hw).cell 0; have c1 := (CY.out.below' hw).cell 1; have c2 := (CY.out.below' hw).cell 2; have c3 := (CY.out.below' hw).cell 3; have c4 := (CY.out.below' hw).cell 4; have g0 := (GY.out.below' hw).cell 0; have g1 := (GY.out.below' hw).cell 1; have g2 := (GY.out.below' hw).cell 2; have g3 := (GY.out.below' hw).cell 3; have g4 := (GY.out.below' hw).cell 4; have p4 := (PY.out.below' hw).cell 4; have p5 := (PY.out.below' hw).cell 5; have e0 := HE0.out w' hw; have e1 := HE1.out w' hw; go_simp; try with_reducible rfl)
        try simp only [put_laws]
        refine wpAnyT_one (i := 6) (by kernel_rfl) rfl ?_
        intro K' hK'
        go_simp
        refine (HIL.out _ hS).mono ?_
        rintro e w8 ⟨rfl, hb8⟩
        have hS' := Below.trans hS (Below.mono hb8 (Below.size hS))
        clear hS
        have hS := hS'
        clear hS' hb8
        refine hK'.out _ _ (.inr hS) ?_
        clear hK' K'
        try simp only [put_laws]
        refine wpAnyT_one (i := 7) (by kernel_rfl) rfl ?_
        intro K' hK'
        go_simp
        refine hK'.out _ _ (.inr hS) ?_
        clear hK' K'
        try simp only [put_laws]
        refine wpAnyT_one (i := 8) (by kernel_rfl) rfl ?_
        intro K' hK'
        go_simp
        refine hK'.out _ _ (.inr hS) ?_
        clear hK' K'
        try simp only [put_laws]
        refine wpAnyT_one (i := 9) (by kernel_rfl) rfl ?_
        intro K' hK'
        go_simp
        refine hK'.out _ _ (.inr hS) ?_
        clear hK' K'
        try simp only [put_laws]
        refine wpAnyT_take (i := 10) (v := ?_) rfl (by kernel_rfl) (by kernel_rfl) (by kernel_rfl) (by kernel_rfl) (by kernel_rfl) (fun _ _ _ h => h) (.inl ⟨by kernel_rfl, ?_⟩) hS ?_
        rotate_left
        · (intro w' hw; have c0 := (CY.out.below' hw).cell 0; have c1 := (CY.out.below' hw).cell 1; have c2 := (CY.out.below' hw).cell 2; have c3 := (CY.out.below' hw).cell 3; have c4 := (CY.out.below' hw).cell 4; have g0 := (GY.out.below' hw).cell 0; have g1 := (GY.out.below' hw).cell 1; have g2 := (GY.out.below' hw).cell 2; have g3 := (GY.out.below' hw).cell 3; have g4 := (GY.out.below' hw).cell 4; have p4 := (PY.out.below' hw).cell 4; have p5 := (PY.out.below' hw).cell 5; have e0 := HE0.out w' hw; have e1 := HE1.out w' hw; go_simp; try with_reducible rfl)
        try simp only [put_laws]
        refine wpAnyT_take (i := 11) (v := ?_) rfl (by kernel_rfl) (by kernel_rfl) (by kernel_rfl) (by kernel_rfl) (by kernel_rfl) (fun _ _ _ h => h) (.inl ⟨by kernel_rfl, ?_⟩) hS ?_
        rotate_left
        · (intro w' hw; have c0 := (CY.out.below' hw).cell 0; have c1 := (CY.out.below' hw).cell 1; have c2 := (CY.out.below' hw).cell 2; have c3 := (CY.out.below' hw).cell 3; have c4 := (CY.out.below' hw).cell 4; have g0 := (GY.out.below' hw).cell 0; have g1 := (GY.out.below' hw).cell 1; have g2 := (GY.out.below' hw).cell 2; have g3 := (GY.out.below' hw).cell 3; have g4 := (GY.out.below' hw).cell 4; have p4 := (PY.out.below' hw).cell 4; have p5 := (PY.out.below' hw).cell 5; have e0 := HE0.out w' hw; have e1 := HE1.out w' hw; go_simp; try with_reducible rfl)
        try simp only [put_laws]
        refine wpAnyT_take (i := 12) (v := ?_) rfl (by kernel_rfl) (by kernel_rfl) (by kernel_rfl) (by kernel_rfl) (by kernel_rfl) (fun _ _ _ h => h) (.inl ⟨by kernel_rfl, ?_⟩) hS ?_
        rotate_left
        · (intro w' hw; have c0 := (CY.out.below' hw).cell 0; have c1 := (CY.out.below' hw).cell 1; have c2 := (CY.out.below' hw).cell 2; have c3 := (CY.out.below' hw).cell 3; have c4 := (CY.out.below' hw).cell 4; have g0 := (GY.out.below' hw).cell 0; have g1 := (GY.out.below' hw).cell 1; have g2 := (GY.out.below' hw).cell 2; have g3 := (GY.out.below' hw).cell 3; have g4 := (GY.out.below' hw).cell 4; have p4 := (PY.out.below' hw).cell 4; have p5 := (PY.out.below' hw).cell 5; have e0 := HE0.out w' hw; have e1 := HE1.out w' hw; go_simp; try with_reducible rfl)
        try simp only [put_laws]
        refine wpAnyT_take (i := 13) (v := ?_) rfl (by kernel_rfl) (by kernel_rfl) (by kernel_rfl) (by kernel_rfl) (by kernel_rfl) (fun _ _ _ h => h) (.inl ⟨by kernel_rfl, ?_⟩) hS ?_
        rotate_left
        · (intro w' hw; have c0 := (CY.out.below' hw).cell 0; have c1 := (CY.out.below' hw).cell 1; have c2 := (CY.out.below' hw).cell 2; have c3 := (CY.out.below' hw).cell 3; have c4 := (CY.out.below' hw).cell 4; have g0 := (GY.out.below' hw).cell 0; have g1 := (GY.out.below' hw).cell 1; have g2 := (GY.out.below' hw).cell 2; have g3 := (GY.out.below' hw).cell 3; have g4 := (GY.out.below' hw).cell 4; have p4 := (PY.out.below' hw).cell 4; have p5 := (PY.out.below' hw).cell 5; have e0 := HE0.out w' hw; have e1 := HE1.out w' hw; go_simp; try with_reducible rfl)
        try simp only [put_laws]
        refine wpAnyT_take (i := 14) (v := ?_) rfl (by kernel_rfl) (by kernel_rfl) (by kernel_rfl) (by kernel_rfl) (by kernel_rfl) (fun _ _ _ h => h) (.inl ⟨by kernel_rfl, ?_⟩) hS ?_
        rotate_left
        · (intro w' hw; have c0 := (CY.out.below' hw).cell 0; have c1 := (CY.out.below' hw).cell 1; have c2 := (CY.out.below' hw).cell 2; have c3 := (CY.out.below' hw).cell 3; have c4 := (CY.out.below' hw).cell 4; have g0 := (GY.out.below' hw).cell 0; have g1 := (GY.out.below' hw).cell 1; have g2 := (GY.out.below' hw).cell 2; have g3 := (GY.out.below' hw).cell 3; have g4 := (GY.out.below' hw).cell 4; have p4 := (PY.out.below' hw).cell 4; have p5 := (PY.out.below' hw).cell 5; have e0 := HE0.out w' hw; have e1 := HE1.out w' hw; go_simp; try with_reducible rfl)
        try simp only [put_laws]
        refine wpAnyT_take (i := 15) (v := ?_) rfl (by kernel_rfl) (by kernel_rfl) (by kernel_rfl) (by kernel_rfl) (by kernel_rfl) (fun _ _ _ h => h) (.inl ⟨by kernel_rfl, ?_⟩) hS ?_
        rotate_left
        · (intro w' hw; have c0 := (CY.out.below' hw).cell 0; have c1 := (CY.out.below' hw).cell 1; have c2 := (CY.out.below' hw).cell 2; have c3 := (CY.out.below' hw).cell 3; have c4 := (CY.out.below' hw).cell 4; have g0 := (GY.out.below' hw).cell 0; have g1 := (GY.out.below' hw).cell 1; have g2 := (GY.out.below' hw).cell 2; have g3 := (GY.out.below' hw).cell 3; have g4 := (GY.out.below' hw).cell 4; have p4 := (PY.out.below' hw).cell 4; have p5 := (PY.out.below' hw).cell 5; have e0 := HE0.out w' hw; have e1 := HE1.out w' hw; go_simp; try with_reducible rfl)
        try simp only [put_laws]
        refine wpAnyT_one (i := 16) (by kernel_rfl) rfl ?_
        intro K' hK'
        go_simp
        refine hK'.out _ _ (.inr hS) ?_
        clear hK' K'
        try simp only [put_laws]
        refine wpAnyT_one (i := 17) (by kernel_rfl) rfl ?_
        intro K' hK'
        go_simp
        refine hK'.out _ _ (.inr hS) ?_
        clear hK' K'
        try simp only [put_laws]
        refine wpAnyT_take (i := 18) (v := undef) rfl (by kernel_rfl) (by kernel_rfl) (by kernel_rfl) (by kernel_rfl) (by kernel_rfl) (fun _ _ _ h => h) (.inr ⟨by kernel_rfl, rfl⟩) hS ?_
        refine wpAnyT_take (i := 19) (v := undef) rfl (by kernel_rfl) (by kernel_rfl) (by kernel_rfl) (by kernel_rfl) (by kernel_rfl) (fun _ _ _ h => h) (.inr ⟨by kernel_rfl, rfl⟩) hS ?_
        refine wpAnyT_take (i := 20) (v := undef) rfl (by kernel_rfl) (by kernel_rfl) (by kernel_rfl) (by kernel_rfl) (by kernel_rfl) (fun _ _ _ h => h) (.inr ⟨by kernel_rfl, rfl⟩) hS ?_
        refine wpAnyT_take (i := 21) (v := undef) rfl (by kernel_rfl) (by kernel_rfl) (by kernel_rfl) (by kernel_rfl) (by kernel_rfl) (fun _ _ _ h => h) (.inr ⟨by kernel_rfl, rfl⟩) hS ?_
        refine wpAnyT_take (i := 22) (v := undef) rfl (by kernel_rfl) (by kernel_rfl) (by kernel_rfl) (by kernel_rfl) (by kernel_rfl) (fun _ _ _ h => h) (.inr ⟨by kernel_rfl, rfl⟩) hS ?_
        refine wpAnyT_take (i := 23) (v := undef) rfl (by kernel_rfl) (by kernel_rfl) (by kernel_rfl) (by kernel_rfl) (by kernel_rfl) (fun _ _ _ h => h) (.inr ⟨by kernel_rfl, rfl⟩) hS ?_
        refine wpAnyT_take (i := 24) (v := undef) rfl (by kernel_rfl) (by kernel_rfl) (by kernel_rfl) (by kernel_rfl) (by kernel_rfl) (fun _ _ _ h => h) (.inr ⟨by kernel_rfl, rfl⟩) hS ?_
        refine wpAnyT_take (i := 25) (v := undef) rfl (by kernel_rfl) (by kernel_rfl) (by kernel_rfl) (by kernel_rfl) (by kernel_rfl) (fun _ _ _ h => h) (.inr ⟨by kernel_rfl, rfl⟩) hS ?_
        refine wpAnyT_take (i := 26) (v := undef) rfl (by kernel_rfl) (by kernel_rfl) (by kernel_rfl) (by kernel_rfl) (by kernel_rfl) (fun _ _ _ h => h) (.inr ⟨by kernel_rfl, rfl⟩) hS ?_
        try simp only [put_laws]
        refine wpAnyT_one (i := 27) (by kernel_rfl) rfl ?_
        intro K' hK'
        go_simp
        refine hK'.out _ _ (.inl rfl) ?_
        clear hK' K'
        try simp only [put_laws]
        refine wpAnyT_done (by kernel_rfl) ?_ _
        go_wp2_with fail
        go_ret
        exact ⟨ret_bool HEF.out.symm, HY.out.trans (Below.mono hS hzY)⟩
      · have d1 : (f0 != fr) = false := by rw [q1]; simp
        by_cases q2 : f1 = dst
        rotate_left
        · have HEF := Lib.hid (show R = false by rw [HIR2.out, decide_eq_false q2]; simp)
          have d2 : (f1 != dst) = true := by rw [bne_iff_ne]; exact q2
          clear q1 q2
          refine wp_region_T 27 (fun w' => Below Y.heap.size Y w') (by kernel_rfl) (Below.refl _ _).drew ?_
          intro hS
          refine wpAnyT_take (i := 0) (v := ?_) rfl (by kernel_rfl) (by kernel_rfl) (by kernel_rfl) (by kernel_rfl) (by kernel_rfl) (fun _ _ _ h => h) (.inl ⟨by kernel_rfl, ?_⟩) hS ?_
          rotate_left
          · (intro w' hw; have c0 := (CY.out.below' hw).cell 0; have c1 := (CY.out.below' hw).cell 1; have c2 := (CY.out.below' hw).cell 2; have c3 := (CY.out.below' hw).cell 3; have c4 := (CY.out.below' hw).cell 4; have g0 := (GY.out.below' hw).cell 0; have g1 := (GY.out.below' hw).cell 1; have g2 := (GY.out.below' hw).cell 2; have g3 := (GY.out.below' hw).cell 3; have g4 := (GY.out.below' hw).cell 4; have p4 := (PY.out.below' hw).cell 4; have p5 := (PY.out.below' hw).cell 5; have e0 := HE0.out w' hw; have e1 := HE1.out w' hw; go_simp; try with_reducible rfl)
          try simp only [put_laws]
          refine wpAnyT_take (i := 1) (v := ?_) rfl (by kernel_rfl) (by kernel_rfl) (by kernel_rfl) (by kernel_rfl) (by kernel_rfl) (fun _ _ _ h => h) (.inl ⟨by kernel_rfl, ?_⟩) hS ?_
          rotate_left
          · (intro w' hw; have c0 := (CY.out.below' hw).cell 0; have c1 := (CY.out.below' hw).cell 1; have c2 := (CY.out.below' hw).cell 2; have c3 := (CY.out.below' hw).cell 3; have c4 := (CY.out.below' hw).cell 4; have g0 := (GY.out.below' hw).cell 0; have g1 := (GY.out.below' hw).cell 1; have g2 := (GY.out.below' hw).cell 2; have g3 := (GY.out.below' hw).cell 3; have g4 := (GY.out.below' hw).cell 4; have p4 := (PY.out.below' hw).cell 4; have p5 := (PY.out.below' hw).cell 5; have e0 := HE0.out w' hw; have e1 := HE1.out w' hw; go_simp; try with_reducible rfl)
          try simp only [put_laws]
          refine wpAnyT_take (i := 2) (v := ?_) rfl (by kernel_rfl) (by kernel_rfl) (by kernel_rfl) (by kernel_rfl) (by kernel_rfl) (fun _ _ _ h => h) (.inl ⟨by kernel_rfl, ?_⟩) hS ?_
          rotate_left
          · (intro w' hw; have c0 := (CY.out.below' hw).cell 0; have c1 := (CY.out.below' hw).cell 1; have c2 := (CY.out.below' hw).cell 2; have c3 := (CY.out.below' hw).cell 3; have c4 := (CY.out.below' hw).cell 4; have g0 := (GY.out.below' hw).cell 0; have g1 := (GY.out.below' hw).cell 1; have g2 := (GY.out.below' hw).cell 2; have g3 := (GY.out.below' hw).cell 3; have g4 := (GY.out.below' hw).cell 4; have p4 := (PY.out.below' hw).cell 4; have p5 := (PY.out.below' hw).cell 5; have e0 := HE0.out w' hw; have e1 := HE1.out w' hw; go_simp; try with_reducible rfl)
          try simp only [put_laws]
          refine wpAnyT_take (i := 3) (v := ?_) rfl (by kernel_rfl) (by kernel_rfl) (by kernel_rfl) (by kernel_rfl) (by kernel_rfl) (fun _ _ _ h => h) (.inl ⟨by kernel_rfl, ?_⟩) hS ?_
          rotate_left
          · (intro w' hw; have c0 := (CY.out.below' hw).cell 0; have c1 := (CY.out.below' hw).cell 1; have c2 := (CY.out.below' hw).cell 2; have c3 := (CY.out.below' hw).cell 3; have c4 := (CY.out.below' hw).cell 4; have g0 := (GY.out.below' hw).cell 0; have g1 := (GY.out.below' hw).cell 1; have g2 := (GY.out.below' hw).cell 2; have g3 := (GY.out.below' hw).cell 3; have g4 := (GY.out.below' hw).cell 4; have p4 := (PY.out.below' hw).cell 4; have p5 := (PY.out.below' hw).cell 5; have e0 := HE0.out w' hw; have e1 := HE1.out w' hw; go_simp; try with_reducible rfl)
          try simp only [put_laws]
          refine wpAnyT_take (i := 4) (v := ?_) rfl (by kernel_rfl) (by kernel_rfl) (by kernel_rfl) (by kernel_rfl) (by kernel_rfl) (fun _ _ _ h => h) (.inl ⟨by kernel_rfl, ?_⟩) hS ?_
          rotate_left
          · (intro w' hw; have c0 := (CY.out.below' hw).cell 0; have c1 := (CY.out.below' hw).cell 1; have c2 := (CY.out.below' hw).cell 2; have c3 := (CY.out.below' hw).cell 3; have c4 := (CY.out.below' hw).cell 4; have g0 := (GY.out.below' hw).cell 0; have g1 := (GY.out.below' hw).cell 1; have g2 := (GY.out.below' hw).cell 2; have g3 := (GY.out.below' hw).cell 3; have g4 := (GY.out.below' hw).cell 4; have p4 := (PY.out.below' hw).cell 4; have p5 := (PY.out.below' hw).cell 5; have e0 := HE0.out w' hw; have e1 := HE1.out w' hw; go_simp; try with_reducible rfl)
          try simp only [put_laws]
          refine wpAnyT_take (i := 5) (v := ?_) rfl (by kernel_rfl) (by kernel_rfl) (by kernel_rfl) (by kernel_rfl) (by kernel_rfl) (fun _ _ _ h => h) (.inl ⟨by kernel_rfl, ?_⟩) hS ?_
          rotate_left
          · (intro w' hw; have c0 := (CY.out.below' hw).cell 0; have c1 := (CY.out.below' hw).cell 1; have c2 := (CY.out.below' hw).cell 2; have c3 := (CY.out.below' hw).cell 3; have c4 := (CY.out.below' hw).cell 4; have g0 := (GY.out.below' hw).cell 0; have g1 := (GY.out.below' hw).cell 1; have g2 := (GY.out.below' hw).cell 2; have g3 := (GY.out.below' hw).cell 3; have g4 := (GY.out.below' hw).cell 4; have p4 := (PY.out.below' hw).cell 4; have p5 := (PY.out.below' hw).cell 5; have e0 := HE0.out w' hw; have e1 := HE1.out w' hw; go_simp; try with_reducible rfl)
          try simp only [put_laws]
          refine wpAnyT_one (i := 6) (by kernel_rfl) rfl ?_
          intro K' hK'
          go_simp
          refine (HIL.out _ hS).mono ?_
          rintro e w8 ⟨rfl, hb8⟩
          have hS' := Below.trans hS (Below.mono hb8 (Below.size hS))
          clear hS
          have hS := hS'
          clear hS' hb8
          refine hK'.out _ _ (.inr hS) ?_
          clear hK' K'
          try simp only [put_laws]
          refine wpAnyT_one (i := 7) (by kernel_rfl) rfl ?_
          intro K' hK'
          go_simp
          refine hK'.out _ _ (.inr hS) ?_
          clear hK' K'
          try simp only [put_laws]
          refine wpAnyT_one (i := 8) (by kernel_rfl) rfl ?_
          intro K' hK'
          go_simp
          refine hK'.out _ _ (.inr hS) ?_
          clear hK' K'
          try simp only [put_laws]
          refine wpAnyT_one (i := 9) (by kernel_rfl) rfl ?_
          intro K' hK'
          go_simp
          refine hK'.out _ _ (.inr hS) ?_
          clear hK' K'
          try simp only [put_laws]
          refine wpAnyT_take (i := 10) (v := ?_) rfl (by kernel_rfl) (by kernel_rfl) (by kernel_rfl) (by kernel_rfl) (by kernel_rfl) (fun _ _ _ h => h) (.inl ⟨by kernel_rfl, ?_⟩) hS ?_
          rotate_left
          · (intro w' hw; have c0 := (CY.out.below' hw).cell 0; have c1 := (CY.out.below' hw).cell 1; have c2 := (CY.out.below' hw).cell 2; have c3 := (CY.out.below' hw).cell 3; have c4 := (CY.out.below' hw).cell 4; have g0 := (GY.out.below' hw).cell 0; have g1 := (GY.out.below' hw).cell 1; have g2 := (GY.out.below' hw).cell 2; have g3 := (GY.out.below' hw).cell 3; have g4 := (GY.out.below' hw).cell 4; have p4 := (PY.out.below' hw).cell 4; have p5 := (PY.out.below' hw).cell 5; have e0 := HE0.out w' hw; have e1 := HE1.out w' hw; go_simp; try with_reducible rfl)
          try simp only [put_laws]
          refine wpAnyT_take (i := 11) (v := ?_) rfl (by kernel_rfl) (by kernel_rfl) (by kernel_rfl) (by kernel_rfl) (by kernel_rfl) (fun _ _ _ h => h) (.inl ⟨by kernel_rfl, ?_⟩) hS ?_
          rotate_left
          · (intro w' hw; have c0 := (CY.out.below' hw).cell 0; have c1 := (CY.out.below' hw).cell 1; have c2 := (CY.out.below' hw).cell 2; have c3 := (CY.out.below' hw).cell 3; have c4 := (CY.out.below' hw).cell 4; have g0 := (GY.out.below' hw).cell 0; have g1 := (GY.out.below' hw).cell 1; have g2 := (GY.out.below' hw).cell 2; have g3 := (GY.out.below' hw).cell 3; have g4 := (GY.out.below' hw).cell 4; have p4 := (PY.out.below' hw).cell 4; have p5 := (PY.out.below' hw).cell 5; have e0 := HE0.out w' hw; have e1 := HE1.out w' hw; go_simp; try with_reducible rfl)
          try simp only [put_laws]
          refine wpAnyT_take (i := 12) (v := ?_) rfl (by kernel_rfl) (by kernel_rfl) (by kernel_rfl) (by kernel_rfl) (by kernel_rfl) (fun _ _ _ h => h) (.inl ⟨by kernel_rfl, ?_⟩) hS ?_
          rotate_left
          · (intro w' hw; have c0 := (CY.out.below' hw).cell 0; have c1 := (CY.out.below' hw).cell 1; have c2 := (CY.out.below' hw).cell 2; have c3 := (CY.out.below' hw).cell 3; have c4 := (CY.out.below' hw).cell 4; have g0 := (GY.out.below' hw).cell 0; have g1 := (GY.out.below' hw).cell 1; have g2 := (GY.out.below' hw).cell 2; have g3 := (GY.out.below' hw).cell 3; have g4 := (GY.out.below' hw).cell 4; have p4 := (PY.out.below' hw).cell 4; have p5 := (PY.out.below' hw).cell 5; have e0 := HE0.out w' hw; have e1 := HE1.out w' hw; go_simp; try with_reducible rfl)
          try simp only [put_laws]
          refine wpAnyT_take (i := 13) (v := ?_) rfl (by kernel_rfl) (by kernel_rfl) (by kernel_rfl) (by kernel_rfl) (by kernel_rfl) (fun _ _ _ h => h) (.inl ⟨by kernel_rfl, ?_⟩) hS ?_
          rotate_left
          · (intro w' hw; have c0 := (CY.out.below' hw).cell 0; have c1 := (CY.out.below' hw).cell 1; have c2 := (CY.out.below' hw).cell 2; have c3 := (CY.out.below' hw).cell 3; have c4 := (CY.out.below' hw).cell 4; have g0 := (GY.out.below' hw).cell 0; have g1 := (GY.out.below' hw).cell 1; have g2 := (GY.out.below' hw).cell 2; have g3 := (GY.out.below' hw).cell 3; have g4 := (GY.out.below' hw).cell 4; have p4 := (PY.out.below' hw).cell 4; have p5 := (PY.out.below' hw).cell 5; have e0 := HE0.out w' hw; have e1 := HE1.out w' hw; go_simp; try with_reducible rfl)
          try simp only [put_laws]
          refine wpAnyT_take (i := 14) (v := ?_) rfl (by kernel_rfl) (by kernel_rfl) (by kernel_rfl) (by kernel_rfl) (by kernel_rfl) (fun _ _ _ h => h) (.inl ⟨by kernel_rfl, ?_⟩) hS ?_
          rotate_left
          · (intro w' hw; have c0 := (CY.out.below' hw).cell 0; have c1 := (CY.out.below' hw).cell 1; have c2 := (CY.out.below' hw).cell 2; have c3 := (CY.out.below' hw).cell 3; have c4 := (CY.out.below' hw).cell 4; have g0 := (GY.out.below' hw).cell 0; have g1 := (GY.out.below' hw).cell 1; have g2 := (GY.out.below' hw).cell 2; have g3 := (GY.out.below' hw).cell 3; have g4 := (GY.out.below' hw).cell 4; have p4 := (PY.out.below' hw).cell 4; have p5 := (PY.out.below' hw).cell 5; have e0 := HE0.out w' hw; have e1 := HE1.out w' hw; go_simp; try with_reducible rfl)
          try simp only [put_laws]
          refine wpAnyT_take (i := 15) (v := ?_) rfl (by kernel_rfl) (by kernel_rfl) (by kernel_rfl) (by kernel_rfl) (by kernel_rfl) (fun _ _ _ h => h) (.inl ⟨by kernel_rfl, ?_⟩) hS ?_
          rotate_left
          · (intro w' hw; have c0 := (CY.out.below' hw).cell 0; have c1 := (CY.out.below' hw).cell 1; have c2 := (CY.out.below' hw).cell 2; have c3 := (CY.out.below' hw).cell 3; have c4 := (CY.out.below' hw).cell 4; have g0 := (GY.out.below' hw).cell 0; have g1 := (GY.out.below' hw).cell 1; have g2 := (GY.out.below' hw).cell 2; have g3 := (GY.out.below' hw).cell 3; have g4 := (GY.out.below' hw).cell 4; have p4 := (PY.out.below' hw).cell 4; have p5 := (PY.out.below' hw).cell 5; have e0 := HE0.out w' hw; have e1 := HE1.out w' hw; go_simp; try with_reducible rfl)
          try simp only [put_laws]
          refine wpAnyT_one (i := 16) (by kernel_rfl) rfl ?_
          intro K' hK'
          go_simp
          refine hK'.out _ _ (.inr hS) ?_
          clear hK' K'
          try simp only [put_laws]
          refine wpAnyT_one (i := 17) (by kernel_rfl) rfl ?_
          intro K' hK'
          go_simp
          refine hK'.out _ _ (.inr hS) ?_
          clear hK' K'
          try simp only [put_laws]
          refine wpAnyT_take (i := 18) (v := ?_) rfl (by kernel_rfl) (by kernel_rfl) (by kernel_rfl) (by kernel_rfl) (by kernel_rfl) (fun _ _ _ h => h) (.inl ⟨by kernel_rfl, ?_⟩) hS ?_
          rotate_left
          · (intro w' hw; have c0 := (CY.out.below' hw).cell 0; have c1 := (CY.out.below' hw).cell 1; have c2 := (CY.out.below' hw).cell 2; have c3 := (CY.out.below' hw).cell 3; have c4 := (CY.out.below' hw).cell 4; have g0 := (GY.out.below' hw).cell 0; have g1 := (GY.out.below' hw).cell 1; have g2 := (GY.out.below' hw).cell 2; have g3 := (GY.out.below' hw).cell 3; have g4 := (GY.out.below' hw).cell 4; have p4 := (PY.out.below' hw).cell 4; have p5 := (PY.out.below' hw).cell 5; have e0 := HE0.out w' hw; have e1 := HE1.out w' hw; go_simp; try with_reducible rfl)
          try simp only [put_laws]
          refine wpAnyT_take (i := 19) (v := ?_) rfl (by kernel_rfl) (by kernel_rfl) (by kernel_rfl) (by kernel_rfl) (by kernel_rfl) (fun _ _ _ h => h) (.inl ⟨by kernel_rfl, ?_⟩) hS ?_
          rotate_left
          · (intro w' hw; have c0 := (CY.out.below' hw).cell 0; have c1 := (CY.out.below' hw).cell 1; have c2 := (CY.out.below' hw).cell 2; have c3 := (CY.out.below' hw).cell 3; have c4 := (CY.out.below' hw).cell 4; have g0 := (GY.out.below' hw).cell 0; have g1 := (GY.out.below' hw).cell 1; have g2 := (GY.out.below' hw).cell 2; have g3 := (GY.out.below' hw).cell 3; have g4 := (GY.out.below' hw).cell 4; have p4 := (PY.out.below' hw).cell 4; have p5 := (PY.out.below' hw).cell 5; have e0 := HE0.out w' hw; have e1 := HE1.out w' hw; go_simp; try with_reducible rfl)
          try simp only [put_laws]
          refine wpAnyT_take (i := 20) (v := ?_) rfl (by kernel_rfl) (by kernel_rfl) (by kernel_rfl) (by kernel_rfl) (by kernel_rfl) (fun _ _ _ h => h) (.inl ⟨by kernel_rfl, ?_⟩) hS ?_
          rotate_left
          · (intro w' hw; have c0 := (CY.out.below' hw).cell 0; have c1 := (CY.out.below' hw).cell 1; have c2 := (CY.out.below' hw).cell 2; have c3 := (CY.out.below' hw).cell 3; have c4 := (CY.out.below' hw).cell 4; have g0 := (GY.out.below' hw).cell 0; have g1 := (GY.out.below' hw).cell 1; have g2 := (GY.out.below' hw).cell 2; have g3 := (GY.out.below' hw).cell 3; have g4 := (GY.out.below' hw).cell 4; have p4 := (PY.out.below' hw).cell 4; have p5 := (PY.out.below' hw).cell 5; have e0 := HE0.out w' hw; have e1 := HE1.out w' hw; go_simp; try with_reducible rfl)
          try simp only [put_laws]
          refine wpAnyT_take (i := 21) (v := ?_) rfl (by kernel_rfl) (by kernel_rfl) (by kernel_rfl) (by kernel_rfl) (by kernel_rfl) (fun _ _ _ h => h) (.inl ⟨by kernel_rfl, ?_⟩) hS ?_
          rotate_left
          · (intro w' hw; have c0 := (CY.out.below' hw).cell 0; have c1 := (CY.out.below' hw).cell 1; have c2 := (CY.out.below' hw).cell 2; have c3 := (CY.out.below' hw).cell 3; have c4 := (CY.out.below' hw).cell 4; have g0 := (GY.out.below' hw).cell 0; have g1 := (GY.out.below' hw).cell 1; have g2 := (GY.out.below' hw).cell 2; have g3 := (GY.out.below' hw).cell 3; have g4 := (GY.out.below' hw).cell 4; have p4 := (PY.out.below' hw).cell 4; have p5 := (PY.out.below' hw).cell 5; have e0 := HE0.out w' hw; have e1 := HE1.out w' hw; go_simp; try with_reducible rfl)
          try simp only [put_laws]
          refine wpAnyT_take (i := 22) (v := ?_) rfl (by kernel_rfl) (by kernel_rfl) (by kernel_rfl) (by kernel_rfl) (by kernel_rfl) (fun _ _ _ h => h) (.inl ⟨by kernel_rfl, ?_⟩) hS ?_
          rotate_left
          · (intro w' hw; have c0 := (CY.out.below' hw).cell 0; have c1 := (CY.out.below' hw).cell 1; have c2 := (CY.out.below' hw).cell 2; have c3 := (CY.out.below' hw).cell 3; have c4 := (CY.out.below' hw).cell 4; have g0 := (GY.out.below' hw).cell 0; have g1 := (GY.out.below' hw).cell 1; have g2 := (GY.out.below' hw).cell 2; have g3 := (GY.out.below' hw).cell 3; have g4 := (GY.out.below' hw).cell 4; have p4 := (PY.out.below' hw).cell 4; have p5 := (PY.out.below' hw).cell 5; have e0 := HE0.out w' hw; have e1 := HE1.out w' hw; go_simp; try with_reducible rfl)
          try simp only [put_laws]
          refine wpAnyT_take (i := 23) (v := ?_) rfl (by kernel_rfl) (by kernel_rfl) (by kernel_rfl) (by kernel_rfl) (by kernel_rfl) (fun _ _ _ h => h) (.inl ⟨by kernel_rfl, ?_⟩) hS ?_
          rotate_left
          · (intro w' hw; have c0 := (CY.out.below' hw).cell 0; have c1 := (CY.out.below' hw).cell 1; have c2 := (CY.out.below' hw).cell 2; have c3 := (CY.out.below' hw).cell 3; have c4 := (CY.out.below' hw).cell 4; have g0 := (GY.out.below' hw).cell 0; have g1 := (GY.out.below' hw).cell 1; have g2 := (GY.out.below' hw).cell 2; have g3 := (GY.out.below' hw).cell 3; have g4 := (GY.out.below' hw).cell 4; have p4 := (PY.out.below' hw).cell 4; have p5 := (PY.out.below' hw).cell 5; have e0 := HE0.out w' hw; have e1 := HE1.out w' hw; go_simp; try with_reducible rfl)
          try simp only [put_laws]
          refine wpAnyT_take (i := 24) (v := ?_) rfl (by kernel_rfl) (by kernel_rfl) (by kernel_rfl) (by kernel_rfl) (by kernel_rfl) (fun _ _ _ h => h) (.inl ⟨by kernel_rfl, ?_⟩) hS ?_
          rotate_left
          · (intro w' hw; have c0 := (CY.out.below' hw).cell 0; have c1 := (CY.out.below' hw).cell 1; have c2 := (CY.out.below' hw).cell 2; have c3 := (CY.out.below' hw).cell 3; have c4 := (CY.out.below' hw).cell 4; have g0 := (GY.out.below' hw).cell 0; have g1 := (GY.out.below' hw).cell 1; have g2 := (GY.out.below' hw).cell 2; have g3 := (GY.out.below' hw).cell 3; have g4 := (GY.out.below' hw).cell 4; have p4 := (PY.out.below' hw).cell 4; have p5 := (PY.out.below' hw).cell 5; have e0 := HE0.out w' hw; have e1 := HE1.out w' hw; go_simp; try with_reducible rfl)
          try simp only [put_laws]
          refine wpAnyT_take (i := 25) (v := ?_) rfl (by kernel_rfl) (by kernel_rfl) (by kernel_rfl) (by kernel_rfl) (by kernel_rfl) (fun _ _ _ h => h) (.inl ⟨by kernel_rfl, ?_⟩) hS ?_
          rotate_left
          · (intro w' hw; have c0 := (CY.out.below' hw).cell 0; have c1 := (CY.out.below' hw).cell 1; have c2 := (CY.out.below' hw).cell 2; have c3 := (CY.out.below' hw).cell 3; have c4 := (CY.out.below' hw).cell 4; have g0 := (GY.out.below' hw).cell 0; have g1 := (GY.out.below' hw).cell 1; have g2 := (GY.out.below' hw).cell 2; have g3 := (GY.out.below' hw).cell 3; have g4 := (GY.out.below' hw).cell 4; have p4 := (PY.out.below' hw).cell 4; have p5 := (PY.out.below' hw).cell 5; have e0 := HE0.out w' hw; have e1 := HE1.out w' hw; go_simp; try with_reducible rfl)
          try simp only [put_laws]
          refine wpAnyT_take (i := 26) (v := ?_) rfl (by kernel_rfl) (by kernel_rfl) (by kernel_rfl) (by kernel_rfl) (by kernel_rfl) (fun _ _ _ h => h) (.inl ⟨by kernel_rfl, ?_⟩) hS ?_
          rotate_left
          · (intro w' hw; have c0 := (CY.out.below' hw).cell 0; have c1 := (CY.out.below' hw).cell 1; have c2 := (CY.out.below' hw).cell 2; have c3 := (CY.out.below' hw).cell 3; have c4 := (CY.out.below' hw).cell 4; have g0 := (GY.out.below' hw).cell 0; have g1 := (GY.out.below' hw).cell 1; have g2 := (GY.out.below' hw).cell 2; have g3 := (GY.out.below' hw).cell 3; have g4 := (GY.out.below' hw).cell 4; have p4 := (PY.out.below' hw).cell 4; have p5 := (PY.out.below' hw).cell 5; have e0 := HE0.out w' hw; have e1 := HE1.out w' hw; go_simp; try with_reducible rfl)
          try simp only [put_laws]
          refine wpAnyT_one (i := 27) (by kernel_rfl) rfl ?_
          intro K' hK'
          go_simp
          refine hK'.out _ _ (.inl rfl) ?_
          clear hK' K'
          try simp only [put_laws]
          refine wpAnyT_done (by kernel_rfl) ?_ _
          go_wp2_with fail
          go_ret
          exact ⟨ret_bool HEF.out.symm, HY.out.trans (Below.mono hS hzY)⟩
        · have d2 : (f1 != dst) = false := by rw [q2]; simp
          have HFL := Lib.hid (show R = M.allTo ln fun i => M.allTo s.nt fun t => !M.legC l (L i) t by rw [HIR2.out, decide_eq_true q1, decide_eq_true q2]; rfl)
          clear q1 q2
          refine wp_region_T 27 (fun w' => Below Y.heap.size Y w') (by kernel_rfl) (Below.refl _ _).drew ?_
          intro hS
          refine wpAnyT_take (i := 0) (v := ?_) rfl (by kernel_rfl) (by kernel_rfl) (by kernel_rfl) (by kernel_rfl) (by kernel_rfl) (fun _ _ _ h => h) (.inl ⟨by kernel_rfl, ?_⟩) hS ?_
          rotate_left
          · (intro w' hw; have c0 := (CY.out.below' hw).cell 0; have c1 := (CY.out.below' hw).cell 1; have c2 := (CY.out.below' hw).cell 2; have c3 := (CY.out.below' hw).cell 3; have c4 := (CY.out.below' hw).cell 4; have g0 := (GY.out.below' hw).cell 0; have g1 := (GY.out.below' hw).cell 1; have g2 := (GY.out.below' hw).cell 2; have g3 := (GY.out.below' hw).cell 3; have g4 := (GY.out.below' hw).cell 4; have p4 := (PY.out.below' hw).cell 4; have p5 := (PY.out.below' hw).cell 5; have e0 := HE0.out w' hw; have e1 := HE1.out w' hw; go_simp; try with_reducible rfl)
          try simp only [put_laws]
          refine wpAnyT_take (i := 1) (v := ?_) rfl (by kernel_rfl) (by kernel_rfl) (by kernel_rfl) (by kernel_rfl) (by kernel_rfl) (fun _ _ _ h => h) (.inl ⟨by kernel_rfl, ?_⟩) hS ?_
          rotate_left
          · (intro w' hw; have c0 := (CY.out.below' hw).cell 0; have c1 := (CY.out.below' hw).cell 1; have c2 := (CY.out.below' hw).cell 2; have c3 := (CY.out.below' hw).cell 3; have c4 := (CY.out.below' hw).cell 4; have g0 := (GY.out.below' hw).cell 0; have g1 := (GY.out.below' hw).cell 1; have g2 := (GY.out.below' hw).cell 2; have g3 := (GY.out.below' hw).cell 3; have g4 := (GY.out.below' hw).cell 4; have p4 := (PY.out.below' hw).cell 4; have p5 := (PY.out.below' hw).cell 5; have e0 := HE0.out w' hw; have e1 := HE1.out w' hw; go_simp; try with_reducible rfl)
          try simp only [put_laws]
          refine wpAnyT_take (i := 2) (v := ?_) rfl (by kernel_rfl) (by kernel_rfl) (by kernel_rfl) (by kernel_rfl) (by kernel_rfl) (fun _ _ _ h => h) (.inl ⟨by kernel_rfl, ?_⟩) hS ?_
          rotate_left
          · (intro w' hw; have c0 := (CY.out.below' hw).cell 0; have c1 := (CY.out.below' hw).cell 1; have c2 := (CY.out.below' hw).cell 2; have c3 := (CY.out.below' hw).cell 3; have c4 := (CY.out.below' hw).cell 4; have g0 := (GY.out.below' hw).cell 0; have g1 := (GY.out.below' hw).cell 1; have g2 := (GY.out.below' hw).cell 2; have g3 := (GY.out.below' hw).cell 3; have g4 := (GY.out.below' hw).cell 4; have p4 := (PY.out.below' hw).cell 4; have p5 := (PY.out.below' hw).cell 5; have e0 := HE0.out w' hw; have e1 := HE1.out w' hw; go_simp; try with_reducible rfl)
          try simp only [put_laws]
          refine wpAnyT_take (i := 3) (v := ?_) rfl (by kernel_rfl) (by kernel_rfl) (by kernel_rfl) (by kernel_rfl) (by kernel_rfl) (fun _ _ _ h => h) (.inl ⟨by kernel_rfl, ?_⟩) hS ?_
          rotate_left
          · (intro w' hw; have c0 := (CY.out.below' hw).cell 0; have c1 := (CY.out.below' hw).cell 1; have c2 := (CY.out.below' hw).cell 2; have c3 := (CY.out.below' hw).cell 3; have c4 := (CY.out.below' hw).cell 4; have g0 := (GY.out.below' hw).cell 0; have g1 := (GY.out.below' hw).cell 1; have g2 := (GY.out.below' hw).cell 2; have g3 := (GY.out.below' hw).cell 3; have g4 := (GY.out.below' hw).cell 4; have p4 := (PY.out.below' hw).cell 4; have p5 := (PY.out.below' hw).cell 5; have e0 := HE0.out w' hw; have e1 := HE1.out w' hw; go_simp; try with_reducible rfl)
          try simp only [put_laws]
          refine wpAnyT_take (i := 4) (v := ?_) rfl (by kernel_rfl) (by kernel_rfl) (by kernel_rfl) (by kernel_rfl) (by kernel_rfl) (fun _ _ _ h => h) (.inl ⟨by kernel_rfl, ?_⟩) hS ?_
          rotate_left
          · (intro w' hw; have c0 := (CY.out.below' hw).cell 0; have c1 := (CY.out.below' hw).cell 1; have c2 := (CY.out.below' hw).cell 2; have c3 := (CY.out.below' hw).cell 3; have c4 := (CY.out.below' hw).cell 4; have g0 := (GY.out.below' hw).cell 0; have g1 := (GY.out.below' hw).cell 1; have g2 := (GY.out.below' hw).cell 2; have g3 := (GY.out.below' hw).cell 3; have g4 := (GY.out.below' hw).cell 4; have p4 := (PY.out.below' hw).cell 4; have p5 := (PY.out.below' hw).cell 5; have e0 := HE0.out w' hw; have e1 := HE1.out w' hw; go_simp; try with_reducible rfl)
          try simp only [put_laws]
          refine wpAnyT_take (i := 5) (v := ?_) rfl (by kernel_rfl) (by kernel_rfl) (by kernel_rfl) (by kernel_rfl) (by kernel_rfl) (fun _ _ _ h => h) (.inl ⟨by kernel_rfl, ?_⟩) hS ?_
          rotate_left
          · (intro w' hw; have c0 := (CY.out.below' hw).cell 0; have c1 := (CY.out.below' hw).cell 1; have c2 := (CY.out.below' hw).cell 2; have c3 := (CY.out.below' hw).cell 3; have c4 := (CY.out.below' hw).cell 4; have g0 := (GY.out.below' hw).cell 0; have g1 := (GY.out.below' hw).cell 1; have g2 := (GY.out.below' hw).cell 2; have g3 := (GY.out.below' hw).cell 3; have g4 := (GY.out.below' hw).cell 4; have p4 := (PY.out.below' hw).cell 4; have p5 := (PY.out.below' hw).cell 5; have e0 := HE0.out w' hw; have e1 := HE1.out w' hw; go_simp; try with_reducible rfl)
          try simp only [put_laws]
          refine wpAnyT_one (i := 6) (by kernel_rfl) rfl ?_
          intro K' hK'
          go_simp
          refine (HIL.out _ hS).mono ?_
          rintro e w8 ⟨rfl, hb8⟩
          have hS' := Below.trans hS (Below.mono hb8 (Below.size hS))
          clear hS
          have hS := hS'
          clear hS' hb8
          refine hK'.out _ _ (.inr hS) ?_
          clear hK' K'
          try simp only [put_laws]
          refine wpAnyT_one (i := 7) (by kernel_rfl) rfl ?_
          intro K' hK'
          go_simp
          refine hK'.out _ _ (.inr hS) ?_
          clear hK' K'
          try simp only [put_laws]
          refine wpAnyT_one (i := 8) (by kernel_rfl) rfl ?_
          intro K' hK'
          go_simp
          refine hK'.out _ _ (.inr hS) ?_
          clear hK' K'
          try simp only [put_laws]
          refine wpAnyT_one (i := 9) (by kernel_rfl) rfl ?_
          intro K' hK'
          go_simp
          refine hK'.out _ _ (.inr hS) ?_
          clear hK' K'
          try simp only [put_laws]
          refine wpAnyT_take (i := 10) (v := ?_) rfl (by kernel_rfl) (by kernel_rfl) (by kernel_rfl) (by kernel_rfl) (by kernel_rfl) (fun _ _ _ h => h) (.inl ⟨by kernel_rfl, ?_⟩) hS ?_
          rotate_left
          · (intro w' hw; have c0 := (CY.out.below' hw).cell 0; have c1 := (CY.out.below' hw).cell 1; have c2 := (CY.out.below' hw).cell 2; have c3 := (CY.out.below' hw).cell 3; have c4 := (CY.out.below' hw).cell 4; have g0 := (GY.out.below' hw).cell 0; have g1 := (GY.out.below' hw).cell 1; have g2 := (GY.out.below' hw).cell 2; have g3 := (GY.out.below' hw).cell 3; have g4 := (GY.out.below' hw).cell 4; have p4 := (PY.out.below' hw).cell 4; have p5 := (PY.out.below' hw).cell 5; have e0 := HE0.out w' hw; have e1 := HE1.out w' hw; go_simp; try with_reducible rfl)
          try simp only [put_laws]
          refine wpAnyT_take (i := 11) (v := ?_) rfl (by kernel_rfl) (by kernel_rfl) (by kernel_rfl) (by kernel_rfl) (by kernel_rfl) (fun _ _ _ h => h) (.inl ⟨by kernel_rfl, ?_⟩) hS ?_
          rotate_left
          · (intro w' hw; have c0 := (CY.out.below' hw).cell 0; have c1 := (CY.out.below' hw).cell 1; have c2 := (CY.out.below' hw).cell 2; have c3 := (CY.out.below' hw).cell 3; have c4 := (CY.out.below' hw).cell 4; have g0 := (GY.out.below' hw).cell 0; have g1 := (GY.out.below' hw).cell 1; have g2 := (GY.out.below' hw).cell 2; have g3 := (GY.out.below' hw).cell 3; have g4 := (GY.out.below' hw).cell 4; have p4 := (PY.out.below' hw).cell 4; have p5 := (PY.out.below' hw).cell 5; have e0 := HE0.out w' hw; have e1 := HE1.out w' hw; go_simp; try with_reducible rfl)
          try simp only [put_laws]
          refine wpAnyT_take (i := 12) (v := ?_) rfl (by kernel_rfl) (by kernel_rfl) (by kernel_rfl) (by kernel_rfl) (by kernel_rfl) (fun _ _ _ h => h) (.inl ⟨by kernel_rfl, ?_⟩) hS ?_
          rotate_left
          · (intro w' hw; have c0 := (CY.out.below' hw).cell 0; have c1 := (CY.out.below' hw).cell 1; have c2 := (CY.out.below' hw).cell 2; have c3 := (CY.out.below' hw).cell 3; have c4 := (CY.out.below' hw).cell 4; have g0 := (GY.out.below' hw).cell 0; have g1 := (GY.out.below' hw).cell 1; have g2 := (GY.out.below' hw).cell 2; have g3 := (GY.out.below' hw).cell 3; have g4 := (GY.out.below' hw).cell 4; have p4 := (PY.out.below' hw).cell 4; have p5 := (PY.out.below' hw).cell 5; have e0 := HE0.out w' hw; have e1 := HE1.out w' hw; go_simp; try with_reducible rfl)
          try simp only [put_laws]
          refine wpAnyT_take (i := 13) (v := ?_) rfl (by kernel_rfl) (by kernel_rfl) (by kernel_rfl) (by kernel_rfl) (by kernel_rfl) (fun _ _ _ h => h) (.inl ⟨by kernel_rfl, ?_⟩) hS ?_
          rotate_left
          · (intro w' hw; have c0 := (CY.out.below' hw).cell 0; have c1 := (CY.out.below' hw).cell 1; have c2 := (CY.out.below' hw).cell 2; have c3 := (CY.out.below' hw).cell 3; have c4 := (CY.out.below' hw).cell 4; have g0 := (GY.out.below' hw).cell 0; have g1 := (GY.out.below' hw).cell 1; have g2 := (GY.out.below' hw).cell 2; have g3 := (GY.out.below' hw).cell 3; have g4 := (GY.out.below' hw).cell 4; have p4 := (PY.out.below' hw).cell 4; have p5 := (PY.out.below' hw).cell 5; have e0 := HE0.out w' hw; have e1 := HE1.out w' hw; go_simp; try with_reducible rfl)
          try simp only [put_laws]
          refine wpAnyT_take (i := 14) (v := ?_) rfl (by kernel_rfl) (by kernel_rfl) (by kernel_rfl) (by kernel_rfl) (by kernel_rfl) (fun _ _ _ h => h) (.inl ⟨by kernel_rfl, ?_⟩) hS ?_
          rotate_left
          · (intro w' hw; have c0 := (CY.out.below' hw).cell 0; have c1 := (CY.out.below' hw).cell 1; have c2 := (CY.out.below' hw).cell 2; have c3 := (CY.out.below' hw).cell 3; have c4 := (CY.out.below' hw).cell 4; have g0 := (GY.out.below' hw).cell 0; have g1 := (GY.out.below' hw).cell 1; have g2 := (GY.out.below' hw).cell 2; have g3 := (GY.out.below' hw).cell 3; have g4 := (GY.out.below' hw).cell 4; have p4 := (PY.out.below' hw).cell 4; have p5 := (PY.out.below' hw).cell 5; have e0 := HE0.out w' hw; have e1 := HE1.out w' hw; go_simp; try with_reducible rfl)
          try simp only [put_laws]
          refine wpAnyT_take (i := 15) (v := ?_) rfl (by kernel_rfl) (by kernel_rfl) (by kernel_rfl) (by kernel_rfl) (by kernel_rfl) (fun _ _ _ h => h) (.inl ⟨by kernel_rfl, ?_⟩) hS ?_
          rotate_left
          · (intro w' hw; have c0 := (CY.out.below' hw).cell 0; have c1 := (CY.out.below' hw).cell 1; have c2 := (CY.out.below' hw).cell 2; have c3 := (CY.out.below' hw).cell 3; have c4 := (CY.out.below' hw).cell 4; have g0 := (GY.out.below' hw).cell 0; have g1 := (GY.out.below' hw).cell 1; have g2 := (GY.out.below' hw).cell 2; have g3 := (GY.out.below' hw).cell 3; have g4 := (GY.out.below' hw).cell 4; have p4 := (PY.out.below' hw).cell 4; have p5 := (PY.out.below' hw).cell 5; have e0 := HE0.out w' hw; have e1 := HE1.out w' hw; go_simp; try with_reducible rfl)
          try simp only [put_laws]
          refine wpAnyT_one (i := 16) (by kernel_rfl) rfl ?_
          intro K' hK'
          go_simp
          refine hK'.out _ _ (.inr hS) ?_
          clear hK' K'
          try simp only [put_laws]
          refine wpAnyT_one (i := 17) (by kernel_rfl) rfl ?_
          intro K' hK'
          go_simp
          refine hK'.out _ _ (.inr hS) ?_
          clear hK' K'
          try simp only [put_laws]
          refine wpAnyT_take (i := 18) (v := ?_) rfl (by kernel_rfl) (by kernel_rfl) (by kernel_rfl) (by kernel_rfl) (by kernel_rfl) (fun _ _ _ h => h) (.inl ⟨by kernel_rfl, ?_⟩) hS ?_
          rotate_left
          · (intro w' hw; have c0 := (CY.out.below' hw).cell 0; have c1 := (CY.out.below' hw).cell 1; have c2 := (CY.out.below' hw).cell 2; have c3 := (CY.out.below' hw).cell 3; have c4 := (CY.out.below' hw).cell 4; have g0 := (GY.out.below' hw).cell 0; have g1 := (GY.out.below' hw).cell 1; have g2 := (GY.out.below' hw).cell 2; have g3 := (GY.out.below' hw).cell 3; have g4 := (GY.out.below' hw).cell 4; have p4 := (PY.out.below' hw).cell 4; have p5 := (PY.out.below' hw).cell 5; have e0 := HE0.out w' hw; have e1 := HE1.out w' hw; go_simp; try with_reducible rfl)
          try simp only [put_laws]
          refine wpAnyT_take (i := 19) (v := ?_) rfl (by kernel_rfl) (by kernel_rfl) (by kernel_rfl) (by kernel_rfl) (by kernel_rfl) (fun _ _ _ h => h) (.inl ⟨by kernel_rfl, ?_⟩) hS ?_
          rotate_left
          · (intro w' hw; have c0 := (CY.out.below' hw).cell 0; have c1 := (CY.out.below' hw).cell 1; have c2 := (CY.out.below' hw).cell 2; have c3 := (CY.out.below' hw).cell 3; have c4 := (CY.out.below' hw).cell 4; have g0 := (GY.out.below' hw).cell 0; have g1 := (GY.out.below' hw).cell 1; have g2 := (GY.out.below' hw).cell 2; have g3 := (GY.out.below' hw).cell 3; have g4 := (GY.out.below' hw).cell 4; have p4 := (PY.out.below' hw).cell 4; have p5 := (PY.out.below' hw).cell 5; have e0 := HE0.out w' hw; have e1 := HE1.out w' hw; go_simp; try with_reducible rfl)
          try simp only [put_laws]
          refine wpAnyT_take (i := 20) (v := ?_) rfl (by kernel_rfl) (by kernel_rfl) (by kernel_rfl) (by kernel_rfl) (by kernel_rfl) (fun _ _ _ h => h) (.inl ⟨by kernel_rfl, ?_⟩) hS ?_
          rotate_left
          · (intro w' hw; have c0 := (CY.out.below' hw).cell 0; have c1 := (CY.out.below' hw).cell 1; have c2 := (CY.out.below' hw).cell 2; have c3 := (CY.out.below' hw).cell 3; have c4 := (CY.out.below' hw).cell 4; have g0 := (GY.out.below' hw).cell 0; have g1 := (GY.out.below' hw).cell 1; have g2 := (GY.out.below' hw).cell 2; have g3 := (GY.out.below' hw).cell 3; have g4 := (GY.out.below' hw).cell 4; have p4 := (PY.out.below' hw).cell 4; have p5 := (PY.out.below' hw).cell 5; have e0 := HE0.out w' hw; have e1 := HE1.out w' hw; go_simp; try with_reducible rfl)
          try simp only [put_laws]
          refine wpAnyT_take (i := 21) (v := ?_) rfl (by kernel_rfl) (by kernel_rfl) (by kernel_rfl) (by kernel_rfl) (by kernel_rfl) (fun _ _ _ h => h) (.inl ⟨by kernel_rfl, ?_⟩) hS ?_
          rotate_left
          · (intro w' hw; have c0 := (CY.out.below' hw).cell 0; have c1 := (CY.out.below' hw).cell 1; have c2 := (CY.out.below' hw).cell 2; have c3 := (CY.out.below' hw).cell 3; have c4 := (CY.out.below' hw).cell 4; have g0 := (GY.out.below' hw).cell 0; have g1 := (GY.out.below' hw).cell 1; have g2 := (GY.out.below' hw).cell 2; have g3 := (GY.out.below' hw).cell 3; have g4 := (GY.out.below' hw).cell 4; have p4 := (PY.out.below' hw).cell 4; have p5 := (PY.out.below' hw).cell 5; have e0 := HE0.out w' hw; have e1 := HE1.out w' hw; go_simp; try with_reducible rfl)
          try simp only [put_laws]
          refine wpAnyT_take (i := 22) (v := ?_) rfl (by kernel_rfl) (by kernel_rfl) (by kernel_rfl) (by kernel_rfl) (by kernel_rfl) (fun _ _ _ h => h) (.inl ⟨by kernel_rfl, ?_⟩) hS ?_
          rotate_left
          · (intro w' hw; have c0 := (CY.out.below' hw).cell 0; have c1 := (CY.out.below' hw).cell 1; have c2 := (CY.out.below' hw).cell 2; have c3 := (CY.out.below' hw).cell 3; have c4 := (CY.out.below' hw).cell 4; have g0 := (GY.out.below' hw).cell 0; have g1 := (GY.out.below' hw).cell 1; have g2 := (GY.out.below' hw).cell 2; have g3 := (GY.out.below' hw).cell 3; have g4 := (GY.out.below' hw).cell 4; have p4 := (PY.out.below' hw).cell 4; have p5 := (PY.out.below' hw).cell 5; have e0 := HE0.out w' hw; have e1 := HE1.out w' hw; go_simp; try with_reducible rfl)
          try simp only [put_laws]
          refine wpAnyT_take (i := 23) (v := ?_) rfl (by kernel_rfl) (by kernel_rfl) (by kernel_rfl) (by kernel_rfl) (by kernel_rfl) (fun _ _ _ h => h) (.inl ⟨by kernel_rfl, ?_⟩) hS ?_
          rotate_left
          · (intro w' hw; have c0 := (CY.out.below' hw).cell 0; have c1 := (CY.out.below' hw).cell 1; have c2 := (CY.out.below' hw).cell 2; have c3 := (CY.out.below' hw).cell 3; have c4 := (CY.out.below' hw).cell 4; have g0 := (GY.out.below' hw).cell 0; have g1 := (GY.out.below' hw).cell 1; have g2 := (GY.out.below' hw).cell 2; have g3 := (GY.out.below' hw).cell 3; have g4 := (GY.out.below' hw).cell 4; have p4 := (PY.out.below' hw).cell 4; have p5 := (PY.out.below' hw).cell 5; have e0 := HE0.out w' hw; have e1 := HE1.out w' hw; go_simp; try with_reducible rfl)
          try simp only [put_laws]
          refine wpAnyT_take (i := 24) (v := ?_) rfl (by kernel_rfl) (by kernel_rfl) (by kernel_rfl) (by kernel_rfl) (by kernel_rfl) (fun _ _ _ h => h) (.inl ⟨by kernel_rfl, ?_⟩) hS ?_
          rotate_left
          · (intro w' hw; have c0 := (CY.out.below' hw).cell 0; have c1 := (CY.out.below' hw).cell 1; have c2 := (CY.out.below' hw).cell 2; have c3 := (CY.out.below' hw).cell 3; have c4 := (CY.out.below' hw).cell 4; have g0 := (GY.out.below' hw).cell 0; have g1 := (GY.out.below' hw).cell 1; have g2 := (GY.out.below' hw).cell 2; have g3 := (GY.out.below' hw).cell 3; have g4 := (GY.out.below' hw).cell 4; have p4 := (PY.out.below' hw).cell 4; have p5 := (PY.out.below' hw).cell 5; have e0 := HE0.out w' hw; have e1 := HE1.out w' hw; go_simp; try with_reducible rfl)
          try simp only [put_laws]
          refine wpAnyT_take (i := 25) (v := ?_) rfl (by kernel_rfl) (by kernel_rfl) (by kernel_rfl) (by kernel_rfl) (by kernel_rfl) (fun _ _ _ h => h) (.inl ⟨by kernel_rfl, ?_⟩) hS ?_
          rotate_left
          · (intro w' hw; have c0 := (CY.out.below' hw).cell 0; have c1 := (CY.out.below' hw).cell 1; have c2 := (CY.out.below' hw).cell 2; have c3 := (CY.out.below' hw).cell 3; have c4 := (CY.out.below' hw).cell 4; have g0 := (GY.out.below' hw).cell 0; have g1 := (GY.out.below' hw).cell 1; have g2 := (GY.out.below' hw).cell 2; have g3 := (GY.out.below' hw).cell 3; have g4 := (GY.out.below' hw).cell 4; have p4 := (PY.out.below' hw).cell 4; have p5 := (PY.out.below' hw).cell 5; have e0 := HE0.out w' hw; have e1 := HE1.out w' hw; go_simp; try with_reducible rfl)
          try simp only [put_laws]
          refine wpAnyT_take (i := 26) (v := ?_) rfl (by kernel_rfl) (by kernel_rfl) (by kernel_rfl) (by kernel_rfl) (by kernel_rfl) (fun _ _ _ h => h) (.inl ⟨by kernel_rfl, ?_⟩) hS ?_
          rotate_left
          · (intro w' hw; have c0 := (CY.out.below' hw).cell 0; have c1 := (CY.out.below' hw).cell 1; have c2 := (CY.out.below' hw).cell 2; have c3 := (CY.out.below' hw).cell 3; have c4 := (CY.out.below' hw).cell 4; have g0 := (GY.out.below' hw).cell 0; have g1 := (GY.out.below' hw).cell 1; have g2 := (GY.out.below' hw).cell 2; have g3 := (GY.out.below' hw).cell 3; have g4 := (GY.out.below' hw).cell 4; have p4 := (PY.out.below' hw).cell 4; have p5 := (PY.out.below' hw).cell 5; have e0 := HE0.out w' hw; have e1 := HE1.out w' hw; go_simp; try with_reducible rfl)
          try simp only [put_laws]
          refine wpAnyT_one (i := 27) (by kernel_rfl) rfl ?_
          intro K' hK'
          go_simp
          refine hK'.out _ _ (.inl rfl) ?_
          clear hK' K'
          try simp only [put_laws]
          refine wpAnyT_done (by kernel_rfl) ?_ _
          have HS := Lib.hid hS
          have HZ := Lib.hid (HY.out.trans (Below.mono hS hzY))
          obtain ⟨Z, rfl⟩ : ∃ Z, Z = w8 := ⟨_, rfl⟩
          have CZ := Lib.hid (CY.out.below' hS)
          have GZ := Lib.hid (GY.out.below' hS)
          have hzz := HZ.out.size
          clear hS
          go_wp2_with fail
          go_loopw [10] (fun i wr => ∃ k : Nat, k ≤ ln ∧ i = .int .i64 (k : Int) ∧ Hid (M.allTo k (fun i => M.allTo s.nt fun t => !M.legC l (L i) t) = true) ∧ Below Z.heap.size Z wr) (fun i _ => ln - (intOf i).toNat)
          case atStart => exact ⟨0, Nat.zero_le _, rfl, Lib.hid rfl, (Below.refl _ _)⟩
          case round =>
            obtain ⟨k, hk, rfl, HF, hbw⟩ := hrel
            have HW := Lib.hid hbw
            have hzr := hbw.size
            clear hbw
            obtain ⟨wo, rfl⟩ : ∃ wo, wo = wr := ⟨_, rfl⟩
            by_cases hlt : k < ln
            · have HNX := Lib.hid (show M.allTo (k + 1) (fun i => M.allTo s.nt fun t => !M.legC l (L i) t) = (M.allTo k (fun i => M.allTo s.nt fun t => !M.legC l (L i) t) && M.allTo s.nt fun t => !M.legC l (L k) t) from rfl)
              have HNO := Lib.hid (fun (t : Nat) (ht : t < s.nt) (h : M.legC l (L k) t = true) => (show R = false by
                rw [HFL.out]
                refine M.allTo_no hlt ?_
                exact M.allTo_no ht (by simp only [h]; rfl)))
              have kx : decide (ln ≤ k) = false := decide_eq_false (by omega)
              go_wp2_with fail
              go_loopw [11] (fun i wq => ∃ t : Nat, t ≤ s.nt ∧ i = .int .i64 (t : Int) ∧ Hid (∀ u : Nat, u < t → M.legC l (L k) u = false) ∧ Below wo.heap.size wo wq) (fun i _ => s.nt - (intOf i).toNat)
              case atStart => exact ⟨0, Nat.zero_le _, rfl, Lib.hid fun u hu => absurd hu (by omega), Below.refl _ _⟩
              case round =>
                obtain ⟨t, ht, rfl, HNT, hbt⟩ := hrel
                have HT := Lib.hid hbt
                have HBt := Lib.hid (HZ.out.trans ((HW.out.trans (hbt.mono hzr)).mono hzz))
                have HZt := Lib.hid (HW.out.trans (hbt.mono hzr))
                have hzt := hbt.size
                clear hbt
                have c3 := (CZ.out.below' HZt.out).cell 3
                by_cases hlt2 : t < s.nt
                · have g0 := (GZ.out.below' HZt.out).cell 0
                  have g1 := (GZ.out.below' HZt.out).cell 1
                  have g2 := (GZ.out.below' HZt.out).cell 2
                  have g3 := (GZ.out.below' HZt.out).cell 3
                  have g4 := (GZ.out.below' HZt.out).cell 4
                  obtain ⟨b, off, rfl, hb, l0, l1, l2, l3, cA', cc', l4, hr, hm⟩ := (HLV.out wr HBt.out).at_ hlt
                  have HCC := Lib.hid (fun W (hb2 : Below wr.heap.size wr W) => (show Calls Tryd.prog 19 #[.agg #[.int .i64 at_, .int .i64 lv, .int .i64 dr, .bool tl, .slice (some ⟨cb, co, none⟩) n cc], .agg #[.int .i64 (L k).at_, .int .i64 (L k).lv, .int .i64 (L k).dr, .bool (L k).tail, .slice cA' (L k).n cc'], .int .i64 (t : Int)] W fun e w' => e = .returned (.bool (M.legC l (L k) (t : Int))) ∧ Below W.heap.size W w' from by
                    have hh := HAT.out k hlt
                    have ha := HAL.out
                    have h := rclash_any l (L k) cc cc' B (some ⟨cb, co, none⟩) cA' (t : Int) W (by omega) (by omega) (by omega) (by omega) (by omega) (by rw [HLL.out.2.2.2.2.1, HLL.out.2.2.2.2.2]; exact HCV.out W (HBt.out.trans (hb2.mono HBt.out.size))) (hr.below (hb2.mono (Nat.le_trans HBB.out HBt.out.size))) (Nat.le_trans (Nat.le_trans HBB.out HBt.out.size) hb2.size)
                    obtain ⟨x1, x2, x3, x4, x5, x6⟩ := HLL.out
                    rw [x1, x2, x3, x4, x5] at h
                    exact h))
                  clear hr hm
                  obtain ⟨cv, hcv⟩ : ∃ cv, cv = M.legC l (L k) (t : Int) := ⟨_, rfl⟩
                  rw [← hcv] at HCC
                  have HCVV := Lib.hid hcv
                  clear hcv
                  go_upto_region 10 with fail
                  clear c3
                  go_still_tail 6, (by kernel_rfl)
                  cases cv
                  · go_wp2_with (go_at_call 19; go_must (refine (HCC.out _ (Below.refl _ _).drew).mono ?_); rintro e w9 ⟨rfl, hb9⟩; have HB9 := Lib.hid ((Below.refl _ _).drew.trans (hb9.mono (Nat.le_refl _))); clear hb9)
                    go_roundw
                    case rel => exact ⟨t + 1, by omega, by go_num, Lib.hid fun u hu => by
                      rcases Nat.lt_succ_iff_lt_or_eq.1 hu with h | h
                      · exact HNT.out u h
                      · subst h; exact HCVV.out.symm, HT.out.trans (HB9.out.mono hzt)⟩
                    case measure => simp [intOf]; omega
                  · have HEF := Lib.hid (HNO.out t hlt2 HCVV.out.symm)
                    go_wp2_with (go_at_call 19; go_must (refine (HCC.out _ (Below.refl _ _).drew).mono ?_); rintro e w9 ⟨rfl, hb9⟩; have HB9 := Lib.hid ((Below.refl _ _).drew.trans (hb9.mono (Nat.le_refl _))); clear hb9)
                    go_ret
                    exact ⟨ret_bool HEF.out.symm, HBt.out.trans (HB9.out.mono HBt.out.size)⟩
                · obtain rfl : t = s.nt := by omega
                  have HAL2 := Lib.hid (show M.allTo s.nt (fun t => !M.legC l (L k) t) = true from M.allTo_iff.2 fun u hu => by rw [HNT.out u hu]; rfl)
                  go_wp2_with fail
                  go_roundw
                  case rel => exact ⟨k + 1, by omega, by go_num, Lib.hid (by rw [HNX.out, HF.out, HAL2.out]; rfl), HZt.out⟩
                  case measure => simp [intOf]; omega
            · obtain rfl : k = ln := by omega
              have HEF := Lib.hid (show R = true by rw [HFL.out, HF.out])
              go_wp2_with fail
              go_ret
              exact ⟨ret_bool HEF.out.symm, HZ.out.trans (HW.out.mono hzz)⟩
end
end Go.Proofs.YtkdpmihdhiokkaaDoor
