/- The reference: IsTrip, LegOf; is a route one (isRoute). -/
import Derived.Test.YtkdpmihdhiokkaaDoorR7
import Derived.Test.YtkdpmihdhiokkaaDoorR9
import Derived.Test.YtkdpmihdhiokkaaDoorK12
namespace Go.Proofs.YtkdpmihdhiokkaaDoor
open Go.RowKit

theorem leg_size : (Tryd.prog.info? 41).map (·.size) = some 5 := by kernel_rfl
section
variable (s : M.Sea) (dA tA sA : Option Addr) (dc tc sc : Nat) (at_ lv dr fr dst : Int) (tl : Bool) (w : World)
set_option maxRecDepth 100000 in
set_option maxHeartbeats 6400000 in
theorem istrip_ok (hs : s.Ok) :
    Calls Tryd.prog 12 #[.agg #[.int .i64 (s.W : Int), .int .i64 (s.H : Int), .slice dA s.nd dc, .slice tA s.nt tc, .slice sA s.nt sc], .agg #[.int .i64 at_, .int .i64 lv, .int .i64 dr, .bool tl, .int .i64 fr, .int .i64 dst]] w fun e w' => e = .returned (.bool (M.tripOk s ⟨at_, lv, dr, tl, fr, dst⟩)) ∧ Below w.heap.size w w' := by
  have HT := Lib.hid (show M.tripOk s ⟨at_, lv, dr, tl, fr, dst⟩ = (M.inB 0 ((s.nt : Int) - 1) at_ && M.inB 0 ((s.nd : Int) - 1) fr && M.inB 0 ((s.nd : Int) - 1) dst && M.unit lv dr) from rfl)
  obtain ⟨tv, htv⟩ : ∃ tv, tv = M.tripOk s ⟨at_, lv, dr, tl, fr, dst⟩ := ⟨_, rfl⟩
  rw [← htv] at HT
  rw [← htv]
  have HR := Lib.hid (belowAlloc2 w (.cells #[.int .i64 (s.W : Int), .int .i64 (s.H : Int), .slice dA s.nd dc, .slice tA s.nt tc, .slice sA s.nt sc] 25) (.cells #[.int .i64 at_, .int .i64 lv, .int .i64 dr, .bool tl, .int .i64 fr, .int .i64 dst] 28))
  have CR := Lib.hid ((Blk.new w 25 #[.int .i64 (s.W : Int), .int .i64 (s.H : Int), .slice dA s.nd dc, .slice tA s.nt tc, .slice sA s.nt sc]).alloc (.cells #[.int .i64 at_, .int .i64 lv, .int .i64 dr, .bool tl, .int .i64 fr, .int .i64 dst] 28))
  have PR := Lib.hid (Blk.new1 w (.cells #[.int .i64 (s.W : Int), .int .i64 (s.H : Int), .slice dA s.nd dc, .slice tA s.nt tc, .slice sA s.nt sc] 25) 28 #[.int .i64 at_, .int .i64 lv, .int .i64 dr, .bool tl, .int .i64 fr, .int .i64 dst])
  obtain ⟨X, hX⟩ : ∃ X, X = (w.alloc (.cells #[.int .i64 (s.W : Int), .int .i64 (s.H : Int), .slice dA s.nd dc, .slice tA s.nt tc, .slice sA s.nt sc] 25)).alloc (.cells #[.int .i64 at_, .int .i64 lv, .int .i64 dr, .bool tl, .int .i64 fr, .int .i64 dst] 28) := ⟨_, rfl⟩
  have HXe := Lib.hid hX
  rw [← hX] at HR CR PR
  clear hX htv
  have c0 := CR.out.cell 0
  have c1 := CR.out.cell 1
  have c2 := CR.out.cell 2
  have c3 := CR.out.cell 3
  have c4 := CR.out.cell 4
  have p0 := PR.out.cell 0
  have p1 := PR.out.cell 1
  have p2 := PR.out.cell 2
  have p4 := PR.out.cell 4
  have p5 := PR.out.cell 5
  have HTK := Lib.hid (fun W => ristick_ok s dA tA sA dc tc sc W at_ hs)
  have HCE := Lib.hid (fun W (q : Int) => riscell_ok s dA tA sA dc tc sc W q hs)
  have HUN := Lib.hid (fun W => runit_any lv dr W)
  clear hs
  cases q1 : M.inB 0 ((s.nt : Int) - 1) at_ <;> cases q2 : M.inB 0 ((s.nd : Int) - 1) fr <;> cases q3 : M.inB 0 ((s.nd : Int) - 1) dst <;> cases q4 : M.unit lv dr
  all_goals
    rw [q1, q2, q3, q4] at HT
    rw [q1] at HTK
    rw [q4] at HUN
    clear q1 q4
    go_enter Tryd.func12, Tryd.ntmps12
    go_upto_region 1 with fail
    rw [← HXe.out]
    clear HXe
    go_wp2_with (first
      | (go_at_call 32; go_must (refine (HTK.out _).mono ?_); rintro e w5 ⟨rfl, hb5⟩; have HR' := Lib.hid (HR.out.trans (hb5.mono HR.out.size)); have CR' := Lib.hid (CR.out.below' hb5); have PR' := Lib.hid (PR.out.below' hb5); clear hb5 HR CR PR c0 c1 c2 c3 c4 p0 p1 p2 p4 p5; have HR := HR'; have CR := CR'; have PR := PR'; clear HR' CR' PR'; have c0 := CR.out.cell 0; have c1 := CR.out.cell 1; have c2 := CR.out.cell 2; have c3 := CR.out.cell 3; have c4 := CR.out.cell 4; have p1 := PR.out.cell 1; have p2 := PR.out.cell 2; have p4 := PR.out.cell 4; have p5 := PR.out.cell 5)
      | (go_at_call 33; go_must (refine (HCE.out _ _).mono ?_); rintro e w5 ⟨rfl, hb5⟩; have HR' := Lib.hid (HR.out.trans (hb5.mono HR.out.size)); have CR' := Lib.hid (CR.out.below' hb5); have PR' := Lib.hid (PR.out.below' hb5); clear hb5 HR CR PR c0 c1 c2 c3 c4 p1 p2 p4 p5; have HR := HR'; have CR := CR'; have PR := PR'; clear HR' CR' PR'; have c0 := CR.out.cell 0; have c1 := CR.out.cell 1; have c2 := CR.out.cell 2; have c3 := CR.out.cell 3; have c4 := CR.out.cell 4; have p1 := PR.out.cell 1; have p2 := PR.out.cell 2; have p4 := PR.out.cell 4; have p5 := PR.out.cell 5)
      | (go_at_call 34; go_must (refine (HUN.out _).mono ?_); rintro e w5 ⟨rfl, h5⟩; rw [h5]; clear h5))
    go_ret
    exact ⟨ret_bool HT.out.symm, HR.out⟩
set_option maxRecDepth 100000 in
set_option maxHeartbeats 3200000 in
theorem legof_any (cA : Option Addr) (n cc : Nat) :
    Calls Tryd.prog 18 #[.agg #[.int .i64 at_, .int .i64 lv, .int .i64 dr, .bool tl, .int .i64 fr, .int .i64 dst], .slice cA n cc] w fun e w' => e = .returned (.agg #[.int .i64 at_, .int .i64 lv, .int .i64 dr, .bool tl, .slice cA n cc]) ∧ Below w.heap.size w w' := by
  have HB0 := Lib.hid (belowAlloc2 w (.cells #[.int .i64 at_, .int .i64 lv, .int .i64 dr, .bool tl, .int .i64 fr, .int .i64 dst] 28) (.cells #[.int .i64 0, .int .i64 0, .int .i64 0, .bool false, .slice none 0 0] 41))
  have R0 := Lib.hid (Blk.new1 w (.cells #[.int .i64 at_, .int .i64 lv, .int .i64 dr, .bool tl, .int .i64 fr, .int .i64 dst] 28) 41 #[.int .i64 0, .int .i64 0, .int .i64 0, .bool false, .slice none 0 0])
  have P0 := Lib.hid ((Blk.new w 28 #[.int .i64 at_, .int .i64 lv, .int .i64 dr, .bool tl, .int .i64 fr, .int .i64 dst]).alloc (.cells #[.int .i64 0, .int .i64 0, .int .i64 0, .bool false, .slice none 0 0] 41))
  obtain ⟨X, hX⟩ : ∃ X, X = (w.alloc (.cells #[.int .i64 at_, .int .i64 lv, .int .i64 dr, .bool tl, .int .i64 fr, .int .i64 dst] 28)).alloc (.cells #[.int .i64 0, .int .i64 0, .int .i64 0, .bool false, .slice none 0 0] 41) := ⟨_, rfl⟩
  have HXe := Lib.hid hX
  rw [← hX] at HB0 R0 P0
  clear hX
  have p0 := P0.out.cell 0
  have p1 := P0.out.cell 1
  have p2 := P0.out.cell 2
  have p3 := P0.out.cell 3
  have p4 := P0.out.cell 4
  have r0 := R0.out.cell 0
  have r1 := R0.out.cell 1
  have r2 := R0.out.cell 2
  have r3 := R0.out.cell 3
  have r4 := R0.out.cell 4
  have f0 := R0.out.frz 0
  have f1 := R0.out.frz 1
  have f2 := R0.out.frz 2
  have f3 := R0.out.frz 3
  have f4 := R0.out.frz 4
  go_enter Tryd.func18, Tryd.ntmps18
  go_upto_region 1 with fail
  rw [← HXe.out]
  clear HXe
  go_wp2_with fail
  have R1 := Lib.hid (((((R0.out.set_ 0 (.int .i64 at_)).set_ 1 (.int .i64 lv)).set_ 2 (.int .i64 dr)).set_ 3 (.bool tl)).set_ 4 (.slice cA n cc))
  refine bodyPost_ret (results_cell_row rfl _ _ (w.heap.size + 1) 41 _ (0, 0) _ rfl R1.out Tryd.underlying41 rfl leg_size) rfl ⟨rfl, ?_⟩
  exact ((((HB0.out.setCell (p := ⟨w.heap.size + 1, 0, none⟩) (Nat.le_succ _) _).setCell (p := ⟨w.heap.size + 1, 1, none⟩) (Nat.le_succ _) _).setCell (p := ⟨w.heap.size + 1, 2, none⟩) (Nat.le_succ _) _).setCell (p := ⟨w.heap.size + 1, 3, none⟩) (Nat.le_succ _) _).setCell (p := ⟨w.heap.size + 1, 4, none⟩) (Nat.le_succ _) _
end
end Go.Proofs.YtkdpmihdhiokkaaDoor
