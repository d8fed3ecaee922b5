/- The reference's initial. -/
import Derived.Test.YtfnfjmjejffjiaaDoorF1
namespace Go.Proofs.YtfnfjmjejffjiaaDoor
open Go.RowKit

theorem made3 (n : Nat) : (madeCells #[.int .i64 0, .int .i64 0, .int .i64 0] (n * 3)).toList = cellsOf n 3 (ints2 fun _ _ => 0) := by
  apply List.ext_getElem?
  intro q
  by_cases hq : q < n * 3
  · have h : q % 3 = 0 ∨ q % 3 = 1 ∨ q % 3 = 2 := by omega
    rcases h with h | h | h <;> simp [madeCells, cellsOf, hq, h]
  · simp [madeCells, cellsOf, hq]
theorem init_cell (n o : Nat) : ∀ i j, i < n → j < 3 → upd2 (ints2 fun _ _ => 0) o 0 (.int .i64 1) i j = ints2 (M.init (o : Int)).c i j := by
  intro i j _ hj
  show (if i = o ∧ j = 0 then Value.int .i64 1 else .int .i64 0) = .int .i64 ((if i = (o : Int).toNat then M.v3 1 0 0 else fun _ => 0) j)
  rw [Int.toNat_natCast]
  by_cases h : i = o
  · rw [if_pos h]
    obtain rfl | rfl | rfl : j = 0 ∨ j = 1 ∨ j = 2 := by omega
    · rw [if_pos ⟨h, rfl⟩]; rfl
    · rw [if_neg (by omega)]; rfl
    · rw [if_neg (by omega)]; rfl
  · rw [if_neg h, if_neg (by omega)]
set_option maxRecDepth 100000 in
set_option maxHeartbeats 3200000 in
theorem init_any (n o : Nat) (w : World) (hn : n ≤ 4) (ho : o < n) :
    Calls Tryd.prog 21 #[.int .i64 (n : Int), .int .i64 (o : Int)] w fun e w' => (∃ v', e = .returned v' ∧ CallV n (M.init o) w.heap.size v' w') ∧ Below w.heap.size w w' := by
  obtain ⟨gi, hi, hz0, hz1, hz2⟩ := info_parts cen_info
  have GI := Lib.hid (And.intro hi (And.intro hz0 (And.intro hz1 hz2)))
  have k1 : decide (n ≤ o) = false := decide_eq_false (by omega)
  have D0 := Lib.hid (Blk.new w 31 #[.slice none 0 0, .slice none 0 0])
  have B0 := Lib.hid (belowAlloc w (.cells #[.slice none 0 0, .slice none 0 0] 31))
  clear hi hz0 hz1 hz2
  go_enter Tryd.func21, Tryd.ntmps21
  go_upto_region 2 with (at_make; refine wpList_make_full _ rfl (.tmp 6) (.tmp 6) 28 rfl (w.heap.size + 1) 51 gi (.agg #[.int .i64 0, .int .i64 0, .int .i64 0]) 3 Tryd.underlying28 GI.out.1 GI.out.2.1 GI.out.2.2.1 .i64 .i64 n n n rfl rfl rfl rfl (by rw [GI.out.2.2.2]; omega) (by unfold maxLen; omega) (by simp) ?_; intro w3 hm hg3; have HM := Lib.hid (show Own w3 (w.heap.size + 1) 51 3 (.slice (some ⟨w.heap.size + 1, 0, none⟩) n n) n (ints2 fun _ _ => 0) by unfold Own; rw [← made3]; (try simp only [World.size_alloc] at hm); exact hm); have HG3 := Lib.hid hg3; have D3 := Lib.hid (D0.out.grown hg3 (by simp)); clear hm hg3)
  have hg3w : w.heap.size + 1 < w3.heap.size := (HM.out.block rfl).2
  obtain ⟨X, hX⟩ : ∃ X, X = w3.alloc (.cells #[.slice (some ⟨w.heap.size + 1, 0, none⟩) n n, .slice none 0 0] 31) := ⟨_, rfl⟩
  have AX := Lib.hid (show Own X (w.heap.size + 1) 51 3 (.slice (some ⟨w.heap.size + 1, 0, none⟩) n n) n (ints2 fun _ _ => 0) by rw [hX]; exact HM.out.alloc _)
  have RX := Lib.hid (show Blk X w.heap.size 31 #[.slice none 0 0, .slice none 0 0] by rw [hX]; exact D3.out.alloc _)
  have CX := Lib.hid (show Blk X w3.heap.size 31 #[.slice (some ⟨w.heap.size + 1, 0, none⟩) n n, .slice none 0 0] by rw [hX]; exact Blk.new w3 _ _)
  have BX := Lib.hid (show Below w.heap.size w X by rw [hX]; exact (B0.out.trans ((grown_below HG3.out).mono (by simp))).alloc (by omega) _)
  rw [← hX]
  clear hX
  have z0 := AX.out.cell (i := o) (j := 0) ho (by omega)
  have z1 := AX.out.frz (o * 3 + 0)
  rw [Nat.add_zero (o * 3)] at z0 z1
  have c0 := CX.out.cell 0
  have c1 := CX.out.cell 1
  have n0 : w3.heap.size ≠ w.heap.size + 1 := by omega
  have F4 := Lib.hid (RX.out.far (p := ⟨w.heap.size + 1, o * 3, none⟩) (by simp) (.int .i64 1))
  have G4 := Lib.hid (CX.out.far (p := ⟨w.heap.size + 1, o * 3, none⟩) (by show _ ≠ w.heap.size + 1; omega) (.int .i64 1))
  have r0 := F4.out.cell 0
  have r1 := F4.out.cell 1
  have q0 := F4.out.frz 0
  have q1 := F4.out.frz 1
  have g0 := G4.out.cell 0
  have g1 := G4.out.cell 1
  go_wp2_with fail
  refine bodyPost_ret (results_cell_row rfl _ _ w.heap.size 31 #[.slice (some ⟨w.heap.size + 1, 0, none⟩) n n, .slice none 0 0] (0, 0) _ rfl ((F4.out.set_ 0 _).set_ 1 _) Tryd.underlying31 rfl call_size) rfl ⟨⟨_, rfl, _, _, _, _, rfl, ?_, Own.nil_⟩, ?_⟩
  · exact (((AX.out.setm (k := o) (j := 0) (by omega) (.int .i64 1)).congr (init_cell n o)).set2 F4.out (by decide) _ _).less (by omega)
  · exact ((BX.out.setCell (p := ⟨w.heap.size + 1, o * 3, none⟩) (by dsimp only; omega) _).setCell (p := ⟨w.heap.size, 0, none⟩) (Nat.le_refl _) _).setCell (p := ⟨w.heap.size, 1, none⟩) (Nat.le_refl _) _
end Go.Proofs.YtfnfjmjejffjiaaDoor
