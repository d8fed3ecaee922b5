/- The examples: sameInts, Example, works. -/
import Derived.Test.YtkdpmihdhiokkaaDoorK23
import Derived.ChangeKeysEq
namespace Go.Proofs.YtkdpmihdhiokkaaDoor
open Go.RowKit

def sameF (n n' : Nat) (f f' : Nat → Int) : Bool := decide (n = n') && M.allTo n fun i => decide (f i = f' i)

set_option maxHeartbeats 1000000 in
theorem sameInts_any (A A' : Option Addr) (n n' c c' B : Nat) (f f' : Nat → Int) (w : World) (hn : n ≤ maxLen) (hn' : n' ≤ maxLen) (hR : Rd1 w B A n f) (hR' : Rd1 w B A' n' f') :
    Calls Tryd.prog 36 #[.slice A n c, .slice A' n' c'] w fun e w' => e = .returned (.bool (sameF n n' f f')) ∧ Below w.heap.size w w' := by
  unfold maxLen at hn hn'
  by_cases h : n = n'
  · subst h
    go_enter Tryd.func36, Tryd.ntmps36
    go_wp2_with fail
    go_loopw [5] (fun i wr => ∃ k : Nat, k ≤ n ∧ i = .int .i64 k ∧ M.allTo k (fun i => decide (f i = f' i)) = true ∧ Below w.heap.size w wr ∧ wr.heap = w.heap) (fun i _ => n - (intOf i).toNat)
    case atStart => exact ⟨0, Nat.zero_le _, rfl, rfl, Below.refl _ _, rfl⟩
    case round =>
      obtain ⟨k, hk, rfl, hf, hbw, hh⟩ := hrel
      have HF := Lib.hid hf
      have HW := Lib.hid hbw
      have HH := Lib.hid hh
      have keep : ∀ p : Addr, wr.cell? p = w.cell? p := fun p => by unfold World.cell?; rw [hh]
      by_cases hlt : k < n
      · obtain ⟨b, off, rfl, hb, c0⟩ := (hR.keep fun p _ => keep p).at_ hlt
        obtain ⟨b', off', rfl, hb', c0'⟩ := (hR'.keep fun p _ => keep p).at_ hlt
        clear hf hbw hh keep hR hR'
        by_cases he : f k = f' k
        all_goals
          go_wp2_with fail
          go_quiet (fail)
          go_wp2_with fail
        · go_roundw
          case rel => exact ⟨k + 1, by omega, by go_num, by simp [M.allTo, HF.out, he], HW.out.drewN _, HH.out⟩
          case measure => simp [intOf]; omega
        · go_ret
          refine ⟨ret_bool ?_, HW.out.drewN _⟩
          unfold sameF
          refine (Bool.eq_false_iff.2 fun h => ?_).symm
          simp only [Bool.and_eq_true] at h
          have := M.allTo_iff.1 h.2 k hlt
          simp [he] at this
      · obtain rfl : k = n := by omega
        clear hf hbw hh keep hR hR'
        go_wp2_with fail
        go_ret
        exact ⟨ret_bool (by simp [sameF, HF.out]), HW.out⟩
  · go_enter Tryd.func36, Tryd.ntmps36
    go_wp2_with fail
    go_ret
    exact ⟨ret_bool (by simp [sameF, h]), Below.refl _ _⟩

theorem same_self (n : Nat) (f : Nat → Int) : sameF n n f f = true := by
  unfold sameF
  rw [M.allTo_iff.2 fun i _ => by simp]; simp
/-- the chart and the legs of the examples -/
def exD : Nat → Int := fun i => ([0, 0, -50, -90, 30, 20, 10, -20, 60, 60, 40, 30] : List Int).getD i 0
def exT : Nat → Nat → Int := fun t j => ([10, 14, 20, 26, 30, 36, 20, 26, 10, 14] : List Int).getD (t * 2 + j) 0
def exW : Nat → Int := fun t => ([5, 5, 5, 5, 5] : List Int).getD t 0
def exS : M.Sea := ⟨4, 3, 12, 5, exD, exT, exW⟩
def exL : Nat → M.Leg := fun i => if i = 0 then ⟨0, 0, 20, false, 4, fun j => ([4, 5, 10, 9] : List Int).getD j 0⟩ else if i = 1 then ⟨1, 0, 20, true, 3, fun j => ([10, 5, 6] : List Int).getD j 0⟩ else ⟨0, 1, 0, false, 3, fun j => ([6, 5, 4] : List Int).getD j 0⟩
def exR : M.Trip := ⟨0, 0, 20, false, 4, 6⟩
set_option maxRecDepth 100000 in
theorem ex_ok : exS.Ok := by
  refine ⟨by decide, by decide, by decide, by decide, rfl, by decide, by decide, ?_, ?_, ?_⟩
  · exact fun i hi => by
      have h : M.allTo 12 (fun i => M.inB (-1000) 1000 (exD i)) = true := by kernel_rfl
      exact M.inB_iff.1 (M.allTo_iff.1 h i hi)
  · exact fun t ht => by
      have h : M.allTo 5 (fun t => M.inB 0 (exT t 1) (exT t 0) && M.inB 0 200 (exT t 1)) = true := by kernel_rfl
      have := M.allTo_iff.1 h t ht
      simp only [Bool.and_eq_true, M.inB_iff] at this
      exact ⟨this.1.1, this.1.2, this.2.2⟩
  · exact fun t ht => by
      have h : M.allTo 5 (fun t => M.inB 0 100 (exW t)) = true := by kernel_rfl
      exact M.inB_iff.1 (M.allTo_iff.1 h t ht)
set_option maxRecDepth 100000 in
theorem ex_legs : M.legsOk exS 3 exL = true := by kernel_rfl
set_option maxRecDepth 100000 in
theorem ex_none : M.legsOk exS 0 exL = true := by kernel_rfl
set_option maxRecDepth 100000 in
theorem ex_trip : M.tripOk exS exR = true := by kernel_rfl
set_option maxRecDepth 100000 in
theorem ex_clashes : M.clAll exS exL 3 3 = [(0, 1, 2)] := by kernel_rfl
set_option maxRecDepth 100000 in
theorem ex_end : M.endK exS exL 0 exR = 2 := by kernel_rfl
set_option maxRecDepth 100000 in
theorem ex_route : ∀ i, i < 3 → M.routeF exS exL 0 exR 2 i = ([4, 5, 6] : List Int).getD i 0 := by
  intro i hi
  obtain rfl | rfl | rfl : i = 0 ∨ i = 1 ∨ i = 2 := by omega
  · kernel_rfl
  · kernel_rfl
  · kernel_rfl
theorem cells_int1 : Tryd.prog.cellsOf 3 = 1 := by kernel_rfl
theorem tri_eq (a b c a' b' c' : Int) (W : World) : (Op.equalIn 10000 43 (.agg #[.int .i64 a, .int .i64 b, .int .i64 c]) (.agg #[.int .i64 a', .int .i64 b', .int .i64 c'])).run Tryd.prog W = .ok (a == a' && (b == b' && c == c')) W := by
  obtain ⟨i, hi, hz0, hz1, hz2⟩ := info_parts int_info
  rw [run_equalIn_array (w := W) 9999 _ _ Tryd.underlying43 hi, cells_int1]
  simp [Op.eqItems, List.range_succ, part, go_sem, Tryd.underlying3]
  by_cases h1 : a = a' <;> by_cases h2 : b = b' <;> by_cases h3 : c = c' <;> simp [h1, h2, h3]
attribute [go_sem] tri_eq
end Go.Proofs.YtkdpmihdhiokkaaDoor
/- The examples, walked: Example, works. -/
namespace Go.Proofs.YtkdpmihdhiokkaaDoor
open Go.RowKit

theorem Rd1.keepB {w w' : World} {B b o n : Nat} {f : Nat → Int} (h : Rd1 w B (some ⟨b, o, none⟩) n f) (hk : ∀ i, w'.cell? ⟨b, i, none⟩ = w.cell? ⟨b, i, none⟩) : Rd1 w' B (some ⟨b, o, none⟩) n f := by
  rcases h with h | ⟨b', o', he, hb, hc⟩
  · exact .inl h
  · injection he with he
    injection he with e1 e2 _
    subst e1; subst e2
    exact .inr ⟨b, o, rfl, hb, fun i hi => (hk _).trans (hc i hi)⟩
theorem Rd.keepB {w w' : World} {B b o m n : Nat} {f : Nat → Nat → Int} (h : Rd w B (some ⟨b, o, none⟩) m n f) (hk : ∀ i, w'.cell? ⟨b, i, none⟩ = w.cell? ⟨b, i, none⟩) : Rd w' B (some ⟨b, o, none⟩) m n f := by
  rcases h with h | ⟨b', o', he, hb, hc⟩
  · exact .inl h
  · injection he with he
    injection he with e1 e2 _
    subst e1; subst e2
    exact .inr ⟨b, o, rfl, hb, fun i j hi hj => (hk _).trans (hc i j hi hj)⟩
theorem chart_size : (Tryd.prog.info? 25).map (·.size) = some 5 := by kernel_rfl
set_option maxRecDepth 100000 in
set_option maxHeartbeats 3200000 in
theorem chartEx_any (w : World) :
    Calls Tryd.prog 64 #[] w fun e w' => (e = .returned (.agg #[.int .i64 4, .int .i64 3, .slice (some ⟨w.heap.size + 1, 0, none⟩) 12 12, .slice (some ⟨w.heap.size + 1 + 1, 0, none⟩) 5 5, .slice (some ⟨w.heap.size + 1 + 1 + 1, 0, none⟩) 5 5]) ∧ RdC w' w'.heap.size (some ⟨w.heap.size + 1, 0, none⟩) (some ⟨w.heap.size + 1 + 1, 0, none⟩) (some ⟨w.heap.size + 1 + 1 + 1, 0, none⟩) 12 5 5 exD exT exW) ∧ Below w.heap.size w w' := by
  go_enter Tryd.func64, Tryd.ntmps64
  go_wp2_with fail
  obtain ⟨S, hS⟩ : ∃ S, S = w.heap.size := ⟨_, rfl⟩
  rw [← hS]
  refine bodyPost_ret (results_cell_row rfl _ _ S 25 #[.int .i64 4, .int .i64 3, .slice (some ⟨S + 1, 0, none⟩) 12 12, .slice (some ⟨S + 1 + 1, 0, none⟩) 5 5, .slice (some ⟨S + 1 + 1 + 1, 0, none⟩) 5 5] (0, 0) _ rfl (by rw [hS]; exact (((Blk.new w _ _).alloc _).alloc _).alloc _) Tryd.underlying25 rfl chart_size) rfl ⟨⟨rfl, ?_, ?_, ?_⟩, ?_⟩
  · refine .inr ⟨S + 1, 0, rfl, by rw [hS]; simp <;> omega, fun i hi => ?_⟩
    rw [Nat.zero_add, hS]
    refine (((Blk.new1 w _ _ _).alloc _).alloc _ |>.cell i).trans ?_
    have h : M.allTo 12 (fun i => decide ((#[(0 : Int), 0, -50, -90, 30, 20, 10, -20, 60, 60, 40, 30] : Array Int)[i]? = some (exD i))) = true := by kernel_rfl
    have h2 := of_decide_eq_true (M.allTo_iff.1 h i hi)
    have e : (#[Value.int .i64 0, .int .i64 0, .int .i64 (-50), .int .i64 (-90), .int .i64 30, .int .i64 20, .int .i64 10, .int .i64 (-20), .int .i64 60, .int .i64 60, .int .i64 40, .int .i64 30] : Array Value) = (#[(0 : Int), 0, -50, -90, 30, 20, 10, -20, 60, 60, 40, 30] : Array Int).map (Value.int .i64) := by simp
    rw [e, Array.getElem?_map, h2]
    rfl
  · refine .inr ⟨S + 1 + 1, 0, rfl, by rw [hS]; simp <;> omega, fun i j hi hj => ?_⟩
    rw [Nat.zero_add, hS]
    refine ((Blk.new2 w _ _ _ _).alloc _ |>.cell (i * 2 + j)).trans ?_
    obtain rfl | rfl | rfl | rfl | rfl : i = 0 ∨ i = 1 ∨ i = 2 ∨ i = 3 ∨ i = 4 := by omega
    all_goals (obtain rfl | rfl : j = 0 ∨ j = 1 := by omega)
    all_goals rfl
  · refine .inr ⟨S + 1 + 1 + 1, 0, rfl, by rw [hS]; simp <;> omega, fun i hi => ?_⟩
    rw [Nat.zero_add, hS]
    refine ((Blk.new3 w _ _ _ _ _).cell i).trans ?_
    obtain rfl | rfl | rfl | rfl | rfl : i = 0 ∨ i = 1 ∨ i = 2 ∨ i = 3 ∨ i = 4 := by omega
    all_goals rfl
  · rw [hS]
    exact (belowAlloc3 w _ _ _).alloc (by simp; omega) _
set_option maxRecDepth 100000 in
set_option maxHeartbeats 3200000 in
theorem legsEx_any (w : World) :
    Calls Tryd.prog 35 #[] w fun e w' => (∃ A1 A2 A3 lA, e = .returned (.tuple #[.agg #[.int .i64 4, .int .i64 3, .slice A1 12 12, .slice A2 5 5, .slice A3 5 5], .slice lA 3 3]) ∧ RdC w' w'.heap.size A1 A2 A3 12 5 5 exD exT exW ∧ RdL w' w'.heap.size lA 3 exL) ∧ Below w.heap.size w w' := by
  have HE := Lib.hid (chartEx_any (w.alloc (.cells #[.int .i64 0, .int .i64 0, .slice none 0 0, .slice none 0 0, .slice none 0 0] 25)))
  have C0 := Lib.hid (Blk.new w 25 #[.int .i64 0, .int .i64 0, .slice none 0 0, .slice none 0 0, .slice none 0 0])
  have HB0 := Lib.hid (belowAlloc w (.cells #[.int .i64 0, .int .i64 0, .slice none 0 0, .slice none 0 0, .slice none 0 0] 25))
  go_enter Tryd.func35, Tryd.ntmps35
  go_wp2_with (go_at_call 64; go_must (refine HE.out.mono ?_); rintro e w1 ⟨⟨rfl, hc⟩, hb1⟩; have HC := Lib.hid hc; have HB1 := Lib.hid (HB0.out.trans (hb1.mono HB0.out.size)); have C1 := Lib.hid (C0.out.below' hb1); have y0 := C1.out.cell 0; have y1 := C1.out.cell 1; have y2 := C1.out.cell 2; have y3 := C1.out.cell 3; have y4 := C1.out.cell 4; have f0 := C1.out.frz 0; have f1 := C1.out.frz 1; have f2 := C1.out.frz 2; have f3 := C1.out.frz 3; have f4 := C1.out.frz 4; have hSl := C1.out.lt; have hS2 : w.heap.size < w1.heap.size + 1 := (by omega); have hS3 : w.heap.size < w1.heap.size + 1 + 1 := (by omega); have hS4 : w.heap.size < w1.heap.size + 1 + 1 + 1 := (by omega); clear hc hb1)
  simp only [size_alloc] at HC
  obtain ⟨S, hS⟩ : ∃ S, S = w.heap.size := ⟨_, rfl⟩
  rw [← hS] at HC C1 hSl HB1
  rw [← hS]
  have Z1 := ((((C1.out.set_ 0 (.int .i64 4)).set_ 1 (.int .i64 3)).set_ 2 (.slice (some ⟨S + 1 + 1, 0, none⟩) 12 12)).set_ 3 (.slice (some ⟨S + 1 + 1 + 1, 0, none⟩) 5 5)).set_ 4 (.slice (some ⟨S + 1 + 1 + 1 + 1, 0, none⟩) 5 5)
  have ZB := ((((HB1.out.setCell (p := ⟨S, 0, none⟩) (Nat.le_refl _) (.int .i64 4)).setCell (p := ⟨S, 1, none⟩) (Nat.le_refl _) (.int .i64 3)).setCell (p := ⟨S, 2, none⟩) (Nat.le_refl _) (.slice (some ⟨S + 1 + 1, 0, none⟩) 12 12)).setCell (p := ⟨S, 3, none⟩) (Nat.le_refl _) (.slice (some ⟨S + 1 + 1 + 1, 0, none⟩) 5 5)).setCell (p := ⟨S, 4, none⟩) (Nat.le_refl _) (.slice (some ⟨S + 1 + 1 + 1 + 1, 0, none⟩) 5 5)
  obtain ⟨Z, hZ⟩ : ∃ Z, Z = ((((w1.setCell ⟨S, 0, none⟩ (.int .i64 4)).setCell ⟨S, 1, none⟩ (.int .i64 3)).setCell ⟨S, 2, none⟩ (.slice (some ⟨S + 1 + 1, 0, none⟩) 12 12)).setCell ⟨S, 3, none⟩ (.slice (some ⟨S + 1 + 1 + 1, 0, none⟩) 5 5)).setCell ⟨S, 4, none⟩ (.slice (some ⟨S + 1 + 1 + 1 + 1, 0, none⟩) 5 5) := ⟨_, rfl⟩
  have ZS : Z.heap.size = w1.heap.size := by rw [hZ]; simp [World.setCell]
  have ZF : ∀ b i, b ≠ S → Z.cell? ⟨b, i, none⟩ = w1.cell? ⟨b, i, none⟩ := fun b i hb => by
    rw [hZ]
    rw [World.cell?_setCell_far _ _ _ _ (by show S ≠ b; omega), World.cell?_setCell_far _ _ _ _ (by show S ≠ b; omega), World.cell?_setCell_far _ _ _ _ (by show S ≠ b; omega), World.cell?_setCell_far _ _ _ _ (by show S ≠ b; omega), World.cell?_setCell_far _ _ _ _ (by show S ≠ b; omega)]
  rw [← hZ] at Z1 ZB
  rw [← hZ]
  rw [← ZS]
  have hc := HC.out
  rw [← ZS] at hc
  have hc' : RdC Z Z.heap.size (some ⟨S + 1 + 1, 0, none⟩) (some ⟨S + 1 + 1 + 1, 0, none⟩) (some ⟨S + 1 + 1 + 1 + 1, 0, none⟩) 12 5 5 exD exT exW := ⟨hc.d.keepB fun i => ZF _ i (by omega), hc.t.keepB fun i => ZF _ i (by omega), hc.s.keepB fun i => ZF _ i (by omega)⟩
  have Z2 : Blk Z S 25 #[.int .i64 4, .int .i64 3, .slice (some ⟨S + 1 + 1, 0, none⟩) 12 12, .slice (some ⟨S + 1 + 1 + 1, 0, none⟩) 5 5, .slice (some ⟨S + 1 + 1 + 1 + 1, 0, none⟩) 5 5] := Z1
  clear hZ Z1 ZF HC hc C1 HB1 y0 y1 y2 y3 y4 f0 f1 f2 f3 f4 HE C0 HB0
  have b1 := Blk.new Z 3 #[.int .i64 4, .int .i64 5, .int .i64 10, .int .i64 9]
  have b2 := Blk.new1 Z (.cells #[.int .i64 4, .int .i64 5, .int .i64 10, .int .i64 9] 3) 3 #[.int .i64 10, .int .i64 5, .int .i64 6]
  have b3 := Blk.new2 Z (.cells #[.int .i64 4, .int .i64 5, .int .i64 10, .int .i64 9] 3) (.cells #[.int .i64 10, .int .i64 5, .int .i64 6] 3) 3 #[.int .i64 6, .int .i64 5, .int .i64 4]
  refine bodyPost_ret (results_cell_row1 rfl _ _ S 25 #[.int .i64 4, .int .i64 3, .slice (some ⟨S + 1 + 1, 0, none⟩) 12 12, .slice (some ⟨S + 1 + 1 + 1, 0, none⟩) 5 5, .slice (some ⟨S + 1 + 1 + 1 + 1, 0, none⟩) 5 5] (0, 0) _ rfl ((((Z2.alloc _).alloc _).alloc _).alloc _) Tryd.underlying25 rfl chart_size) rfl ⟨⟨_, _, _, _, rfl, ?_, ?_⟩, ?_⟩
  · exact (hc'.below ((belowAlloc3 Z _ _ _).alloc (by simp; omega) _)).more (by simp <;> omega)
  · refine .inr ⟨Z.heap.size + 1 + 1 + 1, 0, rfl, by simp, fun i hi => ?_⟩
    have hL := Blk.new3 Z (.cells #[.int .i64 4, .int .i64 5, .int .i64 10, .int .i64 9] 3) (.cells #[.int .i64 10, .int .i64 5, .int .i64 6] 3) (.cells #[.int .i64 6, .int .i64 5, .int .i64 4] 3) 41 #[.int .i64 0, .int .i64 0, .int .i64 20, .bool false, .slice (some ⟨Z.heap.size, 0, none⟩) 4 4, .int .i64 1, .int .i64 0, .int .i64 20, .bool true, .slice (some ⟨Z.heap.size + 1, 0, none⟩) 3 3, .int .i64 0, .int .i64 1, .int .i64 0, .bool false, .slice (some ⟨Z.heap.size + 1 + 1, 0, none⟩) 3 3]
    simp only [Nat.zero_add]
    obtain rfl | rfl | rfl : i = 0 ∨ i = 1 ∨ i = 2 := by omega
    · refine ⟨hL.cell 0, hL.cell 1, hL.cell 2, hL.cell 3, _, _, hL.cell 4, .inr ⟨Z.heap.size, 0, rfl, by simp <;> omega, fun j hj => ?_⟩, by unfold maxLen; decide⟩
      rw [Nat.zero_add]
      refine ((((b1.alloc _).alloc _).alloc _).cell j).trans ?_
      have hj' : j < 4 := hj
      obtain rfl | rfl | rfl | rfl : j = 0 ∨ j = 1 ∨ j = 2 ∨ j = 3 := by omega
      all_goals rfl
    · refine ⟨hL.cell 5, hL.cell 6, hL.cell 7, hL.cell 8, _, _, hL.cell 9, .inr ⟨Z.heap.size + 1, 0, rfl, by simp <;> omega, fun j hj => ?_⟩, by unfold maxLen; decide⟩
      rw [Nat.zero_add]
      refine (((b2.alloc _).alloc _).cell j).trans ?_
      have hj' : j < 3 := hj
      obtain rfl | rfl | rfl : j = 0 ∨ j = 1 ∨ j = 2 := by omega
      all_goals rfl
    · refine ⟨hL.cell 10, hL.cell 11, hL.cell 12, hL.cell 13, _, _, hL.cell 14, .inr ⟨Z.heap.size + 1 + 1, 0, rfl, by simp <;> omega, fun j hj => ?_⟩, by unfold maxLen; decide⟩
      rw [Nat.zero_add]
      refine ((b3.alloc _).cell j).trans ?_
      have hj' : j < 3 := hj
      obtain rfl | rfl | rfl : j = 0 ∨ j = 1 ∨ j = 2 := by omega
      all_goals rfl
  · have hle : S ≤ Z.heap.size := by omega
    exact (((ZB.alloc hle _).alloc (by simp; omega) _).alloc (by simp; omega) _).alloc (by simp; omega) _
set_option maxRecDepth 100000 in
set_option maxHeartbeats 3200000 in
theorem works_any (w : World) (hw : Ways w) : Calls Tryd.prog 13 #[] w fun e w' => e = .returned (.bool true) ∧ Below w.heap.size w w' := by
  have HE := Lib.hid (legsEx_any w)
  have HWY := Lib.hid hw
  clear hw
  go_enter Tryd.func13, Tryd.ntmps13
  go_upto_region 2 with (go_at_call 35; go_must (refine HE.out.mono ?_); rintro e w1 ⟨⟨A1, A2, A3, lA, rfl, hc, hl⟩, hb1⟩; have HC := Lib.hid hc; have HL := Lib.hid hl; have HB1 := Lib.hid hb1; clear hc hl hb1)
  have C1 := Lib.hid (Blk.new w1 25 #[.int .i64 4, .int .i64 3, .slice A1 12 12, .slice A2 5 5, .slice A3 5 5])
  have HA1 := Lib.hid (belowAlloc w1 (.cells #[.int .i64 4, .int .i64 3, .slice A1 12 12, .slice A2 5 5, .slice A3 5 5] 25))
  have HCL := Lib.hid (show Calls Tryd.prog 16 #[.agg #[.int .i64 4, .int .i64 3, .slice A1 12 12, .slice A2 5 5, .slice A3 5 5], .slice lA 3 3] (w1.alloc (.cells #[.int .i64 4, .int .i64 3, .slice A1 12 12, .slice A2 5 5, .slice A3 5 5] 25)) _ from Clashes_ok exS A1 A2 A3 lA 12 5 5 3 3 w1.heap.size exL _ ex_ok ((HWY.out.below HB1.out).below HA1.out) (HC.out.below HA1.out) HA1.out.size (HL.out.below HA1.out) (by omega) ex_legs)
  rw [ex_clashes] at HCL
  have HBX := Lib.hid (HB1.out.trans (HA1.out.mono HB1.out.size))
  have HCX := Lib.hid (HC.out.below HA1.out)
  have HWX := Lib.hid (HWY.out.below HBX.out)
  have hzX := HA1.out.size
  go_upto_region 3 with (go_at_call 16; go_must (refine HCL.out.mono ?_); rintro e w2 ⟨⟨v, rfl, ho⟩, hb2⟩; obtain ⟨gv, cv, rfl⟩ := ho.nz (by decide); have HO := Lib.hid ho; have HB2 := Lib.hid hb2; have C2 := Lib.hid (C1.out.below' hb2); clear ho hb2)
  have c0 := C2.out.cell 0
  have c1 := C2.out.cell 1
  have c2 := C2.out.cell 2
  have c3 := C2.out.cell 3
  have c4 := C2.out.cell 4
  have HB2' := Lib.hid (HBX.out.trans (HB2.out.mono HBX.out.size))
  have HRT := Lib.hid (show Calls Tryd.prog 14 #[.agg #[.int .i64 4, .int .i64 3, .slice A1 12 12, .slice A2 5 5, .slice A3 5 5], .slice none 0 0, .agg #[.int .i64 0, .int .i64 0, .int .i64 20, .bool false, .int .i64 4, .int .i64 6]] w2 _ from Route_ok exS A1 A2 A3 none 12 5 5 0 0 w1.heap.size exL w2 0 0 20 4 6 false ex_ok (HWX.out.below HB2.out) (HCX.out.below (HB2.out.mono hzX)) (Nat.le_trans hzX HB2.out.size) (.inl rfl) (by omega) ex_none ex_trip)
  have HER := Lib.hid (show M.routeE exS exL 0 ⟨0, 0, 20, false, 4, 6⟩ = 0 from (show M.routeE exS exL 0 exR = 0 by unfold M.routeE; rw [ex_end]; rfl))
  rw [HER.out] at HRT
  go_upto_region 4 with (go_at_call 14; go_must (refine HRT.out.mono ?_); rintro e w3 ⟨⟨v, rfl, hv⟩, hb3⟩; have HV := Lib.hid (hv.yes (show M.endK exS exL 0 exR < _ by rw [ex_end]; decide)); have HB3 := Lib.hid hb3; clear hv hb3)
  have hv : Own w3 w2.heap.size 3 1 v 3 (ints fun i => ([4, 5, 6] : List Int).getD i 0) := by
    have h : Own w3 w2.heap.size 3 1 v (M.endK exS exL 0 exR + 1) (ints (M.routeF exS exL 0 exR (M.endK exS exL 0 exR))) := HV.out
    rw [ex_end] at h
    exact h.congr fun i j hi _ => by unfold ints; rw [ex_route i hi]
  obtain ⟨A, c, rfl, hr⟩ := hv.rd1
  have HR := Lib.hid hr
  have HO3 := Lib.hid (HO.out.below HB3.out)
  have t0 := HO3.out.cell (i := 0) (j := 0) (by decide) (by omega)
  have t1 := HO3.out.cell (i := 0) (j := 1) (by decide) (by omega)
  have t2 := HO3.out.cell (i := 0) (j := 2) (by decide) (by omega)
  simp only [Nat.zero_mul, Nat.zero_add] at t0 t1 t2
  have u0 : w3.cell? ⟨gv, 0, none⟩ = some (.int .i64 0) := t0
  have u1 : w3.cell? ⟨gv, 1, none⟩ = some (.int .i64 1) := t1
  have u2 : w3.cell? ⟨gv, 2, none⟩ = some (.int .i64 2) := t2
  have HSI := Lib.hid (sameInts_any A (some ⟨w3.heap.size, 0, none⟩) 3 3 c 3 (w3.heap.size + 1) (fun i => ([4, 5, 6] : List Int).getD i 0) (fun i => ([4, 5, 6] : List Int).getD i 0) (w3.alloc (.cells #[.int .i64 4, .int .i64 5, .int .i64 6] 3)) (by unfold maxLen; omega) (by unfold maxLen; omega) ((HR.out.below (belowAlloc w3 _)).more (by omega)) (.inr ⟨w3.heap.size, 0, rfl, by omega, fun i hi => by
    rw [Nat.zero_add]
    refine ((Blk.new w3 3 #[.int .i64 4, .int .i64 5, .int .i64 6]).cell i).trans ?_
    obtain rfl | rfl | rfl : i = 0 ∨ i = 1 ∨ i = 2 := by omega
    all_goals rfl⟩))
  rw [same_self] at HSI
  clear hv hr HV t0 t1 t2 c0 c1 c2 c3 c4
  go_wp2_with (go_at_call 36; go_must (refine HSI.out.mono ?_); rintro e w4 ⟨rfl, hb4⟩; have HB4 := Lib.hid ((belowAlloc w3 (.cells #[.int .i64 4, .int .i64 5, .int .i64 6] 3)).trans (hb4.mono (by simp))); clear hb4)
  go_ret
  exact ⟨rfl, HB2'.out.trans ((HB3.out.trans (HB4.out.mono HB3.out.size)).mono HB2'.out.size)⟩
end Go.Proofs.YtkdpmihdhiokkaaDoor
