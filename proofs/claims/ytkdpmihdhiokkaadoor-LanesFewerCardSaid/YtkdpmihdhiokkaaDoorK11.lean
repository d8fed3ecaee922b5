/- Whether two units clash: (step).clashes. -/
import Derived.Test.YtkdpmihdhiokkaaDoorK10
namespace Go.Proofs.YtkdpmihdhiokkaaDoor
open Go.RowKit

section
variable (lv lv' : Int) (tl tl' : Bool) (p q p' q' : Int) (w : World)
def pqF (p q : Int) (k : Nat) : Int := if k = 0 then q else p
def hitB (tl tl' : Bool) (p q p' q' y : Int) : Bool := decide (0 ≤ y) && (M.occ tl p q y && M.occ tl' p' q' y)
def endB (p q p' q' : Int) : Bool := decide (0 ≤ p) && decide (0 ≤ p') && decide (p ≠ p') && decide (q = p') && decide (q' = p)
theorem clash_split : M.clash lv lv' tl tl' p q p' q' = (decide (lv = lv') && (M.anyTo 2 (fun k => hitB tl tl' p q p' q' (pqF p q k)) || endB p q p' q')) := by
  unfold M.clash hitB endB
  simp [M.anyTo, pqF]
set_option maxRecDepth 100000 in
set_option maxHeartbeats 6400000 in
theorem clashes_any :
    Calls Tryd.prog 42 #[.agg #[.int .i64 lv, .int .i64 p, .int .i64 q, .bool tl], .agg #[.int .i64 lv', .int .i64 p', .int .i64 q', .bool tl']] w fun e w' => e = .returned (.bool (M.clash lv lv' tl tl' p q p' q')) ∧ Below w.heap.size w w' := by
  rw [clash_split]
  have HB0 := Lib.hid (belowAlloc2 w (.cells #[.int .i64 lv, .int .i64 p, .int .i64 q, .bool tl] 82) (.cells #[.int .i64 lv', .int .i64 p', .int .i64 q', .bool tl'] 82))
  have D0 := Lib.hid ((Blk.new w 82 #[.int .i64 lv, .int .i64 p, .int .i64 q, .bool tl]).alloc (.cells #[.int .i64 lv', .int .i64 p', .int .i64 q', .bool tl'] 82))
  have D1 := Lib.hid (Blk.new1 w (.cells #[.int .i64 lv, .int .i64 p, .int .i64 q, .bool tl] 82) 82 #[.int .i64 lv', .int .i64 p', .int .i64 q', .bool tl'])
  by_cases hl : lv = lv'
  · have g1 : (lv != lv') = false := by rw [hl]; simp
    have HL := Lib.hid (show decide (lv = lv') = true from decide_eq_true hl)
    obtain ⟨Y, hY⟩ : ∃ Y, Y = (w.alloc (.cells #[.int .i64 lv, .int .i64 p, .int .i64 q, .bool tl] 82)).alloc (.cells #[.int .i64 lv', .int .i64 p', .int .i64 q', .bool tl'] 82) := ⟨_, rfl⟩
    rw [← hY] at HB0 D0 D1
    have HYe := Lib.hid hY
    have d0 := D0.out.cell 0
    have d1 := D0.out.cell 1
    have d2 := D0.out.cell 2
    have e0 := D1.out.cell 0
    clear hl hY
    go_enter Tryd.func42, Tryd.ntmps42
    go_upto_region 1 with fail
    rw [← HYe.out]
    clear HYe
    go_wp2_with fail
    clear d0 d1 d2 e0
    have HB2 := Lib.hid (HB0.out.alloc HB0.out.size (.cells #[.int .i64 q, .int .i64 p] 3))
    have R2 := Lib.hid (show Rd1 (Y.alloc (.cells #[.int .i64 q, .int .i64 p] 3)) (Y.heap.size + 1) (some ⟨Y.heap.size, 0, none⟩) 2 (pqF p q) from .inr ⟨_, 0, rfl, Nat.lt_succ_self _, fun i hi => by
      obtain rfl | rfl : i = 0 ∨ i = 1 := by omega
      · exact (Blk.new Y _ _).cell 0
      · exact (Blk.new Y _ _).cell 1⟩)
    have D2 := Lib.hid (D0.out.alloc (.cells #[.int .i64 q, .int .i64 p] 3))
    have E2 := Lib.hid (D1.out.alloc (.cells #[.int .i64 q, .int .i64 p] 3))
    have hzZ : (Y.alloc (.cells #[.int .i64 q, .int .i64 p] 3)).heap.size = Y.heap.size + 1 := by simp
    obtain ⟨S, hS⟩ : ∃ S, S = Y.heap.size := ⟨_, rfl⟩
    rw [← hS] at R2 hzZ
    generalize Y.alloc (.cells #[.int .i64 q, .int .i64 p] 3) = Z at HB2 R2 D2 E2 hzZ ⊢
    rw [← hS]
    have HZ := Lib.hid hzZ
    clear hS hzZ D0 D1 HB0
    go_loopw [18] (fun i wr => ∃ k : Nat, k ≤ 2 ∧ i = .int .i64 k ∧ M.anyTo k (fun k => hitB tl tl' p q p' q' (pqF p q k)) = false ∧ Below Z.heap.size Z wr) (fun i _ => 2 - (intOf i).toNat)
    case atStart => exact ⟨0, Nat.zero_le _, rfl, rfl, Below.refl _ _⟩
    case round =>
      obtain ⟨k, hk, rfl, hf, hbw⟩ := hrel
      have HF := Lib.hid hf
      have HW := Lib.hid hbw
      have hz := hbw.size
      clear hf hbw
      have d0 := (D2.out.below' HW.out).cell 0
      have d1 := (D2.out.below' HW.out).cell 1
      have d2 := (D2.out.below' HW.out).cell 2
      have d3 := (D2.out.below' HW.out).cell 3
      have e0 := (E2.out.below' HW.out).cell 0
      have e1 := (E2.out.below' HW.out).cell 1
      have e2 := (E2.out.below' HW.out).cell 2
      have e3 := (E2.out.below' HW.out).cell 3
      by_cases hlt : k < 2
      · have c0 := (R2.out.below (HW.out.mono (by have := HZ.out; omega))).cx hlt
        rw [Nat.zero_add] at c0
        have kx : decide (2 ≤ k) = false := decide_eq_false (by omega)
        have HH := Lib.hid (show hitB tl tl' p q p' q' (pqF p q k) = (decide (0 ≤ pqF p q k) && (M.occ tl p q (pqF p q k) && M.occ tl' p' q' (pqF p q k))) from rfl)
        have HNX := Lib.hid (show M.anyTo (k + 1) (fun k => hitB tl tl' p q p' q' (pqF p q k)) = (M.anyTo k (fun k => hitB tl tl' p q p' q' (pqF p q k)) || hitB tl tl' p q p' q' (pqF p q k)) from rfl)
        have HYS := Lib.hid (fun h : hitB tl tl' p q p' q' (pqF p q k) = true => (M.anyTo_iff.2 ⟨k, hlt, h⟩ : M.anyTo 2 (fun k => hitB tl tl' p q p' q' (pqF p q k)) = true))
        obtain ⟨hb, hhb⟩ : ∃ hb, hb = hitB tl tl' p q p' q' (pqF p q k) := ⟨_, rfl⟩
        rw [← hhb] at HH HNX HYS
        obtain ⟨y, hy⟩ : ∃ y, y = pqF p q k := ⟨_, rfl⟩
        rw [← hy] at c0 HH
        have HO1 := Lib.hid (fun W => occupies_any lv tl p q y W)
        have HO2 := Lib.hid (fun W => occupies_any lv' tl' p' q' y W)
        clear hhb hy
        by_cases h0 : y < 0
        · have g0 : decide (0 ≤ y) = false := decide_eq_false (by omega)
          have HN := Lib.hid (show hb = false from by rw [HH.out, decide_eq_false (by omega)]; rfl)
          clear h0
          go_wp2_with fail
          go_roundw
          case rel => exact ⟨k + 1, by omega, by go_num, by rw [HNX.out, HF.out, HN.out]; rfl, HW.out⟩
          case measure => simp [intOf]; omega
        · have g0 : decide (0 ≤ y) = true := decide_eq_true (by omega)
          have HP := Lib.hid (show decide (0 ≤ y) = true from decide_eq_true (by omega))
          clear h0
          cases o1 : M.occ tl p q y
          · have HN := Lib.hid (show hb = false from by rw [HH.out, o1]; simp)
            rw [o1] at HO1
            clear o1
            go_wp2_with (go_at_call 49; go_must (refine (HO1.out _).mono ?_); rintro e w5 ⟨rfl, hb5⟩; have HB5 := Lib.hid hb5; clear hb5)
            go_roundw
            case rel => exact ⟨k + 1, by omega, by go_num, by rw [HNX.out, HF.out, HN.out]; rfl, HW.out.trans (HB5.out.mono hz)⟩
            case measure => simp [intOf]; omega
          · cases o2 : M.occ tl' p' q' y
            · have HN := Lib.hid (show hb = false from by rw [HH.out, o2]; simp)
              rw [o1] at HO1
              rw [o2] at HO2
              clear o1 o2
              go_wp2_with (first | (go_at_call_of 49 (Value.int IntKind.i64 lv); go_must (refine (HO1.out _).mono ?_); rintro e w5 ⟨rfl, hb5⟩; have HB5 := Lib.hid hb5; have e0 := ((E2.out.below' HW.out).below' hb5).cell 0; have e1 := ((E2.out.below' HW.out).below' hb5).cell 1; have e2 := ((E2.out.below' HW.out).below' hb5).cell 2; have e3 := ((E2.out.below' HW.out).below' hb5).cell 3; clear hb5) | (go_at_call_of 49 (Value.int IntKind.i64 lv'); go_must (refine (HO2.out _).mono ?_); rintro e w6 ⟨rfl, hb6⟩; have HB6 := Lib.hid (HB5.out.trans (hb6.mono HB5.out.size)); clear hb6))
              go_roundw
              case rel => exact ⟨k + 1, by omega, by go_num, by rw [HNX.out, HF.out, HN.out]; rfl, HW.out.trans (HB6.out.mono hz)⟩
              case measure => simp [intOf]; omega
            · have HN := Lib.hid (show hb = true from by rw [HH.out, o1, o2, HP.out]; rfl)
              rw [o1] at HO1
              rw [o2] at HO2
              clear o1 o2
              go_wp2_with (first | (go_at_call_of 49 (Value.int IntKind.i64 lv); go_must (refine (HO1.out _).mono ?_); rintro e w5 ⟨rfl, hb5⟩; have HB5 := Lib.hid hb5; have e0 := ((E2.out.below' HW.out).below' hb5).cell 0; have e1 := ((E2.out.below' HW.out).below' hb5).cell 1; have e2 := ((E2.out.below' HW.out).below' hb5).cell 2; have e3 := ((E2.out.below' HW.out).below' hb5).cell 3; clear hb5) | (go_at_call_of 49 (Value.int IntKind.i64 lv'); go_must (refine (HO2.out _).mono ?_); rintro e w6 ⟨rfl, hb6⟩; have HB6 := Lib.hid (HB5.out.trans (hb6.mono HB5.out.size)); clear hb6))
              go_ret
              exact ⟨ret_bool (by rw [HL.out, HYS.out HN.out]; rfl), HB2.out.trans ((HW.out.trans (HB6.out.mono hz)).mono HB2.out.size)⟩
      · obtain rfl : k = 2 := by omega
        have HE := Lib.hid (show endB p q p' q' = (decide (0 ≤ p) && decide (0 ≤ p') && decide (p ≠ p') && decide (q = p') && decide (q' = p)) from rfl)
        have hfin : (decide (lv = lv') && (M.anyTo 2 (fun k => hitB tl tl' p q p' q' (pqF p q k)) || endB p q p' q')) = endB p q p' q' := by rw [HL.out, HF.out]; rfl
        have HFIN := Lib.hid hfin
        clear hfin
        by_cases a1 : p < 0
        · have g : decide (0 ≤ p) = false := decide_eq_false (by omega)
          have HN := Lib.hid (show endB p q p' q' = false from by rw [HE.out, decide_eq_false (show ¬ 0 ≤ p by omega)]; rfl)
          clear a1
          go_wp2_with fail
          go_ret
          exact ⟨ret_bool (by rw [HFIN.out, HN.out]), HB2.out.trans (HW.out.mono HB2.out.size)⟩
        · have g : decide (0 ≤ p) = true := decide_eq_true (by omega)
          by_cases a2 : p' < 0
          · have g2 : decide (0 ≤ p') = false := decide_eq_false (by omega)
            have HN := Lib.hid (show endB p q p' q' = false from by rw [HE.out, decide_eq_false (show ¬ 0 ≤ p' by omega)]; simp)
            clear a1 a2
            go_wp2_with fail
            go_ret
            exact ⟨ret_bool (by rw [HFIN.out, HN.out]), HB2.out.trans (HW.out.mono HB2.out.size)⟩
          · have g2 : decide (0 ≤ p') = true := decide_eq_true (by omega)
            by_cases a3 : p = p'
            · have g3 : (p != p') = false := by rw [a3]; simp
              have HN := Lib.hid (show endB p q p' q' = false from by rw [HE.out, decide_eq_false (show ¬ p ≠ p' by omega)]; simp)
              clear a1 a2 a3
              go_wp2_with fail
              go_ret
              exact ⟨ret_bool (by rw [HFIN.out, HN.out]), HB2.out.trans (HW.out.mono HB2.out.size)⟩
            · have g3 : (p != p') = true := by rw [bne_iff_ne]; exact a3
              by_cases a4 : q = p'
              · have g4 : (q == p') = true := by rw [beq_iff_eq]; exact a4
                by_cases a5 : q' = p
                · have g5 : (q' == p) = true := by rw [beq_iff_eq]; exact a5
                  have HN := Lib.hid (show endB p q p' q' = true from by rw [HE.out, decide_eq_true (show 0 ≤ p by omega), decide_eq_true (show 0 ≤ p' by omega), decide_eq_true a3, decide_eq_true a4, decide_eq_true a5]; rfl)
                  clear a1 a2 a3 a4 a5
                  go_wp2_with fail
                  go_ret
                  exact ⟨ret_bool (by rw [HFIN.out, HN.out]), HB2.out.trans (HW.out.mono HB2.out.size)⟩
                · have g5 : (q' == p) = false := by rw [beq_eq_false_iff_ne]; exact a5
                  have HN := Lib.hid (show endB p q p' q' = false from by rw [HE.out, decide_eq_false a5]; simp)
                  clear a1 a2 a3 a4 a5
                  go_wp2_with fail
                  go_ret
                  exact ⟨ret_bool (by rw [HFIN.out, HN.out]), HB2.out.trans (HW.out.mono HB2.out.size)⟩
              · have g4 : (q == p') = false := by rw [beq_eq_false_iff_ne]; exact a4
                have HN := Lib.hid (show endB p q p' q' = false from by rw [HE.out, decide_eq_false a4]; simp)
                clear a1 a2 a3 a4
                go_wp2_with fail
                go_ret
                exact ⟨ret_bool (by rw [HFIN.out, HN.out]), HB2.out.trans (HW.out.mono HB2.out.size)⟩
  · have g1 : (lv != lv') = true := by rw [bne_iff_ne]; exact hl
    have HL := Lib.hid (show decide (lv = lv') = false from decide_eq_false hl)
    clear hl
    go_enter Tryd.func42, Tryd.ntmps42
    go_wp2_with fail
    go_ret
    exact ⟨ret_bool (by rw [HL.out]; rfl), HB0.out⟩
end
end Go.Proofs.YtkdpmihdhiokkaaDoor
