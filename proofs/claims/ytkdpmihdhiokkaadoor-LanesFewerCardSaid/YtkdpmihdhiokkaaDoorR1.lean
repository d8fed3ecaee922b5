/- The reference's small functions: cobleref01.from, Cells, IsCell, IsTick, IsDraught; cobleref06.within, isUnit. -/
import Derived.Test.YtkdpmihdhiokkaaDoorK14
namespace Go.Proofs.YtkdpmihdhiokkaaDoor
open Go.RowKit

theorem from_any (n lo hi : Int) (w : World) :
    Calls Tryd.prog 63 #[.int .i64 n, .int .i64 lo, .int .i64 hi] w fun e w' => e = .returned (.bool (M.inB lo hi n)) ∧ w' = w := by
  unfold M.inB
  by_cases h1 : lo ≤ n
  · have g1 : decide (lo ≤ n) = true := decide_eq_true h1
    go_enter Tryd.func63, Tryd.ntmps63
    go_wp2_with fail
    go_ret
    exact ⟨ret_bool (by simp [h1]), rfl⟩
  · have g1 : decide (lo ≤ n) = false := decide_eq_false h1
    go_enter Tryd.func63, Tryd.ntmps63
    go_wp2_with fail
    go_ret
    exact ⟨ret_bool (by simp <;> omega), rfl⟩
theorem rwithin_any (n lo hi : Int) (w : World) :
    Calls Tryd.prog 53 #[.int .i64 n, .int .i64 lo, .int .i64 hi] w fun e w' => e = .returned (.bool (M.inB lo hi n)) ∧ w' = w := by
  unfold M.inB
  by_cases h1 : lo ≤ n
  · have g1 : decide (lo ≤ n) = true := decide_eq_true h1
    go_enter Tryd.func53, Tryd.ntmps53
    go_wp2_with fail
    go_ret
    exact ⟨ret_bool (by simp [h1]), rfl⟩
  · have g1 : decide (lo ≤ n) = false := decide_eq_false h1
    go_enter Tryd.func53, Tryd.ntmps53
    go_wp2_with fail
    go_ret
    exact ⟨ret_bool (by simp <;> omega), rfl⟩
end Go.Proofs.YtkdpmihdhiokkaaDoor
/- The reference's small functions of a chart: Cells, IsCell, IsTick, Over, Sure; isUnit, Can. -/
namespace Go.Proofs.YtkdpmihdhiokkaaDoor
open Go.RowKit

section
variable (s : M.Sea) (dA tA sA : Option Addr) (dc tc sc B : Nat) (w : World)
set_option maxRecDepth 100000 in
set_option maxHeartbeats 3200000 in
theorem rcells_ok (hs : s.Ok) :
    Calls Tryd.prog 51 #[.agg #[.int .i64 (s.W : Int), .int .i64 (s.H : Int), .slice dA s.nd dc, .slice tA s.nt tc, .slice sA s.nt sc]] w fun e w' => e = .returned (.int .i64 (s.nd : Int)) ∧ Below w.heap.size w w' := by
  have hnd := hs.nd1
  have HB0 := Lib.hid (belowAlloc w (.cells #[.int .i64 (s.W : Int), .int .i64 (s.H : Int), .slice dA s.nd dc, .slice tA s.nt tc, .slice sA s.nt sc] 25))
  have hm : (s.W : Int) * (s.H : Int) = (s.nd : Int) := by rw [hs.nd]; simp
  have HR := Lib.hid (show IntKind.i64.wrap ((s.W : Int) * (s.H : Int)) = (s.nd : Int) by rw [hm, IntKind.wrap_i64]; omega)
  have HR2 := Lib.hid (show wrap64 ((s.W : Int) * (s.H : Int)) = (s.nd : Int) by rw [hm]; exact IntWalk.wrap64_in _ (by omega))
  clear hs hm
  go_enter Tryd.func51, Tryd.ntmps51
  go_wp2_with fail
  go_ret
  exact ⟨ret_int (by first | exact HR.out | exact HR2.out), HB0.out⟩
set_option maxRecDepth 100000 in
set_option maxHeartbeats 3200000 in
theorem riscell_ok (c : Int) (hs : s.Ok) :
    Calls Tryd.prog 33 #[.agg #[.int .i64 (s.W : Int), .int .i64 (s.H : Int), .slice dA s.nd dc, .slice tA s.nt tc, .slice sA s.nt sc], .int .i64 c] w fun e w' => e = .returned (.bool (M.inB 0 ((s.nd : Int) - 1) c)) ∧ Below w.heap.size w w' := by
  have hnd := hs.nd1
  have HB0 := Lib.hid (belowAlloc w (.cells #[.int .i64 (s.W : Int), .int .i64 (s.H : Int), .slice dA s.nd dc, .slice tA s.nt tc, .slice sA s.nt sc] 25))
  have HC := Lib.hid (fun W => rcells_ok s dA tA sA dc tc sc W hs)
  clear hs
  go_enter Tryd.func33, Tryd.ntmps33
  go_wp2_with (first
    | (go_at_call 51; refine (HC.out _).mono ?_; rintro e w1 ⟨rfl, hb1⟩; have HB1 := Lib.hid (HB0.out.trans (hb1.mono HB0.out.size)); clear hb1)
    | (go_at_call 63; refine (from_any _ _ _ _).mono ?_; rintro e w2 ⟨rfl, rfl⟩))
  go_ret
  exact ⟨rfl, HB1.out⟩
set_option maxRecDepth 100000 in
set_option maxHeartbeats 3200000 in
theorem ristick_ok (t : Int) (hs : s.Ok) :
    Calls Tryd.prog 32 #[.agg #[.int .i64 (s.W : Int), .int .i64 (s.H : Int), .slice dA s.nd dc, .slice tA s.nt tc, .slice sA s.nt sc], .int .i64 t] w fun e w' => e = .returned (.bool (M.inB 0 ((s.nt : Int) - 1) t)) ∧ Below w.heap.size w w' := by
  have hnt : 1 ≤ s.nt ∧ s.nt ≤ 60 := ⟨hs.t1, hs.t2⟩
  have HB0 := Lib.hid (belowAlloc w (.cells #[.int .i64 (s.W : Int), .int .i64 (s.H : Int), .slice dA s.nd dc, .slice tA s.nt tc, .slice sA s.nt sc] 25))
  clear hs
  go_enter Tryd.func32, Tryd.ntmps32
  go_wp2_with (go_at_call 63; refine (from_any _ _ _ _).mono ?_; rintro e w2 ⟨rfl, rfl⟩)
  go_ret
  exact ⟨rfl, HB0.out⟩
set_option maxRecDepth 100000 in
set_option maxHeartbeats 3200000 in
theorem over_ok (c t : Nat) (h : Int) (hs : s.Ok) (hc : c < s.nd) (ht : t < s.nt) (hh : 0 ≤ h ∧ h ≤ 200) (hR : RdC w B dA tA sA s.nd s.nt s.nt s.dep s.tide s.sw) (hB : B ≤ w.heap.size) :
    Calls Tryd.prog 102 #[.agg #[.int .i64 (s.W : Int), .int .i64 (s.H : Int), .slice dA s.nd dc, .slice tA s.nt tc, .slice sA s.nt sc], .int .i64 (c : Int), .int .i64 (t : Int), .int .i64 h] w fun e w' => e = .returned (.int .i64 (s.dep c + h - s.sw t)) ∧ Below w.heap.size w w' := by
  have hd := hs.dep c hc
  have hsw := hs.sw t ht
  have HB0 := Lib.hid (belowAlloc w (.cells #[.int .i64 (s.W : Int), .int .i64 (s.H : Int), .slice dA s.nd dc, .slice tA s.nt tc, .slice sA s.nt sc] 25))
  have hR' := hR.below (HB0.out.mono hB)
  obtain ⟨db, do_, rfl, hdb, d0⟩ := hR'.d.at_ hc
  obtain ⟨sb, so, rfl, hsb, s0⟩ := hR'.s.at_ ht
  have k1 : decide (s.nd ≤ c) = false := decide_eq_false (by omega)
  have k2 : decide (s.nt ≤ t) = false := decide_eq_false (by omega)
  have C0 := Lib.hid (Blk.new w 25 #[.int .i64 (s.W : Int), .int .i64 (s.H : Int), .slice (some ⟨db, do_, none⟩) s.nd dc, .slice tA s.nt tc, .slice (some ⟨sb, so, none⟩) s.nt sc])
  obtain ⟨Y, hY⟩ : ∃ Y, Y = w.alloc (.cells #[.int .i64 (s.W : Int), .int .i64 (s.H : Int), .slice (some ⟨db, do_, none⟩) s.nd dc, .slice tA s.nt tc, .slice (some ⟨sb, so, none⟩) s.nt sc] 25) := ⟨_, rfl⟩
  have HYe := Lib.hid hY
  rw [← hY] at HB0 C0 d0 s0
  have c2 := C0.out.cell 2
  have c4 := C0.out.cell 4
  obtain ⟨dv, hdv⟩ : ∃ dv, dv = s.dep c := ⟨_, rfl⟩
  obtain ⟨sv, hsv⟩ : ∃ sv, sv = s.sw t := ⟨_, rfl⟩
  rw [← hdv] at hd d0
  rw [← hsv] at hsw s0
  rw [← hdv, ← hsv]
  clear hdv hsv hR hR' hs hY
  go_enter Tryd.func102, Tryd.ntmps102
  go_upto_region 1 with fail
  rw [← HYe.out]
  clear HYe
  go_quiet (fail)
  go_wp2_with fail
  go_ret
  exact ⟨rfl, HB0.out.drewN nq⟩
end
end Go.Proofs.YtkdpmihdhiokkaaDoor
/- The reference: Sure, isUnit, Can. -/
namespace Go.Proofs.YtkdpmihdhiokkaaDoor
open Go.RowKit

/-- what a drawn region keeps: a chart's block and one more cell -/
def KeptC (Y : World) (X : Nat) (v0 v1 v2 v3 v4 : Value) (p : Addr) (v : Value) (w' : World) : Prop := w'.cell? ⟨X, 0, none⟩ = some v0 ∧ w'.cell? ⟨X, 1, none⟩ = some v1 ∧ w'.cell? ⟨X, 2, none⟩ = some v2 ∧ w'.cell? ⟨X, 3, none⟩ = some v3 ∧ w'.cell? ⟨X, 4, none⟩ = some v4 ∧ w'.cell? p = some v ∧ Below Y.heap.size Y w'
theorem KeptC.keep {Y W W' : World} {X : Nat} {v0 v1 v2 v3 v4 v : Value} {p : Addr} (h : KeptC Y X v0 v1 v2 v3 v4 p v W) (hX : X < Y.heap.size) (hp : p.block < Y.heap.size) (hb : Below W.heap.size W W') : KeptC Y X v0 v1 v2 v3 v4 p v W' := by
  obtain ⟨h0, h1, h2, h3, h4, h5, h6⟩ := h
  have hz := h6.size
  exact ⟨(hb.cell (p := ⟨X, 0, none⟩) (Nat.lt_of_lt_of_le hX hz)).trans h0, (hb.cell (p := ⟨X, 1, none⟩) (Nat.lt_of_lt_of_le hX hz)).trans h1, (hb.cell (p := ⟨X, 2, none⟩) (Nat.lt_of_lt_of_le hX hz)).trans h2, (hb.cell (p := ⟨X, 3, none⟩) (Nat.lt_of_lt_of_le hX hz)).trans h3, (hb.cell (p := ⟨X, 4, none⟩) (Nat.lt_of_lt_of_le hX hz)).trans h4, (hb.cell (Nat.lt_of_lt_of_le hp hz)).trans h5, h6.trans (hb.mono hz)⟩
theorem runit_any (lv dr : Int) (w : World) :
    Calls Tryd.prog 34 #[.int .i64 lv, .int .i64 dr] w fun e w' => e = .returned (.bool (M.unit lv dr)) ∧ w' = w := by
  have HU := Lib.hid (show M.unit lv dr = ((decide (lv = 0) && M.inB 1 100 dr) || (M.inB 1 3 lv && decide (dr = 0))) from rfl)
  cases q1 : M.inB 1 100 dr
  all_goals (cases q2 : M.inB 1 3 lv)
  all_goals
    by_cases h1 : lv = 0
    · have g1 : (lv == 0) = true := by rw [beq_iff_eq]; exact h1
      have HD := Lib.hid (show decide (lv = 0) = true from decide_eq_true h1)
      by_cases h2 : dr = 0
      · have g2 : (dr == 0) = true := by rw [beq_iff_eq]; exact h2
        have HD2 := Lib.hid (show decide (dr = 0) = true from decide_eq_true h2)
        clear h1 h2
        go_enter Tryd.func34, Tryd.ntmps34
        go_wp2_with (go_at_call 53; refine (rwithin_any _ _ _ _).mono ?_; rintro e w1 ⟨rfl, rfl⟩)
        go_ret
        exact ⟨ret_bool (by rw [HU.out, HD.out, HD2.out, q1, q2]; rfl), rfl⟩
      · have g2 : (dr == 0) = false := by rw [beq_eq_false_iff_ne]; exact h2
        have HD2 := Lib.hid (show decide (dr = 0) = false from decide_eq_false h2)
        clear h1 h2
        go_enter Tryd.func34, Tryd.ntmps34
        go_wp2_with (go_at_call 53; refine (rwithin_any _ _ _ _).mono ?_; rintro e w1 ⟨rfl, rfl⟩)
        go_ret
        exact ⟨ret_bool (by rw [HU.out, HD.out, HD2.out, q1, q2]; rfl), rfl⟩
    · have g1 : (lv == 0) = false := by rw [beq_eq_false_iff_ne]; exact h1
      have HD := Lib.hid (show decide (lv = 0) = false from decide_eq_false h1)
      by_cases h2 : dr = 0
      · have g2 : (dr == 0) = true := by rw [beq_iff_eq]; exact h2
        have HD2 := Lib.hid (show decide (dr = 0) = true from decide_eq_true h2)
        clear h1 h2
        go_enter Tryd.func34, Tryd.ntmps34
        go_wp2_with (go_at_call 53; refine (rwithin_any _ _ _ _).mono ?_; rintro e w1 ⟨rfl, rfl⟩)
        go_ret
        exact ⟨ret_bool (by rw [HU.out, HD.out, HD2.out, q1, q2]; rfl), rfl⟩
      · have g2 : (dr == 0) = false := by rw [beq_eq_false_iff_ne]; exact h2
        have HD2 := Lib.hid (show decide (dr = 0) = false from decide_eq_false h2)
        clear h1 h2
        go_enter Tryd.func34, Tryd.ntmps34
        go_wp2_with (go_at_call 53; refine (rwithin_any _ _ _ _).mono ?_; rintro e w1 ⟨rfl, rfl⟩)
        go_ret
        exact ⟨ret_bool (by rw [HU.out, HD.out, HD2.out, q1, q2]; rfl), rfl⟩
section
variable (s : M.Sea) (dA tA sA : Option Addr) (dc tc sc B : Nat) (w : World)
set_option maxRecDepth 100000 in
set_option maxHeartbeats 3200000 in
theorem rsure_ok (dr : Int) (c t : Nat) (hs : s.Ok) (hc : c < s.nd) (ht : t < s.nt) (hR : RdC w B dA tA sA s.nd s.nt s.nt s.dep s.tide s.sw) (hB : B ≤ w.heap.size) :
    Calls Tryd.prog 89 #[.agg #[.int .i64 (s.W : Int), .int .i64 (s.H : Int), .slice dA s.nd dc, .slice tA s.nt tc, .slice sA s.nt sc], .int .i64 dr, .int .i64 (c : Int), .int .i64 (t : Int)] w fun e w' => e = .returned (.bool (decide (dr ≤ M.low s c t))) ∧ Below w.heap.size w w' := by
  have htd := hs.tide t ht
  have HB0 := Lib.hid (belowAlloc w (.cells #[.int .i64 (s.W : Int), .int .i64 (s.H : Int), .slice dA s.nd dc, .slice tA s.nt tc, .slice sA s.nt sc] 25))
  have HOV := Lib.hid (fun W (hb : Below w.heap.size w W) => over_ok s dA tA sA dc tc sc B W c t (s.tide t 0) hs hc ht ⟨htd.1, by omega⟩ (hR.below (hb.mono hB)) (Nat.le_trans hB hb.size))
  have HLW := Lib.hid (show M.low s c t = s.dep c + s.tide t 0 - s.sw t from rfl)
  have hR' := hR.below (HB0.out.mono hB)
  obtain ⟨tb, to_, rfl, htb, t0, -⟩ := hR'.t.at2 ht
  have k2 : decide (s.nt ≤ t) = false := decide_eq_false (by omega)
  have C0 := Lib.hid (Blk.new w 25 #[.int .i64 (s.W : Int), .int .i64 (s.H : Int), .slice dA s.nd dc, .slice (some ⟨tb, to_, none⟩) s.nt tc, .slice sA s.nt sc])
  obtain ⟨Y, hY⟩ : ∃ Y, Y = w.alloc (.cells #[.int .i64 (s.W : Int), .int .i64 (s.H : Int), .slice dA s.nd dc, .slice (some ⟨tb, to_, none⟩) s.nt tc, .slice sA s.nt sc] 25) := ⟨_, rfl⟩
  have HYe := Lib.hid hY
  rw [← hY] at HB0 C0 t0
  have hXl := C0.out.lt
  have htl : tb < Y.heap.size := by have := HB0.out.size; omega
  obtain ⟨tv, htv⟩ : ∃ tv, tv = s.tide t 0 := ⟨_, rfl⟩
  rw [← htv] at t0 HOV HLW
  obtain ⟨lw, hlw⟩ : ∃ lw, lw = M.low s c t := ⟨_, rfl⟩
  rw [← hlw] at HLW
  rw [← HLW.out] at HOV
  rw [← hlw]
  have hk : KeptC Y w.heap.size (.int .i64 (s.W : Int)) (.int .i64 (s.H : Int)) (.slice dA s.nd dc) (.slice (some ⟨tb, to_, none⟩) s.nt tc) (.slice sA s.nt sc) ⟨tb, to_ + t * 2, none⟩ (.int .i64 tv) Y.drew := ⟨C0.out.cell 0, C0.out.cell 1, C0.out.cell 2, C0.out.cell 3, C0.out.cell 4, t0, (Below.refl _ _).drew⟩
  have HK := Lib.hid hk
  clear hlw htv htd hR hR' hs hY hk t0
  go_enter Tryd.func89, Tryd.ntmps89
  go_upto_region 1 with fail
  rw [← HYe.out]
  clear HYe
  go_region_held3 (fun w' => w'.cell? ⟨w.heap.size, 0, none⟩ = some (.int .i64 (s.W : Int)) ∧ w'.cell? ⟨w.heap.size, 1, none⟩ = some (.int .i64 (s.H : Int)) ∧ w'.cell? ⟨w.heap.size, 2, none⟩ = some (.slice dA s.nd dc) ∧ w'.cell? ⟨w.heap.size, 3, none⟩ = some (.slice (some ⟨tb, to_, none⟩) s.nt tc) ∧ w'.cell? ⟨w.heap.size, 4, none⟩ = some (.slice sA s.nt sc) ∧ w'.cell? ⟨tb, to_ + t * 2, none⟩ = some (.int .i64 tv) ∧ Below Y.heap.size Y w')
    (first
      | assumption
      | exact HK.out
      | exact KeptC.keep (Y := Y) (X := w.heap.size) (by assumption) hXl htl hbx
      | fail)
    (first
      | (go_at_call 102; refine (HOV.out _ (HB0.out.trans (Below.mono (by go_split_ands; assumption) HB0.out.size))).mono ?_; rintro e w8 ⟨rfl, hbx⟩)
      | fail)
  all_goals
    go_split_ands
    go_wp2_with fail
    go_ret
    exact ⟨rfl, HB0.out.trans (Below.mono (by assumption) HB0.out.size)⟩
set_option maxRecDepth 100000 in
set_option maxHeartbeats 3200000 in
theorem rcan_ok (lv dr : Int) (c t : Nat) (hs : s.Ok) (hc : c < s.nd) (ht : t < s.nt) (hR : RdC w B dA tA sA s.nd s.nt s.nt s.dep s.tide s.sw) (hB : B ≤ w.heap.size) :
    Calls Tryd.prog 68 #[.agg #[.int .i64 (s.W : Int), .int .i64 (s.H : Int), .slice dA s.nd dc, .slice tA s.nt tc, .slice sA s.nt sc], .int .i64 lv, .int .i64 dr, .int .i64 (c : Int), .int .i64 (t : Int)] w fun e w' => e = .returned (.bool (M.can s lv dr c t)) ∧ Below w.heap.size w w' := by
  have HCN := Lib.hid (show M.can s lv dr c t = (decide (0 < lv) || decide (dr ≤ M.low s c t)) from rfl)
  have HB0 := Lib.hid (belowAlloc w (.cells #[.int .i64 (s.W : Int), .int .i64 (s.H : Int), .slice dA s.nd dc, .slice tA s.nt tc, .slice sA s.nt sc] 25))
  have HS := Lib.hid (fun W (hb : Below w.heap.size w W) => rsure_ok s dA tA sA dc tc sc B W dr c t hs hc ht (hR.below (hb.mono hB)) (Nat.le_trans hB hb.size))
  obtain ⟨lw, hlw⟩ : ∃ lw, lw = M.low s c t := ⟨_, rfl⟩
  rw [← hlw] at HCN HS
  clear hR hs hlw
  by_cases h : 0 < lv
  · have g1 : decide (0 < lv) = true := decide_eq_true h
    rw [g1] at HCN
    have HG := Lib.hid g1
    go_enter Tryd.func68, Tryd.ntmps68
    go_wp2_with (go_at_call 89; go_must (refine (HS.out _ HB0.out).mono ?_); rintro e w1 ⟨rfl, hb1⟩; have HB1 := Lib.hid (HB0.out.trans (hb1.mono HB0.out.size)); clear hb1)
    go_ret
    exact ⟨ret_bool (by rw [HCN.out]; rfl), HB0.out⟩
  · have g1 : decide (0 < lv) = false := decide_eq_false h
    rw [g1] at HCN
    go_enter Tryd.func68, Tryd.ntmps68
    go_wp2_with (go_at_call 89; go_must (refine (HS.out _ HB0.out).mono ?_); rintro e w1 ⟨rfl, hb1⟩; have HB1 := Lib.hid (HB0.out.trans (hb1.mono HB0.out.size)); clear hb1)
    go_ret
    exact ⟨ret_bool (by rw [HCN.out]; rfl), HB1.out⟩
end
end Go.Proofs.YtkdpmihdhiokkaaDoor
/- The reference: Beside, Next. -/
namespace Go.Proofs.YtkdpmihdhiokkaaDoor
open Go.RowKit

theorem add_off6 (g d : Nat) (hd : d < 6) (W : World) : (Instr.indexAt 144 (.pointer (some ⟨g, 0, none⟩)) (.int .i64 (d : Int))).run Tryd.prog W = .ok (.pointer (some ⟨g, d, none⟩)) W := by
  rw [run_indexAt_array (P := Tryd.prog) W 144 ⟨g, 0, none⟩ .i64 (d : Int) (by kernel_rfl)]
  rw [show Tryd.prog.arrayLen 144 = 6 by kernel_rfl, show Tryd.prog.elem 144 = 3 by kernel_rfl, if_pos (by omega), Tryd.sizeOf3]
  simp [add_off]
def evL : Array Value := #[.int .i64 1, .int .i64 0, .int .i64 (-1), .int .i64 (-1), .int .i64 (-1), .int .i64 0]
def odL : Array Value := #[.int .i64 1, .int .i64 1, .int .i64 0, .int .i64 (-1), .int .i64 0, .int .i64 1]
def roL : Array Value := #[.int .i64 0, .int .i64 1, .int .i64 1, .int .i64 0, .int .i64 (-1), .int .i64 (-1)]
theorem ev_at {d : Nat} (hd : d < 6) : evL[d]? = some (.int .i64 (M.dx d 0)) := by
  obtain rfl | rfl | rfl | rfl | rfl | rfl : d = 0 ∨ d = 1 ∨ d = 2 ∨ d = 3 ∨ d = 4 ∨ d = 5 := by omega
  all_goals rfl
theorem od_at {d : Nat} (hd : d < 6) : odL[d]? = some (.int .i64 (M.dx d 1)) := by
  obtain rfl | rfl | rfl | rfl | rfl | rfl : d = 0 ∨ d = 1 ∨ d = 2 ∨ d = 3 ∨ d = 4 ∨ d = 5 := by omega
  all_goals rfl
theorem ro_at {d : Nat} (hd : d < 6) : roL[d]? = some (.int .i64 (M.dy d)) := by
  obtain rfl | rfl | rfl | rfl | rfl | rfl : d = 0 ∨ d = 1 ∨ d = 2 ∨ d = 3 ∨ d = 4 ∨ d = 5 := by omega
  all_goals rfl
section
variable (s : M.Sea) (dA tA sA : Option Addr) (dc tc sc B : Nat) (w : World)
set_option maxRecDepth 100000 in
set_option maxHeartbeats 3200000 in
theorem beside_ok (c d : Nat) (hs : s.Ok) (hc : c < s.nd) (hd : d < 6) :
    Calls Tryd.prog 90 #[.agg #[.int .i64 (s.W : Int), .int .i64 (s.H : Int), .slice dA s.nd dc, .slice tA s.nt tc, .slice sA s.nt sc], .int .i64 (c : Int), .int .i64 (d : Int)] w fun e w' => e = .returned (.tuple #[.int .i64 (M.nbV s.W s.H c d), .bool (M.nbIs s.W s.H c d)]) ∧ Below w.heap.size w w' := by
  have hnd := hs.nd1
  have hW1 := hs.w1
  have hW2 := hs.w2
  have hH1 := hs.h1
  have hH2 := hs.h2
  have hIS := Lib.hid (M.nbIs_inB s.W s.H c d)
  have hV := Lib.hid (show M.nbV s.W s.H c d = if M.nbIs s.W s.H c d then ((M.nbN s.W c d : Nat) : Int) else 0 from rfl)
  have hN := Lib.hid (fun h : M.nbIs s.W s.H c d = true => (M.nb_spec h).2.2.2)
  have hX := Lib.hid (show M.nbX s.W c d = ((c % s.W : Nat) : Int) + M.dx d (c / s.W % 2) from rfl)
  have hY := Lib.hid (show M.nbY s.W c d = ((c / s.W : Nat) : Int) + M.dy d from rfl)
  have hqx : (c : Int) / (s.W : Int) = ((c / s.W : Nat) : Int) := rfl
  have hrx : (c : Int) % (s.W : Int) = ((c % s.W : Nat) : Int) := rfl
  have hxb : c % s.W < s.W := Nat.mod_lt _ (by omega)
  have hyb : c / s.W ≤ 143 := Nat.le_trans (Nat.div_le_self _ _) (by omega)
  have hyH : c / s.W < s.H := Nat.div_lt_of_lt_mul (by rw [← hs.nd]; exact hc)
  have b0 := M.dx_bd d 0
  have b1 := M.dx_bd d 1
  have b2 := M.dy_bd d
  have y0 := ev_at hd
  have y1 := od_at hd
  have y2 := ro_at hd
  have ix := fun g W => add_off6 g d hd W
  have hp : c / s.W % 2 = 0 ∨ c / s.W % 2 = 1 := by omega
  obtain ⟨xm, hxm⟩ : ∃ xm, xm = c % s.W := ⟨_, rfl⟩
  obtain ⟨ym, hym⟩ : ∃ ym, ym = c / s.W := ⟨_, rfl⟩
  obtain ⟨pm, hpm⟩ : ∃ pm, pm = c / s.W % 2 := ⟨_, rfl⟩
  rw [← hym] at hqx hyb hyH hX hY hp
  rw [← hym] at hpm
  rw [← hpm] at hX hp
  rw [← hxm] at hrx hxb hX
  have hpar : ((ym : Int) % 2 == 0) = decide (pm = 0) := by
    rw [show ((ym : Int) % 2 == 0) = decide ((ym : Int) % 2 = 0) from rfl]
    exact decide_eq_decide.2 (by omega)
  have hW0 : ¬ s.W = 0 := by omega
  clear hxm hym hpm
  have hW1' : (1 : Int) ≤ s.W := by omega
  obtain ⟨e0, he0⟩ : ∃ e0, e0 = M.dx d 0 := ⟨_, rfl⟩
  obtain ⟨e1, he1⟩ : ∃ e1, e1 = M.dx d 1 := ⟨_, rfl⟩
  obtain ⟨en, hen⟩ : ∃ en, en = M.dy d := ⟨_, rfl⟩
  rw [← he0] at b0 y0
  rw [← he1] at b1 y1
  rw [← hen] at b2 y2 hY
  have hE0 := Lib.hid he0
  have hE1 := Lib.hid he1
  clear he0 he1 hen hs hc
  have HB0 := Lib.hid (belowAlloc w (.cells #[.int .i64 (s.W : Int), .int .i64 (s.H : Int), .slice dA s.nd dc, .slice tA s.nt tc, .slice sA s.nt sc] 25))
  go_enter Tryd.func90, Tryd.ntmps90
  go_upto_region 4 with fail
  have HX4 := Lib.hid (((belowAlloc2 w (.cells #[.int .i64 (s.W : Int), .int .i64 (s.H : Int), .slice dA s.nd dc, .slice tA s.nt tc, .slice sA s.nt sc] 25) (.cells roL 144)).alloc (by simp; omega) (.cells evL 144)).alloc (by simp; omega) (.cells odL 144))
  have C4 := Lib.hid ((((Blk.new w 25 #[.int .i64 (s.W : Int), .int .i64 (s.H : Int), .slice dA s.nd dc, .slice tA s.nt tc, .slice sA s.nt sc]).alloc (.cells roL 144)).alloc (.cells evL 144)).alloc (.cells odL 144))
  have R4 := Lib.hid (((Blk.new1 w (.cells #[.int .i64 (s.W : Int), .int .i64 (s.H : Int), .slice dA s.nd dc, .slice tA s.nt tc, .slice sA s.nt sc] 25) 144 roL).alloc (.cells evL 144)).alloc (.cells odL 144))
  have E4 := Lib.hid ((Blk.new2 w (.cells #[.int .i64 (s.W : Int), .int .i64 (s.H : Int), .slice dA s.nd dc, .slice tA s.nt tc, .slice sA s.nt sc] 25) (.cells roL 144) 144 evL).alloc (.cells odL 144))
  have O4 := Lib.hid (Blk.new3 w (.cells #[.int .i64 (s.W : Int), .int .i64 (s.H : Int), .slice dA s.nd dc, .slice tA s.nt tc, .slice sA s.nt sc] 25) (.cells roL 144) (.cells evL 144) 144 odL)
  obtain ⟨X, hX0⟩ : ∃ X, X = (((w.alloc (.cells #[.int .i64 (s.W : Int), .int .i64 (s.H : Int), .slice dA s.nd dc, .slice tA s.nt tc, .slice sA s.nt sc] 25)).alloc (.cells roL 144)).alloc (.cells evL 144)).alloc (.cells odL 144) := ⟨_, rfl⟩
  rw [← hX0] at HX4 C4 R4 E4 O4
  show Code.wp _ _ _ _ ((((w.alloc (.cells #[.int .i64 (s.W : Int), .int .i64 (s.H : Int), .slice dA s.nd dc, .slice tA s.nt tc, .slice sA s.nt sc] 25)).alloc (.cells roL 144)).alloc (.cells evL 144)).alloc (.cells odL 144))
  rw [← hX0]
  clear hX0
  have c0 := C4.out.cell 0
  go_quiet (fail)
  go_upto_region 5 with fail
  have HB4 := Lib.hid (show Below w.heap.size w (X.drewN nq) from HX4.out.drewN nq)
  have d0 : (X.drewN nq).cell? ⟨w.heap.size, 0, none⟩ = some (.int .i64 (s.W : Int)) := C4.out.cell 0
  have d1 : (X.drewN nq).cell? ⟨w.heap.size, 1, none⟩ = some (.int .i64 (s.H : Int)) := C4.out.cell 1
  have d2 : (X.drewN nq).cell? ⟨w.heap.size + 1, d, none⟩ = some (.int .i64 en) := (R4.out.cell d).trans y2
  have d3 : (X.drewN nq).cell? ⟨w.heap.size + 1 + 1, d, none⟩ = some (.int .i64 e0) := (E4.out.cell d).trans y0
  have d4 : (X.drewN nq).cell? ⟨w.heap.size + 1 + 1 + 1, d, none⟩ = some (.int .i64 e1) := (O4.out.cell d).trans y1
  have i1 := ix (w.heap.size + 1)
  have i2 := ix (w.heap.size + 1 + 1)
  have i3 := ix (w.heap.size + 1 + 1 + 1)
  clear c0 y0 y1 y2 ix
  generalize X.drewN nq = Y at HB4 d0 d1 d2 d3 d4 ⊢
  rcases hp with rfl | rfl
  · simp only [decide_true, show (0 = 1) = False by simp, decide_false] at hpar

    have HIS := Lib.hid (show M.nbIs s.W s.H c d = (M.inB 0 ((s.W : Int) - 1) ((xm : Int) + e0) && M.inB 0 ((s.H : Int) - 1) ((ym : Int) + en)) from by rw [hIS.out, hX.out, hY.out, hE0.out])
    have HN := Lib.hid (show M.nbIs s.W s.H c d = true → ((ym : Int) + en) * s.W + ((xm : Int) + e0) = (M.nbN s.W c d : Nat) from by rw [hE0.out, ← hX.out, ← hY.out]; exact hN.out)
    cases hx : M.inB 0 ((s.W : Int) - 1) ((xm : Int) + e0)
    · have HF := Lib.hid (show M.nbIs s.W s.H c d = false from by rw [HIS.out, hx]; rfl)
      go_wp2_with (go_at_call 63; refine (from_any _ _ _ _).mono ?_; rintro e w1 ⟨rfl, rfl⟩)
      go_ret2
      exact ⟨by rw [hV.out, HF.out]; rfl, HB4.out⟩
    · cases hy : M.inB 0 ((s.H : Int) - 1) ((ym : Int) + en)
      · have HF := Lib.hid (show M.nbIs s.W s.H c d = false from by rw [HIS.out, hx, hy]; rfl)
        go_wp2_with (go_at_call 63; refine (from_any _ _ _ _).mono ?_; rintro e w1 ⟨rfl, rfl⟩)
        go_ret2
        exact ⟨by rw [hV.out, HF.out]; rfl, HB4.out⟩
      · have HF := Lib.hid (show M.nbIs s.W s.H c d = true from by rw [HIS.out, hx, hy]; rfl)
        have hxi := M.inB_iff.1 hx
        have hyi := M.inB_iff.1 hy
        have hm0 : 0 ≤ ((ym : Int) + en) * s.W := Int.mul_nonneg (by omega) (by omega)
        have hm1 : ((ym : Int) + en) * s.W ≤ 11 * 12 := Int.mul_le_mul (by omega) (by omega) (by omega) (by omega)
        obtain ⟨mm, hmm⟩ : ∃ mm, mm = ((ym : Int) + en) * s.W := ⟨_, rfl⟩
        have HM := Lib.hid hmm
        rw [← hmm] at hm0 hm1
        have hmr : ((ym : Int) + en) * s.W = mm := hmm.symm
        clear hmm
        go_wp2_with (go_at_call 63; refine (from_any _ _ _ _).mono ?_; rintro e w1 ⟨rfl, rfl⟩)
        go_ret2
        refine ⟨?_, HB4.out⟩
        rw [hV.out, HF.out, if_pos rfl, ← HN.out HF.out, ← HM.out]
        rfl
  · simp only [decide_true, show (1 = 0) = False by simp, decide_false] at hpar

    have HIS := Lib.hid (show M.nbIs s.W s.H c d = (M.inB 0 ((s.W : Int) - 1) ((xm : Int) + e1) && M.inB 0 ((s.H : Int) - 1) ((ym : Int) + en)) from by rw [hIS.out, hX.out, hY.out, hE1.out])
    have HN := Lib.hid (show M.nbIs s.W s.H c d = true → ((ym : Int) + en) * s.W + ((xm : Int) + e1) = (M.nbN s.W c d : Nat) from by rw [hE1.out, ← hX.out, ← hY.out]; exact hN.out)
    cases hx : M.inB 0 ((s.W : Int) - 1) ((xm : Int) + e1)
    · have HF := Lib.hid (show M.nbIs s.W s.H c d = false from by rw [HIS.out, hx]; rfl)
      go_wp2_with (go_at_call 63; refine (from_any _ _ _ _).mono ?_; rintro e w1 ⟨rfl, rfl⟩)
      go_ret2
      exact ⟨by rw [hV.out, HF.out]; rfl, HB4.out⟩
    · cases hy : M.inB 0 ((s.H : Int) - 1) ((ym : Int) + en)
      · have HF := Lib.hid (show M.nbIs s.W s.H c d = false from by rw [HIS.out, hx, hy]; rfl)
        go_wp2_with (go_at_call 63; refine (from_any _ _ _ _).mono ?_; rintro e w1 ⟨rfl, rfl⟩)
        go_ret2
        exact ⟨by rw [hV.out, HF.out]; rfl, HB4.out⟩
      · have HF := Lib.hid (show M.nbIs s.W s.H c d = true from by rw [HIS.out, hx, hy]; rfl)
        have hxi := M.inB_iff.1 hx
        have hyi := M.inB_iff.1 hy
        have hm0 : 0 ≤ ((ym : Int) + en) * s.W := Int.mul_nonneg (by omega) (by omega)
        have hm1 : ((ym : Int) + en) * s.W ≤ 11 * 12 := Int.mul_le_mul (by omega) (by omega) (by omega) (by omega)
        obtain ⟨mm, hmm⟩ : ∃ mm, mm = ((ym : Int) + en) * s.W := ⟨_, rfl⟩
        have HM := Lib.hid hmm
        rw [← hmm] at hm0 hm1
        have hmr : ((ym : Int) + en) * s.W = mm := hmm.symm
        clear hmm
        go_wp2_with (go_at_call 63; refine (from_any _ _ _ _).mono ?_; rintro e w1 ⟨rfl, rfl⟩)
        go_ret2
        refine ⟨?_, HB4.out⟩
        rw [hV.out, HF.out, if_pos rfl, ← HN.out HF.out, ← HM.out]
        rfl
end
end Go.Proofs.YtkdpmihdhiokkaaDoor
/- The reference: Next, At. -/
namespace Go.Proofs.YtkdpmihdhiokkaaDoor
open Go.RowKit

section
variable (s : M.Sea) (dA tA sA : Option Addr) (dc tc sc B : Nat) (w : World)
set_option maxRecDepth 100000 in
set_option maxHeartbeats 3200000 in
theorem rnext_ok (a b : Nat) (hs : s.Ok) (ha : a < s.nd) :
    Calls Tryd.prog 69 #[.agg #[.int .i64 (s.W : Int), .int .i64 (s.H : Int), .slice dA s.nd dc, .slice tA s.nt tc, .slice sA s.nt sc], .int .i64 (a : Int), .int .i64 (b : Int)] w fun e w' => e = .returned (.bool (M.adj s.W s.H a b)) ∧ Below w.heap.size w w' := by
  have HAD := Lib.hid (show M.adj s.W s.H a b = (M.anyTo 6 (fun d => M.nbIs s.W s.H a d && M.nbN s.W a d == b) || a == b) from rfl)
  have HB0 := Lib.hid (belowAlloc w (.cells #[.int .i64 (s.W : Int), .int .i64 (s.H : Int), .slice dA s.nd dc, .slice tA s.nt tc, .slice sA s.nt sc] 25))
  have C0 := Lib.hid (Blk.new w 25 #[.int .i64 (s.W : Int), .int .i64 (s.H : Int), .slice dA s.nd dc, .slice tA s.nt tc, .slice sA s.nt sc])
  have HBE := Lib.hid (fun W d (hd : d < 6) => beside_ok s dA tA sA dc tc sc W a d hs ha hd)
  obtain ⟨X, hX⟩ : ∃ X, X = w.alloc (.cells #[.int .i64 (s.W : Int), .int .i64 (s.H : Int), .slice dA s.nd dc, .slice tA s.nt tc, .slice sA s.nt sc] 25) := ⟨_, rfl⟩
  have HXe := Lib.hid hX
  rw [← hX] at HB0 C0
  clear hs ha hX
  go_enter Tryd.func69, Tryd.ntmps69
  go_upto_region 1 with fail
  rw [← HXe.out]
  clear HXe
  go_wp2_with fail
  go_loopw [7] (fun i wr => ∃ k : Nat, k ≤ 6 ∧ i = .int .i64 (k : Int) ∧ Hid (M.anyTo k (fun d => M.nbIs s.W s.H a d && M.nbN s.W a d == b) = false) ∧ Below X.heap.size X wr) (fun i _ => 6 - (intOf i).toNat)
  case atStart => exact ⟨0, Nat.zero_le _, rfl, Lib.hid rfl, Below.refl _ _⟩
  case round =>
    obtain ⟨k, hk, rfl, HF, hbw⟩ := hrel
    have HW := Lib.hid hbw
    have hz := hbw.size
    clear hbw
    by_cases hlt : k < 6
    · have c0 := (C0.out.below' HW.out).cell 0
      have c1 := (C0.out.below' HW.out).cell 1
      have c2 := (C0.out.below' HW.out).cell 2
      have c3 := (C0.out.below' HW.out).cell 3
      have c4 := (C0.out.below' HW.out).cell 4
      have HBK := Lib.hid (HBE.out wr k hlt)
      have HNX := Lib.hid (show M.anyTo (k + 1) (fun d => M.nbIs s.W s.H a d && M.nbN s.W a d == b) = (M.anyTo k (fun d => M.nbIs s.W s.H a d && M.nbN s.W a d == b) || (M.nbIs s.W s.H a k && M.nbN s.W a k == b)) from rfl)
      have HYS := Lib.hid (fun h : (M.nbIs s.W s.H a k && M.nbN s.W a k == b) = true => (M.anyTo_iff.2 ⟨k, hlt, h⟩ : M.anyTo 6 (fun d => M.nbIs s.W s.H a d && M.nbN s.W a d == b) = true))
      have HV := Lib.hid (show M.nbV s.W s.H a k = if M.nbIs s.W s.H a k then ((M.nbN s.W a k : Nat) : Int) else 0 from rfl)
      obtain ⟨nv, hnv⟩ : ∃ nv, nv = M.nbV s.W s.H a k := ⟨_, rfl⟩
      obtain ⟨ni, hni⟩ : ∃ ni, ni = M.nbIs s.W s.H a k := ⟨_, rfl⟩
      obtain ⟨nn, hnn⟩ : ∃ nn, nn = M.nbN s.W a k := ⟨_, rfl⟩
      rw [← hnv, ← hni] at HBK
      rw [← hnv, ← hni, ← hnn] at HV
      rw [← hni, ← hnn] at HNX HYS
      clear hnv hni hnn
      cases ni
      · have HN := Lib.hid (show M.anyTo (k + 1) (fun d => M.nbIs s.W s.H a d && M.nbN s.W a d == b) = false by rw [HNX.out, HF.out]; rfl)
        clear HNX HYS
        go_wp2_with (go_at_call 90; go_must (refine HBK.out.mono ?_); rintro e w5 ⟨rfl, hb5⟩; have HB5 := Lib.hid (HW.out.trans (hb5.mono hz)); clear hb5)
        go_roundw
        case rel => exact ⟨k + 1, by omega, by go_num, HN.out, HB5.out⟩
        case measure => simp [intOf]; omega
      · have HV2 := Lib.hid (show nv = ((nn : Nat) : Int) from HV.out)
        rw [HV2.out] at HBK
        by_cases hq : nn = b
        · subst hq
          have HY := Lib.hid (HYS.out (by simp))
          go_wp2_with (go_at_call 90; go_must (refine HBK.out.mono ?_); rintro e w5 ⟨rfl, hb5⟩; have HB5 := Lib.hid (HW.out.trans (hb5.mono hz)); clear hb5)
          go_ret
          exact ⟨ret_bool (by rw [HAD.out, HY.out]; rfl), HB0.out.trans (HB5.out.mono HB0.out.size)⟩
        · have g : ((nn : Int) == (b : Int)) = false := by rw [beq_eq_false_iff_ne]; omega
          have HN := Lib.hid (show M.anyTo (k + 1) (fun d => M.nbIs s.W s.H a d && M.nbN s.W a d == b) = false by rw [HNX.out, HF.out]; simp [hq])
          clear HNX HYS hq
          go_wp2_with (go_at_call 90; go_must (refine HBK.out.mono ?_); rintro e w5 ⟨rfl, hb5⟩; have HB5 := Lib.hid (HW.out.trans (hb5.mono hz)); clear hb5)
          go_roundw
          case rel => exact ⟨k + 1, by omega, by go_num, HN.out, HB5.out⟩
          case measure => simp [intOf]; omega
    · obtain rfl : k = 6 := by omega
      go_wp2_with fail
      go_ret
      refine ⟨ret_bool ?_, HB0.out.trans (HW.out.mono HB0.out.size)⟩
      rw [HAD.out, HF.out, Bool.false_or]
      apply M.bool_ext
      simp only [beq_iff_eq]
      omega
end
section
variable (l : M.Leg) (cc B : Nat) (cA : Option Addr) (t : Int) (w : World)
set_option maxRecDepth 100000 in
set_option maxHeartbeats 3200000 in
theorem rat_any (hb : -1000 ≤ t ∧ t ≤ 1000 ∧ -1000 ≤ l.at_ ∧ l.at_ ≤ 1000) (hn : l.n ≤ 1000) (hR : Rd1 w B cA l.n l.c) (hB : B ≤ w.heap.size) :
    Calls Tryd.prog 44 #[.agg #[.int .i64 l.at_, .int .i64 l.lv, .int .i64 l.dr, .bool l.tail, .slice cA l.n cc], .int .i64 t] w fun e w' => e = .returned (.int .i64 (M.atC l t)) ∧ Below w.heap.size w w' := by
  have HB0 := Lib.hid (belowAlloc w (.cells #[.int .i64 l.at_, .int .i64 l.lv, .int .i64 l.dr, .bool l.tail, .slice cA l.n cc] 41))
  by_cases h1 : t < l.at_
  · have HV := Lib.hid (M.atC_out (l := l) (t := t) (.inl h1))
    go_enter Tryd.func44, Tryd.ntmps44
    go_wp2_with fail
    go_ret
    exact ⟨ret_int HV.out.symm, HB0.out⟩
  · by_cases h2 : l.at_ + l.n ≤ t
    · have HV := Lib.hid (M.atC_out (l := l) (t := t) (.inr h2))
      go_enter Tryd.func44, Tryd.ntmps44
      go_wp2_with fail
      go_ret
      exact ⟨ret_int HV.out.symm, HB0.out⟩
    · obtain ⟨k, hk⟩ : ∃ k : Nat, t - l.at_ = (k : Int) := ⟨(t - l.at_).toNat, by omega⟩
      have hkn : k < l.n := by omega
      have HV := Lib.hid (show M.atC l t = l.c k by rw [M.atC_in (by omega) (by omega)]; congr 1; omega)
      have hR' := hR.below (HB0.out.mono hB)
      obtain ⟨b, off, rfl, hb', c0⟩ := hR'.at_ hkn
      have kx : decide (l.n ≤ k) = false := decide_eq_false (by omega)
      have hg1 : decide (t < l.at_) = false := decide_eq_false h1
      have hg2 : decide (l.at_ + l.n ≤ t) = false := decide_eq_false h2
      clear hR hR'
      go_enter Tryd.func44, Tryd.ntmps44
      go_wp2_with fail
      go_ret
      exact ⟨ret_int HV.out.symm, HB0.out⟩
end
end Go.Proofs.YtkdpmihdhiokkaaDoor
