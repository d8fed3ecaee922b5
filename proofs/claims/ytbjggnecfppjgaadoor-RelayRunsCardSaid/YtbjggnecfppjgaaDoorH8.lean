/- RelayTwice, walked. -/
import Derived.Test.YtbjggnecfppjgaaDoorT13
import Derived.Test.YtbjggnecfppjgaaDoorHB
import Derived.Test.YtbjggnecfppjgaaDoorC3
import Derived.Test.YtbjggnecfppjgaaDoorNTw
import Derived.Laws.StructEq
namespace Go.Proofs.YtbjggnecfppjgaaDoor
open Go.RowKit

theorem catF_ints (n : Nat) (E G : Nat → Nat → Int) : catF n (ints2 E) (ints2 G) = ints2 (catE n E G) := by
  funext i j
  unfold catF catE
  by_cases h : i < n <;> simp [h]
theorem neq_cen (a b c : Int) (W : World) : (binOp .neq 69 (.agg #[.int .i64 a, .int .i64 b, .int .i64 c]) (.agg #[.int .i64 a, .int .i64 b, .int .i64 c])).run Tryd.prog W = .ok (.bool false) W := by
  rw [run_neq_struct, run_equalIn_struct W 9999 69 _ _ (by kernel_rfl) (by kernel_rfl)]
  simp [Program.fieldsOf, Tryd.underlying69, Op.eqFields, part, go_sem, Tryd.underlying3]
set_option maxRecDepth 100000 in
set_option maxHeartbeats 1600000 in
/-- equal centres -/
theorem samecen_eq (A A' : Option Addr) (n c c' B : Nat) (x x' : Value) (f : Nat → Nat → Int) (w : World) (hn : n ≤ 4) (hR : Rd w B A 3 n f) (hR' : Rd w B A' 3 n f) (hB : B ≤ w.heap.size) :
    Calls Tryd.prog 23 #[.agg #[.slice A n c, x], .agg #[.slice A' n c', x']] w fun e w' => e = .returned (.bool true) ∧ Below w.heap.size w w' := by
  have g1 : ((n : Int) != (n : Int)) = false := by simp
  have HR := Lib.hid (hR.below ((belowAlloc2 w (.cells #[.slice A n c, x] 42) (.cells #[.slice A' n c', x'] 42)).mono hB))
  have HR' := Lib.hid (hR'.below ((belowAlloc2 w (.cells #[.slice A n c, x] 42) (.cells #[.slice A' n c', x'] 42)).mono hB))
  clear hR hR'
  go_enter Tryd.func23, Tryd.ntmps23
  go_wp2_with fail
  go_loopw [5] (fun i wr => ∃ k : Nat, k ≤ n ∧ i = .int .i64 k ∧ ∃ m, wr = ((w.alloc (.cells #[.slice A n c, x] 42)).alloc (.cells #[.slice A' n c', x'] 42)).drewN m) (fun i _ => n - (intOf i).toNat)
  case atStart => exact ⟨0, Nat.zero_le _, rfl, 0, rfl⟩
  case round =>
    obtain ⟨k, hk, rfl, hm⟩ := hrel
    have HM := Lib.hid hm
    have d0 : wr.cell? ⟨w.heap.size, 0, none⟩ = some (.slice A n c) := by obtain ⟨m, e⟩ := hm; rw [e]; exact ((Blk.new w _ _).alloc _).cell 0
    have d5 : wr.cell? ⟨w.heap.size + 1, 0, none⟩ = some (.slice A' n c') := by obtain ⟨m, e⟩ := hm; rw [e]; exact (Blk.new1 w _ _ _).cell 0
    by_cases hlt : k < n
    · have r1 : Rd wr B A 3 n f := by obtain ⟨m, e⟩ := hm; rw [e]; exact HR.out
      have r2 : Rd wr B A' 3 n f := by obtain ⟨m, e⟩ := hm; rw [e]; exact HR'.out
      obtain ⟨ab, ao, rfl, hab, a0, a1, a2⟩ := r1.at3 hlt
      obtain ⟨bb, bo, rfl, hbb, b0, b1, b2⟩ := r2.at3 hlt
      have k4 : decide (n ≤ k) = false := decide_eq_false (by omega)
      have hn := neq_cen (f k 0) (f k 1) (f k 2)
      clear hm r1 r2
      go_wp2_with fail
      go_quiet (fail)
      go_wp2_with fail
      go_roundw
      case rel => exact ⟨k + 1, by omega, by go_num, by obtain ⟨m, e⟩ := HM.out; exact ⟨m + nq, by rw [e, World.drewN_drewN]⟩⟩
      case measure => simp [intOf]; omega
    · obtain rfl : k = n := by omega
      clear hm
      go_wp2_with fail
      go_ret
      exact ⟨rfl, by obtain ⟨m, e⟩ := HM.out; rw [e]; exact (belowAlloc2 w _ _).drewN m⟩
section
variable (A : Option Addr) (en ec B : Nat) (E : Nat → Nat → Int) (w : World) (hR : Rd w B A 3 en E) (hB : B ≤ w.heap.size)
set_option maxRecDepth 100000 in
set_option maxHeartbeats 3200000 in
theorem twice_far (n o x : Int) (h : farE en = true ∨ (farE en = false ∧ 200 < en ∧ en ≤ 300) ∨ (farE en = false ∧ en ≤ 60 ∧ chkE n o en ≠ 0)) :
    Calls Tryd.prog 6 #[.agg #[.int .i64 n, .int .i64 o], .slice A en ec, .int .i64 x] w fun e w' => e = .returned (.bool true) ∧ Below w.heap.size w w' := by
  have HB0 := Lib.hid (belowAlloc w (.cells #[.int .i64 n, .int .i64 o] 53))
  rcases h with h1 | ⟨h1, h2, h3⟩ | ⟨h1, h3, h2⟩
  · have H1 := Lib.hid h1
    clear h1
    go_enter Tryd.func6, Tryd.ntmps6
    go_wp2_with fail
    go_quiet (fail)
    go_wp2_with (first
      | (go_at_call 15; refine (far_any _ _ _ _).mono ?_; rw [H1.out]; rintro e w1 ⟨rfl, rfl⟩)
      | (go_at_call 11; refine (works_any _).mono ?_; rintro en w9 ⟨rfl, hb9⟩; have HB9 := Lib.hid hb9; clear hb9))
    go_ret
    exact ⟨rfl, (HB0.out.drewN nq).trans (HB9.out.mono (HB0.out.drewN nq).size)⟩
  · have H1 := Lib.hid h1
    have g1 : decide ((200 : Int) < (en : Int) + 3) = true := decide_eq_true (by omega)
    clear h1
    go_enter Tryd.func6, Tryd.ntmps6
    go_wp2_with fail
    go_quiet (fail)
    go_wp2_with (first
      | (go_at_call 15; refine (far_any _ _ _ _).mono ?_; rw [H1.out]; rintro e w1 ⟨rfl, rfl⟩)
      | (go_at_call 11; refine (works_any _).mono ?_; rintro en w9 ⟨rfl, hb9⟩; have HB9 := Lib.hid hb9; clear hb9))
    go_ret
    exact ⟨rfl, (HB0.out.drewN nq).trans (HB9.out.mono (HB0.out.drewN nq).size)⟩
  · have H1 := Lib.hid h1
    obtain ⟨E0, hE0⟩ : ∃ E0, E0 = chkE n o en := ⟨_, rfl⟩
    rw [← hE0] at h2
    have H2 := Lib.hid hE0
    have g1 : (E0 != 0) = true := by rw [bne_iff_ne]; exact h2
    have g2 : decide ((200 : Int) < (en : Int) + 3) = false := decide_eq_false (by omega)
    clear h1 hE0 h2
    go_enter Tryd.func6, Tryd.ntmps6
    go_wp2_with fail
    go_quiet (fail)
    go_wp2_with (first
      | (go_at_call 15; refine (far_any _ _ _ _).mono ?_; rw [H1.out]; rintro e w1 ⟨rfl, rfl⟩)
      | (go_at_call 22; refine (check_any _ _ _ _ _ _).mono ?_; rw [← H2.out]; rintro e w1 ⟨rfl, rfl⟩)
      | (go_at_call 11; refine (works_any _).mono ?_; rintro en w9 ⟨rfl, hb9⟩; have HB9 := Lib.hid hb9; clear hb9))
    go_ret
    exact ⟨rfl, (HB0.out.drewN nq).trans (HB9.out.mono (HB0.out.drewN nq).size)⟩
include hR hB
set_option maxRecDepth 100000 in
set_option maxHeartbeats 6400000 in
theorem twice_near (n o : Nat) (x : Int) (hn : 2 ≤ n ∧ n ≤ 4) (ho : o < n) (hen : en ≤ 60) (h1 : farE en = false) (h2 : chkE n o en = 0) :
    Calls Tryd.prog 6 #[.agg #[.int .i64 (n : Int), .int .i64 (o : Int)], .slice A en ec, .int .i64 x] w fun e w' => e = .returned (.bool true) ∧ Below w.heap.size w w' := by
  have hof : (0 : Int) ≤ o ∧ (o : Int) < n := by omega
  have HRun := fun W (hb : Below w.heap.size w W) c => Run_ok n o A en c B E W hn ho (by omega) (hR.below (hb.mono hB)) (Nat.le_trans hB hb.size)
  have HRunG := fun W A' k c E' (hk : k ≤ 200) (hr : Rd W W.heap.size A' 3 k E') => Run_ok n o A' k c W.heap.size E' W hn ho hk hr (Nat.le_refl _)
  unfold RunT at HRun HRunG
  have HRunG := Lib.hid HRunG
  have HTw := fun a (ha : a < (M.runF n o E en).k) (hk : (M.runF n o E en).k < 6) => twice_run (n := n) (first := (o : Int)) (E := E) (en := en) ha hk
  obtain ⟨s, hs⟩ : ∃ s, s = M.runF n o E en := ⟨_, rfl⟩
  rw [← hs] at HTw HRun
  have HRun := Lib.hid HRun
  have HTw := Lib.hid HTw
  have hk6 : s.k ≤ 6 := by rw [hs]; exact (M.Wf.run (n := n) hof E en).k6
  have HR := Lib.hid hR
  have H1 := Lib.hid h1
  have H2 := Lib.hid h2
  have hn4 := hn.2
  have g2 : decide ((200 : Int) < (en : Int) + 3) = false := decide_eq_false (by omega)
  have HB0 := Lib.hid (belowAlloc w (.cells #[.int .i64 (n : Int), .int .i64 (o : Int)] 53))
  obtain ⟨si, hi, hz0, hz1, hz2⟩ := info_parts evt_info
  have SI := Lib.hid (And.intro hi (And.intro hz0 (And.intro hz1 hz2)))
  clear hi hz0 hz1 hz2 hs hR h1 h2 hn ho hof
  go_enter Tryd.func6, Tryd.ntmps6
  go_wp2_with fail
  go_quiet (fail)
  have HB1 := Lib.hid (HB0.out.drewN nq)
  go_upto_region 7 with (first
      | (go_at_call 15; refine (far_any _ _ _ _).mono ?_; rw [H1.out]; rintro e w1 ⟨rfl, rfl⟩)
      | (go_at_call 22; refine (check_any _ _ _ _ _ _).mono ?_; rw [H2.out]; rintro e w1 ⟨rfl, rfl⟩)
      | (go_at_call 16; go_must (refine (HRun.out _ HB1.out _).mono ?_); rintro e w1 ⟨⟨v, bv, rfl, ⟨A1, c1, A2, c2, rfl, o1, o2⟩, o3⟩, hb1⟩; have HB2 := Lib.hid (HB1.out.trans (hb1.mono HB1.out.size)); clear o1 o2 o3 hb1))
  have HB3 := Lib.hid (HB2.out.alloc HB2.out.size (.cells #[.slice A1 n c1, .slice A2 s.k c2] 42))
  have D2 := Lib.hid (Blk.new w1 42 #[.slice A1 n c1, .slice A2 s.k c2])
  clear HB0 HB1
  by_cases q1 : x < 0
  · have k1 : decide (x < 0) = true := decide_eq_true q1
    go_wp2_with (go_at_call 11; refine (works_any _).mono ?_; rintro en w9 ⟨rfl, hb9⟩; have HB9 := Lib.hid hb9; clear hb9)
    go_ret
    exact ⟨rfl, HB3.out.trans (HB9.out.mono HB3.out.size)⟩
  · obtain ⟨a, rfl⟩ := Int.eq_ofNat_of_zero_le (show 0 ≤ x by omega)
    have k1 : decide ((a : Int) < 0) = false := decide_eq_false q1
    by_cases q2 : s.k ≤ a
    · have k2 : decide ((s.k : Int) ≤ (a : Int)) = true := decide_eq_true (by omega)
      have k2n : decide (s.k ≤ a) = true := decide_eq_true q2
      go_wp2_with (go_at_call 11; refine (works_any _).mono ?_; rintro en w9 ⟨rfl, hb9⟩; have HB9 := Lib.hid hb9; clear hb9)
      go_ret
      exact ⟨rfl, HB3.out.trans (HB9.out.mono HB3.out.size)⟩
    · have k2 : decide ((s.k : Int) ≤ (a : Int)) = false := decide_eq_false (by omega)
      have k2n : decide (s.k ≤ a) = false := decide_eq_false q2
      by_cases q3 : 6 ≤ s.k
      · have k3 : decide ((6 : Int) ≤ (s.k : Int)) = true := decide_eq_true (by omega)
        go_wp2_with (go_at_call 11; refine (works_any _).mono ?_; rintro en w9 ⟨rfl, hb9⟩; have HB9 := Lib.hid hb9; clear hb9)
        go_ret
        exact ⟨rfl, HB3.out.trans (HB9.out.mono HB3.out.size)⟩
      · have k3 : decide ((6 : Int) ≤ (s.k : Int)) = false := decide_eq_false (by omega)
        obtain ⟨t1, t2, t3, tc⟩ := HTw.out a (by omega) (by omega)
        have T := Lib.hid (And.intro t1 (And.intro t2 (And.intro t3 tc)))
        clear t1 t2 t3 tc
        go_upto_region 10 with (first
          | (at_builtin; refine wpList_copy rfl (.tmp 68) (.tmp 69) 37 rfl 48 si _ 3 24 Tryd.underlying37 SI.out.1 SI.out.2.1 SI.out.2.2.1 SI.out.2.2.2 rfl (by omega) (by omega) rfl (by exact Blk.new1 _ _ _ _) (F := ints2 E) (fun _ _ => rfl) rfl (HR.out.below ((HB3.out.alloc HB3.out.size _).mono hB)).v (by omega) ?_; intro A3 d1 w3 ho1 hb1; have HO1 := Lib.hid ho1; have HB4 := Lib.hid ((HB3.out.alloc HB3.out.size (.cells #[] 48)).trans (hb1.mono (by have h := HB3.out.size; first | omega | (simp at h ⊢; done) | (simp at h ⊢; omega)))); have D3 := Lib.hid ((D2.out.alloc (.cells #[] 48)).below' hb1); clear ho1 hb1)
          | (at_builtin; go_must (refine wpList_cat rfl (.tmp 70) (.tmp 73) 37 rfl 48 si _ 3 24 Tryd.underlying37 SI.out.1 SI.out.2.1 SI.out.2.2.1 SI.out.2.2.2 rfl (by omega) (by omega) rfl (HO1.out.alloc _) (by omega) (by have h := HB4.out.size; have h2 := D3.out.lt; first | omega | (simp at h h2 ⊢; done) | (simp at h h2 ⊢; omega)) (k := 1) (G := ints2 (onceG a)) (fun _ _ => rfl) rfl (rdV_blk (Blk.new _ _ _) (fun i j hi hj => by obtain rfl : i = 0 := (by omega); obtain rfl | rfl | rfl : j = 0 ∨ j = 1 ∨ j = 2 := (by omega); all_goals rfl)) (by omega) ?_); intro v4 w4 ho2 hg2 hat2; rw [catF_ints] at ho2; obtain ⟨A4, d4, rfl⟩ := ho2.form; have hbx := ((HB4.out.alloc HB4.out.size (.cells #[.int .i64 2, .int .i64 (a : Int), .int .i64 0] 48)).grown hg2 (by have h := HB4.out.size; first | omega | (simp at h ⊢; done) | (simp at h ⊢; omega)) (fun q hq => by have h := (HO1.out.block hq).1; have h3 := HB3.out.size; first | omega | (simp at h h3; omega) | (simp at h; omega))); have HO2 := Lib.hid ho2; have HB5 := Lib.hid hbx; have D4 := Lib.hid (Blk.grown_own (D3.out.alloc _) (HO1.out.alloc _) (by decide) hg2); clear ho2 hg2 hat2 hbx)
          | (go_at_call 16; go_must (refine (HRunG.out w4 A4 (en + 1) _ (catE en E (onceG a)) (by omega) HO2.out.rdI).mono ?_); rintro e w5 ⟨⟨v, bv5, rfl, ⟨A5, c5, A6, c6, rfl, o1, o2⟩, o3⟩, hb1⟩; have Ow5 := Lib.hid o1; have OBw5 := Lib.hid o3; have HB6 := Lib.hid (HB5.out.trans (hb1.mono HB5.out.size)); have D5 := Lib.hid (D4.out.below' hb1);  clear o1 o2 o3 hb1))
        obtain ⟨s1, hs1⟩ : ∃ s1, s1 = M.runF n o (catE en E (onceG a)) (en + 1) := ⟨_, rfl⟩
        rw [← hs1] at T Ow5 ⊢
        have HBX := Lib.hid (HB6.out.alloc HB6.out.size (.cells #[.slice A5 n c5, .slice A6 s1.k c6] 42))
        have E5 := Lib.hid (Blk.new w5 42 #[.slice A5 n c5, .slice A6 s1.k c6])
        have P5 := Lib.hid (Ow5.out.rdI.below (belowAlloc w5 (.cells #[.slice A5 n c5, .slice A6 s1.k c6] 42)))
        have DX := Lib.hid (D5.out.alloc (.cells #[.slice A5 n c5, .slice A6 s1.k c6] 42))
        generalize w5.alloc (.cells #[.slice A5 n c5, .slice A6 s1.k c6] 42) = X at HBX E5 P5 DX ⊢
        have HRX := Lib.hid (HR.out.below (HBX.out.mono hB))
        have hBX : B ≤ X.heap.size := Nat.le_trans hB HBX.out.size
        have HB7 := Lib.hid (Below.refl X.heap.size X)
        have x1 := DX.out.cell 1
        have hx := DX.out.lt
        have hx5 := E5.out.lt
        clear hs1 D2 D3 D4 D5 HO1 HO2 HB3 HB4 HB5 HB6 Ow5 OBw5
        go_upto_region 12 with (first
          | (at_builtin; refine wpList_copy rfl (.tmp 85) (.tmp 86) 37 rfl 48 si _ 3 24 Tryd.underlying37 SI.out.1 SI.out.2.1 SI.out.2.2.1 SI.out.2.2.2 rfl (by omega) (by omega) rfl (by exact Blk.new _ _ _) (F := ints2 E) (fun _ _ => rfl) rfl (HRX.out.below ((HB7.out.alloc HB7.out.size _).mono hBX)).v (by omega) ?_; intro B3 b1 w6 ho1 hb1; have HP1 := Lib.hid ho1; have HB8 := Lib.hid ((HB7.out.alloc HB7.out.size (.cells #[] 48)).trans (hb1.mono (by have h := HB7.out.size; first | omega | (simp at h ⊢; done) | (simp at h ⊢; omega)))); have D6 := Lib.hid ((E5.out.alloc (.cells #[] 48)).below' hb1); clear ho1 hb1)
          | (at_builtin; go_must (refine wpList_cat rfl (.tmp 87) (.tmp 95) 37 rfl 48 si _ 3 24 Tryd.underlying37 SI.out.1 SI.out.2.1 SI.out.2.2.1 SI.out.2.2.2 rfl (by omega) (by omega) rfl (HP1.out.alloc _) (by omega) (by have h := HB8.out.size; have h2 := D6.out.lt; first | omega | (simp at h h2 ⊢; done) | (simp at h h2 ⊢; omega)) (k := 3) (G := ints2 (twiceG a s.k)) (fun _ _ => rfl) rfl (rdV_blk (Blk.new _ _ _) (fun i j hi hj => by obtain rfl | rfl | rfl : i = 0 ∨ i = 1 ∨ i = 2 := (by omega); all_goals (obtain rfl | rfl | rfl : j = 0 ∨ j = 1 ∨ j = 2 := (by omega)); all_goals rfl)) (by omega) ?_); intro v7 w7 ho2 hg2 hat2; rw [catF_ints] at ho2; obtain ⟨B4, b4, rfl⟩ := ho2.form; have hbx := ((HB8.out.alloc HB8.out.size (.cells #[.int .i64 4, .int .i64 (a : Int), .int .i64 0, .int .i64 2, .int .i64 (a : Int), .int .i64 0, .int .i64 2, .int .i64 ((s.k : Int) - 1), .int .i64 0] 48)).grown hg2 (by have h := HB8.out.size; first | omega | (simp at h ⊢; done) | (simp at h ⊢; omega)) (fun q hq => by have h := (HP1.out.block hq).1; have h3 := HB7.out.size; first | omega | (simp at h h3; omega) | (simp at h; omega))); have HP2 := Lib.hid ho2; have HB9 := Lib.hid hbx; have D7 := Lib.hid (Blk.grown_own (D6.out.alloc _) (HP1.out.alloc _) (by decide) hg2); clear ho2 hg2 hat2 hbx)
          | (go_at_call 16; go_must (refine (HRunG.out w7 B4 (en + 3) _ (catE en E (twiceG a s.k)) (by omega) HP2.out.rdI).mono ?_); rintro e w8 ⟨⟨v, bv8, rfl, ⟨A7, c7, A8, c8, rfl, o1, o2⟩, o3⟩, hb1⟩; have Ow8 := Lib.hid o1; have OBw8 := Lib.hid o3; have HB10 := Lib.hid (HB9.out.trans (hb1.mono HB9.out.size)); have D8 := Lib.hid (D7.out.below' hb1);  clear o1 o2 o3 hb1))
        obtain ⟨s3, hs3⟩ : ∃ s3, s3 = M.runF n o (catE en E (twiceG a s.k)) (en + 3) := ⟨_, rfl⟩
        rw [← hs3] at T Ow8 ⊢
        have PX := Lib.hid (((P5.out.below (HB10.out.mono (by omega))).more (Nat.le_trans (by omega) HB10.out.size)).below (belowAlloc w8 (.cells #[.slice A7 n c7, .slice A8 s3.k c8] 42)))
        have P8 := Lib.hid (by have h := (Ow8.out.rdI.below (belowAlloc w8 (.cells #[.slice A7 n c7, .slice A8 s3.k c8] 42))); rw [T.out.2.2.2] at h; exact h)
        have E8 := Lib.hid (D8.out.alloc (.cells #[.slice A7 n c7, .slice A8 s3.k c8] 42))
        have F8 := Lib.hid (Blk.new w8 42 #[.slice A7 n c7, .slice A8 s3.k c8])
        have HB11 := Lib.hid (HBX.out.trans ((HB10.out.alloc HB10.out.size (.cells #[.slice A7 n c7, .slice A8 s3.k c8] 42)).mono HBX.out.size))
        have OB8 := Lib.hid (OBw8.out.alloc (.cells #[.slice A7 n c7, .slice A8 s3.k c8] 42))
        generalize w8.alloc (.cells #[.slice A7 n c7, .slice A8 s3.k c8] 42) = Z at PX P8 E8 F8 HB11 OB8 ⊢
        obtain ⟨bg, bc, rfl⟩ := OB8.out.nz (by omega)
        have y0 : Z.cell? ⟨bg, en, none⟩ = some (.bool true) := by have h := OB8.out.cell1 (i := en) (by omega); exact h.trans (congrArg (fun b => some (Value.bool b)) T.out.1)
        have y1 : Z.cell? ⟨bg, en + 1, none⟩ = some (.bool true) := by have h := OB8.out.cell1 (i := en + 1) (by omega); exact h.trans (congrArg (fun b => some (Value.bool b)) T.out.2.1)
        have y2 : Z.cell? ⟨bg, en + 2, none⟩ = some (.bool true) := by have h := OB8.out.cell1 (i := en + 2) (by omega); exact h.trans (congrArg (fun b => some (Value.bool b)) T.out.2.2.1)
        have e0 := E8.out.cell 0
        have e1 := E8.out.cell 1
        have f0 := F8.out.cell 0
        have f1 := F8.out.cell 1
        have hzZ := F8.out.lt
        clear hs3 D6 D7 D8 HP1 HP2 HB7 HB8 HB9 HB10 HBX x1
        go_wp2_with (first
          | (go_at_call 23; go_must (refine (samecen_eq _ _ n _ _ Z.heap.size _ _ s1.c Z hn4 (PX.out.more (by omega)) (P8.out.more (by omega)) (Nat.le_refl _)).mono ?_); rintro e w9 ⟨rfl, hb9⟩; have HB12 := Lib.hid (HB11.out.trans (hb9.mono HB11.out.size)); clear hb9)
          | (go_at_call 11; refine (works_any _).mono ?_; rintro en w10 ⟨rfl, hb9⟩; have HB9 := Lib.hid hb9; clear hb9))
        go_ret
        exact ⟨rfl, HB12.out.trans (HB9.out.mono HB12.out.size)⟩
theorem relayTwice_any (n o x : Int) :
    Calls Tryd.prog 6 #[.agg #[.int .i64 n, .int .i64 o], .slice A en ec, .int .i64 x] w fun e w' => e = .returned (.bool true) ∧ Below w.heap.size w w' := by
  cases h1 : farE en
  · by_cases h3 : en ≤ 60
    · by_cases h2 : chkE n o en = 0
      · obtain ⟨n', o', rfl, rfl, a, b, c, d⟩ := fit_of_chk h1 h2
        exact twice_near A en ec B E w hR hB n' o' x ⟨a, b⟩ c d h1 h2
      · exact twice_far A en ec w n o x (.inr (.inr ⟨h1, h3, h2⟩))
    · refine twice_far A en ec w n o x (.inr (.inl ⟨h1, ?_⟩))
      unfold farE at h1
      simp at h1
      omega
  · exact twice_far A en ec w n o x (.inl h1)
end
end Go.Proofs.YtbjggnecfppjgaaDoor
