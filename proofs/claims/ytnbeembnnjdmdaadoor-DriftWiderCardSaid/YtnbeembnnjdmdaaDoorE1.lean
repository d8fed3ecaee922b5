/- The reference of layer 1: from, Cells, Beside. -/
import Derived.Test.YtnbeembnnjdmdaaDoorD11
namespace Go.Proofs.YtnbeembnnjdmdaaDoor
open Go.RowKit

theorem from_any (n lo hi : Int) (w : World) :
    Calls Tryd.prog 78 #[.int .i64 n, .int .i64 lo, .int .i64 hi] w fun e w' => e = .returned (.bool (M.inB lo hi n)) ∧ w' = w := by
  unfold M.inB
  by_cases h1 : lo ≤ n
  · have g1 : decide (lo ≤ n) = true := decide_eq_true h1
    go_enter Tryd.func78, Tryd.ntmps78
    go_wp2_with fail
    go_ret
    exact ⟨ret_bool (by simp [h1]), rfl⟩
  · have g1 : decide (lo ≤ n) = false := decide_eq_false h1
    go_enter Tryd.func78, Tryd.ntmps78
    go_wp2_with fail
    go_ret
    exact ⟨ret_bool (by simp <;> omega), rfl⟩
section
variable (s : M.Sea) (dA tA sA : Option Addr) (dc tc sc B : Nat) (w : World)
set_option maxRecDepth 100000 in
set_option maxHeartbeats 3200000 in
theorem rcells_ok (hs : s.Ok) :
    Calls Tryd.prog 27 #[.agg #[.int .i64 (s.W : Int), .int .i64 (s.H : Int), .slice dA s.nd dc, .slice tA s.nt tc, .slice sA s.nt sc]] w fun e w' => e = .returned (.int .i64 (s.nd : Int)) ∧ Below w.heap.size w w' := by
  have hnd := hs.nd1
  have HB0 := Lib.hid (belowAlloc w (.cells #[.int .i64 (s.W : Int), .int .i64 (s.H : Int), .slice dA s.nd dc, .slice tA s.nt tc, .slice sA s.nt sc] 25))
  have hm : (s.W : Int) * (s.H : Int) = (s.nd : Int) := by rw [hs.nd]; simp
  have HR := Lib.hid (show IntKind.i64.wrap ((s.W : Int) * (s.H : Int)) = (s.nd : Int) by rw [hm, IntKind.wrap_i64]; omega)
  have HR2 := Lib.hid (show wrap64 ((s.W : Int) * (s.H : Int)) = (s.nd : Int) by rw [hm]; exact IntWalk.wrap64_in _ (by omega))
  clear hs hm
  go_enter Tryd.func27, Tryd.ntmps27
  go_wp2_with fail
  go_ret
  exact ⟨ret_int (by first | exact HR.out | exact HR2.out), HB0.out⟩
end
end Go.Proofs.YtnbeembnnjdmdaaDoor
/- The reference: cobleref01.Check, at any chart. -/
namespace Go.Proofs.YtnbeembnnjdmdaaDoor
open Go.RowKit

theorem from_v (w : World) {n lo hi : Int} {b : Bool} (h : M.inB lo hi n = b) : Calls Tryd.prog 78 #[.int .i64 n, .int .i64 lo, .int .i64 hi] w fun e w' => e = .returned (.bool b) ∧ w' = w := by rw [← h]; exact from_any n lo hi w
theorem M.allTo_no {n k : Nat} {p : Nat → Bool} (hk : k < n) (h : p k = false) : M.allTo n p = false := by
  cases ha : M.allTo n p
  · rfl
  · have := M.allTo_iff.1 ha k hk; rw [h] at this; cases this
section
variable (W H : Int) (dA tA sA : Option Addr) (nd dc nt tc ns sc B : Nat) (dep : Nat → Int) (tide : Nat → Nat → Int) (sw : Nat → Int) (w : World)
set_option maxRecDepth 100000 in
set_option maxHeartbeats 6400000 in
theorem rchk_any (hnd : nd ≤ maxLen) (hnt : nt ≤ maxLen) (hns : ns ≤ maxLen) (hR : RdC w B dA tA sA nd nt ns dep tide sw) (hB : B ≤ w.heap.size) :
    Calls Tryd.prog 47 #[.agg #[.int .i64 W, .int .i64 H, .slice dA nd dc, .slice tA nt tc, .slice sA ns sc]] w fun e w' => e = .returned (.int .i64 (if M.chkC W H nd nt ns dep tide sw then 0 else 10)) ∧ Below w.heap.size w w' := by
  obtain ⟨E, hE⟩ : ∃ E, E = M.chkC W H nd nt ns dep tide sw := ⟨_, rfl⟩
  rw [← hE]
  unfold M.chkC at hE
  obtain ⟨R, hRE⟩ : ∃ R : Int, R = if E then 0 else 10 := ⟨_, rfl⟩
  rw [← hRE]
  have HRE := Lib.hid hRE
  clear hRE
  have HB0 := Lib.hid (belowAlloc w (.cells #[.int .i64 W, .int .i64 H, .slice dA nd dc, .slice tA nt tc, .slice sA ns sc] 25))
  have D0 := Lib.hid (Blk.new w 25 #[.int .i64 W, .int .i64 H, .slice dA nd dc, .slice tA nt tc, .slice sA ns sc])
  by_cases hp : M.inB 1 12 W = true ∧ M.inB 1 12 H = true ∧ (nd : Int) = W * H ∧ M.inB 1 60 nt = true ∧ ns = nt
  · obtain ⟨h1, h2, h3, h4, rfl⟩ := hp
    obtain ⟨m1, m2⟩ := wrap_mul h1 h2
    have g1 : ((nd : Int) != W * H) = false := by rw [h3]; simp
    have g2 : ((ns : Int) != (ns : Int)) = false := by simp
    have HE := Lib.hid hE
    have H0 := Lib.hid (And.intro h1 (And.intro h2 (And.intro h3 h4)))
    have HR := Lib.hid (hR.below (HB0.out.mono hB))
    have hns60 : 1 ≤ ns ∧ ns ≤ 60 := by have := M.inB_iff.1 h4; omega
    unfold maxLen at hnd hns
    clear hE h3 hR
    go_enter Tryd.func47, Tryd.ntmps47
    go_upto_region 3 with (go_at_call 78; refine (from_any _ _ _ _).mono ?_; rintro e w1 ⟨rfl, rfl⟩)
    obtain ⟨X, hX⟩ : ∃ X, X = w.alloc (.cells #[.int .i64 W, .int .i64 H, .slice dA nd dc, .slice tA ns tc, .slice sA ns sc] 25) := ⟨_, rfl⟩
    rw [← hX] at HB0 D0 HR
    rw [← hX]
    clear hX
    have hBX : B ≤ X.heap.size := Nat.le_trans hB HB0.out.size
    clear h1 h2 h4 m1 m2 g1 g2
    go_wp2_with fail
    go_loopw [3] (fun i wr => ∃ k : Nat, k ≤ nd ∧ i = .int .i64 (k : Int) ∧ Hid (M.allTo k (fun i => M.inB (-1000) 1000 (dep i)) = true) ∧ wr = X) (fun i _ => nd - (intOf i).toNat)
    case atStart => exact ⟨0, Nat.zero_le _, rfl, Lib.hid rfl, rfl⟩
    case round =>
      obtain ⟨k, hk, rfl, HF, rfl⟩ := hrel
      have d2 := D0.out.cell 2
      by_cases hlt : k < nd
      · obtain ⟨b, off, rfl, hb, c0⟩ := HR.out.d.at_ hlt
        have kx : decide (nd ≤ k) = false := decide_eq_false (by omega)
        cases hp : M.inB (-1000) 1000 (dep k)
        · have HP := Lib.hid hp
          clear hp
          go_wp2_with (go_at_call 78; refine (from_v _ HP.out).mono ?_; rintro e w1 ⟨rfl, rfl⟩)
          go_ret
          refine ⟨?_, HB0.out⟩
          have : E = false := by rw [HE.out, M.allTo_no hlt HP.out]; simp
          rw [HRE.out, this]; rfl
        · have HP := Lib.hid hp
          clear hp
          go_wp2_with (go_at_call 78; refine (from_v _ HP.out).mono ?_; rintro e w1 ⟨rfl, rfl⟩)
          go_roundw
          case rel => exact ⟨k + 1, by omega, by go_num, Lib.hid (by simp [M.allTo, HF.out, HP.out]), by first | rfl | trivial⟩
          case measure => simp [intOf]; omega
      · obtain rfl : k = nd := by omega
        have HQ1 := Lib.hid HF.out
        go_wp2_with fail
        clear d2
        go_loopw [4] (fun i wq => ∃ j : Nat, j ≤ ns ∧ i = .int .i64 (j : Int) ∧ Hid (M.allTo j (fun t => M.inB 0 (tide t 1) (tide t 0) && decide (tide t 1 ≤ 200)) = true) ∧ Hid (M.allTo j (fun t => M.inB 0 100 (sw t)) = true) ∧ ∃ n, wq = wr.drewN n) (fun i _ => ns - (intOf i).toNat)
        case atStart => exact ⟨0, Nat.zero_le _, rfl, Lib.hid rfl, Lib.hid rfl, 0, rfl⟩
        case round =>
          obtain ⟨j, hj, rfl, HF1, HF2, n, rfl⟩ := hrel
          by_cases hlt : j < ns
          · obtain ⟨tb, to_, rfl, htb, t0, t1⟩ := HR.out.t.at2 hlt
            obtain ⟨sb, so, rfl, hsb, s0⟩ := HR.out.s.at_ hlt
            have d3 : (wr.drewN n).cell? ⟨w.heap.size, 3, none⟩ = some (.slice (some ⟨tb, to_, none⟩) ns tc) := D0.out.cell 3
            have d4 : (wr.drewN n).cell? ⟨w.heap.size, 4, none⟩ = some (.slice (some ⟨sb, so, none⟩) ns sc) := D0.out.cell 4
            have t0 : (wr.drewN n).cell? ⟨tb, to_ + j * 2, none⟩ = some (.int .i64 (tide j 0)) := t0
            have t1 : (wr.drewN n).cell? ⟨tb, to_ + j * 2 + 1, none⟩ = some (.int .i64 (tide j 1)) := t1
            have s0 : (wr.drewN n).cell? ⟨sb, so + j, none⟩ = some (.int .i64 (sw j)) := s0
            have HB2 := Lib.hid (show Below w.heap.size w (wr.drewN n) from HB0.out.drewN n)
            have HMO := Lib.hid (show ∀ m, ∃ n', (wr.drewN n).drewN m = wr.drewN n' from fun m => ⟨n + m, by rw [World.drewN_drewN]⟩)
            generalize wr.drewN n = Y at d3 d4 t0 t1 s0 HB2 HMO ⊢
            have kx : decide (ns ≤ j) = false := decide_eq_false (by omega)
            have HA1 := Lib.hid (show M.allTo (j + 1) (fun t => M.inB 0 (tide t 1) (tide t 0) && decide (tide t 1 ≤ 200)) = (M.allTo j (fun t => M.inB 0 (tide t 1) (tide t 0) && decide (tide t 1 ≤ 200)) && (M.inB 0 (tide j 1) (tide j 0) && decide (tide j 1 ≤ 200))) from rfl)
            have HA2 := Lib.hid (show M.allTo (j + 1) (fun t => M.inB 0 100 (sw t)) = (M.allTo j (fun t => M.inB 0 100 (sw t)) && M.inB 0 100 (sw j)) from rfl)
            have HN1 := Lib.hid (fun h : (M.inB 0 (tide j 1) (tide j 0) && decide (tide j 1 ≤ 200)) = false => (show E = false by rw [HE.out, M.allTo_no (n := ns) (p := fun t => M.inB 0 (tide t 1) (tide t 0) && decide (tide t 1 ≤ 200)) hlt h]; simp))
            have HN2 := Lib.hid (fun h : M.inB 0 100 (sw j) = false => (show E = false by rw [HE.out, M.allTo_no (n := ns) (p := fun t => M.inB 0 100 (sw t)) hlt h]; simp))
            obtain ⟨x0, hx0⟩ : ∃ x0, x0 = tide j 0 := ⟨_, rfl⟩
            obtain ⟨x1, hx1⟩ : ∃ x1, x1 = tide j 1 := ⟨_, rfl⟩
            obtain ⟨x2, hx2⟩ : ∃ x2, x2 = sw j := ⟨_, rfl⟩
            rw [← hx0] at t0 HA1 HN1
            rw [← hx1] at t1 HA1 HN1
            rw [← hx2] at s0 HA2 HN2
            clear hx0 hx1 hx2
            cases q1 : M.inB 0 x1 x0
            · have HQ := Lib.hid q1
              have HEF := Lib.hid (HN1.out (by rw [q1]; rfl))
              clear q1
              go_upto_region 11 with fail
              go_quiet (first | (go_at_call 78; exact Calls.quiet_of_same (from_v _ HQ.out)) | fail)
              go_wp2_with fail
              go_ret
              exact ⟨by rw [HRE.out, HEF.out]; rfl, HB2.out.drewN nq⟩
            · have HQ := Lib.hid q1
              clear q1
              by_cases q2 : x1 ≤ 200
              · have g2 : decide (200 < x1) = false := decide_eq_false (by omega)
                have HQ2 := Lib.hid (decide_eq_true q2)
                clear q2
                cases q3 : M.inB 0 100 x2
                · have HQ3 := Lib.hid q3
                  have HEF := Lib.hid (HN2.out q3)
                  clear q3
                  go_upto_region 11 with fail
                  go_quiet (first | (go_at_call 78; first | exact Calls.quiet_of_same (from_v _ HQ.out) | exact Calls.quiet_of_same (from_v _ HQ3.out)) | fail)
                  go_wp2_with fail
                  go_ret
                  exact ⟨by rw [HRE.out, HEF.out]; rfl, HB2.out.drewN nq⟩
                · have HQ3 := Lib.hid q3
                  clear q3
                  go_upto_region 11 with fail
                  go_quiet (first | (go_at_call 78; first | exact Calls.quiet_of_same (from_v _ HQ.out) | exact Calls.quiet_of_same (from_v _ HQ3.out)) | fail)
                  go_wp2_with fail
                  go_roundw
                  case rel => exact ⟨j + 1, by omega, by go_num, Lib.hid (by rw [HA1.out, HF1.out, HQ.out, HQ2.out]; rfl), Lib.hid (by rw [HA2.out, HF2.out, HQ3.out]; rfl), HMO.out _⟩
                  case measure => simp [intOf]; omega
              · have g2 : decide (200 < x1) = true := decide_eq_true (by omega)
                have HEF := Lib.hid (HN1.out (by rw [decide_eq_false q2]; simp))
                clear q2
                go_upto_region 11 with fail
                go_quiet (first | (go_at_call 78; exact Calls.quiet_of_same (from_v _ HQ.out)) | fail)
                go_wp2_with fail
                go_ret
                exact ⟨by rw [HRE.out, HEF.out]; rfl, HB2.out.drewN nq⟩
          · obtain rfl : j = ns := by omega
            have d3 : (wr.drewN n).cell? ⟨w.heap.size, 3, none⟩ = some (.slice tA j tc) := D0.out.cell 3
            go_wp2_with fail
            go_ret
            refine ⟨?_, HB0.out.drewN n⟩
            have h1 := H0.out
            rw [HRE.out, HE.out, HQ1.out, HF1.out, HF2.out, h1.1, h1.2.1, h1.2.2.2, decide_eq_true h1.2.2.1]
            simp
  · have HEf : E = false := by
      cases hE' : E
      · rfl
      · rw [hE'] at hE
        have hE := hE.symm
        simp only [Bool.and_eq_true, decide_eq_true_eq] at hE
        exact absurd ⟨hE.1.1.1.1.1.1.1, hE.1.1.1.1.1.1.2, hE.1.1.1.1.1.2, hE.1.1.1.1.2, hE.1.1.1.2⟩ hp
    have hR10 : R = 10 := by rw [HRE.out, HEf]; rfl
    rw [hR10]
    clear hE hR hR10 HEf
    have k1 : M.inB 1 12 W = false ∨ (M.inB 1 12 W = true ∧ M.inB 1 12 H = false) ∨ (M.inB 1 12 W = true ∧ M.inB 1 12 H = true ∧ (nd : Int) ≠ W * H) ∨ (M.inB 1 12 W = true ∧ M.inB 1 12 H = true ∧ (nd : Int) = W * H ∧ M.inB 1 60 nt = false) ∨ (M.inB 1 12 W = true ∧ M.inB 1 12 H = true ∧ (nd : Int) = W * H ∧ M.inB 1 60 nt = true ∧ ns ≠ nt) := by
      cases h1 : M.inB 1 12 W
      · exact .inl rfl
      · cases h2 : M.inB 1 12 H
        · exact .inr (.inl ⟨rfl, rfl⟩)
        · by_cases h3 : (nd : Int) = W * H
          · cases h4 : M.inB 1 60 nt
            · exact .inr (.inr (.inr (.inl ⟨rfl, rfl, h3, rfl⟩)))
            · refine .inr (.inr (.inr (.inr ⟨rfl, rfl, h3, rfl, fun e => hp ⟨h1, h2, h3, h4, e⟩⟩)))
          · exact .inr (.inr (.inl ⟨rfl, rfl, h3⟩))
    clear hp
    rcases k1 with h1 | ⟨h1, h2⟩ | ⟨h1, h2, h3⟩ | ⟨h1, h2, h3, h4⟩ | ⟨h1, h2, h3, h4, h5⟩
    · go_enter Tryd.func47, Tryd.ntmps47
      go_wp2_with (go_at_call 78; refine (from_any _ _ _ _).mono ?_; rintro e w1 ⟨rfl, rfl⟩)
      go_ret
      exact ⟨rfl, HB0.out⟩
    · go_enter Tryd.func47, Tryd.ntmps47
      go_wp2_with (go_at_call 78; refine (from_any _ _ _ _).mono ?_; rintro e w1 ⟨rfl, rfl⟩)
      go_ret
      exact ⟨rfl, HB0.out⟩
    · obtain ⟨m1, m2⟩ := wrap_mul h1 h2
      have g1 : ((nd : Int) != W * H) = true := by rw [bne_iff_ne]; exact h3
      clear h3
      go_enter Tryd.func47, Tryd.ntmps47
      go_wp2_with (go_at_call 78; refine (from_any _ _ _ _).mono ?_; rintro e w1 ⟨rfl, rfl⟩)
      go_ret
      exact ⟨rfl, HB0.out⟩
    · obtain ⟨m1, m2⟩ := wrap_mul h1 h2
      have g1 : ((nd : Int) != W * H) = false := by rw [h3]; simp
      clear h3
      go_enter Tryd.func47, Tryd.ntmps47
      go_wp2_with (go_at_call 78; refine (from_any _ _ _ _).mono ?_; rintro e w1 ⟨rfl, rfl⟩)
      go_ret
      exact ⟨rfl, HB0.out⟩
    · obtain ⟨m1, m2⟩ := wrap_mul h1 h2
      have g1 : ((nd : Int) != W * H) = false := by rw [h3]; simp
      have g2 : ((ns : Int) != (nt : Int)) = true := by rw [bne_iff_ne]; omega
      clear h3 h5
      go_enter Tryd.func47, Tryd.ntmps47
      go_wp2_with (go_at_call 78; refine (from_any _ _ _ _).mono ?_; rintro e w1 ⟨rfl, rfl⟩)
      go_ret
      exact ⟨rfl, HB0.out⟩
end
end Go.Proofs.YtnbeembnnjdmdaaDoor
/- The reference of layer 2: within, dry, pushed. -/
namespace Go.Proofs.YtnbeembnnjdmdaaDoor
open Go.RowKit

theorem rin_any (n lo hi : Int) (w : World) :
    Calls Tryd.prog 28 #[.int .i64 n, .int .i64 lo, .int .i64 hi] w fun e w' => e = .returned (.bool (M.inB lo hi n)) ∧ w' = w := by
  unfold M.inB
  by_cases h1 : lo ≤ n
  · have g1 : decide (lo ≤ n) = true := decide_eq_true h1
    go_enter Tryd.func28, Tryd.ntmps28
    go_wp2_with fail
    go_ret
    exact ⟨ret_bool (by simp [h1]), rfl⟩
  · have g1 : decide (lo ≤ n) = false := decide_eq_false h1
    go_enter Tryd.func28, Tryd.ntmps28
    go_wp2_with fail
    go_ret
    exact ⟨ret_bool (by simp <;> omega), rfl⟩
theorem rin_v (w : World) {n lo hi : Int} {b : Bool} (h : M.inB lo hi n = b) : Calls Tryd.prog 28 #[.int .i64 n, .int .i64 lo, .int .i64 hi] w fun e w' => e = .returned (.bool b) ∧ w' = w := by rw [← h]; exact rin_any n lo hi w
end Go.Proofs.YtnbeembnnjdmdaaDoor
