/- RelayTurns, walked. -/
import Derived.Test.YtjdkcfnipkdmgaaDoorT13
import Derived.Test.YtjdkcfnipkdmgaaDoorNMath
import Derived.Test.YtjdkcfnipkdmgaaDoorHB
namespace Go.Proofs.YtjdkcfnipkdmgaaDoor
open Go.RowKit

section
variable (A : Option Addr) (en ec B : Nat) (E : Nat → Nat → Int) (w : World) (hR : Rd w B A 3 en E) (hB : B ≤ w.heap.size)
set_option maxRecDepth 100000 in
set_option maxHeartbeats 3200000 in
theorem turns_far (n o x : Int) (h : farE en = true ∨ (farE en = false ∧ chkE n o en ≠ 0) ∨ (farE en = false ∧ chkE n o en = 0 ∧ x < 0) ∨ (farE en = false ∧ chkE n o en = 0 ∧ 0 ≤ x ∧ (en : Int) < x)) :
    Calls Tryd.prog 11 #[.agg #[.int .i64 n, .int .i64 o], .slice A en ec, .int .i64 x] w fun e w' => e = .returned (.bool true) ∧ Below w.heap.size w w' := by
  have HB0 := Lib.hid (belowAlloc w (.cells #[.int .i64 n, .int .i64 o] 61))
  rcases h with h1 | ⟨h1, h2⟩ | ⟨h1, h2, h3⟩ | ⟨h1, h2, h3, h4⟩
  · have H1 := Lib.hid h1
    clear h1
    go_enter Tryd.func11, Tryd.ntmps11
    go_wp2_with fail
    go_quiet (fail)
    go_wp2_with (first
      | (go_at_call 28; refine (far_any _ _ _ _).mono ?_; rw [H1.out]; rintro e w1 ⟨rfl, rfl⟩)
      | (go_at_call 15; refine (works_any _).mono ?_; rintro en w9 ⟨rfl, hb9⟩; have HB9 := Lib.hid hb9; clear hb9))
    go_ret
    exact ⟨rfl, (HB0.out.drewN nq).trans (HB9.out.mono (HB0.out.drewN nq).size)⟩
  · have H1 := Lib.hid h1
    obtain ⟨E0, hE0⟩ : ∃ E0, E0 = chkE n o en := ⟨_, rfl⟩
    rw [← hE0] at h2
    have H2 := Lib.hid hE0
    have g1 : (E0 != 0) = true := by rw [bne_iff_ne]; exact h2
    clear h1 hE0 h2
    go_enter Tryd.func11, Tryd.ntmps11
    go_wp2_with fail
    go_quiet (fail)
    go_wp2_with (first
      | (go_at_call 28; refine (far_any _ _ _ _).mono ?_; rw [H1.out]; rintro e w1 ⟨rfl, rfl⟩)
      | (go_at_call 34; refine (check_any _ _ _ _ _ _).mono ?_; rw [← H2.out]; rintro e w1 ⟨rfl, rfl⟩)
      | (go_at_call 15; refine (works_any _).mono ?_; rintro en w9 ⟨rfl, hb9⟩; have HB9 := Lib.hid hb9; clear hb9))
    go_ret
    exact ⟨rfl, (HB0.out.drewN nq).trans (HB9.out.mono (HB0.out.drewN nq).size)⟩
  · have H1 := Lib.hid h1
    have H2 := Lib.hid h2
    have g1 : decide (x < 0) = true := decide_eq_true h3
    clear h1 h2
    go_enter Tryd.func11, Tryd.ntmps11
    go_wp2_with fail
    go_quiet (fail)
    go_wp2_with (first
      | (go_at_call 28; refine (far_any _ _ _ _).mono ?_; rw [H1.out]; rintro e w1 ⟨rfl, rfl⟩)
      | (go_at_call 34; refine (check_any _ _ _ _ _ _).mono ?_; rw [H2.out]; rintro e w1 ⟨rfl, rfl⟩)
      | (go_at_call 15; refine (works_any _).mono ?_; rintro en w9 ⟨rfl, hb9⟩; have HB9 := Lib.hid hb9; clear hb9))
    go_ret
    exact ⟨rfl, (HB0.out.drewN nq).trans (HB9.out.mono (HB0.out.drewN nq).size)⟩
  · have H1 := Lib.hid h1
    have H2 := Lib.hid h2
    have g1 : decide (x < 0) = false := decide_eq_false (by omega)
    have g2 : decide ((en : Int) < x) = true := decide_eq_true h4
    clear h1 h2
    go_enter Tryd.func11, Tryd.ntmps11
    go_wp2_with fail
    go_quiet (fail)
    go_wp2_with (first
      | (go_at_call 28; refine (far_any _ _ _ _).mono ?_; rw [H1.out]; rintro e w1 ⟨rfl, rfl⟩)
      | (go_at_call 34; refine (check_any _ _ _ _ _ _).mono ?_; rw [H2.out]; rintro e w1 ⟨rfl, rfl⟩)
      | (go_at_call 15; refine (works_any _).mono ?_; rintro en w9 ⟨rfl, hb9⟩; have HB9 := Lib.hid hb9; clear hb9))
    go_ret
    exact ⟨rfl, (HB0.out.drewN nq).trans (HB9.out.mono (HB0.out.drewN nq).size)⟩
include hR hB
set_option maxRecDepth 100000 in
set_option maxHeartbeats 6400000 in
theorem turns_near (n o x : Nat) (hec : en ≤ ec) (hn : 2 ≤ n ∧ n ≤ 4) (ho : o < n) (hen : en ≤ 60) (hx : x ≤ en) (h1 : farE en = false) (h2 : chkE n o en = 0) :
    Calls Tryd.prog 11 #[.agg #[.int .i64 (n : Int), .int .i64 (o : Int)], .slice A en ec, .int .i64 (x : Int)] w fun e w' => e = .returned (.bool true) ∧ Below w.heap.size w w' := by
  have hof : (0 : Int) ≤ o ∧ (o : Int) < n := by omega
  have hwf := M.Wf.run (n := n) hof E en
  have hinv := M.Inv.run (n := n) hof E en
  have HTurn := Lib.hid (fun i => M.turn_run (n := n) (first := (o : Int)) (E := E) i hx)
  have HMost := Lib.hid (fun i (hi : i < n) (h : (M.runF n o E en).c i 0 = 1) => M.holds_most hinv hwf hi h)
  have HRun := fun W (hb : Below w.heap.size w W) k c (hk : k ≤ en) => Run_ok n o A k c B E W hn ho (by omega) ((hR.less hk).below (hb.mono hB)) (Nat.le_trans hB hb.size)
  unfold RunT at HRun
  have HRun1 := Lib.hid (fun W (hb : Below w.heap.size w W) c => HRun W hb x c hx)
  have HRun2 := Lib.hid (fun W (hb : Below w.heap.size w W) c => HRun W hb en c (Nat.le_refl _))
  obtain ⟨s, hs⟩ : ∃ s, s = M.runF n o E x := ⟨_, rfl⟩
  obtain ⟨t, ht⟩ : ∃ t, t = M.runF n o E en := ⟨_, rfl⟩
  rw [← hs] at HTurn HRun1
  rw [← ht] at HTurn HRun2 HMost
  have H1 := Lib.hid h1
  have H2 := Lib.hid h2
  have hn2 := hn.1
  have hn4 := hn.2
  have g1 : decide ((x : Int) < 0) = false := decide_eq_false (by omega)
  have g2 : decide ((en : Int) < (x : Int)) = false := decide_eq_false (by omega)
  have g2n : decide (en < x) = false := decide_eq_false (by omega)
  have hxc : x ≤ ec := by omega
  have g3 : ((n : Int) != (n : Int)) = false := by simp
  have HB0 := Lib.hid (belowAlloc w (.cells #[.int .i64 (n : Int), .int .i64 (o : Int)] 61))
  clear hs ht hwf hinv hR h1 h2 hn hof HRun
  go_enter Tryd.func11, Tryd.ntmps11
  go_wp2_with fail
  go_quiet (fail)
  have HB1 := Lib.hid (HB0.out.drewN nq)
  go_upto_region 5 with (first
      | (go_at_call 28; refine (far_any _ _ _ _).mono ?_; rw [H1.out]; rintro e w1 ⟨rfl, rfl⟩)
      | (go_at_call 34; refine (check_any _ _ _ _ _ _).mono ?_; rw [H2.out]; rintro e w1 ⟨rfl, rfl⟩)
      | (go_at_call 29; go_must (refine (HRun1.out _ HB1.out _).mono ?_); rintro e w1 ⟨⟨v, bv, rfl, ⟨A1, c1, A2, c2, rfl, o1, o2⟩, o3⟩, hb1⟩; have O1 := Lib.hid o1; have HB2 := Lib.hid (HB1.out.trans (hb1.mono HB1.out.size)); clear o1 o2 o3 hb1))
  have HB3 := Lib.hid (HB2.out.alloc HB2.out.size (.cells #[.slice A1 n c1, .slice A2 s.k c2] 48))
  have D2 := Lib.hid (Blk.new w1 48 #[.slice A1 n c1, .slice A2 s.k c2])
  have R2 := Lib.hid (O1.out.rdI.below (belowAlloc w1 (.cells #[.slice A1 n c1, .slice A2 s.k c2] 48)))
  clear O1
  go_upto_region 6 with (go_at_call 29; go_must (refine (HRun2.out _ HB3.out _).mono ?_); rintro e w3 ⟨⟨v, bv3, rfl, ⟨A3, c3, A4, c4, rfl, o1, o2⟩, o3⟩, hb1⟩; have O3 := Lib.hid o1; have HB4 := Lib.hid (HB3.out.trans (hb1.mono HB3.out.size)); have D3 := Lib.hid ((D2.out.below hb1 (by simp)).alloc (.cells #[.slice A3 n c3, .slice A4 t.k c4] 48)); have R3 := Lib.hid ((R2.out.below (hb1.mono (by simp))).below ((belowAlloc w3 (.cells #[.slice A3 n c3, .slice A4 t.k c4] 48)).mono (by have := hb1.size; simp at this; omega))); clear o1 o2 o3 hb1)
  have HB5 := Lib.hid (HB4.out.alloc HB4.out.size (.cells #[.slice A3 n c3, .slice A4 t.k c4] 48))
  have D5 := Lib.hid (Blk.new w3 48 #[.slice A3 n c3, .slice A4 t.k c4])
  have R5 := Lib.hid (O3.out.rdI.below (belowAlloc w3 (.cells #[.slice A3 n c3, .slice A4 t.k c4] 48)))
  obtain ⟨cb, co, rfl, hcb, -⟩ := R3.out.at3 (show 0 < n by omega)
  obtain ⟨db, do_, rfl, hdb, -⟩ := R5.out.at3 (show 0 < n by omega)
  clear O3 D2 R2 HB2 HB3
  have d0 := D3.out.cell 0
  have d5 := D5.out.cell 0
  go_wp2_with fail
  clear d0 d5
  go_loopw [15, 16] (fun v i wr => ∃ k : Nat, k ≤ n ∧ i = .int .i64 k ∧ v = .int .i64 (M.mostF t k) ∧ ∃ m, wr = ((w3.alloc (.cells #[.slice (some ⟨db, do_, none⟩) n c3, .slice A4 t.k c4] 48))).drewN m) (fun _ i _ => n - (intOf i).toNat)
  case atStart => exact ⟨0, Nat.zero_le _, rfl, rfl, 0, rfl⟩
  case round =>
    obtain ⟨k, hk, rfl, rfl, hm⟩ := hrel
    have HM := Lib.hid hm
    have d0 : wr.cell? ⟨w1.heap.size, 0, none⟩ = some (.slice (some ⟨cb, co, none⟩) n c1) := by obtain ⟨m, e⟩ := hm; rw [e]; exact D3.out.cell 0
    have d5 : wr.cell? ⟨w3.heap.size, 0, none⟩ = some (.slice (some ⟨db, do_, none⟩) n c3) := by obtain ⟨m, e⟩ := hm; rw [e]; exact D5.out.cell 0
    by_cases hlt : k < n
    · have x2 : wr.cell? ⟨cb, co + k * 3 + 2, none⟩ = some (.int .i64 (s.c k 2)) := by obtain ⟨m, e⟩ := hm; rw [e]; exact (R3.out.c3 hlt).2.2
      have y2 : wr.cell? ⟨db, do_ + k * 3 + 2, none⟩ = some (.int .i64 (t.c k 2)) := by obtain ⟨m, e⟩ := hm; rw [e]; exact (R5.out.c3 hlt).2.2
      have f1 : decide (t.c k 2 < s.c k 2) = false := decide_eq_false (by have := HTurn.out k; omega)
      have HX := Lib.hid (show M.mostF t (k + 1) = max (M.mostF t k) (t.c k 2) from rfl)
      have k4 : decide (n ≤ k) = false := decide_eq_false (by omega)
      clear hm
      go_wp2_with fail
      go_quiet (fail)
      go_wp2_with fail
      go_roundw
      case rel => exact ⟨k + 1, by omega, by go_num, by rw [HX.out], by obtain ⟨m, e⟩ := HM.out; exact ⟨m + nq, by rw [e, World.drewN_drewN]⟩⟩
      case measure => simp [intOf]; omega
    · obtain rfl : k = n := by omega
      obtain ⟨mo, hmo⟩ : ∃ mo, mo = M.mostF t k := ⟨_, rfl⟩
      rw [← hmo] at HMost ⊢
      have HB6 := Lib.hid (show Below w.heap.size w wr by obtain ⟨m, e⟩ := hm; rw [e]; exact HB5.out.drewN m)
      have R6 := Lib.hid (show Rd wr (w3.heap.size + 1) (some ⟨db, do_, none⟩) 3 k t.c by obtain ⟨m, e⟩ := hm; rw [e]; exact (R5.out.more (by omega)))
      clear hm hmo HM
      go_wp2_with fail
      go_loop [17] (fun i => ∃ j : Nat, j ≤ k ∧ i = .int .i64 j) (fun i => k - (intOf i).toNat)
      case atStart => exact ⟨0, Nat.zero_le _, rfl⟩
      case round =>
        obtain ⟨j, hj, rfl⟩ := hrel
        by_cases hlt2 : j < k
        · obtain ⟨y0, -, y2⟩ := R6.out.c3 hlt2
          by_cases q1 : t.c j 0 = 1
          · have f1 : (t.c j 0 == 1) = true := by rw [q1]; rfl
            have f2 : (t.c j 2 != mo) = false := by rw [HMost.out j hlt2 q1]; simp
            clear q1
            go_wp2_with fail
            go_round
            case rel => exact ⟨j + 1, by omega, by go_num⟩
            case measure => simp [intOf]; omega
          · have f1 : (t.c j 0 == 1) = false := by rw [beq_eq_false_iff_ne]; exact q1
            clear q1
            go_wp2_with fail
            go_round
            case rel => exact ⟨j + 1, by omega, by go_num⟩
            case measure => simp [intOf]; omega
        · obtain rfl : j = k := by omega
          go_wp2_with (go_at_call 15; refine (works_any _).mono ?_; rintro en w9 ⟨rfl, hb9⟩; have HB9 := Lib.hid hb9; clear hb9)
          go_ret
          exact ⟨rfl, HB6.out.trans (HB9.out.mono HB6.out.size)⟩
theorem relayTurns_any (hec : en ≤ ec) (n o x : Int) :
    Calls Tryd.prog 11 #[.agg #[.int .i64 n, .int .i64 o], .slice A en ec, .int .i64 x] w fun e w' => e = .returned (.bool true) ∧ Below w.heap.size w w' := by
  cases h1 : farE en
  · by_cases h2 : chkE n o en = 0
    · by_cases h3 : x < 0
      · exact turns_far A en ec w n o x (.inr (.inr (.inl ⟨h1, h2, h3⟩)))
      · by_cases h4 : (en : Int) < x
        · exact turns_far A en ec w n o x (.inr (.inr (.inr ⟨h1, h2, by omega, h4⟩)))
        · obtain ⟨n', o', rfl, rfl, a, b, c, d⟩ := fit_of_chk h1 h2
          obtain ⟨x, rfl⟩ := Int.eq_ofNat_of_zero_le (show 0 ≤ x by omega)
          exact turns_near A en ec B E w hR hB n' o' x hec ⟨a, b⟩ c d (by omega) h1 h2
    · exact turns_far A en ec w n o x (.inr (.inl ⟨h1, h2⟩))
  · exact turns_far A en ec w n o x (.inl h1)
end
end Go.Proofs.YtjdkcfnipkdmgaaDoor
