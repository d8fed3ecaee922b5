/- Is a leg valid: (*traffic).valid. -/
import Derived.Test.YtkdpmihdhiokkaaDoorK8
namespace Go.Proofs.YtkdpmihdhiokkaaDoor
open Go.RowKit

theorem Rd1.cx {w : World} {B n b off : Nat} {f : Nat → Int} (h : Rd1 w B (some ⟨b, off, none⟩) n f) {k : Nat} (hk : k < n) : w.cell? ⟨b, off + k, none⟩ = some (.int .i64 (f k)) := by
  obtain ⟨b', o', ee, _, hc⟩ := h.resolve_left (by omega)
  injection ee with ee
  injection ee with e1 e2 _
  subst e1; subst e2
  exact hc k hk
theorem Own.rd1' {w : World} {b t n c : Nat} {A : Option Addr} {f : Nat → Int} (h : Own w b t 1 (.slice A n c) n fun i _ => .int .i64 (f i)) : Rd1 w w.heap.size A n f := by
  obtain ⟨A', c', e, hr⟩ := h.rd1
  injection e with e1 _ _
  subst e1
  exact hr
section
variable (s : M.Sea) (dA tA sA lA : Option Addr) (dc tc sc ln lc B base x : Nat) (w : World)
set_option maxRecDepth 100000 in
set_option maxHeartbeats 3200000 in
theorem floats_any (lv dr : Int) (c t : Nat) (hs : s.Ok) (ht : TrK w base x s.nd s dA tA sA lA dc tc sc ln lc) (hR : RdC w B dA tA sA s.nd s.nt s.nt s.dep s.tide s.sw) (hB : B ≤ w.heap.size) (hc : c < s.nd) (htk : t < s.nt) (hu : M.unit lv dr = true) :
    Calls Tryd.prog 87 #[.pointer (some ⟨x, 0, none⟩), .int .i64 lv, .int .i64 dr, .int .i64 (c : Int), .int .i64 (t : Int)] w fun e w' => e = .returned (.bool (M.can s lv dr c t)) ∧ Below w.heap.size w w' := by
  by_cases h : 0 < lv
  · have g1 : decide (0 < lv) = true := decide_eq_true h
    go_enter Tryd.func87, Tryd.ntmps87
    go_wp2_with fail
    go_ret
    exact ⟨ret_bool (by unfold M.can; simp [h]), Below.refl _ _⟩
  · have g1 : decide (0 < lv) = false := decide_eq_false h
    obtain ⟨h0, h1, h2⟩ := M.unit_dr hu (by omega)
    obtain ⟨nA, nc, V, t1, _⟩ := ht
    have HF := Lib.hid (cfloats_ok s dA tA sA dc tc sc B w dr c t hs hc htk ⟨h1, h2⟩ hR hB)
    have c0 := t1.cell 0
    have c1 := t1.cell 1
    have c2 := t1.cell 2
    have c3 := t1.cell 3
    have c4 := t1.cell 4
    have HH := Lib.hid h
    clear h h0 hu hR t1
    go_enter Tryd.func87, Tryd.ntmps87
    go_wp2_with (go_at_call 101; go_must (refine HF.out.mono ?_); rintro e w1 ⟨⟨m, rfl⟩, hb1⟩; have HB1 := Lib.hid hb1; clear hb1)
    go_ret
    exact ⟨ret_bool (by unfold M.can; rw [decide_eq_false (show ¬ 0 < lv by have := HH.out; omega)]; rfl), HB1.out⟩
-- a leg's value is l's
set_option maxRecDepth 100000 in
set_option maxHeartbeats 1600000 in
theorem valid_any (at_ lv dr : Int) (tl : Bool) (n : Nat) (c : Nat → Int) (cA : Option Addr) (cc : Nat) (hs : s.Ok) (ht : TrK w base x s.nd s dA tA sA lA dc tc sc ln lc) (hR : RdC w B dA tA sA s.nd s.nt s.nt s.dep s.tide s.sw) (hB : B ≤ w.heap.size) (hl : Rd1 w B cA n c) (hn : n ≤ maxLen) :
    Calls Tryd.prog 74 #[.pointer (some ⟨x, 0, none⟩), .agg #[.int .i64 at_, .int .i64 lv, .int .i64 dr, .bool tl, .slice cA n cc]] w fun e w' => e = .returned (.bool (M.legOk s ⟨at_, lv, dr, tl, n, c⟩)) ∧ Below w.heap.size w w' := by
  rw [M.legOk_split]
  unfold maxLen at hn
  have hnd := hs.nd1
  have hnt : 1 ≤ s.nt ∧ s.nt ≤ 60 := ⟨hs.t1, hs.t2⟩
  have HB0 := Lib.hid (belowAlloc w (.cells #[.int .i64 at_, .int .i64 lv, .int .i64 dr, .bool tl, .slice cA n cc] 41))
  have D0 := Lib.hid (Blk.new w 41 #[.int .i64 at_, .int .i64 lv, .int .i64 dr, .bool tl, .slice cA n cc])
  have T0 := Lib.hid (ht.below HB0.out)
  have RC0 := Lib.hid (hR.below (HB0.out.mono hB))
  have RL0 := Lib.hid (hl.below (HB0.out.mono hB))
  have HP := Lib.hid (show M.legPre s ⟨at_, lv, dr, tl, n, c⟩ = (decide (0 < n) && (decide (n ≤ s.nt) && (M.inB 0 ((s.nt : Int) - 1) at_ && (M.inB 0 ((s.nt : Int) - 1) (at_ + n - 1) && (M.allTo n (fun i => M.inB 0 ((s.nd : Int) - 1) (c i)) && M.unit lv dr))))) from rfl)
  obtain ⟨Y, hY⟩ : ∃ Y, Y = w.alloc (.cells #[.int .i64 at_, .int .i64 lv, .int .i64 dr, .bool tl, .slice cA n cc] 41) := ⟨_, rfl⟩
  rw [← hY] at HB0 D0 T0 RC0 RL0
  have hBY : B ≤ Y.heap.size := Nat.le_trans hB HB0.out.size
  have x2 : Y.cell? ⟨x, 2, none⟩ = some (.slice dA s.nd dc) := by obtain ⟨nA, nc, V, t1, _⟩ := T0.out; exact t1.cell 2
  have x3 : Y.cell? ⟨x, 3, none⟩ = some (.slice tA s.nt tc) := by obtain ⟨nA, nc, V, t1, _⟩ := T0.out; exact t1.cell 3
  have HTK := Lib.hid (fun (m : Nat) (q : Int) => tick_any x s.nd s.nt tc tA (Y.drewN m) x3 ⟨hnd, hnt⟩ q)
  have HAC := Lib.hid (fun (m : Nat) => allcells_any x s.nd s.nt dc dA (Y.drewN m) x2 ⟨hnd, hnt⟩ cA n cc B c (by unfold maxLen; omega) RL0.out)
  have HKD := Lib.hid (fun (m : Nat) => kind_any lv dr (Y.drewN m))
  have d0 := D0.out.cell 0
  have d1 := D0.out.cell 1
  have d2 := D0.out.cell 2
  have d4 := D0.out.cell 4
  have HYe := Lib.hid hY
  clear hY ht hR hl x2
  by_cases p1 : n = 0
  · have HF := Lib.hid (show M.legPre s ⟨at_, lv, dr, tl, n, c⟩ = false from by rw [HP.out, p1]; rfl)
    have g1 : ((n : Int) == 0) = true := by rw [beq_iff_eq]; omega
    clear p1
    go_enter Tryd.func74, Tryd.ntmps74
    go_upto_region 1 with fail
    rw [← HYe.out]
    clear HYe
    go_quiet (fail)
    go_wp2_with fail
    go_ret
    exact ⟨ret_bool (by rw [HF.out]; rfl), HB0.out.drewN nq⟩
  have g1 : ((n : Int) == 0) = false := by rw [beq_eq_false_iff_ne]; omega
  by_cases p2 : s.nt < n
  · have HF := Lib.hid (show M.legPre s ⟨at_, lv, dr, tl, n, c⟩ = false from by rw [HP.out, decide_eq_false (show ¬ n ≤ s.nt by omega)]; simp)
    have g2 : decide ((s.nt : Int) < (n : Int)) = true := decide_eq_true (by omega)
    have g2n : decide (s.nt < n) = true := decide_eq_true p2
    go_enter Tryd.func74, Tryd.ntmps74
    go_upto_region 1 with fail
    rw [← HYe.out]
    clear HYe
    go_quiet (fail)
    go_wp2_with fail
    go_ret
    exact ⟨ret_bool (by rw [HF.out]; rfl), HB0.out.drewN nq⟩
  have g2 : decide ((s.nt : Int) < (n : Int)) = false := decide_eq_false (by omega)
  have g2n : decide (s.nt < n) = false := decide_eq_false p2
  cases q3 : M.inB 0 ((s.nt : Int) - 1) at_
  · have HF := Lib.hid (show M.legPre s ⟨at_, lv, dr, tl, n, c⟩ = false from by rw [HP.out, q3]; simp)
    go_enter Tryd.func74, Tryd.ntmps74
    go_upto_region 1 with fail
    rw [← HYe.out]
    clear HYe
    go_quiet (first | (go_at_call 83; exact Calls.quiet_of_same (HTK.out _ _)) | fail)
    go_wp2_with fail
    go_ret
    exact ⟨ret_bool (by rw [HF.out]; rfl), HB0.out.drewN nq⟩
  have p3 := M.inB_iff.1 q3
  have hsum : 0 ≤ at_ + (n : Int) ∧ at_ + (n : Int) ≤ 120 := by omega
  have hw1 : IntKind.i64.wrap (at_ + (n : Int)) = at_ + (n : Int) := wrapi _ ⟨by omega, by omega⟩
  have hw2 : wrap64 (at_ + (n : Int)) = at_ + (n : Int) := IntWalk.wrap64_in _ (by omega)
  have hw3 : IntKind.i64.wrap (at_ + (n : Int) - 1) = at_ + (n : Int) - 1 := wrapi _ ⟨by omega, by omega⟩
  have hw4 : wrap64 (at_ + (n : Int) - 1) = at_ + (n : Int) - 1 := IntWalk.wrap64_in _ (by omega)
  cases q4 : M.inB 0 ((s.nt : Int) - 1) (at_ + n - 1)
  · have HF := Lib.hid (show M.legPre s ⟨at_, lv, dr, tl, n, c⟩ = false from by rw [HP.out, q4]; simp)
    go_enter Tryd.func74, Tryd.ntmps74
    go_upto_region 1 with fail
    rw [← HYe.out]
    clear HYe
    go_quiet (first | (go_at_call 83; exact Calls.quiet_of_same (HTK.out _ _)) | fail)
    go_wp2_with fail
    go_ret
    exact ⟨ret_bool (by rw [HF.out]; rfl), HB0.out.drewN nq⟩
  have p4 := M.inB_iff.1 q4
  cases q5 : M.allTo n (fun i => M.inB 0 ((s.nd : Int) - 1) (c i))
  · have HF := Lib.hid (show M.legPre s ⟨at_, lv, dr, tl, n, c⟩ = false from by rw [HP.out, q5]; simp)
    rw [q5] at HAC
    clear q5
    go_enter Tryd.func74, Tryd.ntmps74
    go_upto_region 1 with fail
    rw [← HYe.out]
    clear HYe
    go_quiet (first | (go_at_call 83; exact Calls.quiet_of_same (HTK.out _ _)) | (go_at_call 97; exact Calls.quiet_of_same (HAC.out _)) | fail)
    go_wp2_with fail
    go_ret
    exact ⟨ret_bool (by rw [HF.out]; rfl), HB0.out.drewN nq⟩
  have p5 := Lib.hid (M.allTo_iff.1 q5)
  rw [q5] at HAC
  cases q6 : M.unit lv dr
  · have HF := Lib.hid (show M.legPre s ⟨at_, lv, dr, tl, n, c⟩ = false from by rw [HP.out, q6]; simp)
    rw [q6] at HKD
    clear q5 q6
    go_enter Tryd.func74, Tryd.ntmps74
    go_upto_region 1 with fail
    rw [← HYe.out]
    clear HYe
    go_quiet (first | (go_at_call 83; exact Calls.quiet_of_same (HTK.out _ _)) | (go_at_call 97; exact Calls.quiet_of_same (HAC.out _)) | (go_at_call 84; exact Calls.quiet_of_same (HKD.out _)) | fail)
    go_wp2_with fail
    go_ret
    exact ⟨ret_bool (by rw [HF.out]; rfl), HB0.out.drewN nq⟩
  have HU := Lib.hid q6
  rw [q6] at HKD
  have HFT := Lib.hid (show M.legPre s ⟨at_, lv, dr, tl, n, c⟩ = true from by rw [HP.out, q3, q4, q5, q6, decide_eq_true (show 0 < n by omega), decide_eq_true (show n ≤ s.nt by omega)]; rfl)
  clear q5 q6 HP
  go_enter Tryd.func74, Tryd.ntmps74
  go_upto_region 1 with fail
  rw [← HYe.out]
  clear HYe
  go_quiet (first | (go_at_call 83; exact Calls.quiet_of_same (HTK.out _ _)) | (go_at_call 97; exact Calls.quiet_of_same (HAC.out _)) | (go_at_call 84; exact Calls.quiet_of_same (HKD.out _)) | fail)
  simp only [q3, q4]
  clear q3 q4
  generalize hZ : Y.drewN nq = Z
  have HBZ := Lib.hid (show Below Y.heap.size Y Z by rw [← hZ]; exact (Below.refl _ _).drewN nq)
  clear hZ d0 d1 d2 d4
  have d4 := (D0.out.below' HBZ.out).cell 4
  go_wp2_with fail
  clear d4
  have HTZ := Lib.hid (T0.out.below HBZ.out)
  have HRZ := Lib.hid (RC0.out.below (HBZ.out.mono hBY))
  have HLZ := Lib.hid (RL0.out.below (HBZ.out.mono hBY))
  have DZ := Lib.hid (D0.out.below' HBZ.out)
  have HWZ := Lib.hid (HB0.out.trans (HBZ.out.mono HB0.out.size))
  have hBZ := Nat.le_trans hBY HBZ.out.size
  clear T0 RC0 RL0 HTK HAC HKD D0 HBZ hw1 hw2 hw3 hw4
  obtain ⟨a, rfl⟩ := Int.eq_ofNat_of_zero_le p3.1
  have hGO : ∀ k, M.legGo s ⟨(a : Int), lv, dr, tl, n, c⟩ k = ((k == 0 || M.adj s.W s.H (c (k - 1)).toNat (c k).toNat) && M.can s lv dr (c k).toNat ((a : Int) + (k : Int)).toNat) := fun k => rfl
  have HGO := Lib.hid hGO
  clear hGO
  go_loopw [61] (fun i wr => ∃ k : Nat, k ≤ n ∧ i = .int .i64 k ∧ M.allTo k (M.legGo s ⟨(a : Int), lv, dr, tl, n, c⟩) = true ∧ Below Z.heap.size Z wr) (fun i _ => n - (intOf i).toNat)
  case atStart => exact ⟨0, Nat.zero_le _, rfl, rfl, Below.refl _ _⟩
  case round =>
    obtain ⟨k, hk, rfl, hf, hbw⟩ := hrel
    have HF := Lib.hid hf
    have HW := Lib.hid hbw
    have hz := hbw.size
    clear hf hbw
    by_cases hlt : k < n
    · obtain ⟨cN, hcN, hcl⟩ : ∃ cN : Nat, c k = (cN : Int) ∧ cN < s.nd := by
        have h1 := M.inB_iff.1 (p5.out k hlt)
        exact ⟨(c k).toNat, by omega, by omega⟩
      have HRw := Lib.hid (HRZ.out.below (HW.out.mono hBZ))
      have HTw := Lib.hid (HTZ.out.below HW.out)
      have HLw := Lib.hid (HLZ.out.below (HW.out.mono hBZ))
      have HFL := Lib.hid (fun W (hb : Below wr.heap.size wr W) => floats_any s dA tA sA lA dc tc sc ln lc B base x W lv dr cN (a + k) hs (HTw.out.below hb) (HRw.out.below (hb.mono (Nat.le_trans hBZ hz))) (Nat.le_trans (Nat.le_trans hBZ hz) hb.size) hcl (by omega) HU.out)
      simp only [Int.natCast_add] at HFL
      obtain ⟨cb, co, hcA, hcb, c0⟩ := HLw.out.at_ hlt
      subst hcA
      rw [hcN] at c0
      have d0 := (DZ.out.below' HW.out).cell 0
      have d1 := (DZ.out.below' HW.out).cell 1
      have d2 := (DZ.out.below' HW.out).cell 2
      have d4 := (DZ.out.below' HW.out).cell 4
      have kx : decide (n ≤ k) = false := decide_eq_false (by omega)
      have hGk := HGO.out k
      rw [hcN, Int.toNat_natCast, show ((a : Int) + (k : Int)).toNat = a + k by omega] at hGk
      have hall : M.allTo n (M.legGo s ⟨(a : Int), lv, dr, tl, n, c⟩) = true → M.legGo s ⟨(a : Int), lv, dr, tl, n, c⟩ k = true := fun h => M.allTo_iff.1 h k hlt
      have HALL := Lib.hid hall
      have HNX := Lib.hid (show M.allTo (k + 1) (M.legGo s ⟨(a : Int), lv, dr, tl, n, c⟩) = (M.allTo k (M.legGo s ⟨(a : Int), lv, dr, tl, n, c⟩) && M.legGo s ⟨(a : Int), lv, dr, tl, n, c⟩ k) from rfl)
      have HFF := Lib.hid (show M.legGo s ⟨(a : Int), lv, dr, tl, n, c⟩ k = false → (M.legPre s ⟨(a : Int), lv, dr, tl, n, c⟩ && M.allTo n (M.legGo s ⟨(a : Int), lv, dr, tl, n, c⟩)) = false from fun h => by
        cases ha : M.allTo n (M.legGo s ⟨(a : Int), lv, dr, tl, n, c⟩)
        · simp
        · rw [HALL.out ha] at h; cases h)
      clear hall hcN
      cases hcan : M.can s lv dr cN (a + k)
      all_goals
        rw [hcan] at hGk HFL
        clear hcan
      all_goals (by_cases hk0 : k = 0)
      · have HGK := Lib.hid (show M.legGo s ⟨(a : Int), lv, dr, tl, n, c⟩ k = false from by rw [hGk, hk0]; rfl)
        have gk : decide ((0 : Int) < (k : Int)) = false := decide_eq_false (by omega)
        have gkn : decide (0 < k) = false := decide_eq_false (by omega)
        clear hGk hk0
        go_upto_region 6 with fail
        refine wp_region_seq 0 30 (by kernel_rfl) (by kernel_rfl) fun R hRR => ?_
        simp only [List.take_succ_cons, List.take_zero, List.drop_succ_cons, List.drop_zero] at hRR ⊢
        have HRG := Lib.hid hRR
        clear hRR
        refine HRG.out _ _ ?_
        clear HRG
        repeat (go_big_quiet_step (fail))
        refine wpQuiet_nil ?_
        go_wp2_with (go_at_call 87; go_must (refine (HFL.out _ ((Below.refl _ _).drew)).mono ?_); rintro e w5 ⟨rfl, hb5⟩; have HB5 := Lib.hid (((Below.refl wr.heap.size wr).drew).trans (hb5.mono (Nat.le_refl _))); clear hb5)
        go_ret
        exact ⟨ret_bool (HFF.out HGK.out).symm, HWZ.out.trans ((HW.out.trans (HB5.out.mono hz)).mono HWZ.out.size)⟩
      · obtain ⟨j, rfl⟩ : ∃ j, k = j + 1 := ⟨k - 1, by omega⟩
        obtain ⟨pN, hpN, hpl⟩ : ∃ pN : Nat, c j = (pN : Int) ∧ pN < s.nd := by
          have h1 := M.inB_iff.1 (p5.out j (by omega))
          exact ⟨(c j).toNat, by omega, by omega⟩
        have c0j := HLw.out.cx (show j < n by omega)
        rw [hpN] at c0j
        obtain ⟨nA, nc, V, t1, t2, t3, t4⟩ := HTw.out
        obtain ⟨nb, nc', en⟩ := t3.nz (by omega)
        injection en with en1 _ en3
        subst en1; subst en3
        have x6 := t1.cell 6
        have t4p := t4 pN hpl
        obtain ⟨rb, rc, hV⟩ := t4p.nz (M.nearL_len s.W s.H pN).1
        have r1 := t3.cell1 hpl
        rw [hV] at t4p
        rw [hV] at r1
        have HCN := Lib.hid (fun m => contains_own (M.nearL s.W s.H pN) (some ⟨rb, 0, none⟩) wr.heap.size rc cN (wr.drewN m) (by have := (M.nearL_len s.W s.H pN).2; omega) (Own.rd1' t4p) (M.nearL_len s.W s.H pN).1)
        rw [nearL_has] at HCN
        have gk : decide ((0 : Int) < (j : Int) + 1) = true := decide_eq_true (by omega)
        have gkn : decide (0 < j + 1) = true := decide_eq_true (by omega)
        have gk2 : decide ((0 : Int) < ((j + 1 : Nat) : Int)) = true := decide_eq_true (by omega)
        have kj : decide (n ≤ j) = false := decide_eq_false (by omega)
        have kp : decide (s.nd ≤ pN) = false := decide_eq_false (by omega)
        have hGk2 : M.legGo s ⟨(a : Int), lv, dr, tl, n, c⟩ (j + 1) = (M.adj s.W s.H pN cN && false) := by
          rw [hGk, show j + 1 - 1 = j from rfl, hpN, Int.toNat_natCast]; rfl
        clear hGk hk0 t1 t2 t3 t4 t4p hV hpN
        cases hadj : M.adj s.W s.H pN cN
        · rw [hadj] at HCN hGk2
          have HGK := Lib.hid (show M.legGo s ⟨(a : Int), lv, dr, tl, n, c⟩ (j + 1) = false from by rw [hGk2]; rfl)
          clear hGk2 hadj
          go_upto_region 6 with fail
          refine wp_region_seq 0 30 (by kernel_rfl) (by kernel_rfl) fun R hRR => ?_
          simp only [List.take_succ_cons, List.take_zero, List.drop_succ_cons, List.drop_zero] at hRR ⊢
          have HRG := Lib.hid hRR
          clear hRR
          refine HRG.out _ _ ?_
          clear HRG
          repeat (go_big_quiet_step (fail))
          refine wpQuiet_step (fun K hK => ?_)
          go_simp
          refine ⟨.bool false, ?_, hK _ ?_⟩
          · exact HCN.out 1
          clear hK K
          repeat (go_big_quiet_step (fail))
          refine wpQuiet_nil ?_
          go_wp2_with fail
          go_ret
          exact ⟨ret_bool (HFF.out HGK.out).symm, HWZ.out.trans (HW.out.drew.mono HWZ.out.size)⟩
        · rw [hadj] at HCN hGk2
          have HGK := Lib.hid (show M.legGo s ⟨(a : Int), lv, dr, tl, n, c⟩ (j + 1) = false from by rw [hGk2]; rfl)
          clear hGk2 hadj
          go_upto_region 6 with fail
          refine wp_region_seq 0 30 (by kernel_rfl) (by kernel_rfl) fun R hRR => ?_
          simp only [List.take_succ_cons, List.take_zero, List.drop_succ_cons, List.drop_zero] at hRR ⊢
          have HRG := Lib.hid hRR
          clear hRR
          refine HRG.out _ _ ?_
          clear HRG
          repeat (go_big_quiet_step (fail))
          refine wpQuiet_step (fun K hK => ?_)
          go_simp
          refine ⟨.bool true, ?_, hK _ ?_⟩
          · exact HCN.out 1
          clear hK K
          repeat (go_big_quiet_step (fail))
          refine wpQuiet_nil ?_
          go_wp2_with (go_at_call 87; go_must (refine (HFL.out _ ((Below.refl _ _).drew)).mono ?_); rintro e w5 ⟨rfl, hb5⟩; have HB5 := Lib.hid (((Below.refl wr.heap.size wr).drew).trans (hb5.mono (Nat.le_refl _))); clear hb5)
          go_ret
          exact ⟨ret_bool (HFF.out HGK.out).symm, HWZ.out.trans ((HW.out.trans (HB5.out.mono hz)).mono HWZ.out.size)⟩
        
      · have HGK := Lib.hid (show M.legGo s ⟨(a : Int), lv, dr, tl, n, c⟩ k = true from by rw [hGk, hk0]; rfl)
        have gk : decide ((0 : Int) < (k : Int)) = false := decide_eq_false (by omega)
        have gkn : decide (0 < k) = false := decide_eq_false (by omega)
        clear hGk hk0
        go_upto_region 6 with fail
        refine wp_region_seq 0 30 (by kernel_rfl) (by kernel_rfl) fun R hRR => ?_
        simp only [List.take_succ_cons, List.take_zero, List.drop_succ_cons, List.drop_zero] at hRR ⊢
        have HRG := Lib.hid hRR
        clear hRR
        refine HRG.out _ _ ?_
        clear HRG
        repeat (go_big_quiet_step (fail))
        refine wpQuiet_nil ?_
        go_wp2_with (go_at_call 87; go_must (refine (HFL.out _ ((Below.refl _ _).drew)).mono ?_); rintro e w5 ⟨rfl, hb5⟩; have HB5 := Lib.hid (((Below.refl wr.heap.size wr).drew).trans (hb5.mono (Nat.le_refl _))); clear hb5)
        go_roundw
        case rel =>
          exact ⟨k + 1, by omega, by go_num, by rw [HNX.out, HF.out, HGK.out]; rfl, HW.out.trans (HB5.out.mono hz)⟩
        case measure => simp [intOf]; omega
      · obtain ⟨j, rfl⟩ : ∃ j, k = j + 1 := ⟨k - 1, by omega⟩
        obtain ⟨pN, hpN, hpl⟩ : ∃ pN : Nat, c j = (pN : Int) ∧ pN < s.nd := by
          have h1 := M.inB_iff.1 (p5.out j (by omega))
          exact ⟨(c j).toNat, by omega, by omega⟩
        have c0j := HLw.out.cx (show j < n by omega)
        rw [hpN] at c0j
        obtain ⟨nA, nc, V, t1, t2, t3, t4⟩ := HTw.out
        obtain ⟨nb, nc', en⟩ := t3.nz (by omega)
        injection en with en1 _ en3
        subst en1; subst en3
        have x6 := t1.cell 6
        have t4p := t4 pN hpl
        obtain ⟨rb, rc, hV⟩ := t4p.nz (M.nearL_len s.W s.H pN).1
        have r1 := t3.cell1 hpl
        rw [hV] at t4p
        rw [hV] at r1
        have HCN := Lib.hid (fun m => contains_own (M.nearL s.W s.H pN) (some ⟨rb, 0, none⟩) wr.heap.size rc cN (wr.drewN m) (by have := (M.nearL_len s.W s.H pN).2; omega) (Own.rd1' t4p) (M.nearL_len s.W s.H pN).1)
        rw [nearL_has] at HCN
        have gk : decide ((0 : Int) < (j : Int) + 1) = true := decide_eq_true (by omega)
        have gkn : decide (0 < j + 1) = true := decide_eq_true (by omega)
        have gk2 : decide ((0 : Int) < ((j + 1 : Nat) : Int)) = true := decide_eq_true (by omega)
        have kj : decide (n ≤ j) = false := decide_eq_false (by omega)
        have kp : decide (s.nd ≤ pN) = false := decide_eq_false (by omega)
        have hGk2 : M.legGo s ⟨(a : Int), lv, dr, tl, n, c⟩ (j + 1) = (M.adj s.W s.H pN cN && true) := by
          rw [hGk, show j + 1 - 1 = j from rfl, hpN, Int.toNat_natCast]; rfl
        clear hGk hk0 t1 t2 t3 t4 t4p hV hpN
        cases hadj : M.adj s.W s.H pN cN
        · rw [hadj] at HCN hGk2
          have HGK := Lib.hid (show M.legGo s ⟨(a : Int), lv, dr, tl, n, c⟩ (j + 1) = false from by rw [hGk2]; rfl)
          clear hGk2 hadj
          go_upto_region 6 with fail
          refine wp_region_seq 0 30 (by kernel_rfl) (by kernel_rfl) fun R hRR => ?_
          simp only [List.take_succ_cons, List.take_zero, List.drop_succ_cons, List.drop_zero] at hRR ⊢
          have HRG := Lib.hid hRR
          clear hRR
          refine HRG.out _ _ ?_
          clear HRG
          repeat (go_big_quiet_step (fail))
          refine wpQuiet_step (fun K hK => ?_)
          go_simp
          refine ⟨.bool false, ?_, hK _ ?_⟩
          · exact HCN.out 1
          clear hK K
          repeat (go_big_quiet_step (fail))
          refine wpQuiet_nil ?_
          go_wp2_with fail
          go_ret
          exact ⟨ret_bool (HFF.out HGK.out).symm, HWZ.out.trans (HW.out.drew.mono HWZ.out.size)⟩
        · rw [hadj] at HCN hGk2
          have HGK := Lib.hid (show M.legGo s ⟨(a : Int), lv, dr, tl, n, c⟩ (j + 1) = true from by rw [hGk2]; rfl)
          clear hGk2 hadj
          go_upto_region 6 with fail
          refine wp_region_seq 0 30 (by kernel_rfl) (by kernel_rfl) fun R hRR => ?_
          simp only [List.take_succ_cons, List.take_zero, List.drop_succ_cons, List.drop_zero] at hRR ⊢
          have HRG := Lib.hid hRR
          clear hRR
          refine HRG.out _ _ ?_
          clear HRG
          repeat (go_big_quiet_step (fail))
          refine wpQuiet_step (fun K hK => ?_)
          go_simp
          refine ⟨.bool true, ?_, hK _ ?_⟩
          · exact HCN.out 1
          clear hK K
          repeat (go_big_quiet_step (fail))
          refine wpQuiet_nil ?_
          go_wp2_with (go_at_call 87; go_must (refine (HFL.out _ ((Below.refl _ _).drew)).mono ?_); rintro e w5 ⟨rfl, hb5⟩; have HB5 := Lib.hid (((Below.refl wr.heap.size wr).drew).trans (hb5.mono (Nat.le_refl _))); clear hb5)
          go_roundw
          case rel =>
            exact ⟨j + 1 + 1, by omega, by go_num, by rw [HNX.out, HF.out, HGK.out]; rfl, HW.out.trans (HB5.out.mono hz)⟩
          case measure => simp [intOf]; omega
        
    · obtain rfl : k = n := by omega
      go_wp2_with fail
      go_ret
      exact ⟨ret_bool (by rw [HFT.out, HF.out]; rfl), HWZ.out.trans (HW.out.mono HWZ.out.size)⟩
end
end Go.Proofs.YtkdpmihdhiokkaaDoor
