/- The reference's Run for bad arguments; who is responsible. -/
import Derived.Test.YtbjggnecfppjgaaDoorF7
import Derived.Test.YtbjggnecfppjgaaDoorNMath
namespace Go.Proofs.YtbjggnecfppjgaaDoor
open Go.RowKit

/-- what a run with bad arguments leaves -/
def BadV (e0 : Int) (w : World) (e : Ending) (w' : World) : Prop := e = .returned (.tuple #[.agg #[.slice none 0 0, .slice none 0 0], .slice none 0 0, .int .i64 e0]) ∧ Below w.heap.size w w'
set_option maxRecDepth 100000 in
set_option maxHeartbeats 3200000 in
theorem rRun_bad (n o : Int) (A : Option Addr) (en ec : Nat) (w : World) (h : chkE n o en ≠ 0) :
    Calls Tryd.prog 17 #[.int .i64 n, .int .i64 o, .slice A en ec] w (BadV (chkE n o en) w) := by
  obtain ⟨E0, hE0⟩ : ∃ E0, E0 = chkE n o en := ⟨_, rfl⟩
  rw [← hE0] at h ⊢
  have H2 := Lib.hid hE0
  have g1 : (E0 != 0) = true := by rw [bne_iff_ne]; exact h
  have D0 := Lib.hid (Blk.new w 42 #[.slice none 0 0, .slice none 0 0])
  clear hE0 h
  go_enter Tryd.func17, Tryd.ntmps17
  go_wp2_with (go_at_call 22; refine (check_any _ _ _ _ _ _).mono ?_; rw [← H2.out]; rintro e w1 ⟨rfl, rfl⟩)
  refine bodyPost_ret (results_cell_row2 rfl _ _ w.heap.size 42 #[.slice none 0 0, .slice none 0 0] (0, 0) _ rfl D0.out Tryd.underlying42 rfl call_size) rfl ⟨rfl, belowAlloc w _⟩
/-- what responsible leaves -/
def RspV (n : Nat) (s : M.St) (w : World) (e : Ending) (w' : World) : Prop := ∃ x, e = .returned x ∧ Own w' w.heap.size 3 1 x (M.elP n (M.isResp s)).length (ints (nats (M.elP n (M.isResp s))))
set_option maxRecDepth 100000 in
set_option maxHeartbeats 6400000 in
theorem rresp_any (n base : Nat) (s : M.St) (v : Value) (w : World) (hv : CallV n s base v w) (hn : n ≤ 4) :
    Calls Tryd.prog 39 #[v] w fun e w' => RspV n s w e w' ∧ Below w.heap.size w w' := by
  obtain ⟨A, c, A', c', rfl, o1, o2⟩ := hv
  obtain ⟨i0, hi, hz0, hz1, hz2⟩ := info_parts int_info
  have MI := Lib.hid (And.intro hi (And.intro hz0 (And.intro hz1 hz2)))
  have RC := Lib.hid (o1.rdI.below (belowAlloc w (.cells #[.slice A n c, .slice A' s.k c'] 42)))
  have D0 := Lib.hid (Blk.new w 42 #[.slice A n c, .slice A' s.k c'])
  have B0 := Lib.hid (belowAlloc w (.cells #[.slice A n c, .slice A' s.k c'] 42))
  clear hi hz0 hz1 hz2 o1 o2
  go_enter Tryd.func39, Tryd.ntmps39
  go_wp2_with fail
  obtain ⟨W, hW⟩ : ∃ W, W = w.alloc (.cells #[.slice A n c, .slice A' s.k c'] 42) := ⟨_, rfl⟩
  rw [← hW] at RC D0 B0
  have hWs : W.heap.size = w.heap.size + 1 := by rw [hW]; simp
  rw [← hW]
  clear hW
  go_loopw [3, 4, 5] (fun v i _ wr => ∃ k : Nat, k ≤ n ∧ i = .int .i64 k ∧ Own wr (w.heap.size + 1) 3 1 v (M.elP k (M.isResp s)).length (ints (nats (M.elP k (M.isResp s)))) ∧ Below (w.heap.size + 1) W wr) (fun _ i _ _ => n - (intOf i).toNat)
  case atStart => exact ⟨0, Nat.zero_le _, rfl, Own.nil_, Below.refl _ _⟩
  case round =>
    obtain ⟨k, hk, rfl, o0, hbw⟩ := hrel
    obtain ⟨vA, vc, rfl⟩ := o0.form
    have O0 := Lib.hid o0
    have HB := Lib.hid hbw
    have hz : w.heap.size + 1 ≤ wr.heap.size := by have := hbw.size; omega
    have hl := M.elP_len k (M.isResp s)
    have D1 := D0.out.below hbw (by omega)
    have d0 := D1.cell 0
    have d1 := D1.cell 1
    have R1 := RC.out.below (hbw.mono (by omega))
    clear o0 hbw D1
    by_cases hlt : k < n
    · have HE := Lib.hid (M.elP_succ k (M.isResp s))
      obtain ⟨b, off, rfl, hb, c0, c1, c2⟩ := R1.at3 hlt
      have kx : decide (n ≤ k) = false := decide_eq_false (by omega)
      clear R1
      by_cases h1 : s.c k 0 = 1
      · have e1 : (s.c k 0 == 1) = true := by rw [h1]; rfl
        have HM := Lib.hid (show M.isResp s k = true by unfold M.isResp; simp [h1])
        clear h1
        go_wp2_with (at_builtin; refine wpList_app rfl (.tmp 29) (.tmp 31) 30 rfl (w.heap.size + 1) 3 1 8 Tryd.underlying30 MI.out.1 MI.out.2.1 MI.out.2.2.1 MI.out.2.2.2 rfl (by decide) (by decide) (O0.out.alloc _) rfl (by omega) (by simp; omega) wr.heap.size 1 (fun _ => .int .i64 (k : Int)) rfl (cell_last (by simp)) (fun _ _ => rfl) ?_; intro v6 w6 o6 hg6 hat6; obtain ⟨A6, z6, rfl⟩ := o6.form; have HO6 := Lib.hid o6; have HG6 := Lib.hid hg6; clear o6 hg6 hat6)
        go_roundw
        case rel =>
          refine ⟨k + 1, by omega, by go_num, ?_, (HB.out.alloc hz _).grown HG6.out (by simp; omega) (fun q hq => (O0.out.block hq).1)⟩
          rw [HE.out, HM.out]
          simp only [if_true, List.length_append]
          exact HO6.out.congr fun i j hi _ => app_nats i j hi
        case measure => simp [intOf]; omega
      · have e1 : (s.c k 0 == 1) = false := by rw [beq_eq_false_iff_ne]; exact h1
        by_cases h2 : s.c k 0 = 2
        · have e2 : (s.c k 0 == 2) = true := by rw [h2]; rfl
          have HM := Lib.hid (show M.isResp s k = true by unfold M.isResp; simp [h2])
          clear h1 h2
          go_wp2_with (at_builtin; refine wpList_app rfl (.tmp 29) (.tmp 31) 30 rfl (w.heap.size + 1) 3 1 8 Tryd.underlying30 MI.out.1 MI.out.2.1 MI.out.2.2.1 MI.out.2.2.2 rfl (by decide) (by decide) (O0.out.alloc _) rfl (by omega) (by simp; omega) wr.heap.size 1 (fun _ => .int .i64 (k : Int)) rfl (cell_last (by simp)) (fun _ _ => rfl) ?_; intro v6 w6 o6 hg6 hat6; obtain ⟨A6, z6, rfl⟩ := o6.form; have HO6 := Lib.hid o6; have HG6 := Lib.hid hg6; clear o6 hg6 hat6)
          go_roundw
          case rel =>
            refine ⟨k + 1, by omega, by go_num, ?_, (HB.out.alloc hz _).grown HG6.out (by simp; omega) (fun q hq => (O0.out.block hq).1)⟩
            rw [HE.out, HM.out]
            simp only [if_true, List.length_append]
            exact HO6.out.congr fun i j hi _ => app_nats i j hi
          case measure => simp [intOf]; omega
        · have e2 : (s.c k 0 == 2) = false := by rw [beq_eq_false_iff_ne]; exact h2
          by_cases h3 : s.c k 0 = 3
          · have e3 : (s.c k 0 == 3) = true := by rw [h3]; rfl
            have HM := Lib.hid (show M.isResp s k = true by unfold M.isResp; simp [h3])
            clear h1 h2 h3
            go_wp2_with (at_builtin; refine wpList_app rfl (.tmp 29) (.tmp 31) 30 rfl (w.heap.size + 1) 3 1 8 Tryd.underlying30 MI.out.1 MI.out.2.1 MI.out.2.2.1 MI.out.2.2.2 rfl (by decide) (by decide) (O0.out.alloc _) rfl (by omega) (by simp; omega) wr.heap.size 1 (fun _ => .int .i64 (k : Int)) rfl (cell_last (by simp)) (fun _ _ => rfl) ?_; intro v6 w6 o6 hg6 hat6; obtain ⟨A6, z6, rfl⟩ := o6.form; have HO6 := Lib.hid o6; have HG6 := Lib.hid hg6; clear o6 hg6 hat6)
            go_roundw
            case rel =>
              refine ⟨k + 1, by omega, by go_num, ?_, (HB.out.alloc hz _).grown HG6.out (by simp; omega) (fun q hq => (O0.out.block hq).1)⟩
              rw [HE.out, HM.out]
              simp only [if_true, List.length_append]
              exact HO6.out.congr fun i j hi _ => app_nats i j hi
            case measure => simp [intOf]; omega
          · have e3 : (s.c k 0 == 3) = false := by rw [beq_eq_false_iff_ne]; exact h3
            have HM := Lib.hid (show M.isResp s k = false by unfold M.isResp; simp [h1, h2, h3])
            clear h1 h2 h3
            go_wp2_with fail
            go_roundw
            case rel =>
              refine ⟨k + 1, by omega, by go_num, ?_, HB.out⟩
              rw [HE.out, HM.out]
              simp only [Bool.false_eq_true, if_false, List.append_nil]
              exact O0.out
            case measure => simp [intOf]; omega
    · obtain rfl : k = n := by omega
      clear R1
      go_wp2_with fail
      go_ret
      exact ⟨⟨_, rfl, O0.out.less (by omega)⟩, B0.out.trans (HB.out.mono (by omega))⟩
theorem elP_more {n m : Nat} {p : Nat → Bool} (hnm : n ≤ m) (h : ∀ i, n ≤ i → i < m → p i = false) : M.elP m p = M.elP n p := by
  induction m with
  | zero => obtain rfl : n = 0 := by omega
            rfl
  | succ m ih =>
    by_cases e : n = m + 1
    · rw [e]
    · rw [M.elP_succ, ih (by omega) fun i h1 h2 => h i h1 (by omega), h m (by omega) (by omega)]; simp
theorem resp_eq {n : Nat} {s : M.St} (hn : n ≤ 4) (hs : M.Sil n s) : M.resp s = M.elP n (M.isResp s) :=
  elP_more hn fun i h1 _ => by
    have := hs i h1 0
    unfold M.isResp
    simp [this]
set_option maxRecDepth 100000 in
set_option maxHeartbeats 6400000 in
theorem rResp_ok (n o : Nat) (A : Option Addr) (en ec B : Nat) (E : Nat → Nat → Int) (w : World) (hn : 2 ≤ n ∧ n ≤ 4) (ho : o < n) (hen : en ≤ 200) (hR : Rd w B A 3 en E) (hB : B ≤ w.heap.size) :
    Calls Tryd.prog 20 #[.int .i64 (n : Int), .int .i64 (o : Int), .slice A en ec] w fun e w' => RespV w (M.runF n o E en) e w' ∧ Below w.heap.size w w' := by
  have hof : (0 : Int) ≤ o ∧ (o : Int) < n := by omega
  have HRQ := Lib.hid (resp_eq hn.2 (M.Sil.run (n := n) hof E en))
  have HRun := Lib.hid (rRun_ok n o A en ec B E w hn ho hen hR hB)
  have hn4 := hn.2
  clear hn ho hR hof
  go_enter Tryd.func20, Tryd.ntmps20
  go_wp2_with (first
    | (go_at_call 17; go_must (refine HRun.out.mono ?_); rintro e w1 ⟨⟨v1, bv, rfl, ⟨A1, c1, A2, c2, rfl, o1, o2⟩, o3⟩, hb1⟩; have V1 := Lib.hid (show CallV n (M.runF n o E en) w.heap.size (.agg #[.slice A1 n c1, .slice A2 (M.runF n o E en).k c2]) w1 from ⟨_, _, _, _, rfl, o1, o2⟩); have HB1 := Lib.hid hb1; clear o1 o2 o3 hb1)
    | (go_at_call 39; go_must (refine (rresp_any n w.heap.size (M.runF n o E en) _ _ (V1.out.below (belowAlloc w1 _)) hn4).mono ?_); rintro e w3 ⟨⟨x, rfl, ox⟩, hb3⟩; have OX := Lib.hid ox; have HB3 := Lib.hid hb3; clear ox hb3))
  have hz1 := HB1.out.size
  go_ret2
  refine ⟨⟨_, rfl, ?_⟩, ?_⟩
  · rw [HRQ.out]; exact OX.out.less (by simp; omega)
  · exact (HB1.out.alloc hz1 _).trans (HB3.out.mono (by simp; omega))
set_option maxRecDepth 100000 in
set_option maxHeartbeats 3200000 in
theorem rResp_bad (n o : Int) (A : Option Addr) (en ec : Nat) (w : World) (h : chkE n o en ≠ 0) :
    Calls Tryd.prog 20 #[.int .i64 n, .int .i64 o, .slice A en ec] w fun e w' => e = .returned (.tuple #[.slice none 0 0, .int .i64 (chkE n o en)]) ∧ Below w.heap.size w w' := by
  have HRun := Lib.hid (rRun_bad n o A en ec w h)
  obtain ⟨E0, hE0⟩ : ∃ E0, E0 = chkE n o en := ⟨_, rfl⟩
  rw [← hE0] at h HRun ⊢
  have g1 : (E0 != 0) = true := by rw [bne_iff_ne]; exact h
  clear hE0 h
  go_enter Tryd.func20, Tryd.ntmps20
  go_wp2_with (go_at_call 17; go_must (refine HRun.out.mono ?_); rintro e w1 ⟨rfl, hb1⟩; have HB1 := Lib.hid hb1; clear hb1)
  go_ret2
  exact ⟨rfl, HB1.out.alloc HB1.out.size _⟩
end Go.Proofs.YtbjggnecfppjgaaDoor
/- The program's runs for bad arguments. -/
namespace Go.Proofs.YtbjggnecfppjgaaDoor
open Go.RowKit

set_option maxRecDepth 100000 in
set_option maxHeartbeats 6400000 in
theorem resp_gen (a0 a1 a2 : Value) (n : Nat) (s : M.St) (e0 : Int) (w : World) (hrun : Calls Tryd.prog 36 #[a0, a1, a2] w fun e w' => (∃ cs bv, e = .returned (.tuple #[.agg cs, bv, .int .i64 e0]) ∧ Sv cs (stF n s)) ∧ Below w.heap.size w w') :
    Calls Tryd.prog 19 #[a0, a1, a2] w fun e w' => (∃ v, e = .returned (.tuple #[v, .int .i64 e0]) ∧ Own w' w.heap.size 3 1 v (M.resp s).length (ints (nats (M.resp s)))) ∧ Below w.heap.size w w' := by
  obtain ⟨i0, hi, hz0, hz1, hz2⟩ := info_parts int_info
  have MI := Lib.hid (And.intro hi (And.intro hz0 (And.intro hz1 hz2)))
  have HRun := Lib.hid hrun
  clear hi hz0 hz1 hz2 hrun
  go_enter Tryd.func19, Tryd.ntmps19
  go_upto_region 3 with (first
    | (go_at_call 36; refine HRun.out.mono ?_; rintro e w1 ⟨⟨cs, bv, rfl, sv⟩, hb1⟩; have SV := Lib.hid sv; have HB1 := Lib.hid hb1; clear sv hb1)
    | (refine wpList_stS rfl (.tmp 8) (.tmp 19) rfl rfl rfl (Blk.new w1 _ litZ) rfl SV.out.1 SV.out.one ?_; intro w2 b2 g2; have B2 := Lib.hid b2; have G2 := Lib.hid g2; clear b2 g2))
  have hz1 : w.heap.size ≤ w1.heap.size := HB1.out.size
  obtain ⟨S, hS⟩ : ∃ S, S = w1.heap.size := ⟨_, rfl⟩
  rw [← hS] at B2 G2 hz1
  have S2 := Lib.hid (Sf.of B2.out SV.out)
  have L2 := Lib.hid (show Below w.heap.size w w2 from (HB1.out.alloc (by omega) (.cells litZ 75)).grown G2.out (by simp; omega) (fun q hq => by injection hq with hq; omega))
  have hSw : S < w2.heap.size := B2.out.lt
  rw [← hS]
  clear hS B2 G2 HB1 SV
  have d1 : w2.cell? ⟨S, 1, none⟩ = some (.int .i64 (s.c 0 0)) := S2.out.cell (by omega)
  have d2 : w2.cell? ⟨S, 2, none⟩ = some (.int .i64 (s.c 0 1)) := S2.out.cell (by omega)
  have d3 : w2.cell? ⟨S, 3, none⟩ = some (.int .i64 (s.c 0 2)) := S2.out.cell (by omega)
  have d4 : w2.cell? ⟨S, 4, none⟩ = some (.int .i64 (s.c 1 0)) := S2.out.cell (by omega)
  have d5 : w2.cell? ⟨S, 5, none⟩ = some (.int .i64 (s.c 1 1)) := S2.out.cell (by omega)
  have d6 : w2.cell? ⟨S, 6, none⟩ = some (.int .i64 (s.c 1 2)) := S2.out.cell (by omega)
  have d7 : w2.cell? ⟨S, 7, none⟩ = some (.int .i64 (s.c 2 0)) := S2.out.cell (by omega)
  have d8 : w2.cell? ⟨S, 8, none⟩ = some (.int .i64 (s.c 2 1)) := S2.out.cell (by omega)
  have d9 : w2.cell? ⟨S, 9, none⟩ = some (.int .i64 (s.c 2 2)) := S2.out.cell (by omega)
  have d10 : w2.cell? ⟨S, 10, none⟩ = some (.int .i64 (s.c 3 0)) := S2.out.cell (by omega)
  have d11 : w2.cell? ⟨S, 11, none⟩ = some (.int .i64 (s.c 3 1)) := S2.out.cell (by omega)
  have d12 : w2.cell? ⟨S, 12, none⟩ = some (.int .i64 (s.c 3 2)) := S2.out.cell (by omega)
  go_wp2_with fail
  clear d1 d2 d3 d4 d5 d6 d7 d8 d9 d10 d11 d12
  go_loopw [11, 12, 13, 24] (fun v _ _ i wr => ∃ k : Nat, k ≤ 4 ∧ i = .int .i64 k ∧ Own wr w2.heap.size 3 1 v (M.elP k (M.isResp s)).length (ints (nats (M.elP k (M.isResp s)))) ∧ Below w2.heap.size w2 wr) (fun _ _ _ i _ => 4 - (intOf i).toNat)
  case atStart => exact ⟨0, Nat.zero_le _, rfl, Own.nil_, Below.refl _ _⟩
  case round =>
    obtain ⟨k, hk, rfl, o0, hbw⟩ := hrel
    obtain ⟨vA, vc, rfl⟩ := o0.form
    have O0 := Lib.hid o0
    have HB := Lib.hid hbw
    have hz := hbw.size
    have hl := M.elP_len k (M.isResp s)
    clear o0 hbw
    by_cases hlt : k < 4
    · have x1 := idx_agg s.c k hlt
      have HE := Lib.hid (M.elP_succ k (M.isResp s))
      have OA := Lib.hid (O0.out.alloc (.cells #[.int .i64 (s.c k 0), .int .i64 (s.c k 1), .int .i64 (s.c k 2)] 69))
      have HBA := Lib.hid (HB.out.alloc hz (.cells #[.int .i64 (s.c k 0), .int .i64 (s.c k 1), .int .i64 (s.c k 2)] 69))
      by_cases h1 : s.c k 0 = 1
      · have e1 : (s.c k 0 == 1) = true := by rw [h1]; rfl
        have HM := Lib.hid (show M.isResp s k = true by unfold M.isResp; simp [h1])
        clear h1
        go_wp2_with (at_builtin; refine wpList_app rfl (.tmp 41) (.tmp 43) 30 rfl w2.heap.size 3 1 8 Tryd.underlying30 MI.out.1 MI.out.2.1 MI.out.2.2.1 MI.out.2.2.2 rfl (by decide) (by decide) (OA.out.alloc _) rfl (by omega) (by simp; omega) (wr.heap.size + 1) 1 (fun _ => .int .i64 (k : Int)) rfl (cell_last (by simp)) (fun _ _ => rfl) ?_; intro v6 w6 o6 hg6 hat6; obtain ⟨A6, z6, rfl⟩ := o6.form; have HO6 := Lib.hid o6; have HG6 := Lib.hid hg6; clear o6 hg6 hat6)
        go_roundw
        case rel =>
          refine ⟨k + 1, by omega, by go_num, ?_, (HBA.out.alloc (by simp; omega) _).grown HG6.out (by simp; omega) (fun q hq => (O0.out.block hq).1)⟩
          rw [HE.out, HM.out]
          simp only [if_true, List.length_append]
          exact HO6.out.congr fun i j hi _ => app_nats i j hi
        case measure => simp [intOf]; omega
      · have e1 : (s.c k 0 == 1) = false := by rw [beq_eq_false_iff_ne]; exact h1
        by_cases h2 : s.c k 0 = 2
        · have e2 : (s.c k 0 == 2) = true := by rw [h2]; rfl
          have HM := Lib.hid (show M.isResp s k = true by unfold M.isResp; simp [h2])
          clear h1 h2
          go_wp2_with (at_builtin; refine wpList_app rfl (.tmp 41) (.tmp 43) 30 rfl w2.heap.size 3 1 8 Tryd.underlying30 MI.out.1 MI.out.2.1 MI.out.2.2.1 MI.out.2.2.2 rfl (by decide) (by decide) (OA.out.alloc _) rfl (by omega) (by simp; omega) (wr.heap.size + 1) 1 (fun _ => .int .i64 (k : Int)) rfl (cell_last (by simp)) (fun _ _ => rfl) ?_; intro v6 w6 o6 hg6 hat6; obtain ⟨A6, z6, rfl⟩ := o6.form; have HO6 := Lib.hid o6; have HG6 := Lib.hid hg6; clear o6 hg6 hat6)
          go_roundw
          case rel =>
            refine ⟨k + 1, by omega, by go_num, ?_, (HBA.out.alloc (by simp; omega) _).grown HG6.out (by simp; omega) (fun q hq => (O0.out.block hq).1)⟩
            rw [HE.out, HM.out]
            simp only [if_true, List.length_append]
            exact HO6.out.congr fun i j hi _ => app_nats i j hi
          case measure => simp [intOf]; omega
        · have e2 : (s.c k 0 == 2) = false := by rw [beq_eq_false_iff_ne]; exact h2
          by_cases h3 : s.c k 0 = 3
          · have e3 : (s.c k 0 == 3) = true := by rw [h3]; rfl
            have HM := Lib.hid (show M.isResp s k = true by unfold M.isResp; simp [h3])
            clear h1 h2 h3
            go_wp2_with (at_builtin; refine wpList_app rfl (.tmp 41) (.tmp 43) 30 rfl w2.heap.size 3 1 8 Tryd.underlying30 MI.out.1 MI.out.2.1 MI.out.2.2.1 MI.out.2.2.2 rfl (by decide) (by decide) (OA.out.alloc _) rfl (by omega) (by simp; omega) (wr.heap.size + 1) 1 (fun _ => .int .i64 (k : Int)) rfl (cell_last (by simp)) (fun _ _ => rfl) ?_; intro v6 w6 o6 hg6 hat6; obtain ⟨A6, z6, rfl⟩ := o6.form; have HO6 := Lib.hid o6; have HG6 := Lib.hid hg6; clear o6 hg6 hat6)
            go_roundw
            case rel =>
              refine ⟨k + 1, by omega, by go_num, ?_, (HBA.out.alloc (by simp; omega) _).grown HG6.out (by simp; omega) (fun q hq => (O0.out.block hq).1)⟩
              rw [HE.out, HM.out]
              simp only [if_true, List.length_append]
              exact HO6.out.congr fun i j hi _ => app_nats i j hi
            case measure => simp [intOf]; omega
          · have e3 : (s.c k 0 == 3) = false := by rw [beq_eq_false_iff_ne]; exact h3
            have HM := Lib.hid (show M.isResp s k = false by unfold M.isResp; simp [h1, h2, h3])
            clear h1 h2 h3
            go_wp2_with fail
            go_roundw
            case rel =>
              refine ⟨k + 1, by omega, by go_num, ?_, HBA.out⟩
              rw [HE.out, HM.out]
              simp only [Bool.false_eq_true, if_false, List.append_nil]
              exact OA.out
            case measure => simp [intOf]; omega
    · obtain rfl : k = 4 := by omega
      go_wp2_with fail
      go_ret2
      exact ⟨⟨.slice vA _ vc, rfl, O0.out.less L2.out.size⟩, L2.out.trans (HB.out.mono L2.out.size)⟩
/-- what run leaves for bad arguments -/
def RunB (e0 : Int) (w : World) (e : Ending) (w' : World) : Prop := e = .returned (.tuple #[.agg litZ, .slice none 0 0, .int .i64 e0]) ∧ Below w.heap.size w w'
theorem run_bad_end {tmps : Array Value} {w w2 : World} {e0 e1 : Int} (h6 : tmps.getD 6 undef = .pointer (some ⟨w.heap.size, 0, none⟩)) (h7 : tmps.getD 7 undef = .slice none 0 0) (h8 : tmps.getD 8 undef = .int .i64 e1) (hb : Blk w2 w.heap.size 75 litZ) (hg : (w.alloc (.cells litZ 75)).grownBy w2 (some w.heap.size)) (he : e0 = e1) :
    bodyPost Tryd.prog Tryd.f36 (RunB e0 w) .ret { tmps := tmps, defers := [] } w2 := by
  subst he
  refine bodyPost_ret (results_cell_row2 rfl _ _ w.heap.size 75 litZ (0, 0) _ h6 hb Tryd.underlying75 rfl state_size) rfl ⟨by rw [h7, h8], ?_⟩
  exact (belowAlloc w (.cells litZ 75)).grown hg (by simp) (fun q hq => by injection hq with hq; omega)
set_option maxRecDepth 100000 in
set_option maxHeartbeats 3200000 in
theorem run_bad (n o : Int) (A : Option Addr) (en ec : Nat) (w : World) (h : chkE n o en ≠ 0) :
    Calls Tryd.prog 36 #[.int .i64 n, .int .i64 o, .slice A en ec] w (RunB (chkE n o en) w) := by
  by_cases h1 : n < 2
  · have g1 : decide (n < 2) = true := decide_eq_true h1
    go_enter Tryd.func36, Tryd.ntmps36
    go_wp2_with (refine wpList_stS rfl (.tmp 6) (.tmp 28) rfl rfl rfl (cs := litZ) (Blk.new w _ litZ) rfl rfl (litN_sv 0).one ?_; intro w2 b2 g2; have B2 := Lib.hid b2; have G2 := Lib.hid g2; clear b2 g2)
    exact run_bad_end rfl rfl rfl B2.out G2.out (by unfold chkE; rw [if_pos (by omega)])
  · have g1 : decide (n < 2) = false := decide_eq_false h1
    by_cases h2 : 4 < n
    · have g2 : decide (4 < n) = true := decide_eq_true h2
      go_enter Tryd.func36, Tryd.ntmps36
      go_wp2_with (refine wpList_stS rfl (.tmp 6) (.tmp 28) rfl rfl rfl (cs := litZ) (Blk.new w _ litZ) rfl rfl (litN_sv 0).one ?_; intro w2 b2 g2; have B2 := Lib.hid b2; have G2 := Lib.hid g2; clear b2 g2)
      exact run_bad_end rfl rfl rfl B2.out G2.out (by unfold chkE; rw [if_pos (by omega)])
    · have g2 : decide (4 < n) = false := decide_eq_false h2
      by_cases h3 : o < 0
      · have g3 : decide (o < 0) = true := decide_eq_true h3
        go_enter Tryd.func36, Tryd.ntmps36
        go_wp2_with (refine wpList_stS rfl (.tmp 6) (.tmp 28) rfl rfl rfl (cs := litZ) (Blk.new w _ litZ) rfl rfl (litN_sv 0).one ?_; intro w2 b2 g2; have B2 := Lib.hid b2; have G2 := Lib.hid g2; clear b2 g2)
        exact run_bad_end rfl rfl rfl B2.out G2.out (by unfold chkE; rw [if_pos (by omega)])
      · have g3 : decide (o < 0) = false := decide_eq_false h3
        by_cases h4 : n ≤ o
        · have g4 : decide (n ≤ o) = true := decide_eq_true h4
          go_enter Tryd.func36, Tryd.ntmps36
          go_wp2_with (refine wpList_stS rfl (.tmp 6) (.tmp 28) rfl rfl rfl (cs := litZ) (Blk.new w _ litZ) rfl rfl (litN_sv 0).one ?_; intro w2 b2 g2; have B2 := Lib.hid b2; have G2 := Lib.hid g2; clear b2 g2)
          exact run_bad_end rfl rfl rfl B2.out G2.out (by unfold chkE; rw [if_pos (by omega)])
        · have g4 : decide (n ≤ o) = false := decide_eq_false h4
          by_cases h5 : 200 < en
          · have g5 : decide ((200 : Int) < (en : Int)) = true := decide_eq_true (by omega)
            go_enter Tryd.func36, Tryd.ntmps36
            go_wp2_with (refine wpList_stS rfl (.tmp 6) (.tmp 32) rfl rfl rfl (cs := litZ) (Blk.new w _ litZ) rfl rfl (litN_sv 0).one ?_; intro w2 b2 g2; have B2 := Lib.hid b2; have G2 := Lib.hid g2; clear b2 g2)
            exact run_bad_end rfl rfl rfl B2.out G2.out (by unfold chkE; rw [if_neg (by omega), if_pos h5])
          · exact absurd (by unfold chkE; rw [if_neg (by omega), if_neg h5]) h
set_option maxRecDepth 100000 in
set_option maxHeartbeats 3200000 in
theorem Run_bad (n o : Int) (A : Option Addr) (en ec : Nat) (w : World) (h : chkE n o en ≠ 0) :
    Calls Tryd.prog 16 #[.int .i64 n, .int .i64 o, .slice A en ec] w (BadV (chkE n o en) w) := by
  have HRun := Lib.hid (run_bad n o A en ec (w.alloc (.cells #[.slice none 0 0, .slice none 0 0] 42)) h)
  obtain ⟨E0, hE0⟩ : ∃ E0, E0 = chkE n o en := ⟨_, rfl⟩
  rw [← hE0] at h HRun ⊢
  have g1 : (E0 != 0) = true := by rw [bne_iff_ne]; exact h
  have D0 := Lib.hid (Blk.new w 42 #[.slice none 0 0, .slice none 0 0])
  have hb0 := Lib.hid (belowAlloc w (.cells #[.slice none 0 0, .slice none 0 0] 42))
  clear hE0 h
  go_enter Tryd.func16, Tryd.ntmps16
  go_upto_region 2 with (first
    | (go_at_call 36; refine HRun.out.mono ?_; rintro e w1 ⟨rfl, hb1⟩; have HB1 := Lib.hid hb1; clear hb1)
    | (refine wpList_stS rfl (.tmp 9) (.tmp 17) rfl rfl rfl (Blk.new w1 _ litZ) rfl rfl (litN_sv 0).one ?_; intro w2 b2 g2; have B2 := Lib.hid b2; have G2 := Lib.hid g2; clear b2 g2))
  have hz1 : w.heap.size + 1 ≤ w1.heap.size := by have := HB1.out.size; simpa using this
  have D2 := Lib.hid (((D0.out.below HB1.out (by simp)).alloc (.cells litZ 75)).grown G2.out (fun e => by injection e with e; omega))
  have L2 := Lib.hid (show Below w.heap.size w w2 from ((hb0.out.trans (HB1.out.mono (by simp))).alloc (by omega) (.cells litZ 75)).grown G2.out (by simp; omega) (fun q hq => by injection hq with hq; omega))
  have d0 := D2.out.cell 0
  have d1 := D2.out.cell 1
  have f0 := D2.out.frz 0
  have f1 := D2.out.frz 1
  go_wp2_with fail
  exact bodyPost_ret (results_cell_row2 rfl _ _ w.heap.size 42 #[.slice none 0 0, .slice none 0 0] (0, 0) _ rfl ((D2.out.set_ 0 _).set_ 1 _) Tryd.underlying42 rfl call_size) rfl ⟨rfl, (L2.out.setCell (p := ⟨w.heap.size, 0, none⟩) (Nat.le_refl _) _).setCell (p := ⟨w.heap.size, 1, none⟩) (Nat.le_refl _) _⟩
theorem resp_bad (n o : Int) (A : Option Addr) (en ec : Nat) (w : World) (h : chkE n o en ≠ 0) :
    Calls Tryd.prog 19 #[.int .i64 n, .int .i64 o, .slice A en ec] w fun e w' => (∃ v, e = .returned (.tuple #[v, .int .i64 (chkE n o en)]) ∧ Own w' w.heap.size 3 1 v 0 (ints (nats []))) ∧ Below w.heap.size w w' := by
  have hz : M.resp zeroS = [] := elP_none fun i _ => rfl
  have := resp_gen (.int .i64 n) (.int .i64 o) (.slice A en ec) 0 zeroS (chkE n o en) w ((run_bad n o A en ec w h).mono (fun e w' hh => ⟨⟨litZ, .slice none 0 0, hh.1, litN_sv 0⟩, hh.2⟩))
  rw [hz] at this
  exact this
end Go.Proofs.YtbjggnecfppjgaaDoor
