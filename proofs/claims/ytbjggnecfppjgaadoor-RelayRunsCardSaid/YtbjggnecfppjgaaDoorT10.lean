/- Responsible, where its arguments are valid. -/
import Derived.Test.YtbjggnecfppjgaaDoorT9
namespace Go.Proofs.YtbjggnecfppjgaaDoor
open Go.RowKit

theorem idx_agg (c : Nat → Nat → Int) (k : Nat) (hk : k < 4) (W : World) : (Instr.index 70 (.agg #[.int .i64 (c 0 0), .int .i64 (c 0 1), .int .i64 (c 0 2), .int .i64 (c 1 0), .int .i64 (c 1 1), .int .i64 (c 1 2), .int .i64 (c 2 0), .int .i64 (c 2 1), .int .i64 (c 2 2), .int .i64 (c 3 0), .int .i64 (c 3 1), .int .i64 (c 3 2)]) (.int .i64 (k : Int))).run Tryd.prog W = .ok (.agg #[.int .i64 (c k 0), .int .i64 (c k 1), .int .i64 (c k 2)]) W := by
  have h59 := Tryd.sizeOf69 W
  obtain rfl | rfl | rfl | rfl : k = 0 ∨ k = 1 ∨ k = 2 ∨ k = 3 := by omega
  all_goals simp [Instr.index, asIntOf, run_underlying Tryd.underlying70, part, go_sem]
/-- who is responsible -/
def M.isResp (s : M.St) (i : Nat) : Bool := decide (s.c i 0 = 1) || decide (s.c i 0 = 2) || decide (s.c i 0 = 3)
def M.resp (s : M.St) : List Nat := M.elP 4 (M.isResp s)
def RespV (w : World) (s : M.St) (e : Ending) (w' : World) : Prop := ∃ v, e = .returned (.tuple #[v, .int .i64 0]) ∧ Own w' w.heap.size 3 1 v (M.resp s).length (ints (nats (M.resp s)))
set_option maxRecDepth 100000 in
set_option maxHeartbeats 6400000 in
theorem resp_ok (n o : Nat) (A : Option Addr) (en ec B : Nat) (E : Nat → Nat → Int) (w : World) (hn : 2 ≤ n ∧ n ≤ 4) (ho : o < n) (hen : en ≤ 200) (hR : Rd w B A 3 en E) (hB : B ≤ w.heap.size) :
    Calls Tryd.prog 19 #[.int .i64 (n : Int), .int .i64 (o : Int), .slice A en ec] w fun e w' => RespV w (M.runF n o E en) e w' ∧ Below w.heap.size w w' := by
  obtain ⟨s, hs⟩ : ∃ s, s = M.runF n o E en := ⟨_, rfl⟩
  rw [← hs]
  have HSE := Lib.hid hs
  clear hs
  obtain ⟨i0, hi, hz0, hz1, hz2⟩ := info_parts int_info
  have MI := Lib.hid (And.intro hi (And.intro hz0 (And.intro hz1 hz2)))
  have HRun := Lib.hid (run_ok n o A en ec B E w hn ho hen hR hB)
  clear hi hz0 hz1 hz2 hR hn ho hen
  go_enter Tryd.func19, Tryd.ntmps19
  go_upto_region 3 with (first
    | (go_at_call 36; refine HRun.out.mono ?_; rintro e w1 ⟨⟨cs, bv, rfl, sv, ob⟩, hb1⟩; rw [← HSE.out] at sv; have SV := Lib.hid sv; have HB1 := Lib.hid hb1; clear sv hb1 ob)
    | (refine wpList_stS rfl (.tmp 8) (.tmp 19) rfl rfl rfl (Blk.new w1 _ litZ) rfl SV.out.1 SV.out.one ?_; intro w2 b2 g2; have B2 := Lib.hid b2; have G2 := Lib.hid g2; clear b2 g2))
  have hz1 : w.heap.size ≤ w1.heap.size := HB1.out.size
  obtain ⟨S, hS⟩ : ∃ S, S = w1.heap.size := ⟨_, rfl⟩
  rw [← hS] at B2 G2 hz1
  have S2 := Lib.hid (Sf.of B2.out SV.out)
  have L2 := Lib.hid (show Below w.heap.size w w2 from (HB1.out.alloc (by omega) (.cells litZ 75)).grown G2.out (by simp; omega) (fun q hq => by injection hq with hq; omega))
  have hSw : S < w2.heap.size := B2.out.lt
  rw [← hS]
  clear hS B2 G2 HB1 SV
  have d1 : w2.cell? ⟨S, 1, none⟩ = some (.int .i64 (s.c 0 0)) := S2.out.cell (by omega)
  have d2 : w2.cell? ⟨S, 2, none⟩ = some (.int .i64 (s.c 0 1)) := S2.out.cell (by omega)
  have d3 : w2.cell? ⟨S, 3, none⟩ = some (.int .i64 (s.c 0 2)) := S2.out.cell (by omega)
  have d4 : w2.cell? ⟨S, 4, none⟩ = some (.int .i64 (s.c 1 0)) := S2.out.cell (by omega)
  have d5 : w2.cell? ⟨S, 5, none⟩ = some (.int .i64 (s.c 1 1)) := S2.out.cell (by omega)
  have d6 : w2.cell? ⟨S, 6, none⟩ = some (.int .i64 (s.c 1 2)) := S2.out.cell (by omega)
  have d7 : w2.cell? ⟨S, 7, none⟩ = some (.int .i64 (s.c 2 0)) := S2.out.cell (by omega)
  have d8 : w2.cell? ⟨S, 8, none⟩ = some (.int .i64 (s.c 2 1)) := S2.out.cell (by omega)
  have d9 : w2.cell? ⟨S, 9, none⟩ = some (.int .i64 (s.c 2 2)) := S2.out.cell (by omega)
  have d10 : w2.cell? ⟨S, 10, none⟩ = some (.int .i64 (s.c 3 0)) := S2.out.cell (by omega)
  have d11 : w2.cell? ⟨S, 11, none⟩ = some (.int .i64 (s.c 3 1)) := S2.out.cell (by omega)
  have d12 : w2.cell? ⟨S, 12, none⟩ = some (.int .i64 (s.c 3 2)) := S2.out.cell (by omega)
  go_wp2_with fail
  clear d1 d2 d3 d4 d5 d6 d7 d8 d9 d10 d11 d12
  go_loopw [11, 12, 13, 24] (fun v _ _ i wr => ∃ k : Nat, k ≤ 4 ∧ i = .int .i64 k ∧ Own wr w2.heap.size 3 1 v (M.elP k (M.isResp s)).length (ints (nats (M.elP k (M.isResp s)))) ∧ Below w2.heap.size w2 wr) (fun _ _ _ i _ => 4 - (intOf i).toNat)
  case atStart => exact ⟨0, Nat.zero_le _, rfl, Own.nil_, Below.refl _ _⟩
  case round =>
    obtain ⟨k, hk, rfl, o0, hbw⟩ := hrel
    obtain ⟨vA, vc, rfl⟩ := o0.form
    have O0 := Lib.hid o0
    have HB := Lib.hid hbw
    have hz := hbw.size
    have hl := M.elP_len k (M.isResp s)
    clear o0 hbw
    by_cases hlt : k < 4
    · have x1 := idx_agg s.c k hlt
      have HE := Lib.hid (M.elP_succ k (M.isResp s))
      have OA := Lib.hid (O0.out.alloc (.cells #[.int .i64 (s.c k 0), .int .i64 (s.c k 1), .int .i64 (s.c k 2)] 69))
      have HBA := Lib.hid (HB.out.alloc hz (.cells #[.int .i64 (s.c k 0), .int .i64 (s.c k 1), .int .i64 (s.c k 2)] 69))
      by_cases h1 : s.c k 0 = 1
      · have e1 : (s.c k 0 == 1) = true := by rw [h1]; rfl
        have HM := Lib.hid (show M.isResp s k = true by unfold M.isResp; simp [h1])
        clear h1
        go_wp2_with (at_builtin; refine wpList_app rfl (.tmp 41) (.tmp 43) 30 rfl w2.heap.size 3 1 8 Tryd.underlying30 MI.out.1 MI.out.2.1 MI.out.2.2.1 MI.out.2.2.2 rfl (by decide) (by decide) (OA.out.alloc _) rfl (by omega) (by simp; omega) (wr.heap.size + 1) 1 (fun _ => .int .i64 (k : Int)) rfl (cell_last (by simp)) (fun _ _ => rfl) ?_; intro v6 w6 o6 hg6 hat6; obtain ⟨A6, z6, rfl⟩ := o6.form; have HO6 := Lib.hid o6; have HG6 := Lib.hid hg6; clear o6 hg6 hat6)
        go_roundw
        case rel =>
          refine ⟨k + 1, by omega, by go_num, ?_, (HBA.out.alloc (by simp; omega) _).grown HG6.out (by simp; omega) (fun q hq => (O0.out.block hq).1)⟩
          rw [HE.out, HM.out]
          simp only [if_true, List.length_append]
          exact HO6.out.congr fun i j hi _ => app_nats i j hi
        case measure => simp [intOf]; omega
      · have e1 : (s.c k 0 == 1) = false := by rw [beq_eq_false_iff_ne]; exact h1
        by_cases h2 : s.c k 0 = 2
        · have e2 : (s.c k 0 == 2) = true := by rw [h2]; rfl
          have HM := Lib.hid (show M.isResp s k = true by unfold M.isResp; simp [h2])
          clear h1 h2
          go_wp2_with (at_builtin; refine wpList_app rfl (.tmp 41) (.tmp 43) 30 rfl w2.heap.size 3 1 8 Tryd.underlying30 MI.out.1 MI.out.2.1 MI.out.2.2.1 MI.out.2.2.2 rfl (by decide) (by decide) (OA.out.alloc _) rfl (by omega) (by simp; omega) (wr.heap.size + 1) 1 (fun _ => .int .i64 (k : Int)) rfl (cell_last (by simp)) (fun _ _ => rfl) ?_; intro v6 w6 o6 hg6 hat6; obtain ⟨A6, z6, rfl⟩ := o6.form; have HO6 := Lib.hid o6; have HG6 := Lib.hid hg6; clear o6 hg6 hat6)
          go_roundw
          case rel =>
            refine ⟨k + 1, by omega, by go_num, ?_, (HBA.out.alloc (by simp; omega) _).grown HG6.out (by simp; omega) (fun q hq => (O0.out.block hq).1)⟩
            rw [HE.out, HM.out]
            simp only [if_true, List.length_append]
            exact HO6.out.congr fun i j hi _ => app_nats i j hi
          case measure => simp [intOf]; omega
        · have e2 : (s.c k 0 == 2) = false := by rw [beq_eq_false_iff_ne]; exact h2
          by_cases h3 : s.c k 0 = 3
          · have e3 : (s.c k 0 == 3) = true := by rw [h3]; rfl
            have HM := Lib.hid (show M.isResp s k = true by unfold M.isResp; simp [h3])
            clear h1 h2 h3
            go_wp2_with (at_builtin; refine wpList_app rfl (.tmp 41) (.tmp 43) 30 rfl w2.heap.size 3 1 8 Tryd.underlying30 MI.out.1 MI.out.2.1 MI.out.2.2.1 MI.out.2.2.2 rfl (by decide) (by decide) (OA.out.alloc _) rfl (by omega) (by simp; omega) (wr.heap.size + 1) 1 (fun _ => .int .i64 (k : Int)) rfl (cell_last (by simp)) (fun _ _ => rfl) ?_; intro v6 w6 o6 hg6 hat6; obtain ⟨A6, z6, rfl⟩ := o6.form; have HO6 := Lib.hid o6; have HG6 := Lib.hid hg6; clear o6 hg6 hat6)
            go_roundw
            case rel =>
              refine ⟨k + 1, by omega, by go_num, ?_, (HBA.out.alloc (by simp; omega) _).grown HG6.out (by simp; omega) (fun q hq => (O0.out.block hq).1)⟩
              rw [HE.out, HM.out]
              simp only [if_true, List.length_append]
              exact HO6.out.congr fun i j hi _ => app_nats i j hi
            case measure => simp [intOf]; omega
          · have e3 : (s.c k 0 == 3) = false := by rw [beq_eq_false_iff_ne]; exact h3
            have HM := Lib.hid (show M.isResp s k = false by unfold M.isResp; simp [h1, h2, h3])
            clear h1 h2 h3
            go_wp2_with fail
            go_roundw
            case rel =>
              refine ⟨k + 1, by omega, by go_num, ?_, HBA.out⟩
              rw [HE.out, HM.out]
              simp only [Bool.false_eq_true, if_false, List.append_nil]
              exact OA.out
            case measure => simp [intOf]; omega
    · obtain rfl : k = 4 := by omega
      go_wp2_with fail
      go_ret2
      exact ⟨⟨.slice vA _ vc, rfl, O0.out.less L2.out.size⟩, L2.out.trans (HB.out.mono L2.out.size)⟩
end Go.Proofs.YtbjggnecfppjgaaDoor
