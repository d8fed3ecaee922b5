/- Responsible, where its arguments are valid. -/
import Derived.Test.YtfnfjmjejffjiaaDoorT8
import Derived.Test.YtfnfjmjejffjiaaDoorS6
namespace Go.Proofs.YtfnfjmjejffjiaaDoor
open Go.RowKit

theorem idx_agg (c : Nat → Nat → Int) (k : Nat) (hk : k < 4) (W : World) : (Instr.index 52 (.agg #[.int .i64 (c 0 0), .int .i64 (c 0 1), .int .i64 (c 0 2), .int .i64 (c 1 0), .int .i64 (c 1 1), .int .i64 (c 1 2), .int .i64 (c 2 0), .int .i64 (c 2 1), .int .i64 (c 2 2), .int .i64 (c 3 0), .int .i64 (c 3 1), .int .i64 (c 3 2)]) (.int .i64 (k : Int))).run Tryd.prog W = .ok (.agg #[.int .i64 (c k 0), .int .i64 (c k 1), .int .i64 (c k 2)]) W := by
  have h59 := Tryd.sizeOf51 W
  obtain rfl | rfl | rfl | rfl : k = 0 ∨ k = 1 ∨ k = 2 ∨ k = 3 := by omega
  all_goals simp [Instr.index, asIntOf, run_underlying Tryd.underlying52, part, go_sem]
/-- who is responsible -/
def M.isResp (s : M.St) (i : Nat) : Bool := decide (s.c i 0 = 1) || decide (s.c i 0 = 2) || decide (s.c i 0 = 3)
def M.resp (s : M.St) : List Nat := M.elP 4 (M.isResp s)
def RespV (w : World) (s : M.St) (e : Ending) (w' : World) : Prop := ∃ v, e = .returned (.tuple #[v, .int .i64 0]) ∧ Own w' w.heap.size 3 1 v (M.resp s).length (ints (nats (M.resp s)))
set_option maxRecDepth 100000 in
set_option maxHeartbeats 6400000 in
theorem resp_ok (n o : Nat) (A : Option Addr) (en ec B : Nat) (E : Nat → Nat → Int) (w : World) (hn : 2 ≤ n ∧ n ≤ 4) (ho : o < n) (hen : en ≤ 200) (hR : Rd w B A 3 en E) (hB : B ≤ w.heap.size) :
    Calls Tryd.prog 12 #[.int .i64 (n : Int), .int .i64 (o : Int), .slice A en ec] w fun e w' => RespV w (M.runF n o E en) e w' ∧ Below w.heap.size w w' := by
  obtain ⟨s, hs⟩ : ∃ s, s = M.runF n o E en := ⟨_, rfl⟩
  rw [← hs]
  have HSE := Lib.hid hs
  clear hs
  obtain ⟨i0, hi, hz0, hz1, hz2⟩ := info_parts int_info
  have MI := Lib.hid (And.intro hi (And.intro hz0 (And.intro hz1 hz2)))
  have HRun := Lib.hid (run_ok n o A en ec B E w hn ho hen hR hB)
  clear hi hz0 hz1 hz2 hR hn ho hen
  go_enter Tryd.func12, Tryd.ntmps12
  go_upto_region 3 with (first
    | (go_at_call 15; refine HRun.out.mono ?_; rintro e w1 ⟨⟨cs, bv, rfl, sv, ob⟩, hb1⟩; rw [← HSE.out] at sv; have SV := Lib.hid sv; have HB1 := Lib.hid hb1; clear sv hb1 ob)
    | (refine wpList_stS rfl (.tmp 8) (.tmp 19) rfl rfl rfl (Blk.new w1 _ litZ) rfl SV.out.1 SV.out.one ?_; intro w2 b2 g2; have B2 := Lib.hid b2; have G2 := Lib.hid g2; clear b2 g2))
  have hz1 : w.heap.size ≤ w1.heap.size := HB1.out.size
  obtain ⟨S, hS⟩ : ∃ S, S = w1.heap.size := ⟨_, rfl⟩
  rw [← hS] at B2 G2 hz1
  have S2 := Lib.hid (Sf.of B2.out SV.out)
  have L2 := Lib.hid (show Below w.heap.size w w2 from (HB1.out.alloc (by omega) (.cells litZ 57)).grown G2.out (by simp; omega) (fun q hq => by injection hq with hq; omega))
  have hSw : S < w2.heap.size := B2.out.lt
  rw [← hS]
  clear hS B2 G2 HB1 SV
  have d1 : w2.cell? ⟨S, 1, none⟩ = some (.int .i64 (s.c 0 0)) := S2.out.cell (by omega)
  have d2 : w2.cell? ⟨S, 2, none⟩ = some (.int .i64 (s.c 0 1)) := S2.out.cell (by omega)
  have d3 : w2.cell? ⟨S, 3, none⟩ = some (.int .i64 (s.c 0 2)) := S2.out.cell (by omega)
  have d4 : w2.cell? ⟨S, 4, none⟩ = some (.int .i64 (s.c 1 0)) := S2.out.cell (by omega)
  have d5 : w2.cell? ⟨S, 5, none⟩ = some (.int .i64 (s.c 1 1)) := S2.out.cell (by omega)
  have d6 : w2.cell? ⟨S, 6, none⟩ = some (.int .i64 (s.c 1 2)) := S2.out.cell (by omega)
  have d7 : w2.cell? ⟨S, 7, none⟩ = some (.int .i64 (s.c 2 0)) := S2.out.cell (by omega)
  have d8 : w2.cell? ⟨S, 8, none⟩ = some (.int .i64 (s.c 2 1)) := S2.out.cell (by omega)
  have d9 : w2.cell? ⟨S, 9, none⟩ = some (.int .i64 (s.c 2 2)) := S2.out.cell (by omega)
  have d10 : w2.cell? ⟨S, 10, none⟩ = some (.int .i64 (s.c 3 0)) := S2.out.cell (by omega)
  have d11 : w2.cell? ⟨S, 11, none⟩ = some (.int .i64 (s.c 3 1)) := S2.out.cell (by omega)
  have d12 : w2.cell? ⟨S, 12, none⟩ = some (.int .i64 (s.c 3 2)) := S2.out.cell (by omega)
  go_wp2_with fail
  clear d1 d2 d3 d4 d5 d6 d7 d8 d9 d10 d11 d12
  go_loopw [11, 12, 13, 24] (fun v _ _ i wr => ∃ k : Nat, k ≤ 4 ∧ i = .int .i64 k ∧ Own wr w2.heap.size 3 1 v (M.elP k (M.isResp s)).length (ints (nats (M.elP k (M.isResp s)))) ∧ Below w2.heap.size w2 wr) (fun _ _ _ i _ => 4 - (intOf i).toNat)
  case atStart => exact ⟨0, Nat.zero_le _, rfl, Own.nil_, Below.refl _ _⟩
  case round =>
    obtain ⟨k, hk, rfl, o0, hbw⟩ := hrel
    obtain ⟨vA, vc, rfl⟩ := o0.form
    have O0 := Lib.hid o0
    have HB := Lib.hid hbw
    have hz := hbw.size
    have hl := M.elP_len k (M.isResp s)
    clear o0 hbw
    by_cases hlt : k < 4
    · have x1 := idx_agg s.c k hlt
      have HE := Lib.hid (M.elP_succ k (M.isResp s))
      have OA := Lib.hid (O0.out.alloc (.cells #[.int .i64 (s.c k 0), .int .i64 (s.c k 1), .int .i64 (s.c k 2)] 51))
      have HBA := Lib.hid (HB.out.alloc hz (.cells #[.int .i64 (s.c k 0), .int .i64 (s.c k 1), .int .i64 (s.c k 2)] 51))
      by_cases h1 : s.c k 0 = 1
      · have e1 : (s.c k 0 == 1) = true := by rw [h1]; rfl
        have HM := Lib.hid (show M.isResp s k = true by unfold M.isResp; simp [h1])
        clear h1
        go_wp2_with (at_builtin; refine wpList_app rfl (.tmp 41) (.tmp 43) 44 rfl w2.heap.size 3 1 8 Tryd.underlying44 MI.out.1 MI.out.2.1 MI.out.2.2.1 MI.out.2.2.2 rfl (by decide) (by decide) (OA.out.alloc _) rfl (by omega) (by simp; omega) (wr.heap.size + 1) 1 (fun _ => .int .i64 (k : Int)) rfl (cell_last (by simp)) (fun _ _ => rfl) ?_; intro v6 w6 o6 hg6 hat6; obtain ⟨A6, z6, rfl⟩ := o6.form; have HO6 := Lib.hid o6; have HG6 := Lib.hid hg6; clear o6 hg6 hat6)
        go_roundw
        case rel =>
          refine ⟨k + 1, by omega, by go_num, ?_, (HBA.out.alloc (by simp; omega) _).grown HG6.out (by simp; omega) (fun q hq => (O0.out.block hq).1)⟩
          rw [HE.out, HM.out]
          simp only [if_true, List.length_append]
          exact HO6.out.congr fun i j hi _ => app_nats i j hi
        case measure => simp [intOf]; omega
      · have e1 : (s.c k 0 == 1) = false := by rw [beq_eq_false_iff_ne]; exact h1
        by_cases h2 : s.c k 0 = 2
        · have e2 : (s.c k 0 == 2) = true := by rw [h2]; rfl
          have HM := Lib.hid (show M.isResp s k = true by unfold M.isResp; simp [h2])
          clear h1 h2
          go_wp2_with (at_builtin; refine wpList_app rfl (.tmp 41) (.tmp 43) 44 rfl w2.heap.size 3 1 8 Tryd.underlying44 MI.out.1 MI.out.2.1 MI.out.2.2.1 MI.out.2.2.2 rfl (by decide) (by decide) (OA.out.alloc _) rfl (by omega) (by simp; omega) (wr.heap.size + 1) 1 (fun _ => .int .i64 (k : Int)) rfl (cell_last (by simp)) (fun _ _ => rfl) ?_; intro v6 w6 o6 hg6 hat6; obtain ⟨A6, z6, rfl⟩ := o6.form; have HO6 := Lib.hid o6; have HG6 := Lib.hid hg6; clear o6 hg6 hat6)
          go_roundw
          case rel =>
            refine ⟨k + 1, by omega, by go_num, ?_, (HBA.out.alloc (by simp; omega) _).grown HG6.out (by simp; omega) (fun q hq => (O0.out.block hq).1)⟩
            rw [HE.out, HM.out]
            simp only [if_true, List.length_append]
            exact HO6.out.congr fun i j hi _ => app_nats i j hi
          case measure => simp [intOf]; omega
        · have e2 : (s.c k 0 == 2) = false := by rw [beq_eq_false_iff_ne]; exact h2
          by_cases h3 : s.c k 0 = 3
          · have e3 : (s.c k 0 == 3) = true := by rw [h3]; rfl
            have HM := Lib.hid (show M.isResp s k = true by unfold M.isResp; simp [h3])
            clear h1 h2 h3
            go_wp2_with (at_builtin; refine wpList_app rfl (.tmp 41) (.tmp 43) 44 rfl w2.heap.size 3 1 8 Tryd.underlying44 MI.out.1 MI.out.2.1 MI.out.2.2.1 MI.out.2.2.2 rfl (by decide) (by decide) (OA.out.alloc _) rfl (by omega) (by simp; omega) (wr.heap.size + 1) 1 (fun _ => .int .i64 (k : Int)) rfl (cell_last (by simp)) (fun _ _ => rfl) ?_; intro v6 w6 o6 hg6 hat6; obtain ⟨A6, z6, rfl⟩ := o6.form; have HO6 := Lib.hid o6; have HG6 := Lib.hid hg6; clear o6 hg6 hat6)
            go_roundw
            case rel =>
              refine ⟨k + 1, by omega, by go_num, ?_, (HBA.out.alloc (by simp; omega) _).grown HG6.out (by simp; omega) (fun q hq => (O0.out.block hq).1)⟩
              rw [HE.out, HM.out]
              simp only [if_true, List.length_append]
              exact HO6.out.congr fun i j hi _ => app_nats i j hi
            case measure => simp [intOf]; omega
          · have e3 : (s.c k 0 == 3) = false := by rw [beq_eq_false_iff_ne]; exact h3
            have HM := Lib.hid (show M.isResp s k = false by unfold M.isResp; simp [h1, h2, h3])
            clear h1 h2 h3
            go_wp2_with fail
            go_roundw
            case rel =>
              refine ⟨k + 1, by omega, by go_num, ?_, HBA.out⟩
              rw [HE.out, HM.out]
              simp only [Bool.false_eq_true, if_false, List.append_nil]
              exact OA.out
            case measure => simp [intOf]; omega
    · obtain rfl : k = 4 := by omega
      go_wp2_with fail
      go_ret2
      exact ⟨⟨.slice vA _ vc, rfl, O0.out.less L2.out.size⟩, L2.out.trans (HB.out.mono L2.out.size)⟩
end Go.Proofs.YtfnfjmjejffjiaaDoor
/- The examples: sameInts, Example, works. -/
namespace Go.Proofs.YtfnfjmjejffjiaaDoor
open Go.RowKit

def sameF (n n' : Nat) (f f' : Nat → Int) : Bool := decide (n = n') && M.allTo n fun i => decide (f i = f' i)

set_option maxHeartbeats 1000000 in
theorem sameInts_any (A A' : Option Addr) (n n' c c' B : Nat) (f f' : Nat → Int) (w : World) (hn : n ≤ maxLen) (hn' : n' ≤ maxLen) (hR : Rd1 w B A n f) (hR' : Rd1 w B A' n' f') :
    Calls Tryd.prog 14 #[.slice A n c, .slice A' n' c'] w fun e w' => e = .returned (.bool (sameF n n' f f')) ∧ Below w.heap.size w w' := by
  unfold maxLen at hn hn'
  by_cases h : n = n'
  · subst h
    go_enter Tryd.func14, Tryd.ntmps14
    go_wp2_with fail
    go_loopw [5] (fun i wr => ∃ k : Nat, k ≤ n ∧ i = .int .i64 k ∧ M.allTo k (fun i => decide (f i = f' i)) = true ∧ Below w.heap.size w wr ∧ wr.heap = w.heap) (fun i _ => n - (intOf i).toNat)
    case atStart => exact ⟨0, Nat.zero_le _, rfl, rfl, Below.refl _ _, rfl⟩
    case round =>
      obtain ⟨k, hk, rfl, hf, hbw, hh⟩ := hrel
      have HF := Lib.hid hf
      have HW := Lib.hid hbw
      have HH := Lib.hid hh
      have keep : ∀ p : Addr, wr.cell? p = w.cell? p := fun p => by unfold World.cell?; rw [hh]
      by_cases hlt : k < n
      · obtain ⟨b, off, rfl, hb, c0⟩ := (hR.keep fun p _ => keep p).at_ hlt
        obtain ⟨b', off', rfl, hb', c0'⟩ := (hR'.keep fun p _ => keep p).at_ hlt
        clear hf hbw hh keep hR hR'
        by_cases he : f k = f' k
        all_goals
          go_wp2_with fail
          go_quiet (fail)
          go_wp2_with fail
        · go_roundw
          case rel => exact ⟨k + 1, by omega, by go_num, by simp [M.allTo, HF.out, he], HW.out.drewN _, HH.out⟩
          case measure => simp [intOf]; omega
        · go_ret
          refine ⟨ret_bool ?_, HW.out.drewN _⟩
          unfold sameF
          refine (Bool.eq_false_iff.2 fun h => ?_).symm
          simp only [Bool.and_eq_true] at h
          have := M.allTo_iff.1 h.2 k hlt
          simp [he] at this
      · obtain rfl : k = n := by omega
        clear hf hbw hh keep hR hR'
        go_wp2_with fail
        go_ret
        exact ⟨ret_bool (by simp [sameF, HF.out]), HW.out⟩
  · go_enter Tryd.func14, Tryd.ntmps14
    go_wp2_with fail
    go_ret
    exact ⟨ret_bool (by simp [sameF, h]), Below.refl _ _⟩

theorem same_self (n : Nat) (f : Nat → Int) : sameF n n f f = true := by
  unfold sameF
  rw [M.allTo_iff.2 fun i _ => by simp]; simp
def exE : Nat → Nat → Int := fun i j => ([1, 0, 1, 2, 0, 0, 2, 0, 0] : List Int).getD (i * 3 + j) 0
def north : ByteArray := ⟨#[110, 111, 114, 116, 104]⟩
def south : ByteArray := ⟨#[115, 111, 117, 116, 104]⟩
def mouth : ByteArray := ⟨#[109, 111, 117, 116, 104]⟩
def mouxh : ByteArray := ⟨#[109, 111, 117, 120, 104]⟩
def exW : Nat → ByteArray := fun i => if i = 0 then north else if i = 1 then south else mouth
set_option maxRecDepth 100000 in
theorem ex_resp : M.resp (M.runF 3 (0 : Nat) exE 3) = [1] := by kernel_rfl
set_option maxRecDepth 100000 in
theorem ex_dcN : dcN 2 (fun i => exW (i + 1)) mouxh 1 = 1 := by kernel_rfl
set_option maxRecDepth 100000 in
theorem ex_dcE : dcE 2 (fun i => exW (i + 1)) mouxh 1 = 0 := by kernel_rfl
set_option maxHeartbeats 1600000 in
theorem example_any (w : World) :
    Calls Tryd.prog 11 #[] w fun e w' => e = .returned (.tuple #[.slice (some ⟨w.heap.size, 0, none⟩) 3 3, .slice (some ⟨w.heap.size + 1, 0, none⟩) 3 3]) ∧ Rd w' (w.heap.size + 1) (some ⟨w.heap.size, 0, none⟩) 3 3 exE ∧
      RdS w' (w.heap.size + 2) (some ⟨w.heap.size + 1, 0, none⟩) 3 exW ∧ Below w.heap.size w w' ∧ w'.heap.size = w.heap.size + 2 := by
  go_enter Tryd.func11, Tryd.ntmps11
  go_wp2_with fail
  go_ret2
  refine ⟨rfl, .inr ⟨w.heap.size, 0, rfl, by omega, fun i j hi hj => ?_⟩, .inr ⟨w.heap.size + 1, 0, rfl, by omega, fun i hi => ?_⟩, belowAlloc2 _ _ _, by simp⟩
  · refine (((Blk.new w _ _).alloc _).cell _).trans ?_
    obtain rfl | rfl | rfl : i = 0 ∨ i = 1 ∨ i = 2 := by omega
    all_goals (obtain rfl | rfl | rfl : j = 0 ∨ j = 1 ∨ j = 2 := by omega)
    all_goals rfl
  · refine ((Blk.new1 w _ _ _).cell _).trans ?_
    obtain rfl | rfl | rfl : i = 0 ∨ i = 1 ∨ i = 2 := by omega
    all_goals rfl
set_option maxRecDepth 100000 in
set_option maxHeartbeats 3200000 in
theorem works_any (w : World) : Calls Tryd.prog 5 #[] w fun e w' => e = .returned (.bool true) ∧ Below w.heap.size w w' := by
  have hsz : ∀ i, i < 2 → (exW (i + 1)).size ≤ 1048576 := fun i hi => by
    obtain rfl | rfl : i = 0 ∨ i = 1 := by omega
    all_goals decide
  have HSZ := Lib.hid hsz
  clear hsz
  go_enter Tryd.func5, Tryd.ntmps5
  go_wp2_with (first
    | (go_at_call 11; refine (example_any _).mono ?_; rintro e w1 ⟨rfl, hE, hW, hb1, hz1⟩; have HE := Lib.hid hE; have HW := Lib.hid (show RdS w1 (w.heap.size + 2) (some ⟨w.heap.size + 1, 1, none⟩) 2 (fun i => exW (i + 1)) by (rcases hW with h | ⟨b, off, ee, hb, hc⟩; (exact absurd h (by omega)); (injection ee with ee; injection ee with e1 e2 _; subst e1; subst e2; exact .inr ⟨_, 1, rfl, hb, fun i hi => by (have := hc (i + 1) (by omega); rw [show 1 + i = 0 + (i + 1) by omega]; exact this)⟩))); have HB1 := Lib.hid hb1; clear hE hW hb1)
    | (go_at_call 12; go_must (refine (resp_ok 3 0 (some ⟨w.heap.size, 0, none⟩) 3 3 (w.heap.size + 1) exE _ (by omega) (by omega) (by omega) HE.out (by omega)).mono ?_); rintro e w2 ⟨⟨v, rfl, ho⟩, hb2⟩; rw [ex_resp, show ([1] : List Nat).length = 1 from rfl] at ho; obtain ⟨lA, lc, rfl, hl⟩ := ho.rd1; have HL := Lib.hid hl; have HB2 := Lib.hid hb2; have hz2 := hb2.size; clear hb2 ho hl)
    | (go_at_call 13; go_must (refine (pdecode_any (some ⟨w.heap.size + 1, 1, none⟩) 2 2 (w.heap.size + 2) (fun i => exW (i + 1)) mouxh 1 _ (by omega) (HW.out.below (HB2.out.mono (by omega))) (by omega) HSZ.out (by decide) (by omega) (by omega)).mono ?_); rw [ex_dcN, ex_dcE]; rintro e w3 ⟨rfl, hb3⟩; have HB3 := Lib.hid hb3; have hz3 := hb3.size; clear hb3)
    | (go_at_call 14; go_must (refine (sameInts_any lA (some ⟨w3.heap.size, 0, none⟩) 1 1 lc 1 (w3.heap.size + 1) (nats [1]) (fun _ => 1) _ (by unfold maxLen; omega) (by unfold maxLen; omega) (((HL.out.below HB3.out).below ((belowAlloc w3 _).mono hz3)).more (by omega)) (.inr ⟨w3.heap.size, 0, rfl, by omega, fun i hi => by (obtain rfl : i = 0 := by omega); exact (Blk.new w3 _ _).cell 0⟩)).mono ?_); rw [show sameF 1 1 (nats [1]) (fun _ => 1) = true from by decide]; rintro e w4 ⟨rfl, hb4⟩; have HB4 := Lib.hid hb4; clear hb4))
  go_ret
  exact ⟨rfl, HB1.out.trans ((HB2.out.mono (by omega)).trans ((HB3.out.mono (by omega)).trans ((belowAlloc w3 _).trans (HB4.out.mono (by simp)) |>.mono (by omega))))⟩
end Go.Proofs.YtfnfjmjejffjiaaDoor
