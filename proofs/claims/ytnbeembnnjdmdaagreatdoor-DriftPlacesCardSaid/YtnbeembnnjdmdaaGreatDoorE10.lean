/- The examples of the drift's statements, plain; sameInts. -/
import Derived.Test.YtnbeembnnjdmdaaGreatDoorE9
import Derived.Test.YtnbeembnnjdmdaaGreatDoorD31
namespace Go.Proofs.YtnbeembnnjdmdaaGreatDoor
open Go.RowKit

def sameF (n n' : Nat) (f f' : Nat → Int) : Bool := decide (n = n') && M.allTo n fun i => decide (f i = f' i)

set_option maxHeartbeats 1000000 in
theorem sameInts_any (A A' : Option Addr) (n n' c c' B : Nat) (f f' : Nat → Int) (w : World) (hn : n ≤ maxLen) (hn' : n' ≤ maxLen) (hR : Rd1 w B A n f) (hR' : Rd1 w B A' n' f') :
    Calls Tryz.prog 19 #[.slice A n c, .slice A' n' c'] w fun e w' => e = .returned (.bool (sameF n n' f f')) ∧ Below w.heap.size w w' := by
  unfold maxLen at hn hn'
  by_cases h : n = n'
  · subst h
    go_enter Tryz.func19, Tryz.ntmps19
    go_wp2_with fail
    go_loopw [5] (fun i wr => ∃ k : Nat, k ≤ n ∧ i = .int .i64 k ∧ M.allTo k (fun i => decide (f i = f' i)) = true ∧ Below w.heap.size w wr ∧ wr.heap = w.heap) (fun i _ => n - (intOf i).toNat)
    case atStart => exact ⟨0, Nat.zero_le _, rfl, rfl, Below.refl _ _, rfl⟩
    case round =>
      obtain ⟨k, hk, rfl, hf, hbw, hh⟩ := hrel
      have HF := Lib.hid hf
      have HW := Lib.hid hbw
      have HH := Lib.hid hh
      have keep : ∀ p : Addr, wr.cell? p = w.cell? p := fun p => by unfold World.cell?; rw [hh]
      by_cases hlt : k < n
      · obtain ⟨b, off, rfl, hb, c0⟩ := (hR.keep fun p _ => keep p).at_ hlt
        obtain ⟨b', off', rfl, hb', c0'⟩ := (hR'.keep fun p _ => keep p).at_ hlt
        clear hf hbw hh keep hR hR'
        by_cases he : f k = f' k
        all_goals
          go_wp2_with fail
          go_quiet (fail)
          go_wp2_with fail
        · go_roundw
          case rel => exact ⟨k + 1, by omega, by go_num, by simp [M.allTo, HF.out, he], HW.out.drewN _, HH.out⟩
          case measure => simp [intOf]; omega
        · go_ret
          refine ⟨ret_bool ?_, HW.out.drewN _⟩
          unfold sameF
          refine (Bool.eq_false_iff.2 fun h => ?_).symm
          simp only [Bool.and_eq_true] at h
          have := M.allTo_iff.1 h.2 k hlt
          simp [he] at this
      · obtain rfl : k = n := by omega
        clear hf hbw hh keep hR hR'
        go_wp2_with fail
        go_ret
        exact ⟨ret_bool (by simp [sameF, HF.out]), HW.out⟩
  · go_enter Tryz.func19, Tryz.ntmps19
    go_wp2_with fail
    go_ret
    exact ⟨ret_bool (by simp [sameF, h]), Below.refl _ _⟩

theorem same_self (n : Nat) (f : Nat → Int) : sameF n n f f = true := by
  unfold sameF
  rw [M.allTo_iff.2 fun i _ => by simp]; simp
/-- the drift, the drifter and the sightings of the examples -/
def exD : Nat → Int := fun i => ([0, 0, -50, -90, 30, 20, 10, -20, 60, 60, 40, 30] : List Int).getD i 0
def exT : Nat → Nat → Int := fun t j => ([10, 14, 20, 26, 30, 36, 20, 26, 10, 14] : List Int).getD (t * 2 + j) 0
def exW : Nat → Int := fun t => ([5, 5, 5, 5, 5] : List Int).getD t 0
def exS : M.Sea := ⟨4, 3, 12, 5, exD, exT, exW⟩
def exZ : Nat → Int := fun i => ([1, 1, 1, 1, 0, 0, 0, 0, 0, 0, 0, 0] : List Int).getD i 0
def exC : Nat → Nat → Nat → Int := fun z _ f => if z = 0 then ([1, 0, 1] : List Int).getD f 0 else ([1, 0, 0] : List Int).getD f 0
def exP : Nat → Nat → Int := fun _ f => ([2, 0, 2] : List Int).getD f 0
def exDr : M.Dr := ⟨exS, 2, exZ, exC, exP⟩
def exX (A0 A1 : Option Addr) (c0 c1 : Nat) : Nat → SgV := fun i => if i = 0 then ⟨1, A0, c0, [4, 5], false⟩ else ⟨2, A1, c1, [10], true⟩
set_option maxRecDepth 100000 in
theorem ex_ok : exS.Ok := by
  refine ⟨by decide, by decide, by decide, by decide, rfl, by decide, by decide, ?_, ?_, ?_⟩
  · exact fun i hi => by
      have h : M.allTo 12 (fun i => M.inB (-1000) 1000 (exD i)) = true := by kernel_rfl
      exact M.inB_iff.1 (M.allTo_iff.1 h i hi)
  · exact fun t ht => by
      have h : M.allTo 5 (fun t => M.inB 0 (exT t 1) (exT t 0) && M.inB 0 200 (exT t 1)) = true := by kernel_rfl
      have := M.allTo_iff.1 h t ht
      simp only [Bool.and_eq_true, M.inB_iff] at this
      exact ⟨this.1.1, this.1.2, this.2.2⟩
  · exact fun t ht => by
      have h : M.allTo 5 (fun t => M.inB 0 100 (exW t)) = true := by kernel_rfl
      exact M.inB_iff.1 (M.allTo_iff.1 h t ht)
theorem exDr_ok : exDr.Ok := by
  refine ⟨ex_ok, by decide, by decide, ?_, ?_, ?_⟩
  · exact fun c hc => by
      have h : M.allTo 12 (fun i => M.inB 0 1 (exZ i)) = true := by kernel_rfl
      have := M.inB_iff.1 (M.allTo_iff.1 h c hc)
      exact ⟨this.1, Int.lt_of_le_of_lt this.2 (by decide)⟩
  · exact fun i hi t _ => by
      have h : M.allTo 2 (fun i => M.pushB (exC i 0)) = true := by kernel_rfl
      exact M.allTo_iff.1 h i hi
  · exact fun t _ => by
      have h : M.pushB (exP 0) = true := by kernel_rfl
      exact h
set_option maxRecDepth 100000 in
theorem ex_step : M.stepL exDr 0 4 4 = [-1, 4, 5, 9, 10] := by kernel_rfl
set_option maxRecDepth 100000 in
theorem ex_stepB : (M.stepB exDr 0 4 4 4 && M.stepB exDr 1 4 4 10 && M.stepB exDr 2 4 10 10 && M.stepB exDr 3 4 10 10) = true := by kernel_rfl
section
variable (A0 A1 : Option Addr) (c0 c1 : Nat)
theorem ex_chkX : chkX 12 5 0 2 4 [4] = true := by kernel_rfl
theorem ex_chkS : chkS 12 5 0 2 (exX A0 A1 c0 c1) = true := by kernel_rfl
theorem ex_ask : askB 12 5 0 4 1 = true := by kernel_rfl
/-- with the first sighting nothing is in cell 4 in tick 1 -/
theorem ex_no {n : Nat} {Y : Nat → SgV} (h0 : Y 0 = exX A0 A1 c0 c1 0) (hn : 0 < n) : M.spanTo 2 4 (leeP exDr 0 5 n [4] Y 1 4) = false := by
  refine Bool.eq_false_iff.2 fun h => ?_
  obtain ⟨l, _, _, h2⟩ := M.spanTo_iff.1 h
  obtain ⟨f, hf⟩ := M.posB_iff.1 h2
  have h3 := hf.fit 1 (by decide)
  unfold trFit M.fitF at h3
  rw [Bool.and_eq_true] at h3
  have h4 := M.allTo_iff.1 h3.1 0 hn
  have h5 := h3.2
  unfold M.fixB at h5
  have h6 : f 1 = 4 := by simpa using h5
  rw [h6] at h4
  simp only [h0] at h4
  exact absurd (h4.symm.trans rfl) (by decide : ¬ (true = false))
theorem ex_strP : strP exDr 0 2 4 [4] 2 (exX A0 A1 c0 c1) 4 1 = false := ex_no A0 A1 c0 c1 rfl (by decide)
theorem ex_g0 : strG exDr 0 2 4 [4] (exX A0 A1 c0 c1) 4 1 [0] = false := ex_no A0 A1 c0 c1 (n := 1) (Y := fun i => exX A0 A1 c0 c1 (([0] : List Nat).getD i 0)) rfl (by decide)
theorem ex_g1 : strG exDr 0 2 4 [4] (exX A0 A1 c0 c1) 4 1 [1] = true := by
  refine M.spanTo_iff.2 ⟨4, by decide, by decide, M.posB_iff.2 ⟨fun i => if i ≤ 1 then 4 else 10, ?_⟩⟩
  have hs := ex_stepB
  simp only [Bool.and_eq_true] at hs
  refine ⟨fun i _ => by by_cases h : i ≤ 1 <;> simp only [h, if_true, if_false] <;> decide, by decide, fun i hi => ?_, fun i hi => ?_⟩
  · have hi : i ≤ 4 := hi
    obtain rfl | rfl | rfl | rfl | rfl : i = 0 ∨ i = 1 ∨ i = 2 ∨ i = 3 ∨ i = 4 := by omega
    all_goals exact rfl
  · have hi : i < 4 := hi
    obtain rfl | rfl | rfl | rfl : i = 0 ∨ i = 1 ∨ i = 2 ∨ i = 3 := by omega
    · exact hs.1.1.1
    · exact hs.1.1.2
    · exact hs.1.2
    · exact hs.2
theorem ex_kp : M.kp (strG exDr 0 2 4 [4] (exX A0 A1 c0 c1) 4 1) 2 2 = [0] := by
  have h1 : M.kp (strG exDr 0 2 4 [4] (exX A0 A1 c0 c1) 4 1) 2 1 = [0] := by
    show (if strG exDr 0 2 4 [4] (exX A0 A1 c0 c1) 4 1 [1] then [0] else []) = [0]
    rw [ex_g1]; rfl
  show (if strG exDr 0 2 4 [4] (exX A0 A1 c0 c1) 4 1 (M.kp (strG exDr 0 2 4 [4] (exX A0 A1 c0 c1) 4 1) 2 1 ++ []) then M.kp (strG exDr 0 2 4 [4] (exX A0 A1 c0 c1) 4 1) 2 1 ++ [1] else M.kp (strG exDr 0 2 4 [4] (exX A0 A1 c0 c1) 4 1) 2 1) = [0]
  rw [h1, List.append_nil, ex_g0]; rfl
end
theorem chart_size : (Tryz.prog.info? 25).map (·.size) = some 5 := by kernel_rfl
set_option maxRecDepth 100000 in
set_option maxHeartbeats 3200000 in
theorem chartEx_any (w : World) :
    Calls Tryz.prog 81 #[] w fun e w' => (e = .returned (.agg #[.int .i64 4, .int .i64 3, .slice (some ⟨w.heap.size + 1, 0, none⟩) 12 12, .slice (some ⟨w.heap.size + 1 + 1, 0, none⟩) 5 5, .slice (some ⟨w.heap.size + 1 + 1 + 1, 0, none⟩) 5 5]) ∧ RdC w' w'.heap.size (some ⟨w.heap.size + 1, 0, none⟩) (some ⟨w.heap.size + 1 + 1, 0, none⟩) (some ⟨w.heap.size + 1 + 1 + 1, 0, none⟩) 12 5 5 exD exT exW) ∧ Below w.heap.size w w' := by
  go_enter Tryz.func81, Tryz.ntmps81
  go_wp2_with fail
  obtain ⟨S, hS⟩ : ∃ S, S = w.heap.size := ⟨_, rfl⟩
  rw [← hS]
  refine bodyPost_ret (results_cell_row rfl _ _ S 25 #[.int .i64 4, .int .i64 3, .slice (some ⟨S + 1, 0, none⟩) 12 12, .slice (some ⟨S + 1 + 1, 0, none⟩) 5 5, .slice (some ⟨S + 1 + 1 + 1, 0, none⟩) 5 5] (0, 0) _ rfl (by rw [hS]; exact (((Blk.new w _ _).alloc _).alloc _).alloc _) Tryz.underlying25 rfl chart_size) rfl ⟨⟨rfl, ?_, ?_, ?_⟩, ?_⟩
  · refine .inr ⟨S + 1, 0, rfl, by rw [hS]; simp <;> omega, fun i hi => ?_⟩
    rw [Nat.zero_add, hS]
    refine (((Blk.new1 w _ _ _).alloc _).alloc _ |>.cell i).trans ?_
    have h : M.allTo 12 (fun i => decide ((#[(0 : Int), 0, -50, -90, 30, 20, 10, -20, 60, 60, 40, 30] : Array Int)[i]? = some (exD i))) = true := by kernel_rfl
    have h2 := of_decide_eq_true (M.allTo_iff.1 h i hi)
    have e : (#[Value.int .i64 0, .int .i64 0, .int .i64 (-50), .int .i64 (-90), .int .i64 30, .int .i64 20, .int .i64 10, .int .i64 (-20), .int .i64 60, .int .i64 60, .int .i64 40, .int .i64 30] : Array Value) = (#[(0 : Int), 0, -50, -90, 30, 20, 10, -20, 60, 60, 40, 30] : Array Int).map (Value.int .i64) := by simp
    rw [e, Array.getElem?_map, h2]
    rfl
  · refine .inr ⟨S + 1 + 1, 0, rfl, by rw [hS]; simp <;> omega, fun i j hi hj => ?_⟩
    rw [Nat.zero_add, hS]
    refine ((Blk.new2 w _ _ _ _).alloc _ |>.cell (i * 2 + j)).trans ?_
    obtain rfl | rfl | rfl | rfl | rfl : i = 0 ∨ i = 1 ∨ i = 2 ∨ i = 3 ∨ i = 4 := by omega
    all_goals (obtain rfl | rfl : j = 0 ∨ j = 1 := by omega)
    all_goals rfl
  · refine .inr ⟨S + 1 + 1 + 1, 0, rfl, by rw [hS]; simp <;> omega, fun i hi => ?_⟩
    rw [Nat.zero_add, hS]
    refine ((Blk.new3 w _ _ _ _ _).cell i).trans ?_
    obtain rfl | rfl | rfl | rfl | rfl : i = 0 ∨ i = 1 ∨ i = 2 ∨ i = 3 ∨ i = 4 := by omega
    all_goals rfl
  · rw [hS]
    exact (belowAlloc3 w _ _ _).alloc (by simp; omega) _
end Go.Proofs.YtnbeembnnjdmdaaGreatDoor
