/- The reference's Lasts and Appeal. -/
import Derived.Test.YtaljmlkapbojeaaY5
namespace Go.Proofs.Ytaljmlkapbojeaa
open Go.RowKit

theorem over_le {r le : Int} {d : Nat → Int} {k : Nat} : 0 ≤ M.over (r - le) d k ↔ le ≤ r + M.sumTo (k + 1) d := by unfold M.over; omega
theorem lastTo_succ {o : Nat → Int} {k : Nat} : M.lastTo o (k + 1) = if M.lastTo o k = k ∧ 0 ≤ o k then k + 1 else M.lastTo o k := rfl

set_option maxRecDepth 100000 in
set_option maxHeartbeats 6400000 in
theorem rlasts_bad (r le : Int) (A : Option Addr) (n c B : Nat) (m : Nat → Nat → Int) (w : World) (hn : n ≤ maxLen) (hR : Rd w B A 4 n m) (hB : B ≤ w.heap.size) (hok : M.okY r le n m = false) :
    Calls Try.prog 16 #[.agg #[.int .i64 r, .int .i64 le, .slice A n c]] w fun e w' => e = .returned (.tuple #[.int .i64 0, .int .i64 0, .int .i64 111]) ∧ Below w.heap.size w w' := by
  have hk : M.chkY r le n m = 111 := by simp [M.chkY, hok]
  go_enter Try.func16, Try.ntmps16
  go_wp2_with (go_at_call 19; refine (rcheckYear_any _ _ _ _ _ B m _ hn (by exact hR.below ((belowAlloc _ _).mono hB)) (by simp; omega)).mono ?_; rw [hk]; rintro e w1 ⟨rfl, hb1⟩; have HB1 := Lib.hid hb1; clear hb1)
  go_ret3
  exact ⟨rfl, (belowAlloc _ _).trans (HB1.out.mono (by simp))⟩
set_option maxRecDepth 100000 in
set_option maxHeartbeats 6400000 in
theorem rappeal_bad (r le : Int) (A : Option Addr) (n c B : Nat) (m : Nat → Nat → Int) (w : World) (hn : n ≤ maxLen) (hR : Rd w B A 4 n m) (hB : B ≤ w.heap.size) (hok : M.okY r le n m = false) :
    Calls Try.prog 18 #[.agg #[.int .i64 r, .int .i64 le, .slice A n c]] w fun e w' => e = .returned (.tuple #[.int .i64 0, .int .i64 0, .int .i64 111]) ∧ Below w.heap.size w w' := by
  have hk : M.chkY r le n m = 111 := by simp [M.chkY, hok]
  go_enter Try.func18, Try.ntmps18
  go_wp2_with (go_at_call 19; refine (rcheckYear_any _ _ _ _ _ B m _ hn (by exact hR.below ((belowAlloc _ _).mono hB)) (by simp; omega)).mono ?_; rw [hk]; rintro e w1 ⟨rfl, hb1⟩; have HB1 := Lib.hid hb1; clear hb1)
  go_ret3
  exact ⟨rfl, (belowAlloc _ _).trans (HB1.out.mono (by simp))⟩

set_option maxRecDepth 100000 in
set_option maxHeartbeats 6400000 in
theorem rappeal_ok (r le : Int) (A : Option Addr) (n c B : Nat) (m : Nat → Nat → Int) (w : World) (hR : Rd w B A 4 n m) (hB : B ≤ w.heap.size) (hok : M.okY r le n m = true) :
    Calls Try.prog 18 #[.agg #[.int .i64 r, .int .i64 le, .slice A n c]] w fun e w' =>
      e = .returned (.tuple #[.int .i64 (M.onceTo (M.over (r - le) (M.worst m)) n), .int .i64 (M.monTo (M.over (r - le) (M.worst m)) n), .int .i64 0]) ∧ Below w.heap.size w w' := by
  have hk : M.chkY r le n m = 0 := by simp [M.chkY, hok]
  have ok := M.okY_iff.1 hok
  have hn := ok.2.2.2.2.1
  have HM := Lib.hid ok.2.2.2.2.2
  have r0 := ok.1
  have r1 := ok.2.1
  have r2 := ok.2.2.1
  have r3 := ok.2.2.2.1
  clear ok
  obtain ⟨ov, hov⟩ : ∃ ov, ov = M.over (r - le) (M.worst m) := ⟨_, rfl⟩
  rw [← hov]
  have HOV := Lib.hid hov
  clear hov
  go_enter Try.func18, Try.ntmps18
  go_wp2_with (go_at_call 19; refine (rcheckYear_any _ _ _ _ _ B m _ (by unfold maxLen; omega) (by exact hR.below ((belowAlloc _ _).mono hB)) (by simp; omega)).mono ?_; rw [hk]; rintro e w1 ⟨rfl, hb1⟩; obtain ⟨hc, hf⟩ := bcell hb1; have HB1 := Lib.hid hb1; clear hb1)
  have K1 := (Blk.new w 43 #[.int .i64 r, .int .i64 le, .slice A n c]).below HB1.out (by simp)
  have W1 : Below w.heap.size w w1 := (belowAlloc _ _).trans (HB1.out.mono (by simp))
  clear HB1 hc hf
  go_loopw [2, 3, 5, 6, 7, 8, 9] (fun o q lo i _ _ _ wr => ∃ k : Nat, k ≤ n ∧ i = .int .i64 k ∧ o = .int .i64 (M.onceTo ov k) ∧ q = .int .i64 (M.monTo ov k) ∧ lo = .int .i64 (r + M.sumTo k (M.worst m)) ∧
    Blk wr w.heap.size 43 #[.int .i64 r, .int .i64 le, .slice A n c] ∧ Below w.heap.size w wr) (fun _ _ _ i _ _ _ _ => n - (intOf i).toNat)
  case atStart => exact ⟨0, Nat.zero_le _, rfl, rfl, rfl, by simp [M.sumTo], K1, W1⟩
  case round =>
    clear K1 W1
    obtain ⟨k, hk', rfl, rfl, rfl, rfl, k1, hW⟩ := hrel
    have q0 := k1.cell 0
    have q1 := k1.cell 1
    have q2 := k1.cell 2
    have K1 := Lib.hid k1
    have hks := k1.lt
    have HW := Lib.hid hW
    have hsz := hW.size
    by_cases hlt : k < n
    · obtain ⟨b, off, rfl, hb', c0, c1, c2, c3⟩ := (hR.below (hW.mono hB)).at4 hlt
      have hbs : b < wr.heap.size := by omega
      have hmk := HM.out k hlt
      have hbd := M.sumTo_bd2 (n := k) (f := M.worst m) (c := 1000000) fun i hi => by have := HM.out i (by omega); unfold M.worst; omega
      have hov : ov k = r - le + (M.sumTo k (M.worst m) + (m k 0 - m k 3)) := by rw [HOV.out]; unfold M.over; rfl
      obtain ⟨sk, hsk⟩ : ∃ sk, sk = M.sumTo k (M.worst m) := ⟨_, rfl⟩
      rw [← hsk] at hbd hov ⊢
      have HSK := Lib.hid hsk
      have hkk : k ≤ 60 := by omega
      have b1 : -60000000 ≤ sk ∧ sk ≤ 60000000 := by omega
      have e1 : max 0 (le - (r + sk + (m k 0 - m k 3))) = M.lackOf ov k := by unfold M.lackOf; rw [hov]; congr 1; omega
      have e2 : wrap64 (r + sk + (m k 0 - m k 3)) = r + sk + (m k 0 - m k 3) := IntWalk.wrap64_in _ (by omega)
      have e3 : wrap64 (le - (r + sk + (m k 0 - m k 3))) = le - (r + sk + (m k 0 - m k 3)) := IntWalk.wrap64_in _ (by omega)
      have lb : 0 ≤ M.lackOf ov k ∧ M.lackOf ov k ≤ 70000000 := by rw [← e1]; omega
      have E1 := Lib.hid e1
      obtain ⟨lk, hlk⟩ : ∃ lk, lk = M.lackOf ov k := ⟨_, rfl⟩
      have hq : ∀ W : World, (Op.intDiv .quo .i64 (lk + (k : Int)) ((k : Int) + 1)).run Try.prog W = .ok (.int .i64 ((lk + (k : Int)) / ((k : Int) + 1))) W := fun _ => run_quo _ _ ⟨by omega, by omega, by omega⟩
      have HLK := Lib.hid hlk
      rw [← hlk] at e1 lb
      clear k1 hW hR hov hsk hlk hbd
      go_wp2_with (go_at_call 39; refine (change_any _ _ _ _ _ (by omega)).mono ?_; rintro e w2 ⟨rfl, hb2⟩; have p1 := (hb2.cell (p := ⟨w.heap.size, 1, none⟩) (by show w.heap.size < _; omega)).trans q1; have HB2 := Lib.hid hb2; clear hb2)
      go_roundw
      case rel =>
        refine ⟨k + 1, by omega, by go_num, ?_, ?_, ?_, K1.out.below HB2.out K1.out.lt, HW.out.trans (HB2.out.mono hsz)⟩
        · rw [show M.onceTo ov (k + 1) = max (M.onceTo ov k) lk from by rw [HLK.out]; rfl]
        · rw [show M.monTo ov (k + 1) = max (M.monTo ov k) ((lk + k) / (k + 1)) from by rw [HLK.out]; rfl]
        · rw [show M.sumTo (k + 1) (M.worst m) = sk + (m k 0 - m k 3) from by rw [HSK.out]; rfl]; go_num
      case measure => simp [intOf]; omega
    · obtain rfl : k = n := by omega
      clear k1 hW hR
      go_wp2_with fail
      go_ret3
      exact ⟨rfl, HW.out⟩
end Go.Proofs.Ytaljmlkapbojeaa
