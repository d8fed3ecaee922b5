/- The reference's Lasts. -/
import Derived.Test.YtaljmlkapbojeaaY6
namespace Go.Proofs.Ytaljmlkapbojeaa
open Go.RowKit

set_option maxRecDepth 100000 in
set_option maxHeartbeats 12800000 in
theorem rlasts_ok (r le : Int) (A : Option Addr) (n c B : Nat) (m : Nat → Nat → Int) (w : World) (hR : Rd w B A 4 n m) (hB : B ≤ w.heap.size) (hok : M.okY r le n m = true) :
    Calls Try.prog 16 #[.agg #[.int .i64 r, .int .i64 le, .slice A n c]] w fun e w' =>
      e = .returned (.tuple #[.int .i64 (M.lastTo (M.over (r - le) (M.worst m)) n : Nat), .int .i64 (M.lastTo (M.over (r - le) (M.best m)) n : Nat), .int .i64 0]) ∧ Below w.heap.size w w' := by
  have hk : M.chkY r le n m = 0 := by simp [M.chkY, hok]
  have ok := M.okY_iff.1 hok
  have hn := ok.2.2.2.2.1
  have HM := Lib.hid ok.2.2.2.2.2
  have r0 := ok.1
  have r1 := ok.2.1
  have r2 := ok.2.2.1
  have r3 := ok.2.2.2.1
  clear ok
  obtain ⟨ow, how⟩ : ∃ ow, ow = M.over (r - le) (M.worst m) := ⟨_, rfl⟩
  obtain ⟨ob, hob⟩ : ∃ ob, ob = M.over (r - le) (M.best m) := ⟨_, rfl⟩
  rw [← how, ← hob]
  have HOV := Lib.hid how
  have HOC := Lib.hid hob
  clear how hob
  go_enter Try.func16, Try.ntmps16
  go_wp2_with (go_at_call 19; refine (rcheckYear_any _ _ _ _ _ B m _ (by unfold maxLen; omega) (by exact hR.below ((belowAlloc _ _).mono hB)) (by simp; omega)).mono ?_; rw [hk]; rintro e w1 ⟨rfl, hb1⟩; have HB1 := Lib.hid hb1; clear hb1)
  have K1 := (Blk.new w 43 #[.int .i64 r, .int .i64 le, .slice A n c]).below HB1.out (by simp)
  have W1 : Below w.heap.size w w1 := (belowAlloc _ _).trans (HB1.out.mono (by simp))
  clear HB1
  have q0 := K1.cell 0
  go_quiet (fail)
  go_wp2_with fail
  go_loopw [2, 3, 5, 6, 7, 8, 9] (fun su ma lo hi i _ _ wr => ∃ k : Nat, k ≤ n ∧ i = .int .i64 k ∧ su = .int .i64 (M.lastTo ow k : Nat) ∧ ma = .int .i64 (M.lastTo ob k : Nat) ∧ lo = .int .i64 (r + M.sumTo k (M.worst m)) ∧ hi = .int .i64 (r + M.sumTo k (M.best m)) ∧
    Blk wr w.heap.size 43 #[.int .i64 r, .int .i64 le, .slice A n c] ∧ Below w.heap.size w wr) (fun _ _ _ _ i _ _ _ => n - (intOf i).toNat)
  case atStart => exact ⟨0, Nat.zero_le _, rfl, rfl, rfl, by simp [M.sumTo], by simp [M.sumTo], K1, W1.drewN _⟩
  case round =>
    clear K1 W1 q0
    obtain ⟨k, hk', rfl, rfl, rfl, rfl, rfl, k1, hW⟩ := hrel
    have q0 := k1.cell 0
    have q1 := k1.cell 1
    have q2 := k1.cell 2
    have K1 := Lib.hid k1
    have hks := k1.lt
    have HW := Lib.hid hW
    have hsz := hW.size
    by_cases hlt : k < n
    · obtain ⟨b, off, rfl, hb', c0, c1, c2, c3⟩ := (hR.below (hW.mono hB)).at4 hlt
      have hbs : b < wr.heap.size := by omega
      have hmk := HM.out k hlt
      have hbd := M.sumTo_bd2 (n := k) (f := M.worst m) (c := 1000000) fun i hi => by have := HM.out i (by omega); unfold M.worst; omega
      have hbe := M.sumTo_bd2 (n := k) (f := M.best m) (c := 1000000) fun i hi => by have := HM.out i (by omega); unfold M.best; omega
      have how : ow k = r - le + (M.sumTo k (M.worst m) + (m k 0 - m k 3)) := by rw [HOV.out]; unfold M.over; rfl
      have hob : ob k = r - le + (M.sumTo k (M.best m) + (m k 1 - m k 2)) := by rw [HOC.out]; unfold M.over; rfl
      obtain ⟨sk, hsk⟩ : ∃ sk, sk = M.sumTo k (M.worst m) := ⟨_, rfl⟩
      obtain ⟨tk, htk⟩ : ∃ tk, tk = M.sumTo k (M.best m) := ⟨_, rfl⟩
      rw [← hsk] at hbd how ⊢
      rw [← htk] at hbe hob ⊢
      have HSK := Lib.hid hsk
      have HTK := Lib.hid htk
      have HOW := Lib.hid how
      have HOB := Lib.hid hob
      have b1 : -60000000 ≤ sk ∧ sk ≤ 60000000 := by omega
      have b2 : -60000000 ≤ tk ∧ tk ≤ 60000000 := by omega
      have e1 : wrap64 (r + sk + (m k 0 - m k 3)) = r + sk + (m k 0 - m k 3) := IntWalk.wrap64_in _ (by omega)
      have e2 : wrap64 (r + tk + (m k 1 - m k 2)) = r + tk + (m k 1 - m k 2) := IntWalk.wrap64_in _ (by omega)
      have l1 := M.lastTo_le ow k
      have l2 := M.lastTo_le ob k
      clear k1 hW hR hsk htk hbd hbe how hob
      by_cases h1 : le ≤ r + sk + (m k 0 - m k 3)
      · by_cases h2 : M.lastTo ow k = k
        · by_cases h3 : le ≤ r + tk + (m k 1 - m k 2)
          · by_cases h4 : M.lastTo ob k = k
            · go_wp2_with (go_at_call 39; refine (change_any _ _ _ _ _ (by omega)).mono ?_; rintro e w2 ⟨rfl, hb2⟩; have p1 := (hb2.cell (p := ⟨w.heap.size, 1, none⟩) (by show w.heap.size < _; omega)).trans q1; have HB2 := Lib.hid hb2; clear hb2)
              go_roundw
              case rel =>
                refine ⟨k + 1, by omega, by go_num, ?_, ?_, ?_, ?_, K1.out.below HB2.out K1.out.lt, HW.out.trans (HB2.out.mono hsz)⟩
                · rw [lastTo_succ, HOW.out]; rw [if_pos ⟨h2, by omega⟩]; go_num
                · rw [lastTo_succ, HOB.out]; rw [if_pos ⟨h4, by omega⟩]; go_num
                · rw [show M.sumTo (k + 1) (M.worst m) = sk + (m k 0 - m k 3) from by rw [HSK.out]; rfl]; go_num
                · rw [show M.sumTo (k + 1) (M.best m) = tk + (m k 1 - m k 2) from by rw [HTK.out]; rfl]; go_num
              case measure => simp [intOf]; omega
            · go_wp2_with (go_at_call 39; refine (change_any _ _ _ _ _ (by omega)).mono ?_; rintro e w2 ⟨rfl, hb2⟩; have p1 := (hb2.cell (p := ⟨w.heap.size, 1, none⟩) (by show w.heap.size < _; omega)).trans q1; have HB2 := Lib.hid hb2; clear hb2)
              go_roundw
              case rel =>
                refine ⟨k + 1, by omega, by go_num, ?_, ?_, ?_, ?_, K1.out.below HB2.out K1.out.lt, HW.out.trans (HB2.out.mono hsz)⟩
                · rw [lastTo_succ, HOW.out]; rw [if_pos ⟨h2, by omega⟩]; go_num
                · rw [lastTo_succ, HOB.out]; rw [if_neg (fun h => absurd h.1 h4)]
                · rw [show M.sumTo (k + 1) (M.worst m) = sk + (m k 0 - m k 3) from by rw [HSK.out]; rfl]; go_num
                · rw [show M.sumTo (k + 1) (M.best m) = tk + (m k 1 - m k 2) from by rw [HTK.out]; rfl]; go_num
              case measure => simp [intOf]; omega
          · go_wp2_with (go_at_call 39; refine (change_any _ _ _ _ _ (by omega)).mono ?_; rintro e w2 ⟨rfl, hb2⟩; have p1 := (hb2.cell (p := ⟨w.heap.size, 1, none⟩) (by show w.heap.size < _; omega)).trans q1; have HB2 := Lib.hid hb2; clear hb2)
            go_roundw
            case rel =>
              refine ⟨k + 1, by omega, by go_num, ?_, ?_, ?_, ?_, K1.out.below HB2.out K1.out.lt, HW.out.trans (HB2.out.mono hsz)⟩
              · rw [lastTo_succ, HOW.out]; rw [if_pos ⟨h2, by omega⟩]; go_num
              · rw [lastTo_succ, HOB.out]; rw [if_neg (fun h => by omega)]
              · rw [show M.sumTo (k + 1) (M.worst m) = sk + (m k 0 - m k 3) from by rw [HSK.out]; rfl]; go_num
              · rw [show M.sumTo (k + 1) (M.best m) = tk + (m k 1 - m k 2) from by rw [HTK.out]; rfl]; go_num
            case measure => simp [intOf]; omega
        · by_cases h3 : le ≤ r + tk + (m k 1 - m k 2)
          · by_cases h4 : M.lastTo ob k = k
            · go_wp2_with (go_at_call 39; refine (change_any _ _ _ _ _ (by omega)).mono ?_; rintro e w2 ⟨rfl, hb2⟩; have p1 := (hb2.cell (p := ⟨w.heap.size, 1, none⟩) (by show w.heap.size < _; omega)).trans q1; have HB2 := Lib.hid hb2; clear hb2)
              go_roundw
              case rel =>
                refine ⟨k + 1, by omega, by go_num, ?_, ?_, ?_, ?_, K1.out.below HB2.out K1.out.lt, HW.out.trans (HB2.out.mono hsz)⟩
                · rw [lastTo_succ, HOW.out]; rw [if_neg (fun h => absurd h.1 h2)]
                · rw [lastTo_succ, HOB.out]; rw [if_pos ⟨h4, by omega⟩]; go_num
                · rw [show M.sumTo (k + 1) (M.worst m) = sk + (m k 0 - m k 3) from by rw [HSK.out]; rfl]; go_num
                · rw [show M.sumTo (k + 1) (M.best m) = tk + (m k 1 - m k 2) from by rw [HTK.out]; rfl]; go_num
              case measure => simp [intOf]; omega
            · go_wp2_with (go_at_call 39; refine (change_any _ _ _ _ _ (by omega)).mono ?_; rintro e w2 ⟨rfl, hb2⟩; have p1 := (hb2.cell (p := ⟨w.heap.size, 1, none⟩) (by show w.heap.size < _; omega)).trans q1; have HB2 := Lib.hid hb2; clear hb2)
              go_roundw
              case rel =>
                refine ⟨k + 1, by omega, by go_num, ?_, ?_, ?_, ?_, K1.out.below HB2.out K1.out.lt, HW.out.trans (HB2.out.mono hsz)⟩
                · rw [lastTo_succ, HOW.out]; rw [if_neg (fun h => absurd h.1 h2)]
                · rw [lastTo_succ, HOB.out]; rw [if_neg (fun h => absurd h.1 h4)]
                · rw [show M.sumTo (k + 1) (M.worst m) = sk + (m k 0 - m k 3) from by rw [HSK.out]; rfl]; go_num
                · rw [show M.sumTo (k + 1) (M.best m) = tk + (m k 1 - m k 2) from by rw [HTK.out]; rfl]; go_num
              case measure => simp [intOf]; omega
          · go_wp2_with (go_at_call 39; refine (change_any _ _ _ _ _ (by omega)).mono ?_; rintro e w2 ⟨rfl, hb2⟩; have p1 := (hb2.cell (p := ⟨w.heap.size, 1, none⟩) (by show w.heap.size < _; omega)).trans q1; have HB2 := Lib.hid hb2; clear hb2)
            go_roundw
            case rel =>
              refine ⟨k + 1, by omega, by go_num, ?_, ?_, ?_, ?_, K1.out.below HB2.out K1.out.lt, HW.out.trans (HB2.out.mono hsz)⟩
              · rw [lastTo_succ, HOW.out]; rw [if_neg (fun h => absurd h.1 h2)]
              · rw [lastTo_succ, HOB.out]; rw [if_neg (fun h => by omega)]
              · rw [show M.sumTo (k + 1) (M.worst m) = sk + (m k 0 - m k 3) from by rw [HSK.out]; rfl]; go_num
              · rw [show M.sumTo (k + 1) (M.best m) = tk + (m k 1 - m k 2) from by rw [HTK.out]; rfl]; go_num
            case measure => simp [intOf]; omega
      · by_cases h3 : le ≤ r + tk + (m k 1 - m k 2)
        · by_cases h4 : M.lastTo ob k = k
          · go_wp2_with (go_at_call 39; refine (change_any _ _ _ _ _ (by omega)).mono ?_; rintro e w2 ⟨rfl, hb2⟩; have p1 := (hb2.cell (p := ⟨w.heap.size, 1, none⟩) (by show w.heap.size < _; omega)).trans q1; have HB2 := Lib.hid hb2; clear hb2)
            go_roundw
            case rel =>
              refine ⟨k + 1, by omega, by go_num, ?_, ?_, ?_, ?_, K1.out.below HB2.out K1.out.lt, HW.out.trans (HB2.out.mono hsz)⟩
              · rw [lastTo_succ, HOW.out]; rw [if_neg (fun h => by omega)]
              · rw [lastTo_succ, HOB.out]; rw [if_pos ⟨h4, by omega⟩]; go_num
              · rw [show M.sumTo (k + 1) (M.worst m) = sk + (m k 0 - m k 3) from by rw [HSK.out]; rfl]; go_num
              · rw [show M.sumTo (k + 1) (M.best m) = tk + (m k 1 - m k 2) from by rw [HTK.out]; rfl]; go_num
            case measure => simp [intOf]; omega
          · go_wp2_with (go_at_call 39; refine (change_any _ _ _ _ _ (by omega)).mono ?_; rintro e w2 ⟨rfl, hb2⟩; have p1 := (hb2.cell (p := ⟨w.heap.size, 1, none⟩) (by show w.heap.size < _; omega)).trans q1; have HB2 := Lib.hid hb2; clear hb2)
            go_roundw
            case rel =>
              refine ⟨k + 1, by omega, by go_num, ?_, ?_, ?_, ?_, K1.out.below HB2.out K1.out.lt, HW.out.trans (HB2.out.mono hsz)⟩
              · rw [lastTo_succ, HOW.out]; rw [if_neg (fun h => by omega)]
              · rw [lastTo_succ, HOB.out]; rw [if_neg (fun h => absurd h.1 h4)]
              · rw [show M.sumTo (k + 1) (M.worst m) = sk + (m k 0 - m k 3) from by rw [HSK.out]; rfl]; go_num
              · rw [show M.sumTo (k + 1) (M.best m) = tk + (m k 1 - m k 2) from by rw [HTK.out]; rfl]; go_num
            case measure => simp [intOf]; omega
        · go_wp2_with (go_at_call 39; refine (change_any _ _ _ _ _ (by omega)).mono ?_; rintro e w2 ⟨rfl, hb2⟩; have p1 := (hb2.cell (p := ⟨w.heap.size, 1, none⟩) (by show w.heap.size < _; omega)).trans q1; have HB2 := Lib.hid hb2; clear hb2)
          go_roundw
          case rel =>
            refine ⟨k + 1, by omega, by go_num, ?_, ?_, ?_, ?_, K1.out.below HB2.out K1.out.lt, HW.out.trans (HB2.out.mono hsz)⟩
            · rw [lastTo_succ, HOW.out]; rw [if_neg (fun h => by omega)]
            · rw [lastTo_succ, HOB.out]; rw [if_neg (fun h => by omega)]
            · rw [show M.sumTo (k + 1) (M.worst m) = sk + (m k 0 - m k 3) from by rw [HSK.out]; rfl]; go_num
            · rw [show M.sumTo (k + 1) (M.best m) = tk + (m k 1 - m k 2) from by rw [HTK.out]; rfl]; go_num
          case measure => simp [intOf]; omega
    · obtain rfl : k = n := by omega
      clear k1 hW hR
      go_wp2_with fail
      go_ret3
      exact ⟨rfl, HW.out⟩
end Go.Proofs.Ytaljmlkapbojeaa
