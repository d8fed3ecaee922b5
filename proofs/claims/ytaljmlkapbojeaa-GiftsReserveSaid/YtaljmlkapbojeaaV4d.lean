/- GiftsReserve, walked: a year that is valid with an appeal once and each month. Written by gen_reserve.py. -/
import Derived.Test.YtaljmlkapbojeaaV3
namespace Go.Proofs.Ytaljmlkapbojeaa
open Go.RowKit

set_option maxRecDepth 100000 in
set_option maxHeartbeats 12800000 in
theorem reserve_11 (r le : Int) (A fA : Option Addr) (n c fn fc B : Nat) (m f : Nat → Nat → Int) (w : World) (hR : Rd w B A 4 n m) (hF : Rd w B fA 2 fn f) (hB : B ≤ w.heap.size) (hok : M.okY r le n m = true) (hfn : fn ≤ 60)
    (hon0 : 0 < M.onceTo (M.over (r - le) (M.worst m)) n) (hmo0 : 0 < M.monTo (M.over (r - le) (M.worst m)) n) :
    Calls Try.prog 5 #[.agg #[.int .i64 r, .int .i64 le, .slice A n c], .slice fA fn fc] w fun e w' => e = .returned (.bool true) ∧ Below w.heap.size w w' := by
  have hk : M.chkY r le n m = 0 := by simp [M.chkY, hok]
  have hn := (M.okY_iff.1 hok).2.2.2.2.1
  have hb1 := onceTo_bd (c := 60000000) (by omega) (over_bd hok)
  have hb2 := monTo_bd2 (c := 60000000) (by omega) (over_bd hok)
  have HSP := Lib.hid (fun b => (spans_flF hok b).2)
  have f1 := M.fLast_sure r le n m
  have f2 := M.fLast_may r le n m
  have f3 := M.fLast_once r le n m
  have f4 := M.fLast_mon r le n m
  have f5 := M.fLast_once1 r le n m hon0
  have f6 := M.fLast_mon1 r le n m hmo0
  obtain ⟨sv, hsv⟩ : ∃ sv, sv = M.lastTo (M.over (r - le) (M.worst m)) n := ⟨_, rfl⟩
  obtain ⟨bv, hbv⟩ : ∃ bv, bv = M.lastTo (M.over (r - le) (M.best m)) n := ⟨_, rfl⟩
  obtain ⟨on, hon⟩ : ∃ on, on = M.onceTo (M.over (r - le) (M.worst m)) n := ⟨_, rfl⟩
  obtain ⟨mo, hmo⟩ : ∃ mo, mo = M.monTo (M.over (r - le) (M.worst m)) n := ⟨_, rfl⟩
  have hsn : sv ≤ n := by rw [hsv]; exact M.lastTo_le _ _
  have hbn : bv ≤ n := by rw [hbv]; exact M.lastTo_le _ _
  rw [← hsv] at f1
  rw [← hbv] at f2
  rw [← hon] at hb1 f3 hon0 f5
  rw [← hmo] at hb2 f4 hmo0 f6
  have F1 := Lib.hid f1
  have F2 := Lib.hid f2
  have F3 := Lib.hid f3
  have F4 := Lib.hid f4
  obtain ⟨x5, hx5⟩ : ∃ x5, x5 = M.fLast r le n (M.flF false m) (on - 1) 0 := ⟨_, rfl⟩
  have hx5n : x5 ≤ n := by rw [hx5]; exact M.fLast_le _ _ _ _ _ _
  rw [← hx5] at f5
  have X5 := Lib.hid hx5.symm
  clear hx5
  obtain ⟨x6, hx6⟩ : ∃ x6, x6 = M.fLast r le n (M.flF false m) 0 (mo - 1) := ⟨_, rfl⟩
  have hx6n : x6 ≤ n := by rw [hx6]; exact M.fLast_le _ _ _ _ _ _
  rw [← hx6] at f6
  have X6 := Lib.hid hx6.symm
  clear hx6
  have HSV := Lib.hid hsv
  have HBV := Lib.hid hbv
  have HON := Lib.hid hon
  have HMO := Lib.hid hmo
  clear hsv hbv hon hmo f1 f2 f3 f4
  have n5 : IntKind.i64.wrap (on - 1) = on - 1 := IntWalk.i64_in _ (by omega)
  have n6 : IntKind.i64.wrap (mo - 1) = mo - 1 := IntWalk.i64_in _ (by omega)
  go_enter Try.func5, Try.ntmps5
  go_wp2_with fail
  refine (rcheckYear_any r le A n c B m _ (by unfold maxLen; omega) (by exact hR.below ((belowAlloc _ _).mono hB)) (by simp; omega)).mono ?_
  rw [hk]
  rintro e w1 ⟨rfl, hb1⟩
  have HB1 := Lib.hid hb1
  clear hb1
  have k1 := (Blk.new w 43 #[.int .i64 r, .int .i64 le, .slice A n c]).below HB1.out (by simp)
  have ky : KeptY w A n c r le w1 := ⟨k1.cell 0, k1.cell 1, k1.cell 2, (belowAlloc _ _).trans (HB1.out.mono (by simp)), k1.lt⟩
  have q0 := ky.1
  have q1 := ky.2.1
  have q2 := ky.2.2.1
  have KY := Lib.hid ky
  clear k1 ky HB1
  go_wp2_with fail
  clear q0 q1 q2
  refine (glasts_ok r le A n c B m _ (by exact hR.below (KY.out.2.2.2.1.mono hB)) (by have := KY.out.2.2.2.2; omega) hok).mono ?_
  rw [← HSV.out, ← HBV.out]
  rintro e w2 ⟨rfl, hb2⟩
  have ky := KY.out.keep hb2
  have q0 := ky.1
  have q1 := ky.2.1
  have q2 := ky.2.2.1
  have KY2 := Lib.hid ky
  clear KY ky hb2
  go_wp2_with fail
  clear q0 q1 q2
  refine (appeal_ok r le A n c B m _ (by exact hR.below (KY2.out.2.2.2.1.mono hB)) (by have := KY2.out.2.2.2.2; omega) hok).mono ?_
  rw [← HON.out, ← HMO.out]
  rintro e w3 ⟨rfl, hb3⟩
  have ky := KY2.out.keep hb3
  clear KY2 hb3
  have kd := ky.drew
  clear ky
  go_wp2_with fail
  go_region_held3 (fun w' => w'.cell? ⟨w.heap.size, 0, none⟩ = some (.int .i64 r) ∧ w'.cell? ⟨w.heap.size, 1, none⟩ = some (.int .i64 le) ∧ w'.cell? ⟨w.heap.size, 2, none⟩ = some (.slice A n c) ∧ Below w.heap.size w w' ∧ w.heap.size + 1 ≤ w'.heap.size)
    (first | assumption | exact KeptY.keep (w := w) (by assumption) hbx | fail)
    (first
      | (go_at_call 21; refine (flows_false r le A n c B m _ hn (hR.below (Below.mono (by go_split_ands; assumption) hB)) (by go_split_ands; omega)).mono ?_; rintro e w2 ⟨⟨A', c', rfl, hr⟩, hbx⟩)
      | (go_at_call 20; go_must (refine (lastsL_res r le 0 0 A _ n c n _ B m (M.flF false m) _ (hR.below (Below.mono (by go_split_ands; assumption) hB)) (by assumption) (by go_split_ands; omega) hok (by omega) (by omega) (by omega) (by omega) ⟨rfl, HSP.out false⟩ _ F1.out).mono ?_); rintro e w3 ⟨rfl, hbx⟩)
      | fail)
  obtain ⟨kz, kd⟩ := KeptY.both (w := w) (A := A) (n := n) (c := c) (r := r) (le := le) (by assumption)
  have KZ := Lib.hid kz
  have q0 := kz.1
  have q1 := kz.2.1
  have q2 := kz.2.2.1
  clear kz
  go_wp2_with fail
  clear q0 q1 q2
  go_region_held3 (fun w' => w'.cell? ⟨w.heap.size, 0, none⟩ = some (.int .i64 r) ∧ w'.cell? ⟨w.heap.size, 1, none⟩ = some (.int .i64 le) ∧ w'.cell? ⟨w.heap.size, 2, none⟩ = some (.slice A n c) ∧ Below w.heap.size w w' ∧ w.heap.size + 1 ≤ w'.heap.size)
    (first | assumption | exact KeptY.keep (w := w) (by assumption) hbx | fail)
    (first
      | (go_at_call 21; refine (flows_true r le A n c B m _ hn (hR.below (Below.mono (by go_split_ands; assumption) hB)) (by go_split_ands; omega)).mono ?_; rintro e w2 ⟨⟨A', c', rfl, hr⟩, hbx⟩)
      | (go_at_call 20; go_must (refine (lastsL_res r le 0 0 A _ n c n _ B m (M.flF true m) _ (hR.below (Below.mono (by go_split_ands; assumption) hB)) (by assumption) (by go_split_ands; omega) hok (by omega) (by omega) (by omega) (by omega) ⟨rfl, HSP.out true⟩ _ F2.out).mono ?_); rintro e w3 ⟨rfl, hbx⟩)
      | fail)
  obtain ⟨kz, kd⟩ := KeptY.both (w := w) (A := A) (n := n) (c := c) (r := r) (le := le) (by assumption)
  have KZ := Lib.hid kz
  have q0 := kz.1
  have q1 := kz.2.1
  have q2 := kz.2.2.1
  clear kz
  go_wp2_with fail
  clear q0 q1 q2
  go_region_held3 (fun w' => w'.cell? ⟨w.heap.size, 0, none⟩ = some (.int .i64 r) ∧ w'.cell? ⟨w.heap.size, 1, none⟩ = some (.int .i64 le) ∧ w'.cell? ⟨w.heap.size, 2, none⟩ = some (.slice A n c) ∧ Below w.heap.size w w' ∧ w.heap.size + 1 ≤ w'.heap.size)
    (first | assumption | exact KeptY.keep (w := w) (by assumption) hbx | fail)
    (first
      | (go_at_call 21; refine (flows_false r le A n c B m _ hn (hR.below (Below.mono (by go_split_ands; assumption) hB)) (by go_split_ands; omega)).mono ?_; rintro e w2 ⟨⟨A', c', rfl, hr⟩, hbx⟩)
      | (go_at_call 20; go_must (refine (lastsL_res r le _ 0 A _ n c n _ B m (M.flF false m) _ (hR.below (Below.mono (by go_split_ands; assumption) hB)) (by assumption) (by go_split_ands; omega) hok (by omega) (by omega) (by omega) (by omega) ⟨rfl, HSP.out false⟩ _ F3.out).mono ?_); rintro e w3 ⟨rfl, hbx⟩)
      | fail)
  obtain ⟨kz, kd⟩ := KeptY.both (w := w) (A := A) (n := n) (c := c) (r := r) (le := le) (by assumption)
  have KZ := Lib.hid kz
  have q0 := kz.1
  have q1 := kz.2.1
  have q2 := kz.2.2.1
  clear kz
  go_wp2_with fail
  clear q0 q1 q2
  go_region_held3 (fun w' => w'.cell? ⟨w.heap.size, 0, none⟩ = some (.int .i64 r) ∧ w'.cell? ⟨w.heap.size, 1, none⟩ = some (.int .i64 le) ∧ w'.cell? ⟨w.heap.size, 2, none⟩ = some (.slice A n c) ∧ Below w.heap.size w w' ∧ w.heap.size + 1 ≤ w'.heap.size)
    (first | assumption | exact KeptY.keep (w := w) (by assumption) hbx | fail)
    (first
      | (go_at_call 21; refine (flows_false r le A n c B m _ hn (hR.below (Below.mono (by go_split_ands; assumption) hB)) (by go_split_ands; omega)).mono ?_; rintro e w2 ⟨⟨A', c', rfl, hr⟩, hbx⟩)
      | (go_at_call 20; go_must (refine (lastsL_res r le 0 _ A _ n c n _ B m (M.flF false m) _ (hR.below (Below.mono (by go_split_ands; assumption) hB)) (by assumption) (by go_split_ands; omega) hok (by omega) (by omega) (by omega) (by omega) ⟨rfl, HSP.out false⟩ _ F4.out).mono ?_); rintro e w3 ⟨rfl, hbx⟩)
      | fail)
  obtain ⟨kz, kd⟩ := KeptY.both (w := w) (A := A) (n := n) (c := c) (r := r) (le := le) (by assumption)
  have KZ := Lib.hid kz
  have q0 := kz.1
  have q1 := kz.2.1
  have q2 := kz.2.2.1
  clear kz
  go_wp2_with fail
  clear q0 q1 q2
  go_region_held3 (fun w' => w'.cell? ⟨w.heap.size, 0, none⟩ = some (.int .i64 r) ∧ w'.cell? ⟨w.heap.size, 1, none⟩ = some (.int .i64 le) ∧ w'.cell? ⟨w.heap.size, 2, none⟩ = some (.slice A n c) ∧ Below w.heap.size w w' ∧ w.heap.size + 1 ≤ w'.heap.size)
    (first | assumption | exact KeptY.keep (w := w) (by assumption) hbx | fail)
    (first
      | (go_at_call 21; refine (flows_false r le A n c B m _ hn (hR.below (Below.mono (by go_split_ands; assumption) hB)) (by go_split_ands; omega)).mono ?_; rintro e w2 ⟨⟨A', c', rfl, hr⟩, hbx⟩)
      | (go_at_call 20; go_must (refine (lastsL_res r le _ 0 A _ n c n _ B m (M.flF false m) _ (hR.below (Below.mono (by go_split_ands; assumption) hB)) (by assumption) (by go_split_ands; omega) hok (by omega) (by omega) (by omega) (by omega) ⟨rfl, HSP.out false⟩ _ X5.out).mono ?_); rintro e w3 ⟨rfl, hbx⟩)
      | fail)
  obtain ⟨kz, kd⟩ := KeptY.both (w := w) (A := A) (n := n) (c := c) (r := r) (le := le) (by assumption)
  have KZ := Lib.hid kz
  have q0 := kz.1
  have q1 := kz.2.1
  have q2 := kz.2.2.1
  clear kz
  go_wp2_with fail
  clear q0 q1 q2
  go_region_held3 (fun w' => w'.cell? ⟨w.heap.size, 0, none⟩ = some (.int .i64 r) ∧ w'.cell? ⟨w.heap.size, 1, none⟩ = some (.int .i64 le) ∧ w'.cell? ⟨w.heap.size, 2, none⟩ = some (.slice A n c) ∧ Below w.heap.size w w' ∧ w.heap.size + 1 ≤ w'.heap.size)
    (first | assumption | exact KeptY.keep (w := w) (by assumption) hbx | fail)
    (first
      | (go_at_call 21; refine (flows_false r le A n c B m _ hn (hR.below (Below.mono (by go_split_ands; assumption) hB)) (by go_split_ands; omega)).mono ?_; rintro e w2 ⟨⟨A', c', rfl, hr⟩, hbx⟩)
      | (go_at_call 20; go_must (refine (lastsL_res r le 0 _ A _ n c n _ B m (M.flF false m) _ (hR.below (Below.mono (by go_split_ands; assumption) hB)) (by assumption) (by go_split_ands; omega) hok (by omega) (by omega) (by omega) (by omega) ⟨rfl, HSP.out false⟩ _ X6.out).mono ?_); rintro e w3 ⟨rfl, hbx⟩)
      | fail)
  obtain ⟨kz, kd⟩ := KeptY.both (w := w) (A := A) (n := n) (c := c) (r := r) (le := le) (by assumption)
  have KZ := Lib.hid kz
  have q0 := kz.1
  have q1 := kz.2.1
  have q2 := kz.2.2.1
  clear kz
  go_wp2_with fail
  clear q0 q1 q2
  clear kd
  have FR : ∀ W, KeptY w A n c r le W → Rd W B A 4 n m ∧ Rd W W.heap.size fA 2 fn f ∧ B ≤ W.heap.size := fun W h =>
    have hs : B ≤ W.heap.size := by have := h.2.2.2.2; omega
    ⟨hR.below (h.2.2.2.1.mono hB), (hF.below (h.2.2.2.1.mono hB)).more hs, hs⟩
  have HFR := Lib.hid FR
  clear FR
  by_cases hs : fn = n ∧ M.spansOk n m f = true
  · have g1 := M.flow_ge r le n m f 0 0 hs.2
    have g2 := M.flow_le r le n m f 0 0 hs.2
    have g3 := M.flow_ge r le n m f on 0 hs.2
    have g4 := M.flow_ge r le n m f 0 mo hs.2
    have g5 := M.fLast_le r le n f on 0
    have g6 := M.fLast_le r le n f 0 mo
    rw [F1.out] at g1
    rw [F2.out] at g2
    rw [F3.out] at g3
    rw [F4.out] at g4
    obtain ⟨x, hx⟩ : ∃ x, x = M.fLast r le n f 0 0 := ⟨_, rfl⟩
    rw [← hx] at g1 g2
    have HX := Lib.hid hx.symm
    have HP := Lib.hid (Nat.le_antisymm g5 g3)
    have HQ := Lib.hid (Nat.le_antisymm g6 g4)
    have HS := Lib.hid hs
    clear hx g3 g4 g5 g6 hs
    refine (lastsL_res r le 0 0 A fA n c fn fc B m f _ (HFR.out _ KZ.out).1 (HFR.out _ KZ.out).2.1 (HFR.out _ KZ.out).2.2 hok (by omega) (by omega) (by omega) (by omega) (HS.out) _ HX.out).mono ?_
    rintro e w4 ⟨rfl, hbx⟩
    have kz := KZ.out.keep hbx
    clear KZ hbx
    have KZ := Lib.hid kz
    have q0 := kz.1
    have q1 := kz.2.1
    have q2 := kz.2.2.1
    clear kz
    go_wp2_with fail
    clear q0 q1 q2
    refine (lastsL_res r le on 0 A fA n c fn fc B m f _ (HFR.out _ KZ.out).1 (HFR.out _ KZ.out).2.1 (HFR.out _ KZ.out).2.2 hok (by omega) (by omega) (by omega) (by omega) (HS.out) _ HP.out).mono ?_
    rintro e w4 ⟨rfl, hbx⟩
    have kz := KZ.out.keep hbx
    clear KZ hbx
    have KZ := Lib.hid kz
    have q0 := kz.1
    have q1 := kz.2.1
    have q2 := kz.2.2.1
    clear kz
    go_wp2_with fail
    clear q0 q1 q2
    refine (lastsL_res r le 0 mo A fA n c fn fc B m f _ (HFR.out _ KZ.out).1 (HFR.out _ KZ.out).2.1 (HFR.out _ KZ.out).2.2 hok (by omega) (by omega) (by omega) (by omega) (HS.out) _ HQ.out).mono ?_
    rintro e w4 ⟨rfl, hbx⟩
    have kz := KZ.out.keep hbx
    clear KZ hbx
    have KZ := Lib.hid kz
    have q0 := kz.1
    have q1 := kz.2.1
    have q2 := kz.2.2.1
    clear kz
    go_wp2_with (go_at_call 12; refine (works_any _).mono ?_; rintro e w9 ⟨rfl, hb9⟩; have HB9 := Lib.hid hb9; clear hb9)
    go_ret
    exact ⟨rfl, (KZ.out.keep HB9.out).2.2.2.1⟩
  · have HS := Lib.hid hs
    clear hs
    refine (lastsL_not r le 0 0 A fA n c fn fc B m f _ (HFR.out _ KZ.out).1 (HFR.out _ KZ.out).2.1 (HFR.out _ KZ.out).2.2 hok (by omega) (by omega) (by omega) (by omega) (HS.out)).mono ?_
    rintro e w4 ⟨rfl, hbx⟩
    have kz := KZ.out.keep hbx
    clear KZ hbx
    have KZ := Lib.hid kz
    have q0 := kz.1
    have q1 := kz.2.1
    have q2 := kz.2.2.1
    clear kz
    go_wp2_with fail
    clear q0 q1 q2
    refine (lastsL_not r le on 0 A fA n c fn fc B m f _ (HFR.out _ KZ.out).1 (HFR.out _ KZ.out).2.1 (HFR.out _ KZ.out).2.2 hok (by omega) (by omega) (by omega) (by omega) (HS.out)).mono ?_
    rintro e w4 ⟨rfl, hbx⟩
    have kz := KZ.out.keep hbx
    clear KZ hbx
    have KZ := Lib.hid kz
    have q0 := kz.1
    have q1 := kz.2.1
    have q2 := kz.2.2.1
    clear kz
    go_wp2_with fail
    clear q0 q1 q2
    refine (lastsL_not r le 0 mo A fA n c fn fc B m f _ (HFR.out _ KZ.out).1 (HFR.out _ KZ.out).2.1 (HFR.out _ KZ.out).2.2 hok (by omega) (by omega) (by omega) (by omega) (HS.out)).mono ?_
    rintro e w4 ⟨rfl, hbx⟩
    have kz := KZ.out.keep hbx
    clear KZ hbx
    have KZ := Lib.hid kz
    have q0 := kz.1
    have q1 := kz.2.1
    have q2 := kz.2.2.1
    clear kz
    go_wp2_with (go_at_call 12; refine (works_any _).mono ?_; rintro e w9 ⟨rfl, hb9⟩; have HB9 := Lib.hid hb9; clear hb9)
    go_ret
    exact ⟨rfl, (KZ.out.keep HB9.out).2.2.2.1⟩
end Go.Proofs.Ytaljmlkapbojeaa
