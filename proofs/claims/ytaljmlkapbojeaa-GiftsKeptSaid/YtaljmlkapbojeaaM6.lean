/- GiftsMore: where it looks. -/
import Derived.Test.YtaljmlkapbojeaaMMath
import Derived.Test.YtaljmlkapbojeaaW2
import Derived.Test.YtaljmlkapbojeaaSeq
namespace Go.Proofs.Ytaljmlkapbojeaa
open Go.RowKit

theorem pay_err (gA bA : Option Addr) (gn gc bn bc B : Nat) (G H : Nat → Nat → Int) (w : World) (hg : gn ≤ maxLen) (hb : bn ≤ maxLen) (hR : BookRd w B gA gn G bA bn H) (hB : B ≤ w.heap.size) :
    Calls Try.prog 14 #[.agg #[.slice gA gn gc, .slice bA bn bc]] w fun e w' => (∃ A n c, e = .returned (.tuple #[.slice A n c, .int .i64 (payE gn bn G H)])) ∧ Below w.heap.size w w' := by
  cases hk : M.okF gn bn G H
  · exact (pay_bad _ _ _ _ _ _ B _ _ _ hg hb hR hB hk).mono fun e w' h => ⟨⟨none, 0, 0, by rw [h.1]; simp [payE, hk]⟩, h.2⟩
  · cases hl : lpd gn bn G H
    · exact (pay_none _ _ _ _ _ _ B _ _ _ hR hB hk hl).mono fun e w' h => ⟨⟨none, 0, 0, by rw [h.1]; simp [payE, hk, hl]⟩, h.2⟩
    · refine (pay_ok _ _ _ _ _ _ B _ _ _ hR hB hk hl).mono ?_
      rintro e w' ⟨v, F, rfl, hr, hb⟩
      obtain ⟨A, c, rfl⟩ := hr.1.form
      exact ⟨⟨A, bn, c, by simp [payE, hk, hl]⟩, hb⟩

set_option maxRecDepth 100000 in
set_option maxHeartbeats 6400000 in
theorem more_good (gA bA : Option Addr) (gn gc bn bc B : Nat) (G H : Nat → Nat → Int) (k j : Nat) (b d : Int) (w : World)  (hR : BookRd w B gA gn G bA bn H) (hB : B ≤ w.heap.size) (ht : thickF gn bn (M.okF gn bn G H) = false) (hk : M.okF gn bn G H = true) (hkg : k < gn) (hjb : j < bn) (hb0 : 0 ≤ b) (hb1 : b ≤ 1000000) (hd0 : 0 ≤ d) (hd1 : d ≤ H j 2) :
    Calls Try.prog 3 #[.agg #[.slice gA gn gc, .slice bA bn bc], .agg #[.int .i64 (k : Int), .int .i64 b, .int .i64 (j : Int), .int .i64 d]] w fun e w' => e = .returned (.bool true) ∧ Below w.heap.size w w' := by
  have hkk : M.chkN gn bn G H = 0 := by simp [M.chkN, hk]
  have ok : Ok gn bn G H := M.okF_iff.1 hk
  have hg := ok.1
  have hb := ok.2.1
  have okg := ok.2.2.1 k hkg
  have okb := ok.2.2.2 j hjb
  have e0 : decide ((k : Int) < 0) = false := decide_eq_false (by omega)
  have e1 : decide ((gn : Int) ≤ (k : Int)) = false := decide_eq_false (by omega)
  have e2 : decide ((j : Int) < 0) = false := decide_eq_false (by omega)
  have e3 : decide ((bn : Int) ≤ (j : Int)) = false := decide_eq_false (by omega)
  have n1 : decide (gn ≤ k) = false := decide_eq_false (by omega)
  have n2 : decide (bn ≤ j) = false := decide_eq_false (by omega)
  have e4 : decide (b < 0) = false := decide_eq_false (by omega)
  have e5 : decide (1000000 < b) = false := decide_eq_false (by omega)
  have e6 : decide (d < 0) = false := decide_eq_false (by omega)
  have e7 : decide (H j 2 < d) = false := decide_eq_false (by omega)
  go_enter Try.func3, Try.ntmps3
  go_wp2_with fail
  refine wp_region_seq 5 59 (by kernel_rfl) (by kernel_rfl) fun R hRR => ?_
  simp only [List.take_succ_cons, List.take_zero, List.drop_succ_cons, List.drop_zero] at hRR ⊢
  have HRR := Lib.hid hRR
  clear hRR
  go_wp2_with (go_at_call 10; refine (thick_any _ _ _ _ _ _ B _ _ _ (by unfold maxLen; omega) (by unfold maxLen; omega) (by exact (hR.below ((belowAlloc2 _ _ _).drew.mono hB))) (by simp; omega)).mono ?_; rw [ht]; rintro e w1 ⟨rfl, hb1⟩; obtain ⟨hc1, hf1⟩ := bcell hb1; have HB1 := Lib.hid hb1; clear hb1)
  have W1 : Below w.heap.size w w1 := (belowAlloc2 _ _ _).drew.trans (HB1.out.mono (by simp; omega))
  have z1 : w.heap.size + 2 ≤ w1.heap.size := by have := HB1.out.size; simpa using this
  have q0 : w1.cell? ⟨w.heap.size, 0, none⟩ = some (.slice gA gn gc) := by rw [hc1 _ _ (by simp; omega)]; simp
  have q1 : w1.cell? ⟨w.heap.size, 1, none⟩ = some (.slice bA bn bc) := by rw [hc1 _ _ (by simp; omega)]; simp
  have x0 : w1.cell? ⟨w.heap.size + 1, 0, none⟩ = some (.int .i64 (k : Int)) := by rw [hc1 _ _ (by simp)]; simp
  have x1 : w1.cell? ⟨w.heap.size + 1, 1, none⟩ = some (.int .i64 b) := by rw [hc1 _ _ (by simp)]; simp
  have x2 : w1.cell? ⟨w.heap.size + 1, 2, none⟩ = some (.int .i64 (j : Int)) := by rw [hc1 _ _ (by simp)]; simp
  have x3 : w1.cell? ⟨w.heap.size + 1, 3, none⟩ = some (.int .i64 d) := by rw [hc1 _ _ (by simp)]; simp
  clear hc1 hf1 HB1
  have HW1 := Lib.hid W1
  clear W1
  go_wp2_with (go_at_call 11; refine (rcheck_any _ _ _ _ _ _ B _ _ _ (by unfold maxLen; omega) (by unfold maxLen; omega) (by exact hR.below (HW1.out.mono hB)) (by omega)).mono ?_; rw [hkk]; rintro e w2 ⟨rfl, hb2⟩; have W2 := HW1.out.trans (hb2.mono (by omega)); obtain ⟨hc2, hf2⟩ := bcell hb2; have hz2 := hb2.size; clear hb2)
  have q0 : w2.cell? ⟨w.heap.size, 0, none⟩ = some (.slice gA gn gc) := by rw [hc2 _ _ (by omega)]; exact q0
  have q1 : w2.cell? ⟨w.heap.size, 1, none⟩ = some (.slice bA bn bc) := by rw [hc2 _ _ (by omega)]; exact q1
  have x0 : w2.cell? ⟨w.heap.size + 1, 0, none⟩ = some (.int .i64 (k : Int)) := by rw [hc2 _ _ (by omega)]; exact x0
  have x1 : w2.cell? ⟨w.heap.size + 1, 1, none⟩ = some (.int .i64 b) := by rw [hc2 _ _ (by omega)]; exact x1
  have x2 : w2.cell? ⟨w.heap.size + 1, 2, none⟩ = some (.int .i64 (j : Int)) := by rw [hc2 _ _ (by omega)]; exact x2
  have x3 : w2.cell? ⟨w.heap.size + 1, 3, none⟩ = some (.int .i64 d) := by rw [hc2 _ _ (by omega)]; exact x3
  have HR2 := Lib.hid (hR.below (W2.mono hB))
  have HW2 := Lib.hid W2
  have z2 : w.heap.size + 2 ≤ w2.heap.size := by omega
  clear hc2 hf2 W2 hR hz2
  obtain ⟨bb, bo, rfl, hbb, k0, k1, k2⟩ := HR2.out.2.at3 hjb
  clear k0 k1
  refine HRR.out _ _ ?_
  clear HRR
  repeat (go_big_quiet_step (fail))
  refine wpQuiet_nil ?_
  clear e0 e1 e2 e3 e4 e5 e6 e7 n1 n2
  go_wp2_with (go_at_call 13; refine (copy_any _ _ _ _ _ _ B G H _ (by omega) (by omega) (by exact HR2.out) (by omega)).mono ?_; rintro e w3 ⟨v1, v2, rfl, ho1, ho2, hb3⟩; obtain ⟨g1, c1, rfl⟩ := ho1.nz (by omega); obtain ⟨g2, c2, rfl⟩ := ho2.nz (by omega); obtain ⟨hc3, hf3⟩ := bcell hb3; have HB3 := Lib.hid hb3; clear hb3)
  have W3 : Below w.heap.size w w3 := HW2.out.trans (HB3.out.mono (by omega))
  have z3 : w2.heap.size ≤ w3.heap.size := HB3.out.size
  have r1 := (ho1.block rfl)
  have r2 := (ho2.block rfl)
  have hne : g1 ≠ g2 := fun e => Own.apart_type ho1 ho2 (by decide) g1 rfl (by rw [e]; rfl)
  obtain ⟨W4, hW4⟩ : ∃ W4, W4 = w3.alloc (.cells #[.slice (some ⟨g1, 0, none⟩) gn c1, .slice (some ⟨g2, 0, none⟩) bn c2] 25) := ⟨_, rfl⟩
  rw [← hW4]
  have m4 : Blk W4 w3.heap.size 25 #[.slice (some ⟨g1, 0, none⟩) gn c1, .slice (some ⟨g2, 0, none⟩) bn c2] := by rw [hW4]; exact Blk.new _ _ _
  have o1 : Own W4 w2.heap.size 36 3 (.slice (some ⟨g1, 0, none⟩) gn c1) gn (ints2 G) := by rw [hW4]; exact ho1.alloc _
  have o2 : Own W4 w2.heap.size 32 3 (.slice (some ⟨g2, 0, none⟩) bn c2) bn (ints2 H) := by rw [hW4]; exact ho2.alloc _
  have B4 : Below w2.heap.size w2 W4 := by rw [hW4]; exact HB3.out.trans ((belowAlloc _ _).mono z3)
  have hz4 : W4.heap.size = w3.heap.size + 1 := by rw [hW4]; simp
  clear hc3 hf3 HB3 ho1 ho2 W3 hW4
  have r0 : W4.cell? ⟨w.heap.size, 0, none⟩ = some (.slice gA gn gc) := by rw [B4.cell (p := ⟨w.heap.size, 0, none⟩) (by show w.heap.size < _; omega)]; exact q0
  have r0' : W4.cell? ⟨w.heap.size, 1, none⟩ = some (.slice (some ⟨bb, bo, none⟩) bn bc) := by rw [B4.cell (p := ⟨w.heap.size, 1, none⟩) (by show w.heap.size < _; omega)]; exact q1
  have y0 : W4.cell? ⟨w.heap.size + 1, 0, none⟩ = some (.int .i64 (k : Int)) := by rw [B4.cell (p := ⟨w.heap.size + 1, 0, none⟩) (by show w.heap.size + 1 < _; omega)]; exact x0
  have y1 : W4.cell? ⟨w.heap.size + 1, 1, none⟩ = some (.int .i64 b) := by rw [B4.cell (p := ⟨w.heap.size + 1, 1, none⟩) (by show w.heap.size + 1 < _; omega)]; exact x1
  have y2 : W4.cell? ⟨w.heap.size + 1, 2, none⟩ = some (.int .i64 (j : Int)) := by rw [B4.cell (p := ⟨w.heap.size + 1, 2, none⟩) (by show w.heap.size + 1 < _; omega)]; exact x2
  have y3 : W4.cell? ⟨w.heap.size + 1, 3, none⟩ = some (.int .i64 d) := by rw [B4.cell (p := ⟨w.heap.size + 1, 3, none⟩) (by show w.heap.size + 1 < _; omega)]; exact x3
  have n0 := m4.cell 0
  have n1 := m4.cell 1
  have u1 : W4.cell? ⟨g1, k * 3 + 2, none⟩ = some (.int .i64 (G k 2)) := o1.cell hkg (by omega)
  have u2 : W4.cell? ⟨g2, j * 3 + 2, none⟩ = some (.int .i64 (H j 2)) := o2.cell hjb (by omega)
  have fr1 := o1.frz (k * 3 + 2)
  have fr2 := o2.frz (j * 3 + 2)
  have l1 : wrap64 (G k 2 + b) = G k 2 + b := IntWalk.wrap64_in _ (by omega)
  have l2 : IntKind.i64.wrap (G k 2 + b) = G k 2 + b := by rw [IntKind.wrap_i64]; omega
  have M4 := Lib.hid m4
  have O1 := Lib.hid o1
  have O2 := Lib.hid o2
  have HB4 := Lib.hid B4
  clear m4 o1 o2 B4 q0 q1 x0 x1 x2 x3 k2
  go_still_tail 15, (by kernel_rfl)
  change wpList _ _ _ _ _ W4.drew
  go_wp2_with fail
  have oX1 := (O1.out.setm (k := k) (j := 2) (by omega) (.int .i64 (min 1000000 (G k 2 + b)))).drew
  have oX2 := (O2.out.setCell (p := ⟨g1, k * 3 + 2, none⟩) (fun e => hne (by simpa [Value.ownBlock] using e.symm)) (.int .i64 (min 1000000 (G k 2 + b)))).drew
  have mX := blk_drew (M4.out.far (p := ⟨g1, k * 3 + 2, none⟩) (by simp; omega) (.int .i64 (min 1000000 (G k 2 + b))))
  have bX := (HB4.out.setCell (p := ⟨g1, k * 3 + 2, none⟩) r1.1 (.int .i64 (min 1000000 (G k 2 + b)))).drew
  have farX : ∀ a : Addr, a.block < w2.heap.size → ((W4.setCell ⟨g1, k * 3 + 2, none⟩ (.int .i64 (min 1000000 (G k 2 + b)))).drew).cell? a = W4.cell? a := fun a ha => by
    rw [World.cell?_drew, World.cell?_setCell_other _ _ _ _ (fun e => by rw [← e] at ha; exact absurd ha (by show ¬ g1 < _; omega))]
  have sX : ((W4.setCell ⟨g1, k * 3 + 2, none⟩ (.int .i64 (min 1000000 (G k 2 + b)))).drew).heap.size = w3.heap.size + 1 := by simp [hz4]
  generalize (W4.setCell ⟨g1, k * 3 + 2, none⟩ (.int .i64 (min 1000000 (G k 2 + b)))).drew = X at *
  have p0 : X.cell? ⟨w.heap.size, 0, none⟩ = some (.slice gA gn gc) := (farX _ (by show w.heap.size < _; omega)).trans r0
  have p1 : X.cell? ⟨w.heap.size, 1, none⟩ = some (.slice (some ⟨bb, bo, none⟩) bn bc) := (farX _ (by show w.heap.size < _; omega)).trans r0'
  have p2 : X.cell? ⟨w.heap.size + 1, 2, none⟩ = some (.int .i64 (j : Int)) := (farX _ (by show w.heap.size + 1 < _; omega)).trans y2
  have p3 : X.cell? ⟨w.heap.size + 1, 3, none⟩ = some (.int .i64 d) := (farX _ (by show w.heap.size + 1 < _; omega)).trans y3
  have p4 := mX.cell 0
  have p5 := mX.cell 1
  have p6 : X.cell? ⟨g2, j * 3 + 2, none⟩ = some (.int .i64 (H j 2)) := oX2.cell hjb (by omega)
  have p7 := oX2.frz (j * 3 + 2)
  have l3 : wrap64 (H j 2 - d) = H j 2 - d := IntWalk.wrap64_in _ (by omega)
  have l4 : IntKind.i64.wrap (H j 2 - d) = H j 2 - d := by rw [IntKind.wrap_i64]; omega
  have MX := Lib.hid mX
  have OX1 := Lib.hid oX1
  have OX2 := Lib.hid oX2
  have HBX := Lib.hid bX
  clear mX oX1 oX2 bX farX r0 r0' y0 y1 y2 y3 n0 n1 u1 u2 fr1 fr2 l1 l2 M4 O1 O2 HB4 hz4
  go_still_tail 10, (by kernel_rfl)
  change wpList _ _ _ _ _ X.drew
  go_wp2_with fail
  have oY1 := (OX1.out.setCell (p := ⟨g2, j * 3 + 2, none⟩) (fun e => hne (by simpa [Value.ownBlock] using e)) (.int .i64 (H j 2 - d))).drew
  have oY2 := (OX2.out.setm (k := j) (j := 2) (by omega) (.int .i64 (H j 2 - d))).drew
  have mY := blk_drew (MX.out.far (p := ⟨g2, j * 3 + 2, none⟩) (by simp; omega) (.int .i64 (H j 2 - d)))
  have bY := (HBX.out.setCell (p := ⟨g2, j * 3 + 2, none⟩) r2.1 (.int .i64 (H j 2 - d))).drew
  have sY : ((X.setCell ⟨g2, j * 3 + 2, none⟩ (.int .i64 (H j 2 - d))).drew).heap.size = w3.heap.size + 1 := by simp [sX]
  generalize (X.setCell ⟨g2, j * 3 + 2, none⟩ (.int .i64 (H j 2 - d))).drew = Y at *
  clear p0 p1 p2 p3 p4 p5 p6 p7 l3 l4 MX OX1 OX2 HBX sX
  rw [upd2_ints] at oY1 oY2
  obtain ⟨G', hG'⟩ : ∃ G', G' = set2 G k 2 (min 1000000 (G k 2 + b)) := ⟨_, rfl⟩
  obtain ⟨H', hH'⟩ : ∃ H', H' = set2 H j 2 (H j 2 - d) := ⟨_, rfl⟩
  rw [← hG'] at oY1
  rw [← hH'] at oY2
  have hkq : M.okF gn bn G' H' = true := by
    rw [M.okF_iff]
    refine ⟨hg, hb, fun g hgg => ?_, fun i hi => ?_⟩
    · have := ok.2.2.1 g hgg
      by_cases e : g = k
      · subst e; rw [hG']; simp [set2]; omega
      · rw [hG']; simp [set2, e]; omega
    · have := ok.2.2.2 i hi
      by_cases e : i = j
      · subst e; rw [hH']; simp [set2]; omega
      · rw [hH']; simp [set2, e]; omega
  have hmore : lpd gn bn G H = true → lpd gn bn G' H' = true := lpd_more (fun g hgg => by
      by_cases e : g = k
      · subst e; rw [hG']; simp [set2]; omega
      · rw [hG']; simp [set2, e]) (fun i hi => by
      by_cases e : i = j
      · subst e; rw [hH']; simp [set2]; omega
      · rw [hH']; simp [set2, e])
  have hRY : BookRd Y B gA gn G (some ⟨bb, bo, none⟩) bn H := HR2.out.below (bY.mono (by omega))
  have hRQ : BookRd Y Y.heap.size (some ⟨g1, 0, none⟩) gn G' (some ⟨g2, 0, none⟩) bn H' := by
    obtain ⟨A1, c1', e1, hr1⟩ := oY1.rd
    obtain ⟨A2, c2', e2, hr2⟩ := oY2.rd
    injection e1 with e1 _ _
    injection e2 with e2 _ _
    subst e1; subst e2
    exact ⟨hr1, hr2⟩
  have HRQ := Lib.hid hRQ
  clear hRQ
  have WY : Below w.heap.size w Y := HW2.out.trans (bY.mono (by omega))
  have HWY := Lib.hid WY
  have MY := Lib.hid mY
  have t0 := mY.cell 0
  have t1 := mY.cell 1
  clear oY1 oY2 bY WY mY hG' hH'
  cases h1 : lpd gn bn G H <;> cases h2 : lpd gn bn G' H'
  case true.false => rw [hmore h1] at h2; cases h2
  all_goals
    first | have E1 := payE_paid hk h1 | have E1 := payE_none hk h1
    first | have E2 := payE_paid hkq h2 | have E2 := payE_none hkq h2
    refine (pay_err _ _ _ _ _ _ B G H _ (by unfold maxLen; omega) (by unfold maxLen; omega) hRY (by omega)).mono ?_
    rw [E1]
    rintro e w6 ⟨⟨PA, pn, pc, rfl⟩, hb6⟩
    obtain ⟨hc6, hf6⟩ := bcell hb6
    have HB6 := Lib.hid hb6
    have z6 := hb6.size
    clear hb6
    go_wp2_with (go_at_call 14; refine (pay_err _ _ _ _ _ _ Y.heap.size G' H' _ (by unfold maxLen; omega) (by unfold maxLen; omega) (by exact HRQ.out.below HB6.out) (by omega)).mono ?_; rw [E2]; rintro e w7 ⟨⟨PA', pn', pc', rfl⟩, hb7⟩; have HB7 := Lib.hid hb7; have z7 := hb7.size; clear hb7)
    go_wp2_with (go_at_call 12; refine (works_any _).mono ?_; rintro e w9 ⟨rfl, hb9⟩; have HB9 := Lib.hid hb9; clear hb9)
    go_ret
    exact ⟨rfl, HWY.out.trans ((HB6.out.mono (by omega)).trans ((HB7.out.mono (by omega)).trans (HB9.out.mono (by omega))))⟩
end Go.Proofs.Ytaljmlkapbojeaa
