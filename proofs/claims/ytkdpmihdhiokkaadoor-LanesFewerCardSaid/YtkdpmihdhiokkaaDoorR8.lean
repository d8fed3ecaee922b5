/- The reference: occupies, Clash. -/
import Derived.Test.YtkdpmihdhiokkaaDoorR6
namespace Go.Proofs.YtkdpmihdhiokkaaDoor
open Go.RowKit

section
variable (l : M.Leg) (cc B : Nat) (cA : Option Addr) (t : Int) (w : World)
set_option maxRecDepth 100000 in
set_option maxHeartbeats 3200000 in
theorem occ_any (hb : -100 ≤ t ∧ t ≤ 100 ∧ -100 ≤ l.at_ ∧ l.at_ ≤ 100) (hn : l.n ≤ 100) (hR : Rd1 w B cA l.n l.c) (hB : B ≤ w.heap.size) :
    Calls Tryd.prog 43 #[.agg #[.int .i64 l.at_, .int .i64 l.lv, .int .i64 l.dr, .bool l.tail, .slice cA l.n cc], .int .i64 t] w fun e w' => (∃ v, e = .returned v ∧ Own w' w.heap.size 3 1 v (M.occL l.tail (M.atC l (t - 1)) (M.atC l t)).length (lst (M.occL l.tail (M.atC l (t - 1)) (M.atC l t)))) ∧ Below w.heap.size w w' := by
  have HA := Lib.hid (fun W (hb2 : Below w.heap.size w W) t (ht : -1000 ≤ t ∧ t ≤ 1000) => rat_any l cc B cA t W (by omega) (by omega) (hR.below (hb2.mono hB)) (Nat.le_trans hB hb2.size))
  have HB0 := Lib.hid (belowAlloc w (.cells #[.int .i64 l.at_, .int .i64 l.lv, .int .i64 l.dr, .bool l.tail, .slice cA l.n cc] 41))
  have L0 := Lib.hid (Blk.new w 41 #[.int .i64 l.at_, .int .i64 l.lv, .int .i64 l.dr, .bool l.tail, .slice cA l.n cc])
  have HO := Lib.hid (show M.occL l.tail (M.atC l (t - 1)) (M.atC l t) = if M.atC l t < 0 then [] else if l.tail = true ∧ 0 ≤ M.atC l (t - 1) then [M.atC l t, M.atC l (t - 1)] else [M.atC l t] from rfl)
  obtain ⟨X, hX⟩ : ∃ X, X = w.alloc (.cells #[.int .i64 l.at_, .int .i64 l.lv, .int .i64 l.dr, .bool l.tail, .slice cA l.n cc] 41) := ⟨_, rfl⟩
  have HXe := Lib.hid hX
  rw [← hX] at HB0 L0
  have HA1 := Lib.hid (HA.out X HB0.out t (by omega))
  have HA2 := Lib.hid (fun W hb2 => HA.out W hb2 (t - 1) (by omega))
  obtain ⟨OL, hOL⟩ : ∃ OL, OL = M.occL l.tail (M.atC l (t - 1)) (M.atC l t) := ⟨_, rfl⟩
  rw [← hOL] at HO
  rw [← hOL]
  obtain ⟨q, hq⟩ : ∃ q, q = M.atC l t := ⟨_, rfl⟩
  obtain ⟨p, hp⟩ : ∃ p, p = M.atC l (t - 1) := ⟨_, rfl⟩
  rw [← hq] at HA1
  rw [← hp] at HA2
  rw [← hq, ← hp] at HO
  obtain ⟨i0, hi, hz0, hz1, hz2⟩ := info_parts int_info
  have MI := Lib.hid (And.intro hi (And.intro hz0 (And.intro hz1 hz2)))
  clear hi hz0 hz1 hz2 hq hp hOL hX hR HA
  have l0 := L0.out.cell 0
  have l1 := L0.out.cell 1
  have l2 := L0.out.cell 2
  have l3 := L0.out.cell 3
  have l4 := L0.out.cell 4
  have hwt : IntKind.i64.wrap (t - 1) = t - 1 := by rw [IntKind.wrap_i64]; omega
  by_cases h1 : q < 0
  · have HV := Lib.hid (show OL = [] by rw [HO.out, if_pos h1])
    have g1 : decide (q < 0) = true := decide_eq_true h1
    clear h1
    go_enter Tryd.func43, Tryd.ntmps43
    go_upto_region 1 with fail
    rw [← HXe.out]
    go_wp2_with (go_at_call 44; go_must (refine HA1.out.mono ?_); rintro e w1 ⟨rfl, hb1⟩; have HB1 := Lib.hid (HB0.out.trans (hb1.mono HB0.out.size)); clear hb1)
    go_ret
    exact ⟨⟨_, rfl, by rw [HV.out]; exact Own.nil_⟩, HB1.out⟩
  · have g1 : decide (q < 0) = false := decide_eq_false h1
    have HV := Lib.hid (show OL = if l.tail = true ∧ 0 ≤ p then [q, p] else [q] by rw [HO.out, if_neg h1])
    clear h1
    go_enter Tryd.func43, Tryd.ntmps43
    go_upto_region 1 with fail
    rw [← HXe.out]
    go_upto_region 4 with (go_at_call 44; go_must (refine HA1.out.mono ?_); rintro e w1 ⟨rfl, hb1⟩; have HB1 := Lib.hid (HB0.out.trans (hb1.mono HB0.out.size)); have L1 := Lib.hid (L0.out.below' hb1); clear hb1)
    go_upto_region 5 with fail
    have O5 := Lib.hid (own_one (Blk.new w1 3 #[.int .i64 q]) (lst [q]) rfl)
    have L5 := Lib.hid (L1.out.alloc (.cells #[.int .i64 q] 3))
    have HB5 := Lib.hid (HB1.out.alloc HB1.out.size (.cells #[.int .i64 q] 3))
    have hz1 := HB1.out.size
    generalize hG : w1.heap.size = G at O5 hz1 ⊢
    generalize w1.alloc (.cells #[.int .i64 q] 3) = X5 at O5 L5 HB5 ⊢
    clear hG l0 l1 l2 l3 l4
    have m0 := L5.out.cell 0
    have m1 := L5.out.cell 1
    have m2 := L5.out.cell 2
    have m3 := L5.out.cell 3
    have m4 := L5.out.cell 4
    have HA5 := Lib.hid (HA2.out X5 HB5.out)
    go_upto_region 6 with (go_at_call 44; go_must (refine HA5.out.mono ?_); rintro e w6 ⟨rfl, hb6⟩; have HB6 := Lib.hid (HB5.out.trans (hb6.mono HB5.out.size)); have L6 := Lib.hid (L5.out.below' hb6); have O6 := Lib.hid (O5.out.below hb6); clear hb6)
    clear m0 m1 m2 m3 m4
    have m3 := L6.out.cell 3
    have hz6 := HB6.out.size
    have hG6 : G ≤ w6.heap.size := Nat.le_of_lt (O6.out.block rfl).2
    cases htl : l.tail
    · have HV2 := Lib.hid (show OL = [q] by rw [HV.out, htl]; simp)
      rw [htl] at m3
      clear htl
      go_wp2_with fail
      go_ret
      exact ⟨⟨_, rfl, by rw [HV2.out]; exact O6.out.less hz1⟩, HB6.out⟩
    · by_cases h2 : 0 ≤ p
      · have HV2 := Lib.hid (show OL = [q, p] by rw [HV.out, htl]; simp [h2])
        have g2 : decide (0 ≤ p) = true := decide_eq_true h2
        rw [htl] at m3
        clear h2 htl
        go_wp2_with (at_builtin; go_must (refine wpList_app rfl (.tmp 25) (.tmp 27) 22 rfl w.heap.size 3 1 8 Tryd.underlying22 MI.out.1 MI.out.2.1 MI.out.2.2.1 MI.out.2.2.2 rfl (by decide) (by decide) ((O6.out.less hz1).alloc _) rfl (by omega) (by simp; omega) w6.heap.size 1 (fun _ => .int .i64 p) rfl (cell_last rfl) (fun _ _ => rfl) ?_); intro v7 w7 o7 hg7 hat7; have HO7 := Lib.hid o7; have HG7 := Lib.hid hg7; clear o7 hg7 hat7)
        go_ret
        refine ⟨⟨_, rfl, ?_⟩, (HB6.out.alloc hz6 (.cells #[.int .i64 p] 3)).grown HG7.out (by simp; omega) (fun g hg => ((O6.out.less hz1).block hg).1)⟩
        rw [HV2.out]
        exact HO7.out.congr (lst_app [q] p)
      · have HV2 := Lib.hid (show OL = [q] by rw [HV.out, htl]; simp [h2])
        have g2 : decide (0 ≤ p) = false := decide_eq_false h2
        rw [htl] at m3
        clear h2 htl
        go_wp2_with fail
        go_ret
        exact ⟨⟨_, rfl, by rw [HV2.out]; exact O6.out.less hz1⟩, HB6.out⟩
end
end Go.Proofs.YtkdpmihdhiokkaaDoor
