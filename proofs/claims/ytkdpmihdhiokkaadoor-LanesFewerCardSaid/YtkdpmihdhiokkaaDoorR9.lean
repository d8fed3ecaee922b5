/- The reference: Clash. -/
import Derived.Test.YtkdpmihdhiokkaaDoorR8
import Derived.Test.YtkdpmihdhiokkaaDoorMix
import Derived.Test.YtkdpmihdhiokkaaDoorLaF
namespace Go.Proofs.YtkdpmihdhiokkaaDoor
open Go.RowKit

def endR (p q p' q' : Int) : Bool := decide (0 ≤ p) && decide (0 ≤ q) && decide (0 ≤ p') && decide (0 ≤ q') && decide (q = p') && decide (q' = p) && decide (p ≠ p')
theorem legC_R (a b : M.Leg) (t : Int) : M.legC a b t = (decide (a.lv = b.lv) && ((M.occL a.tail (M.atC a (t - 1)) (M.atC a t)).any (fun x => (M.occL b.tail (M.atC b (t - 1)) (M.atC b t)).any fun y => decide (x = y)) || endR (M.atC a (t - 1)) (M.atC a t) (M.atC b (t - 1)) (M.atC b t))) := by
  have h := M.clashR_eq a.lv b.lv a.tail b.tail (M.atC a (t - 1)) (M.atC a t) (M.atC b (t - 1)) (M.atC b t)
  unfold M.legC
  rw [← h]
  rfl
theorem getD_mem {L : List Int} {i : Nat} (hi : i < L.length) : L.getD i 0 ∈ L := by rw [List.getD_eq_getElem?_getD, List.getElem?_eq_getElem hi, Option.getD_some]; exact List.getElem_mem hi
theorem any_none {X Y : List Int} (h : ∀ i, i < X.length → ∀ k, k < Y.length → X.getD i 0 ≠ Y.getD k 0) : X.any (fun x => Y.any fun y => decide (x = y)) = false := by
  rw [List.any_eq_false]
  intro x hx
  rw [Bool.not_eq_true, List.any_eq_false]
  intro y hy
  obtain ⟨i, hi, rfl⟩ := List.getElem_of_mem hx
  obtain ⟨k, hk, rfl⟩ := List.getElem_of_mem hy
  have := h i hi k hk
  simp only [List.getD_eq_getElem?_getD, List.getElem?_eq_getElem hi, List.getElem?_eq_getElem hk, Option.getD_some] at this
  simpa using this
theorem any_some {X Y : List Int} {i k : Nat} (hi : i < X.length) (hk : k < Y.length) (h : X.getD i 0 = Y.getD k 0) : X.any (fun x => Y.any fun y => decide (x = y)) = true := by
  rw [List.any_eq_true]
  refine ⟨_, getD_mem hi, ?_⟩
  rw [List.any_eq_true]
  exact ⟨_, getD_mem hk, by rw [h]; simp⟩
section
variable (a b : M.Leg) (cc cc' B : Nat) (cA cA' : Option Addr) (t : Int) (w : World)
set_option maxRecDepth 100000 in
set_option maxHeartbeats 32000000 in
theorem rclash_any (hb : -50 ≤ t ∧ t ≤ 90) (ha1 : -100 ≤ a.at_ ∧ a.at_ ≤ 100) (hb1 : -100 ≤ b.at_ ∧ b.at_ ≤ 100) (han : a.n ≤ 100) (hbn : b.n ≤ 100) (hR : Rd1 w B cA a.n a.c) (hR' : Rd1 w B cA' b.n b.c) (hB : B ≤ w.heap.size) :
    Calls Tryd.prog 19 #[.agg #[.int .i64 a.at_, .int .i64 a.lv, .int .i64 a.dr, .bool a.tail, .slice cA a.n cc], .agg #[.int .i64 b.at_, .int .i64 b.lv, .int .i64 b.dr, .bool b.tail, .slice cA' b.n cc'], .int .i64 t] w fun e w' => e = .returned (.bool (M.legC a b t)) ∧ Below w.heap.size w w' := by
  have HLC := Lib.hid (legC_R a b t)
  obtain ⟨RR, hRR⟩ : ∃ RR, RR = M.legC a b t := ⟨_, rfl⟩
  rw [← hRR] at HLC
  rw [← hRR]
  clear hRR
  have HB0 := Lib.hid (belowAlloc2 w (.cells #[.int .i64 a.at_, .int .i64 a.lv, .int .i64 a.dr, .bool a.tail, .slice cA a.n cc] 41) (.cells #[.int .i64 b.at_, .int .i64 b.lv, .int .i64 b.dr, .bool b.tail, .slice cA' b.n cc'] 41))
  have LAr := Lib.hid ((Blk.new w 41 #[.int .i64 a.at_, .int .i64 a.lv, .int .i64 a.dr, .bool a.tail, .slice cA a.n cc]).alloc (.cells #[.int .i64 b.at_, .int .i64 b.lv, .int .i64 b.dr, .bool b.tail, .slice cA' b.n cc'] 41))
  have LBr := Lib.hid (Blk.new1 w (.cells #[.int .i64 a.at_, .int .i64 a.lv, .int .i64 a.dr, .bool a.tail, .slice cA a.n cc] 41) 41 #[.int .i64 b.at_, .int .i64 b.lv, .int .i64 b.dr, .bool b.tail, .slice cA' b.n cc'])
  obtain ⟨X, hX⟩ : ∃ X, X = (w.alloc (.cells #[.int .i64 a.at_, .int .i64 a.lv, .int .i64 a.dr, .bool a.tail, .slice cA a.n cc] 41)).alloc (.cells #[.int .i64 b.at_, .int .i64 b.lv, .int .i64 b.dr, .bool b.tail, .slice cA' b.n cc'] 41) := ⟨_, rfl⟩
  have HXe := Lib.hid hX
  rw [← hX] at HB0 LAr LBr
  clear hX
  have x1 := LAr.out.cell 1
  have y1 := LBr.out.cell 1
  by_cases hlv : a.lv = b.lv
  · have g : (a.lv != b.lv) = false := by rw [hlv]; simp
    have HLV := Lib.hid (show RR = ((M.occL a.tail (M.atC a (t - 1)) (M.atC a t)).any (fun x => (M.occL b.tail (M.atC b (t - 1)) (M.atC b t)).any fun y => decide (x = y)) || endR (M.atC a (t - 1)) (M.atC a t) (M.atC b (t - 1)) (M.atC b t)) by rw [HLC.out, decide_eq_true hlv, Bool.true_and])
    have HRA := Lib.hid (fun W (hb : Below w.heap.size w W) => hR.below (hb.mono hB))
    have HRB := Lib.hid (fun W (hb : Below w.heap.size w W) => hR'.below (hb.mono hB))
    have HOA := Lib.hid (fun W (hb2 : Below X.heap.size X W) => occ_any a cc B cA t W (by omega) han (HRA.out W (HB0.out.trans (hb2.mono HB0.out.size))) (Nat.le_trans hB (Nat.le_trans HB0.out.size hb2.size)))
    have HOB := Lib.hid (fun W (hb2 : Below X.heap.size X W) => occ_any b cc' B cA' t W (by omega) hbn (HRB.out W (HB0.out.trans (hb2.mono HB0.out.size))) (Nat.le_trans hB (Nat.le_trans HB0.out.size hb2.size)))
    have HAT := Lib.hid (fun W u (hu : u = t ∨ u = t - 1) (hb2 : Below X.heap.size X W) => rat_any a cc B cA u W (by omega) (by omega) (HRA.out W (HB0.out.trans (hb2.mono HB0.out.size))) (Nat.le_trans hB (Nat.le_trans HB0.out.size hb2.size)))
    have HBT := Lib.hid (fun W u (hu : u = t ∨ u = t - 1) (hb2 : Below X.heap.size X W) => rat_any b cc' B cA' u W (by omega) (by omega) (HRB.out W (HB0.out.trans (hb2.mono HB0.out.size))) (Nat.le_trans hB (Nat.le_trans HB0.out.size hb2.size)))
    have hwt : IntKind.i64.wrap (t - 1) = t - 1 := by rw [IntKind.wrap_i64]; omega
    obtain ⟨XL, hXL⟩ : ∃ XL, XL = M.occL a.tail (M.atC a (t - 1)) (M.atC a t) := ⟨_, rfl⟩
    obtain ⟨YL, hYL⟩ : ∃ YL, YL = M.occL b.tail (M.atC b (t - 1)) (M.atC b t) := ⟨_, rfl⟩
    have hxl : XL.length ≤ 2 := by rw [hXL]; unfold M.occL; split; simp; split <;> simp
    have hyl : YL.length ≤ 2 := by rw [hYL]; unfold M.occL; split; simp; split <;> simp
    rw [← hXL] at HOA HLV
    rw [← hYL] at HOB HLV
    clear hXL hYL hlv hR hR' HLC
    go_enter Tryd.func19, Tryd.ntmps19
    go_upto_region 1 with fail
    rw [← HXe.out]
    clear HXe
    go_upto_region 3 with fail
    clear x1 y1
    refine wp_region_T 7 (fun w' => Below X.heap.size X w') (by kernel_rfl) (Below.refl _ _).drew ?_
    intro hS
    refine wpAnyT_take (i := 0) (v := ?_) rfl (by kernel_rfl) (by kernel_rfl) (by kernel_rfl) (by kernel_rfl) (by kernel_rfl) (fun _ _ _ h => h) (.inl ⟨by kernel_rfl, ?_⟩) hS ?_
    rotate_left
    · (intro w' hw; have a0 := (LAr.out.below' hw).cell 0; have a1 := (LAr.out.below' hw).cell 1; have a2 := (LAr.out.below' hw).cell 2; have a3 := (LAr.out.below' hw).cell 3; have a4 := (LAr.out.below' hw).cell 4; have b0 := (LBr.out.below' hw).cell 0; have b1 := (LBr.out.below' hw).cell 1; have b2 := (LBr.out.below' hw).cell 2; have b3 := (LBr.out.below' hw).cell 3; have b4 := (LBr.out.below' hw).cell 4; go_simp; try with_reducible rfl)
    try simp only [put_laws]
    refine wpAnyT_take (i := 1) (v := ?_) rfl (by kernel_rfl) (by kernel_rfl) (by kernel_rfl) (by kernel_rfl) (by kernel_rfl) (fun _ _ _ h => h) (.inl ⟨by kernel_rfl, ?_⟩) hS ?_
    rotate_left
    · (intro w' hw; have a0 := (LAr.out.below' hw).cell 0; have a1 := (LAr.out.below' hw).cell 1; have a2 := (LAr.out.below' hw).cell 2; have a3 := (LAr.out.below' hw).cell 3; have a4 := (LAr.out.below' hw).cell 4; have b0 := (LBr.out.below' hw).cell 0; have b1 := (LBr.out.below' hw).cell 1; have b2 := (LBr.out.below' hw).cell 2; have b3 := (LBr.out.below' hw).cell 3; have b4 := (LBr.out.below' hw).cell 4; go_simp; try with_reducible rfl)
    try simp only [put_laws]
    refine wpAnyT_take (i := 3) (v := ?_) rfl (by kernel_rfl) (by kernel_rfl) (by kernel_rfl) (by kernel_rfl) (by kernel_rfl) (fun _ _ _ h => h) (.inl ⟨by kernel_rfl, ?_⟩) hS ?_
    rotate_left
    · (intro w' hw; have a0 := (LAr.out.below' hw).cell 0; have a1 := (LAr.out.below' hw).cell 1; have a2 := (LAr.out.below' hw).cell 2; have a3 := (LAr.out.below' hw).cell 3; have a4 := (LAr.out.below' hw).cell 4; have b0 := (LBr.out.below' hw).cell 0; have b1 := (LBr.out.below' hw).cell 1; have b2 := (LBr.out.below' hw).cell 2; have b3 := (LBr.out.below' hw).cell 3; have b4 := (LBr.out.below' hw).cell 4; go_simp; try with_reducible rfl)
    try simp only [put_laws]
    refine wpAnyT_take (i := 4) (v := ?_) rfl (by kernel_rfl) (by kernel_rfl) (by kernel_rfl) (by kernel_rfl) (by kernel_rfl) (fun _ _ _ h => h) (.inl ⟨by kernel_rfl, ?_⟩) hS ?_
    rotate_left
    · (intro w' hw; have a0 := (LAr.out.below' hw).cell 0; have a1 := (LAr.out.below' hw).cell 1; have a2 := (LAr.out.below' hw).cell 2; have a3 := (LAr.out.below' hw).cell 3; have a4 := (LAr.out.below' hw).cell 4; have b0 := (LBr.out.below' hw).cell 0; have b1 := (LBr.out.below' hw).cell 1; have b2 := (LBr.out.below' hw).cell 2; have b3 := (LBr.out.below' hw).cell 3; have b4 := (LBr.out.below' hw).cell 4; go_simp; try with_reducible rfl)
    try simp only [put_laws]
    refine wpAnyT_one (i := 2) (by kernel_rfl) rfl ?_
    intro K' hK'
    go_simp
    refine (HOA.out _ hS).mono ?_
    rintro e w5 ⟨⟨v5, rfl, ho5⟩, hb5⟩
    have hS' := Below.trans hS (Below.mono hb5 (Below.size hS))
    clear hS
    have hS := hS'
    clear hS'
    refine hK'.out _ _ (.inr hS) ?_
    clear hK' K'
    try simp only [put_laws]
    refine wpAnyT_one (i := 5) (by kernel_rfl) rfl ?_
    intro K' hK'
    go_simp
    refine (HOB.out _ hS).mono ?_
    rintro e w6 ⟨⟨v6, rfl, ho6⟩, hb6⟩
    have hS' := Below.trans hS (Below.mono hb6 (Below.size hS))
    clear hS
    have hS := hS'
    clear hS'
    refine hK'.out _ _ (.inr hS) ?_
    clear hK' K'
    try simp only [put_laws]
    refine wpAnyT_one (i := 6) (by kernel_rfl) rfl ?_
    intro K' hK'
    go_simp
    refine hK'.out _ _ (.inr hS) ?_
    clear hK' K'
    try simp only [put_laws]
    refine wpAnyT_one (i := 7) (by kernel_rfl) rfl ?_
    intro K' hK'
    go_simp
    refine hK'.out _ _ (.inl rfl) ?_
    clear hK' K'
    try simp only [put_laws]
    refine wpAnyT_done (by kernel_rfl) ?_ _
    have HSZ := Lib.hid hS
    obtain ⟨vA, vc, rfl⟩ := ho5.form
    obtain ⟨wA, wc', rfl⟩ := ho6.form
    have OX := Lib.hid (ho5.below hb6)
    have OY := Lib.hid ho6
    have LAz := Lib.hid (LAr.out.below' hS)
    have LBz := Lib.hid (LBr.out.below' hS)
    have hzX := hS.size
    clear ho5 ho6 hb5 hb6 hS HOA HOB
    obtain ⟨Z, rfl⟩ : ∃ Z, Z = w6 := ⟨_, rfl⟩
    have HEZ := Lib.hid (fun n => (HB0.out.trans (HSZ.out.mono HB0.out.size)).drewN (w := Z) n)
    have HPA := Lib.hid (fun W (hb2 : Below Z.heap.size Z W) => HAT.out W (t - 1) (.inr rfl) (HSZ.out.trans (hb2.mono hzX)))
    have HQA := Lib.hid (fun W (hb2 : Below Z.heap.size Z W) => HAT.out W t (.inl rfl) (HSZ.out.trans (hb2.mono hzX)))
    have HPB := Lib.hid (fun W (hb2 : Below Z.heap.size Z W) => HBT.out W (t - 1) (.inr rfl) (HSZ.out.trans (hb2.mono hzX)))
    have HQB := Lib.hid (fun W (hb2 : Below Z.heap.size Z W) => HBT.out W t (.inl rfl) (HSZ.out.trans (hb2.mono hzX)))
    obtain ⟨p, hp⟩ : ∃ p, p = M.atC a (t - 1) := ⟨_, rfl⟩
    obtain ⟨q, hq⟩ : ∃ q, q = M.atC a t := ⟨_, rfl⟩
    obtain ⟨p', hp'⟩ : ∃ p', p' = M.atC b (t - 1) := ⟨_, rfl⟩
    obtain ⟨q', hq'⟩ : ∃ q', q' = M.atC b t := ⟨_, rfl⟩
    rw [← hp, ← hq, ← hp', ← hq'] at HLV
    rw [← hp] at HPA
    rw [← hq] at HQA
    rw [← hp'] at HPB
    rw [← hq'] at HQB
    clear hp hq hp' hq' HAT HBT HRA HRB
    go_wp2_with fail
    go_loopw [9] (fun i wr => ∃ k n : Nat, k ≤ XL.length ∧ i = .int .i64 (k : Int) ∧ Hid (∀ u, u < k → ∀ v, v < YL.length → XL.getD u 0 ≠ YL.getD v 0) ∧ wr = Z.drewN n) (fun i _ => XL.length - (intOf i).toNat)
    case atStart => exact ⟨0, 0, Nat.zero_le _, rfl, Lib.hid fun u hu => absurd hu (by omega), rfl⟩
    case round =>
      obtain ⟨i, n, hi, rfl, HNX, rfl⟩ := hrel
      by_cases hlt : i < XL.length
      · obtain ⟨gx, cx, ex⟩ := OX.out.nz (by omega)
        injection ex with ex1 _ ex2
        subst ex1; subst ex2
        have x0 : ∀ n, (Z.drewN n).cell? ⟨gx, i, none⟩ = some (.int .i64 (XL.getD i 0)) := fun n => OX.out.cell1 hlt
        have HX0 := Lib.hid x0
        clear x0
        have kx : decide (XL.length ≤ i) = false := decide_eq_false (by omega)
        go_wp2_with fail
        go_loopw [10] (fun i' wq => ∃ k n : Nat, k ≤ YL.length ∧ i' = .int .i64 (k : Int) ∧ Hid (∀ v, v < k → XL.getD i 0 ≠ YL.getD v 0) ∧ wq = Z.drewN n) (fun i' _ => YL.length - (intOf i').toNat)
        case atStart => exact ⟨0, n, Nat.zero_le _, rfl, Lib.hid fun u hu => absurd hu (by omega), rfl⟩
        case round =>
          obtain ⟨k, n', hk, rfl, HNY, rfl⟩ := hrel
          by_cases hlk : k < YL.length
          · obtain ⟨gy, cy, ey⟩ := OY.out.nz (by omega)
            injection ey with ey1 _ ey2
            subst ey1; subst ey2
            have x0 := HX0.out n'
            have y0 : (Z.drewN n').cell? ⟨gy, k, none⟩ = some (.int .i64 (YL.getD k 0)) := OY.out.cell1 hlk
            have ky : decide (YL.length ≤ k) = false := decide_eq_false (by omega)
            have HYES := Lib.hid (fun h : XL.getD i 0 = YL.getD k 0 => (show RR = true by rw [HLV.out, any_some hlt hlk h]; rfl))
            have HDR := Lib.hid (show ∀ m, ∃ n'', (Z.drewN n').drewN m = Z.drewN n'' from fun m => ⟨n' + m, by rw [World.drewN_drewN]⟩)
            have HED := Lib.hid (HEZ.out n')
            obtain ⟨u, hu⟩ : ∃ u, u = XL.getD i 0 := ⟨_, rfl⟩
            obtain ⟨v, hv⟩ : ∃ v, v = YL.getD k 0 := ⟨_, rfl⟩
            have HU := Lib.hid hu
            have HV := Lib.hid hv
            rw [← hu] at x0 HYES
            rw [← hv] at y0 HYES
            clear hu hv
            generalize Z.drewN n' = Y at x0 y0 HDR HED ⊢
            by_cases he : u = v
            · have ge : (u == v) = true := by rw [beq_iff_eq]; exact he
              have HE2 := Lib.hid (HYES.out he)
              clear he
              go_upto_region 10 with fail
              go_quiet (fail)
              go_wp2_with fail
              go_ret
              exact ⟨ret_bool HE2.out.symm, HED.out.drewN nq⟩
            · have ge : (u == v) = false := by rw [beq_eq_false_iff_ne]; exact he
              have HE2 := Lib.hid he
              clear he
              go_upto_region 10 with fail
              go_quiet (fail)
              go_wp2_with fail
              go_roundw
              case rel =>
                obtain ⟨n'', hn''⟩ := HDR.out nq
                exact ⟨k + 1, n'', by omega, by go_num, Lib.hid fun v' hv' => by
                  rcases Nat.lt_succ_iff_lt_or_eq.1 hv' with h | h
                  · exact HNY.out v' h
                  · subst h; rw [← HU.out, ← HV.out]; exact HE2.out, hn''⟩
              case measure => simp [intOf]; omega
          · obtain rfl : k = YL.length := by omega
            go_wp2_with fail
            go_roundw
            case rel => exact ⟨i + 1, n', by omega, by go_num, Lib.hid fun u hu => by
              rcases Nat.lt_succ_iff_lt_or_eq.1 hu with h | h
              · exact HNX.out u h
              · subst h; exact HNY.out, rfl⟩
            case measure => simp [intOf]; omega
      · obtain rfl : i = XL.length := by omega
        have HFIN := Lib.hid (show RR = endR p q p' q' by rw [HLV.out, any_none HNX.out, Bool.false_or])
        go_upto_region 12 with fail
        refine wp_region_T 17 (fun w' => Below Z.heap.size Z w') (by kernel_rfl) ((Below.refl _ _).drewN _).drew ?_
        intro hS
        refine wpAnyT_take (i := 0) (v := ?_) rfl (by kernel_rfl) (by kernel_rfl) (by kernel_rfl) (by kernel_rfl) (by kernel_rfl) (fun _ _ _ h => h) (.inl ⟨by kernel_rfl, ?_⟩) hS ?_
        rotate_left
        · (intro w' hw; have a0 := (LAz.out.below' hw).cell 0; have a1 := (LAz.out.below' hw).cell 1; have a2 := (LAz.out.below' hw).cell 2; have a3 := (LAz.out.below' hw).cell 3; have a4 := (LAz.out.below' hw).cell 4; have b0 := (LBz.out.below' hw).cell 0; have b1 := (LBz.out.below' hw).cell 1; have b2 := (LBz.out.below' hw).cell 2; have b3 := (LBz.out.below' hw).cell 3; have b4 := (LBz.out.below' hw).cell 4; go_simp; try with_reducible rfl)
        try simp only [put_laws]
        refine wpAnyT_take (i := 1) (v := ?_) rfl (by kernel_rfl) (by kernel_rfl) (by kernel_rfl) (by kernel_rfl) (by kernel_rfl) (fun _ _ _ h => h) (.inl ⟨by kernel_rfl, ?_⟩) hS ?_
        rotate_left
        · (intro w' hw; have a0 := (LAz.out.below' hw).cell 0; have a1 := (LAz.out.below' hw).cell 1; have a2 := (LAz.out.below' hw).cell 2; have a3 := (LAz.out.below' hw).cell 3; have a4 := (LAz.out.below' hw).cell 4; have b0 := (LBz.out.below' hw).cell 0; have b1 := (LBz.out.below' hw).cell 1; have b2 := (LBz.out.below' hw).cell 2; have b3 := (LBz.out.below' hw).cell 3; have b4 := (LBz.out.below' hw).cell 4; go_simp; try with_reducible rfl)
        try simp only [put_laws]
        refine wpAnyT_take (i := 2) (v := ?_) rfl (by kernel_rfl) (by kernel_rfl) (by kernel_rfl) (by kernel_rfl) (by kernel_rfl) (fun _ _ _ h => h) (.inl ⟨by kernel_rfl, ?_⟩) hS ?_
        rotate_left
        · (intro w' hw; have a0 := (LAz.out.below' hw).cell 0; have a1 := (LAz.out.below' hw).cell 1; have a2 := (LAz.out.below' hw).cell 2; have a3 := (LAz.out.below' hw).cell 3; have a4 := (LAz.out.below' hw).cell 4; have b0 := (LBz.out.below' hw).cell 0; have b1 := (LBz.out.below' hw).cell 1; have b2 := (LBz.out.below' hw).cell 2; have b3 := (LBz.out.below' hw).cell 3; have b4 := (LBz.out.below' hw).cell 4; go_simp; try with_reducible rfl)
        try simp only [put_laws]
        refine wpAnyT_take (i := 4) (v := ?_) rfl (by kernel_rfl) (by kernel_rfl) (by kernel_rfl) (by kernel_rfl) (by kernel_rfl) (fun _ _ _ h => h) (.inl ⟨by kernel_rfl, ?_⟩) hS ?_
        rotate_left
        · (intro w' hw; have a0 := (LAz.out.below' hw).cell 0; have a1 := (LAz.out.below' hw).cell 1; have a2 := (LAz.out.below' hw).cell 2; have a3 := (LAz.out.below' hw).cell 3; have a4 := (LAz.out.below' hw).cell 4; have b0 := (LBz.out.below' hw).cell 0; have b1 := (LBz.out.below' hw).cell 1; have b2 := (LBz.out.below' hw).cell 2; have b3 := (LBz.out.below' hw).cell 3; have b4 := (LBz.out.below' hw).cell 4; go_simp; try with_reducible rfl)
        try simp only [put_laws]
        refine wpAnyT_take (i := 5) (v := ?_) rfl (by kernel_rfl) (by kernel_rfl) (by kernel_rfl) (by kernel_rfl) (by kernel_rfl) (fun _ _ _ h => h) (.inl ⟨by kernel_rfl, ?_⟩) hS ?_
        rotate_left
        · (intro w' hw; have a0 := (LAz.out.below' hw).cell 0; have a1 := (LAz.out.below' hw).cell 1; have a2 := (LAz.out.below' hw).cell 2; have a3 := (LAz.out.below' hw).cell 3; have a4 := (LAz.out.below' hw).cell 4; have b0 := (LBz.out.below' hw).cell 0; have b1 := (LBz.out.below' hw).cell 1; have b2 := (LBz.out.below' hw).cell 2; have b3 := (LBz.out.below' hw).cell 3; have b4 := (LBz.out.below' hw).cell 4; go_simp; try with_reducible rfl)
        try simp only [put_laws]
        refine wpAnyT_take (i := 7) (v := ?_) rfl (by kernel_rfl) (by kernel_rfl) (by kernel_rfl) (by kernel_rfl) (by kernel_rfl) (fun _ _ _ h => h) (.inl ⟨by kernel_rfl, ?_⟩) hS ?_
        rotate_left
        · (intro w' hw; have a0 := (LAz.out.below' hw).cell 0; have a1 := (LAz.out.below' hw).cell 1; have a2 := (LAz.out.below' hw).cell 2; have a3 := (LAz.out.below' hw).cell 3; have a4 := (LAz.out.below' hw).cell 4; have b0 := (LBz.out.below' hw).cell 0; have b1 := (LBz.out.below' hw).cell 1; have b2 := (LBz.out.below' hw).cell 2; have b3 := (LBz.out.below' hw).cell 3; have b4 := (LBz.out.below' hw).cell 4; go_simp; try with_reducible rfl)
        try simp only [put_laws]
        refine wpAnyT_take (i := 8) (v := ?_) rfl (by kernel_rfl) (by kernel_rfl) (by kernel_rfl) (by kernel_rfl) (by kernel_rfl) (fun _ _ _ h => h) (.inl ⟨by kernel_rfl, ?_⟩) hS ?_
        rotate_left
        · (intro w' hw; have a0 := (LAz.out.below' hw).cell 0; have a1 := (LAz.out.below' hw).cell 1; have a2 := (LAz.out.below' hw).cell 2; have a3 := (LAz.out.below' hw).cell 3; have a4 := (LAz.out.below' hw).cell 4; have b0 := (LBz.out.below' hw).cell 0; have b1 := (LBz.out.below' hw).cell 1; have b2 := (LBz.out.below' hw).cell 2; have b3 := (LBz.out.below' hw).cell 3; have b4 := (LBz.out.below' hw).cell 4; go_simp; try with_reducible rfl)
        try simp only [put_laws]
        refine wpAnyT_take (i := 9) (v := ?_) rfl (by kernel_rfl) (by kernel_rfl) (by kernel_rfl) (by kernel_rfl) (by kernel_rfl) (fun _ _ _ h => h) (.inl ⟨by kernel_rfl, ?_⟩) hS ?_
        rotate_left
        · (intro w' hw; have a0 := (LAz.out.below' hw).cell 0; have a1 := (LAz.out.below' hw).cell 1; have a2 := (LAz.out.below' hw).cell 2; have a3 := (LAz.out.below' hw).cell 3; have a4 := (LAz.out.below' hw).cell 4; have b0 := (LBz.out.below' hw).cell 0; have b1 := (LBz.out.below' hw).cell 1; have b2 := (LBz.out.below' hw).cell 2; have b3 := (LBz.out.below' hw).cell 3; have b4 := (LBz.out.below' hw).cell 4; go_simp; try with_reducible rfl)
        try simp only [put_laws]
        refine wpAnyT_take (i := 11) (v := ?_) rfl (by kernel_rfl) (by kernel_rfl) (by kernel_rfl) (by kernel_rfl) (by kernel_rfl) (fun _ _ _ h => h) (.inl ⟨by kernel_rfl, ?_⟩) hS ?_
        rotate_left
        · (intro w' hw; have a0 := (LAz.out.below' hw).cell 0; have a1 := (LAz.out.below' hw).cell 1; have a2 := (LAz.out.below' hw).cell 2; have a3 := (LAz.out.below' hw).cell 3; have a4 := (LAz.out.below' hw).cell 4; have b0 := (LBz.out.below' hw).cell 0; have b1 := (LBz.out.below' hw).cell 1; have b2 := (LBz.out.below' hw).cell 2; have b3 := (LBz.out.below' hw).cell 3; have b4 := (LBz.out.below' hw).cell 4; go_simp; try with_reducible rfl)
        try simp only [put_laws]
        refine wpAnyT_take (i := 12) (v := ?_) rfl (by kernel_rfl) (by kernel_rfl) (by kernel_rfl) (by kernel_rfl) (by kernel_rfl) (fun _ _ _ h => h) (.inl ⟨by kernel_rfl, ?_⟩) hS ?_
        rotate_left
        · (intro w' hw; have a0 := (LAz.out.below' hw).cell 0; have a1 := (LAz.out.below' hw).cell 1; have a2 := (LAz.out.below' hw).cell 2; have a3 := (LAz.out.below' hw).cell 3; have a4 := (LAz.out.below' hw).cell 4; have b0 := (LBz.out.below' hw).cell 0; have b1 := (LBz.out.below' hw).cell 1; have b2 := (LBz.out.below' hw).cell 2; have b3 := (LBz.out.below' hw).cell 3; have b4 := (LBz.out.below' hw).cell 4; go_simp; try with_reducible rfl)
        try simp only [put_laws]
        refine wpAnyT_one (i := 3) (by kernel_rfl) rfl ?_
        intro K' hK'
        go_simp
        refine (HPA.out _ hS).mono ?_
        rintro e w8 ⟨rfl, hb8⟩
        have hS' := Below.trans hS (Below.mono hb8 (Below.size hS))
        clear hS
        have hS := hS'
        clear hS' hb8
        refine hK'.out _ _ (.inr hS) ?_
        clear hK' K'
        try simp only [put_laws]
        refine wpAnyT_one (i := 6) (by kernel_rfl) rfl ?_
        intro K' hK'
        go_simp
        refine (HQA.out _ hS).mono ?_
        rintro e w8 ⟨rfl, hb8⟩
        have hS' := Below.trans hS (Below.mono hb8 (Below.size hS))
        clear hS
        have hS := hS'
        clear hS' hb8
        refine hK'.out _ _ (.inr hS) ?_
        clear hK' K'
        try simp only [put_laws]
        refine wpAnyT_one (i := 10) (by kernel_rfl) rfl ?_
        intro K' hK'
        go_simp
        refine (HPB.out _ hS).mono ?_
        rintro e w8 ⟨rfl, hb8⟩
        have hS' := Below.trans hS (Below.mono hb8 (Below.size hS))
        clear hS
        have hS := hS'
        clear hS' hb8
        refine hK'.out _ _ (.inr hS) ?_
        clear hK' K'
        try simp only [put_laws]
        refine wpAnyT_one (i := 13) (by kernel_rfl) rfl ?_
        intro K' hK'
        go_simp
        refine (HQB.out _ hS).mono ?_
        rintro e w8 ⟨rfl, hb8⟩
        have hS' := Below.trans hS (Below.mono hb8 (Below.size hS))
        clear hS
        have hS := hS'
        clear hS' hb8
        refine hK'.out _ _ (.inr hS) ?_
        clear hK' K'
        try simp only [put_laws]
        refine wpAnyT_one (i := 14) (by kernel_rfl) rfl ?_
        intro K' hK'
        go_simp
        refine hK'.out _ _ (.inr hS) ?_
        clear hK' K'
        try simp only [put_laws]
        refine wpAnyT_one (i := 15) (by kernel_rfl) rfl ?_
        intro K' hK'
        go_simp
        refine hK'.out _ _ (.inr hS) ?_
        clear hK' K'
        try simp only [put_laws]
        refine wpAnyT_one (i := 16) (by kernel_rfl) rfl ?_
        intro K' hK'
        go_simp
        refine hK'.out _ _ (.inr hS) ?_
        clear hK' K'
        try simp only [put_laws]
        refine wpAnyT_one (i := 17) (by kernel_rfl) rfl ?_
        intro K' hK'
        go_simp
        refine hK'.out _ _ (.inl rfl) ?_
        clear hK' K'
        try simp only [put_laws]
        refine wpAnyT_done (by kernel_rfl) ?_ _
        have HE := Lib.hid ((HEZ.out 0).trans (Below.mono hS (Nat.le_trans HB0.out.size hzX)))
        clear hS
        by_cases h0 : 0 ≤ p
        rotate_left
        · have g0 : decide (0 ≤ p) = false := decide_eq_false h0
          have HN := Lib.hid (show endR p q p' q' = false from by unfold endR; rw [decide_eq_false h0]; simp)
          clear h0
          go_wp2_with fail
          go_ret
          exact ⟨ret_bool (by rw [HFIN.out, HN.out]), HE.out⟩
        · have g0 : decide (0 ≤ p) = true := decide_eq_true h0
          by_cases h1 : 0 ≤ q
          rotate_left
          · have g1 : decide (0 ≤ q) = false := decide_eq_false h1
            have HN := Lib.hid (show endR p q p' q' = false from by unfold endR; rw [decide_eq_false h1]; simp)
            clear h0 h1
            go_wp2_with fail
            go_ret
            exact ⟨ret_bool (by rw [HFIN.out, HN.out]), HE.out⟩
          · have g1 : decide (0 ≤ q) = true := decide_eq_true h1
            by_cases h2 : 0 ≤ p'
            rotate_left
            · have g2 : decide (0 ≤ p') = false := decide_eq_false h2
              have HN := Lib.hid (show endR p q p' q' = false from by unfold endR; rw [decide_eq_false h2]; simp)
              clear h0 h1 h2
              go_wp2_with fail
              go_ret
              exact ⟨ret_bool (by rw [HFIN.out, HN.out]), HE.out⟩
            · have g2 : decide (0 ≤ p') = true := decide_eq_true h2
              by_cases h3 : 0 ≤ q'
              rotate_left
              · have g3 : decide (0 ≤ q') = false := decide_eq_false h3
                have HN := Lib.hid (show endR p q p' q' = false from by unfold endR; rw [decide_eq_false h3]; simp)
                clear h0 h1 h2 h3
                go_wp2_with fail
                go_ret
                exact ⟨ret_bool (by rw [HFIN.out, HN.out]), HE.out⟩
              · have g3 : decide (0 ≤ q') = true := decide_eq_true h3
                by_cases h4 : q = p'
                rotate_left
                · have g4 : (q == p') = false := by rw [beq_eq_false_iff_ne]; exact h4
                  have HN := Lib.hid (show endR p q p' q' = false from by unfold endR; rw [decide_eq_false h4]; simp)
                  clear h0 h1 h2 h3 h4
                  go_wp2_with fail
                  go_ret
                  exact ⟨ret_bool (by rw [HFIN.out, HN.out]), HE.out⟩
                · have g4 : (q == p') = true := by rw [beq_iff_eq]; exact h4
                  by_cases h5 : q' = p
                  rotate_left
                  · have g5 : (q' == p) = false := by rw [beq_eq_false_iff_ne]; exact h5
                    have HN := Lib.hid (show endR p q p' q' = false from by unfold endR; rw [decide_eq_false h5]; simp)
                    clear h0 h1 h2 h3 h4 h5
                    go_wp2_with fail
                    go_ret
                    exact ⟨ret_bool (by rw [HFIN.out, HN.out]), HE.out⟩
                  · have g5 : (q' == p) = true := by rw [beq_iff_eq]; exact h5
                    by_cases h6 : p = p'
                    · have g6 : (p != p') = false := by rw [h6]; simp
                      have HN := Lib.hid (show endR p q p' q' = false from by unfold endR; rw [decide_eq_false (show ¬ p ≠ p' from fun f => f h6)]; simp)
                      clear h0 h1 h2 h3 h4 h5 h6
                      go_wp2_with fail
                      go_ret
                      exact ⟨ret_bool (by rw [HFIN.out, HN.out]), HE.out⟩
                    · have g6 : (p != p') = true := by rw [bne_iff_ne]; exact h6
                      have HN := Lib.hid (show endR p q p' q' = true from by unfold endR; rw [decide_eq_true h0, decide_eq_true h1, decide_eq_true h2, decide_eq_true h3, decide_eq_true h4, decide_eq_true h5, decide_eq_true h6]; rfl)
                      clear h0 h1 h2 h3 h4 h5 h6
                      go_wp2_with fail
                      go_ret
                      exact ⟨ret_bool (by rw [HFIN.out, HN.out]), HE.out⟩
  · have g : (a.lv != b.lv) = true := by rw [bne_iff_ne]; exact hlv
    have HF := Lib.hid (show RR = false by rw [HLC.out, decide_eq_false hlv]; rfl)
    clear hlv
    go_enter Tryd.func19, Tryd.ntmps19
    go_upto_region 1 with fail
    rw [← HXe.out]
    go_wp2_with fail
    go_ret
    exact ⟨ret_bool HF.out.symm, HB0.out⟩
end
end Go.Proofs.YtkdpmihdhiokkaaDoor
