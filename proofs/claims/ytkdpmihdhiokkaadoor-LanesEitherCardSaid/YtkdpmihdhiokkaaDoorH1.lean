/- LanesEither, walked. -/
import Derived.Test.YtkdpmihdhiokkaaDoorR11
import Derived.Test.YtkdpmihdhiokkaaDoorR9
import Derived.Test.YtkdpmihdhiokkaaDoorW
namespace Go.Proofs.YtkdpmihdhiokkaaDoor
open Go.RowKit

/-- two legs -/
def L2 (a b : M.Leg) : Nat → M.Leg := fun i => if i = 0 then a else b
theorem rdL_two {W : World} {G B : Nat} {a b : M.Leg} {cA cA' : Option Addr} {cc cc' : Nat} (h : Blk W G 41 #[.int .i64 a.at_, .int .i64 a.lv, .int .i64 a.dr, .bool a.tail, .slice cA a.n cc, .int .i64 b.at_, .int .i64 b.lv, .int .i64 b.dr, .bool b.tail, .slice cA' b.n cc'])
    (ha : Rd1 W B cA a.n a.c) (hb : Rd1 W B cA' b.n b.c) (han : a.n ≤ maxLen) (hbn : b.n ≤ maxLen) (hB : B ≤ W.heap.size) : RdL W W.heap.size (some ⟨G, 0, none⟩) 2 (L2 a b) := by
  refine .inr ⟨G, 0, rfl, h.lt, fun i hi => ?_⟩
  simp only [Nat.zero_add]
  obtain rfl | rfl : i = 0 ∨ i = 1 := by omega
  · exact ⟨h.cell 0, h.cell 1, h.cell 2, h.cell 3, cA, cc, h.cell 4, ha.more hB, han⟩
  · exact ⟨h.cell 5, h.cell 6, h.cell 7, h.cell 8, cA', cc', h.cell 9, hb.more hB, hbn⟩
theorem either_cl (s : M.Sea) (a b : M.Leg) : M.clAll s (L2 b a) 2 2 = M.clAll s (L2 a b) 2 2 := by
  rw [M.clTwo, M.clTwo]
  have h : M.firstC s (L2 b a) 0 1 = M.firstC s (L2 a b) 0 1 := M.firstC_symm b a
  rw [h]
section
variable (W H : Int) (dA tA sA cA cA' : Option Addr) (nd dc nt tc ns sc cc cc' B : Nat) (dep : Nat → Int) (tide : Nat → Nat → Int) (sw : Nat → Int) (a b : M.Leg) (w : World)
set_option maxRecDepth 100000 in
set_option maxHeartbeats 6400000 in
theorem lanesEither_any (hnd : nd ≤ maxLen) (hnt : nt ≤ maxLen) (hns : ns ≤ maxLen) (hw : Ways w) (hR : RdC w B dA tA sA nd nt ns dep tide sw) (hB : B ≤ w.heap.size) (ha : Rd1 w B cA a.n a.c) (hb : Rd1 w B cA' b.n b.c) (han : a.n ≤ maxLen) (hbn : b.n ≤ maxLen) :
    Calls Tryd.prog 4 #[.agg #[.int .i64 W, .int .i64 H, .slice dA nd dc, .slice tA nt tc, .slice sA ns sc], .agg #[.int .i64 a.at_, .int .i64 a.lv, .int .i64 a.dr, .bool a.tail, .slice cA a.n cc], .agg #[.int .i64 b.at_, .int .i64 b.lv, .int .i64 b.dr, .bool b.tail, .slice cA' b.n cc']] w fun e w' => e = .returned (.bool true) ∧ Below w.heap.size w w' := by
  have HB0 := Lib.hid (belowAlloc3 w (.cells #[.int .i64 W, .int .i64 H, .slice dA nd dc, .slice tA nt tc, .slice sA ns sc] 25) (.cells #[.int .i64 a.at_, .int .i64 a.lv, .int .i64 a.dr, .bool a.tail, .slice cA a.n cc] 41) (.cells #[.int .i64 b.at_, .int .i64 b.lv, .int .i64 b.dr, .bool b.tail, .slice cA' b.n cc'] 41))
  have C0 := Lib.hid (((Blk.new w 25 #[.int .i64 W, .int .i64 H, .slice dA nd dc, .slice tA nt tc, .slice sA ns sc]).alloc (.cells #[.int .i64 a.at_, .int .i64 a.lv, .int .i64 a.dr, .bool a.tail, .slice cA a.n cc] 41)).alloc (.cells #[.int .i64 b.at_, .int .i64 b.lv, .int .i64 b.dr, .bool b.tail, .slice cA' b.n cc'] 41))
  have A0 := Lib.hid ((Blk.new1 w (.cells #[.int .i64 W, .int .i64 H, .slice dA nd dc, .slice tA nt tc, .slice sA ns sc] 25) 41 #[.int .i64 a.at_, .int .i64 a.lv, .int .i64 a.dr, .bool a.tail, .slice cA a.n cc]).alloc (.cells #[.int .i64 b.at_, .int .i64 b.lv, .int .i64 b.dr, .bool b.tail, .slice cA' b.n cc'] 41))
  have B0 := Lib.hid (Blk.new2 w (.cells #[.int .i64 W, .int .i64 H, .slice dA nd dc, .slice tA nt tc, .slice sA ns sc] 25) (.cells #[.int .i64 a.at_, .int .i64 a.lv, .int .i64 a.dr, .bool a.tail, .slice cA a.n cc] 41) 41 #[.int .i64 b.at_, .int .i64 b.lv, .int .i64 b.dr, .bool b.tail, .slice cA' b.n cc'])
  obtain ⟨X, hX⟩ : ∃ X, X = ((w.alloc (.cells #[.int .i64 W, .int .i64 H, .slice dA nd dc, .slice tA nt tc, .slice sA ns sc] 25)).alloc (.cells #[.int .i64 a.at_, .int .i64 a.lv, .int .i64 a.dr, .bool a.tail, .slice cA a.n cc] 41)).alloc (.cells #[.int .i64 b.at_, .int .i64 b.lv, .int .i64 b.dr, .bool b.tail, .slice cA' b.n cc'] 41) := ⟨_, rfl⟩
  have HXe := Lib.hid hX
  rw [← hX] at HB0 C0 A0 B0
  clear hX
  have HRC := Lib.hid (fun V (hb2 : Below w.heap.size w V) => hR.below (hb2.mono hB))
  have HRA := Lib.hid (fun V (hb2 : Below w.heap.size w V) => ha.below (hb2.mono hB))
  have HRB := Lib.hid (fun V (hb2 : Below w.heap.size w V) => hb.below (hb2.mono hB))
  have HWY := Lib.hid (fun V (hb2 : Below w.heap.size w V) => hw.below hb2)
  have HBB := Lib.hid hB
  have HWO := Lib.hid (fun V (hb2 : Below w.heap.size w V) => works_any V (hw.below hb2))
  clear hR ha hb hw hB
  have HB1 := Lib.hid (HB0.out.alloc HB0.out.size (.cells #[.int .i64 a.at_, .int .i64 a.lv, .int .i64 a.dr, .bool a.tail, .slice cA a.n cc, .int .i64 b.at_, .int .i64 b.lv, .int .i64 b.dr, .bool b.tail, .slice cA' b.n cc'] 41))
  have HX1 := Lib.hid (belowAlloc X (.cells #[.int .i64 a.at_, .int .i64 a.lv, .int .i64 a.dr, .bool a.tail, .slice cA a.n cc, .int .i64 b.at_, .int .i64 b.lv, .int .i64 b.dr, .bool b.tail, .slice cA' b.n cc'] 41))
  have G1 := Lib.hid (Blk.new X 41 #[.int .i64 a.at_, .int .i64 a.lv, .int .i64 a.dr, .bool a.tail, .slice cA a.n cc, .int .i64 b.at_, .int .i64 b.lv, .int .i64 b.dr, .bool b.tail, .slice cA' b.n cc'])
  have HVA := Lib.hid (valid_cl W H dA tA sA (some ⟨X.heap.size, 0, none⟩) nd dc nt tc ns sc 2 2 (X.alloc (.cells #[.int .i64 a.at_, .int .i64 a.lv, .int .i64 a.dr, .bool a.tail, .slice cA a.n cc, .int .i64 b.at_, .int .i64 b.lv, .int .i64 b.dr, .bool b.tail, .slice cA' b.n cc'] 41)).heap.size dep tide sw (L2 a b) (X.alloc (.cells #[.int .i64 a.at_, .int .i64 a.lv, .int .i64 a.dr, .bool a.tail, .slice cA a.n cc, .int .i64 b.at_, .int .i64 b.lv, .int .i64 b.dr, .bool b.tail, .slice cA' b.n cc'] 41)) hnd hnt hns (by unfold maxLen; omega) ((HRC.out _ HB1.out).more (Nat.le_trans HBB.out HB1.out.size)) (Nat.le_refl _) (rdL_two G1.out (HRA.out _ HB1.out) (HRB.out _ HB1.out) han hbn (Nat.le_trans HBB.out HB1.out.size)))
  have c0 := C0.out.cell 0
  have c1 := C0.out.cell 1
  have c2 := C0.out.cell 2
  have c3 := C0.out.cell 3
  have c4 := C0.out.cell 4
  have a0 := A0.out.cell 0
  have a1 := A0.out.cell 1
  have a2 := A0.out.cell 2
  have a3 := A0.out.cell 3
  have a4 := A0.out.cell 4
  have b0 := B0.out.cell 0
  have b1 := B0.out.cell 1
  have b2 := B0.out.cell 2
  have b3 := B0.out.cell 3
  have b4 := B0.out.cell 4
  go_enter Tryd.func4, Tryd.ntmps4
  go_upto_region 1 with fail
  rw [← HXe.out]
  go_upto_if 17 with (go_at_call 11; go_must (refine HVA.out.mono ?_); rintro e w1 ⟨⟨V, rfl, hV⟩, hb1⟩; have HV := Lib.hid hV; have HBV := Lib.hid (HX1.out.trans (hb1.mono HX1.out.size)); clear hV hb1)
  cases V
  · go_wp2_with (go_at_call 13; go_must (refine (HWO.out _ (HB0.out.trans (HBV.out.mono HB0.out.size))).mono ?_); rintro e w2 ⟨rfl, hb2⟩; have HB2 := Lib.hid hb2; clear hb2)
    go_ret
    exact ⟨rfl, HB0.out.trans ((HBV.out.trans (HB2.out.mono HBV.out.size)).mono HB0.out.size)⟩
  · obtain ⟨W', H', rfl, rfl, rfl, hs, hnd20, hnt8, -, hlo⟩ := HV.out rfl
    obtain ⟨s, hsd⟩ : ∃ s : M.Sea, s = ⟨W', H', nd, ns, dep, tide, sw⟩ := ⟨_, rfl⟩
    have HSD := Lib.hid hsd
    have HCL := Lib.hid (fun V (hb2 : Below w.heap.size w V) lA' lc' LL (hl : RdL V V.heap.size lA' 2 LL) (hlo : M.legsOk s 2 LL = true) => (show Calls Tryd.prog 16 #[.agg #[.int .i64 (W' : Int), .int .i64 (H' : Int), .slice dA nd dc, .slice tA ns tc, .slice sA ns sc], .slice lA' 2 lc'] V fun e w' => (∃ v, e = .returned (.tuple #[v, .int .i64 0]) ∧ Own w' V.heap.size 43 3 v (M.clAll s LL 2 2).length (ints2 (triF (M.clAll s LL 2 2)))) ∧ Below V.heap.size V w' from by
      subst hsd
      exact Clashes_ok ⟨W', H', nd, ns, dep, tide, sw⟩ dA tA sA lA' dc tc sc 2 lc' V.heap.size LL V hs (HWY.out V hb2) ((HRC.out V hb2).more (Nat.le_trans HBB.out hb2.size)) (Nat.le_refl _) hl (by omega) hlo))
    rw [← hsd] at hlo
    have hlo2 : M.legsOk s 2 (L2 b a) = true := by
      unfold M.legsOk at hlo ⊢
      simp only [Bool.and_eq_true] at hlo ⊢
      exact ⟨rfl, M.allTo_iff.2 fun i hi => by
        obtain rfl | rfl : i = 0 ∨ i = 1 := by omega
        · exact M.allTo_iff.1 hlo.2 1 (by omega)
        · exact M.allTo_iff.1 hlo.2 0 (by omega)⟩
    have hla : M.LegOk s a := by
      unfold M.legsOk at hlo
      simp only [Bool.and_eq_true] at hlo
      exact M.legOk_iff.1 (M.allTo_iff.1 hlo.2 0 (by omega))
    have hlb : M.LegOk s b := by
      unfold M.legsOk at hlo
      simp only [Bool.and_eq_true] at hlo
      exact M.legOk_iff.1 (M.allTo_iff.1 hlo.2 1 (by omega))
    have hsnt : s.nt = ns := by rw [hsd]
    have HLA := Lib.hid (show 0 ≤ a.at_ ∧ a.at_ + a.n ≤ ns by have := hla.at0; have := hla.at1; omega)
    have HLB := Lib.hid (show 0 ≤ b.at_ ∧ b.at_ + b.n ≤ ns by have := hlb.at0; have := hlb.at1; omega)
    obtain ⟨f, hf⟩ : ∃ f, f = M.firstC s (L2 a b) 0 1 := ⟨_, rfl⟩
    have HCE := Lib.hid (show M.clAll s (L2 a b) 2 2 = if f < ns then [(0, 1, f)] else [] by rw [M.clTwo, ← hf, hsnt])
    have HCE2 := Lib.hid (show M.clAll s (L2 b a) 2 2 = if f < ns then [(0, 1, f)] else [] by rw [either_cl]; exact HCE.out)
    have HFT := Lib.hid (show (∀ t, t < f → t < ns → M.legC a b (t : Int) = false) ∧ (f < ns → M.legC a b (f : Int) = true) by
      have h := M.firstTo_spec s.nt (fun t => M.legC a b (t : Int))
      have e : f = M.firstTo s.nt (fun t => M.legC a b (t : Int)) := hf
      rw [← e, hsnt] at h
      exact ⟨fun t ht _ => h.1 t ht, h.2⟩)
    have HC1 := Lib.hid (fun V hb2 lA' lc' hl => HCL.out V hb2 lA' lc' (L2 a b) hl hlo)
    have HC2 := Lib.hid (fun V hb2 lA' lc' hl => HCL.out V hb2 lA' lc' (L2 b a) hl hlo2)
    rw [HCE.out] at HC1
    rw [HCE2.out] at HC2
    obtain ⟨CL, hCL⟩ : ∃ CL, CL = if f < ns then [(0, 1, f)] else [] := ⟨_, rfl⟩
    rw [← hCL] at HC1 HC2
    have HCLL := Lib.hid hCL
    obtain ⟨cn, hcn⟩ : ∃ cn, cn = CL.length := ⟨_, rfl⟩
    rw [← hcn] at HC1 HC2
    have HCN := Lib.hid hcn
    clear hcn
    clear hCL HCE HCE2 HCL hf hlo hlo2 hla hlb hsnt hsd hs HV
    clear c0 c1 c2 c3 c4 a0 a1 a2 a3 a4 b0 b1 b2 b3 b4
    have hz1 := HBV.out.size
    have c0 := (C0.out.below' HBV.out).cell 0
    have c1 := (C0.out.below' HBV.out).cell 1
    have c2 := (C0.out.below' HBV.out).cell 2
    have c3 := (C0.out.below' HBV.out).cell 3
    have c4 := (C0.out.below' HBV.out).cell 4
    have a0 := (A0.out.below' HBV.out).cell 0
    have a1 := (A0.out.below' HBV.out).cell 1
    have a2 := (A0.out.below' HBV.out).cell 2
    have a3 := (A0.out.below' HBV.out).cell 3
    have a4 := (A0.out.below' HBV.out).cell 4
    have b0 := (B0.out.below' HBV.out).cell 0
    have b1 := (B0.out.below' HBV.out).cell 1
    have b2 := (B0.out.below' HBV.out).cell 2
    have b3 := (B0.out.below' HBV.out).cell 3
    have b4 := (B0.out.below' HBV.out).cell 4
    have HB3 := Lib.hid (HB0.out.trans ((HBV.out.alloc hz1 (.cells #[.int .i64 a.at_, .int .i64 a.lv, .int .i64 a.dr, .bool a.tail, .slice cA a.n cc, .int .i64 b.at_, .int .i64 b.lv, .int .i64 b.dr, .bool b.tail, .slice cA' b.n cc'] 41)).mono HB0.out.size))
    have HX3 := Lib.hid (HBV.out.alloc hz1 (.cells #[.int .i64 a.at_, .int .i64 a.lv, .int .i64 a.dr, .bool a.tail, .slice cA a.n cc, .int .i64 b.at_, .int .i64 b.lv, .int .i64 b.dr, .bool b.tail, .slice cA' b.n cc'] 41))
    have H1 := Lib.hid (HC1.out _ HB3.out (some ⟨w1.heap.size, 0, none⟩) 2 (rdL_two (Blk.new w1 41 #[.int .i64 a.at_, .int .i64 a.lv, .int .i64 a.dr, .bool a.tail, .slice cA a.n cc, .int .i64 b.at_, .int .i64 b.lv, .int .i64 b.dr, .bool b.tail, .slice cA' b.n cc']) (HRA.out _ HB3.out) (HRB.out _ HB3.out) han hbn (Nat.le_trans HBB.out HB3.out.size)))
    go_upto_region 4 with (go_at_call 16; go_must (refine H1.out.mono ?_); rintro e w2 ⟨⟨v1, rfl, ho1⟩, hb2⟩; have O1 := Lib.hid (ho1.less (base' := 0) (Nat.zero_le _)); have HX2 := Lib.hid (HX3.out.trans (hb2.mono HX3.out.size)); clear ho1 hb2)
    clear c0 c1 c2 c3 c4 a0 a1 a2 a3 a4 b0 b1 b2 b3 b4
    have hz2 := HX2.out.size
    have c0 := (C0.out.below' HX2.out).cell 0
    have c1 := (C0.out.below' HX2.out).cell 1
    have c2 := (C0.out.below' HX2.out).cell 2
    have c3 := (C0.out.below' HX2.out).cell 3
    have c4 := (C0.out.below' HX2.out).cell 4
    have a0 := (A0.out.below' HX2.out).cell 0
    have a1 := (A0.out.below' HX2.out).cell 1
    have a2 := (A0.out.below' HX2.out).cell 2
    have a3 := (A0.out.below' HX2.out).cell 3
    have a4 := (A0.out.below' HX2.out).cell 4
    have b0 := (B0.out.below' HX2.out).cell 0
    have b1 := (B0.out.below' HX2.out).cell 1
    have b2 := (B0.out.below' HX2.out).cell 2
    have b3 := (B0.out.below' HX2.out).cell 3
    have b4 := (B0.out.below' HX2.out).cell 4
    have HB4 := Lib.hid (HB0.out.trans ((HX2.out.alloc hz2 (.cells #[.int .i64 b.at_, .int .i64 b.lv, .int .i64 b.dr, .bool b.tail, .slice cA' b.n cc', .int .i64 a.at_, .int .i64 a.lv, .int .i64 a.dr, .bool a.tail, .slice cA a.n cc] 41)).mono HB0.out.size))
    have HX4 := Lib.hid (HX2.out.alloc hz2 (.cells #[.int .i64 b.at_, .int .i64 b.lv, .int .i64 b.dr, .bool b.tail, .slice cA' b.n cc', .int .i64 a.at_, .int .i64 a.lv, .int .i64 a.dr, .bool a.tail, .slice cA a.n cc] 41))
    have H2 := Lib.hid (HC2.out _ HB4.out (some ⟨w2.heap.size, 0, none⟩) 2 (rdL_two (Blk.new w2 41 #[.int .i64 b.at_, .int .i64 b.lv, .int .i64 b.dr, .bool b.tail, .slice cA' b.n cc', .int .i64 a.at_, .int .i64 a.lv, .int .i64 a.dr, .bool a.tail, .slice cA a.n cc]) (HRB.out _ HB4.out) (HRA.out _ HB4.out) hbn han (Nat.le_trans HBB.out HB4.out.size)))
    go_upto_region 5 with (go_at_call 16; go_must (refine H2.out.mono ?_); rintro e w3 ⟨⟨v2, rfl, ho2⟩, hb3⟩; have O2 := Lib.hid (ho2.less (base' := 0) (Nat.zero_le _)); have P1 := Lib.hid ((O1.out.alloc (.cells #[.int .i64 b.at_, .int .i64 b.lv, .int .i64 b.dr, .bool b.tail, .slice cA' b.n cc', .int .i64 a.at_, .int .i64 a.lv, .int .i64 a.dr, .bool a.tail, .slice cA a.n cc] 41)).below hb3); have HX5 := Lib.hid (HX4.out.trans (hb3.mono HX4.out.size)); clear ho2 hb3)
    clear c0 c1 c2 c3 c4 a0 a1 a2 a3 a4 b0 b1 b2 b3 b4
    by_cases hff : f < ns
    · have HNL := Lib.hid (show a.lv = b.lv ∧ a.at_ < b.at_ + b.n ∧ b.at_ < a.at_ + a.n by
          have hp := HFT.out.2 hff
          refine ⟨Decidable.byContradiction fun h => ?_, ?_⟩
          · rw [M.legC_level h] at hp; cases hp
          · refine Decidable.byContradiction fun h => ?_
            rw [M.legC_apart (by omega)] at hp; cases hp)
      have HC1L := Lib.hid (show CL = [(0, 1, f)] by rw [HCLL.out, if_pos hff])
      obtain rfl : cn = 1 := by rw [HCN.out, HC1L.out]; rfl
      rw [HC1L.out] at O2 P1
      obtain ⟨g1, d1, rfl⟩ := P1.out.nz (Nat.succ_pos _)
      obtain ⟨g2, d2, rfl⟩ := O2.out.nz (Nat.succ_pos _)
      have x0 : w3.cell? ⟨g1, 0, none⟩ = some (.int .i64 0) := by have h := P1.out.cell (i := 0) (j := 0) (Nat.succ_pos _) (by omega); exact h
      have x1 : w3.cell? ⟨g1, 1, none⟩ = some (.int .i64 1) := by have h := P1.out.cell (i := 0) (j := 1) (Nat.succ_pos _) (by omega); exact h
      have x2 : w3.cell? ⟨g1, 2, none⟩ = some (.int .i64 (f : Int)) := by have h := P1.out.cell (i := 0) (j := 2) (Nat.succ_pos _) (by omega); exact h
      have y0 : w3.cell? ⟨g2, 0, none⟩ = some (.int .i64 0) := by have h := O2.out.cell (i := 0) (j := 0) (Nat.succ_pos _) (by omega); exact h
      have y1 : w3.cell? ⟨g2, 1, none⟩ = some (.int .i64 1) := by have h := O2.out.cell (i := 0) (j := 1) (Nat.succ_pos _) (by omega); exact h
      have y2 : w3.cell? ⟨g2, 2, none⟩ = some (.int .i64 (f : Int)) := by have h := O2.out.cell (i := 0) (j := 2) (Nat.succ_pos _) (by omega); exact h
      have HPOS := Lib.hid (HFT.out.2 hff)
      have HXP := Lib.hid P1
      go_quiet (fail)
      go_upto_region 7 with fail
      have HX6 := Lib.hid (show Below X.heap.size X (w3.drewN nq) from HX5.out.drewN nq)
      have HP6 := Lib.hid (show Own (w3.drewN nq) 0 43 3 (.slice (some ⟨g1, 0, none⟩) 1 d1) 1 (ints2 (triF [(0, 1, f)])) from P1.out)
      clear x0 x1 x2 y0 y1 y2
      generalize w3.drewN nq = w4 at HX6 HP6 ⊢
      have HB6 := Lib.hid (HB0.out.trans (HX6.out.mono HB0.out.size))
      have a0 := (A0.out.below' HX6.out).cell 0
      have a1 := (A0.out.below' HX6.out).cell 1
      have a4 := (A0.out.below' HX6.out).cell 4
      have b0 := (B0.out.below' HX6.out).cell 0
      have b1 := (B0.out.below' HX6.out).cell 1
      have b4 := (B0.out.below' HX6.out).cell 4
      obtain ⟨ha0, ha1⟩ := HLA.out
      obtain ⟨hb0, hb1⟩ := HLB.out
      have g1' : (a.lv != b.lv) = false := by rw [HNL.out.1]; simp
      have g2' : decide (b.at_ + (b.n : Int) ≤ a.at_) = false := decide_eq_false (by have := HNL.out; omega)
      have g3' : decide (a.at_ + (a.n : Int) ≤ b.at_) = false := decide_eq_false (by have := HNL.out; omega)
      go_wp2_with fail
      clear a0 a1 a4 b0 b1 b4
      go_loopw [11] (fun i wr => ∃ t : Nat, t ≤ f ∧ i = .int .i64 (t : Int) ∧ Below X.heap.size X wr ∧ Own wr 0 43 3 (.slice (some ⟨g1, 0, none⟩) 1 d1) 1 (ints2 (triF [(0, 1, f)]))) (fun i _ => ns - (intOf i).toNat)
      case atStart => exact ⟨0, Nat.zero_le _, rfl, HX6.out, HP6.out⟩
      case round =>
        obtain ⟨t, ht, rfl, hbw, hp⟩ := hrel
        have HWt := Lib.hid hbw
        have HBt := Lib.hid (HB0.out.trans (hbw.mono HB0.out.size))
        have hzt := hbw.size
        have HPt := Lib.hid hp
        clear hp
        clear hbw
        have c3 := (C0.out.below' HWt.out).cell 3
        have a0 := (A0.out.below' HWt.out).cell 0
        have a1 := (A0.out.below' HWt.out).cell 1
        have a2 := (A0.out.below' HWt.out).cell 2
        have a3 := (A0.out.below' HWt.out).cell 3
        have a4 := (A0.out.below' HWt.out).cell 4
        have b0 := (B0.out.below' HWt.out).cell 0
        have b1 := (B0.out.below' HWt.out).cell 1
        have b2 := (B0.out.below' HWt.out).cell 2
        have b3 := (B0.out.below' HWt.out).cell 3
        have b4 := (B0.out.below' HWt.out).cell 4
        have hBt : B ≤ wr.heap.size := Nat.le_trans HBB.out HBt.out.size
        have HCC := Lib.hid (rclash_any a b cc cc' B cA cA' (t : Int) wr (by omega) (by omega) (by omega) (by omega) (by omega) (HRA.out _ HBt.out) (HRB.out _ HBt.out) hBt)
        by_cases htf : t < f
        · rw [HFT.out.1 t htf (by omega)] at HCC
          go_wp2_with (go_at_call 19; go_must (refine HCC.out.mono ?_); rintro e w5 ⟨rfl, hb5⟩; have HB5 := Lib.hid hb5; clear hb5)
          go_roundw
          case rel => exact ⟨t + 1, by omega, by go_num, HWt.out.trans (HB5.out.mono hzt), HPt.out.below HB5.out⟩
          case measure => simp [intOf]; omega
        · obtain rfl : t = f := by omega
          rw [HPOS.out] at HCC
          clear htf
          go_upto_region 13 with (go_at_call 19; go_must (refine HCC.out.mono ?_); rintro e w5 ⟨rfl, hb5⟩; have HB6 := Lib.hid (HBt.out.trans (hb5.mono HBt.out.size)); have HP7 := Lib.hid (HPt.out.below hb5); clear hb5)
          have x2 : w5.cell? ⟨g1, 2, none⟩ = some (.int .i64 (t : Int)) := by have h := HP7.out.cell (i := 0) (j := 2) (Nat.succ_pos _) (by omega); exact h
          clear a0 a1 a2 a3 a4 b0 b1 b2 b3 b4 c3
          go_wp2_with (go_at_call 13; go_must (refine (HWO.out _ HB6.out).mono ?_); rintro e w9 ⟨rfl, hb9⟩; have HB9 := Lib.hid (HB6.out.trans (hb9.mono HB6.out.size)); clear hb9)
          go_ret
          exact ⟨rfl, HB9.out⟩
    · have HC1L := Lib.hid (show CL = [] by rw [HCLL.out, if_neg hff])
      obtain rfl : cn = 0 := by rw [HCN.out, HC1L.out]; rfl
      rw [HC1L.out] at O2 P1
      obtain ⟨A1, d1, rfl⟩ := P1.out.form
      obtain ⟨A2, d2, rfl⟩ := O2.out.form
      go_quiet (fail)
      go_upto_region 7 with fail
      have HX6 := Lib.hid (show Below X.heap.size X (w3.drewN nq) from HX5.out.drewN nq)
      generalize w3.drewN nq = w4 at HX6 ⊢
      have HB6 := Lib.hid (HB0.out.trans (HX6.out.mono HB0.out.size))
      have a0 := (A0.out.below' HX6.out).cell 0
      have a1 := (A0.out.below' HX6.out).cell 1
      have a4 := (A0.out.below' HX6.out).cell 4
      have b0 := (B0.out.below' HX6.out).cell 0
      have b1 := (B0.out.below' HX6.out).cell 1
      have b4 := (B0.out.below' HX6.out).cell 4
      obtain ⟨ha0, ha1⟩ := HLA.out
      obtain ⟨hb0, hb1⟩ := HLB.out
      by_cases q1 : a.lv = b.lv
      · have g1' : (a.lv != b.lv) = false := by rw [q1]; simp
        clear q1
        by_cases q2 : b.at_ + (b.n : Int) ≤ a.at_
        · have g2' : decide (b.at_ + (b.n : Int) ≤ a.at_) = true := decide_eq_true q2
          clear q2
          go_wp2_with (go_at_call 13; go_must (refine (HWO.out _ HB6.out).mono ?_); rintro e w9 ⟨rfl, hb9⟩; have HB9 := Lib.hid (HB6.out.trans (hb9.mono HB6.out.size)); clear hb9)
          go_ret
          exact ⟨rfl, HB9.out⟩
        · have g2' : decide (b.at_ + (b.n : Int) ≤ a.at_) = false := decide_eq_false q2
          clear q2
          by_cases q3 : a.at_ + (a.n : Int) ≤ b.at_
          · have g3' : decide (a.at_ + (a.n : Int) ≤ b.at_) = true := decide_eq_true q3
            clear q3
            go_wp2_with (go_at_call 13; go_must (refine (HWO.out _ HB6.out).mono ?_); rintro e w9 ⟨rfl, hb9⟩; have HB9 := Lib.hid (HB6.out.trans (hb9.mono HB6.out.size)); clear hb9)
            go_ret
            exact ⟨rfl, HB9.out⟩
          · have g3' : decide (a.at_ + (a.n : Int) ≤ b.at_) = false := decide_eq_false q3
            clear q3
            go_wp2_with fail
            clear a0 a1 a4 b0 b1 b4
            go_loopw [11] (fun i wr => ∃ t : Nat, t ≤ ns ∧ i = .int .i64 (t : Int) ∧ Below X.heap.size X wr) (fun i _ => ns - (intOf i).toNat)
            case atStart => exact ⟨0, Nat.zero_le _, rfl, HX6.out⟩
            case round =>
              obtain ⟨t, ht, rfl, hbw⟩ := hrel
              have HWt := Lib.hid hbw
              have HBt := Lib.hid (HB0.out.trans (hbw.mono HB0.out.size))
              have hzt := hbw.size
              clear hbw
              have c3 := (C0.out.below' HWt.out).cell 3
              have a0 := (A0.out.below' HWt.out).cell 0
              have a1 := (A0.out.below' HWt.out).cell 1
              have a2 := (A0.out.below' HWt.out).cell 2
              have a3 := (A0.out.below' HWt.out).cell 3
              have a4 := (A0.out.below' HWt.out).cell 4
              have b0 := (B0.out.below' HWt.out).cell 0
              have b1 := (B0.out.below' HWt.out).cell 1
              have b2 := (B0.out.below' HWt.out).cell 2
              have b3 := (B0.out.below' HWt.out).cell 3
              have b4 := (B0.out.below' HWt.out).cell 4
              have hBt : B ≤ wr.heap.size := Nat.le_trans HBB.out HBt.out.size
              have HCC := Lib.hid (rclash_any a b cc cc' B cA cA' (t : Int) wr (by omega) (by omega) (by omega) (by omega) (by omega) (HRA.out _ HBt.out) (HRB.out _ HBt.out) hBt)
              by_cases htf : t < ns
              · rw [HFT.out.1 t (by omega) htf] at HCC
                go_wp2_with (go_at_call 19; go_must (refine HCC.out.mono ?_); rintro e w5 ⟨rfl, hb5⟩; have HB5 := Lib.hid hb5; clear hb5)
                go_roundw
                case rel => exact ⟨t + 1, by omega, by go_num, HWt.out.trans (HB5.out.mono hzt)⟩
                case measure => simp [intOf]; omega
              · obtain rfl : t = ns := by omega
                have HB6 := Lib.hid HBt.out
                clear a0 a1 a2 a3 a4 b0 b1 b2 b3 b4
                go_wp2_with (go_at_call 13; go_must (refine (HWO.out _ HB6.out).mono ?_); rintro e w9 ⟨rfl, hb9⟩; have HB9 := Lib.hid (HB6.out.trans (hb9.mono HB6.out.size)); clear hb9)
                go_ret
                exact ⟨rfl, HB9.out⟩
      · have g1' : (a.lv != b.lv) = true := by rw [bne_iff_ne]; exact q1
        clear q1
        go_wp2_with (go_at_call 13; go_must (refine (HWO.out _ HB6.out).mono ?_); rintro e w9 ⟨rfl, hb9⟩; have HB9 := Lib.hid (HB6.out.trans (hb9.mono HB6.out.size)); clear hb9)
        go_ret
        exact ⟨rfl, HB9.out⟩
end
end Go.Proofs.YtkdpmihdhiokkaaDoor
