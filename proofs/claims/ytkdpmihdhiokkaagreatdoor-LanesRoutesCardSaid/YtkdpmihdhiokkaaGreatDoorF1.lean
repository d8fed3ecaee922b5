/- The reference's goes. -/
import Derived.Test.YtkdpmihdhiokkaaGreatDoorR9
import Derived.Test.YtkdpmihdhiokkaaGreatDoorR1
import Derived.Test.YtkdpmihdhiokkaaGreatDoorK27
import Derived.Test.YtkdpmihdhiokkaaGreatDoorLaH
import Derived.Test.YtkdpmihdhiokkaaGreatDoorK29
import Derived.Test.YtkdpmihdhiokkaaGreatDoorR11
import Derived.Test.YtkdpmihdhiokkaaGreatDoorR15
import Derived.Test.YtkdpmihdhiokkaaGreatDoorR13
import Derived.Test.YtkdpmihdhiokkaaGreatDoorR10
import Derived.Test.YtkdpmihdhiokkaaGreatDoorW
namespace Go.Proofs.YtkdpmihdhiokkaaGreatDoor
open Go.RowKit

namespace M
theorem leg1 {n : Nat} {L : Nat → Leg} {t c : Nat} {lv dr : Int} {tl : Bool} {f : Nat → Int} (h0 : f 0 = c) : hit L n lv tl (-1) c t = anyTo n fun i => legC ⟨t, lv, dr, tl, 1, f⟩ (L i) t := by
  unfold hit legC
  have e1 : atC ⟨t, lv, dr, tl, 1, f⟩ (t : Int) = c := by
    unfold atC
    rw [if_neg (by show ¬ ((t : Int) < t ∨ (t : Int) + ((1 : Nat) : Int) ≤ t); omega)]
    show f ((t : Int) - t).toNat = c
    rw [show ((t : Int) - t).toNat = 0 by omega]; exact h0
  have e2 : atC ⟨t, lv, dr, tl, 1, f⟩ ((t : Int) - 1) = -1 := by
    unfold atC
    rw [if_pos (by show ((t : Int) - 1 < t ∨ (t : Int) + ((1 : Nat) : Int) ≤ (t : Int) - 1); omega)]
  rw [e1, e2]
  simp
theorem leg2 {n : Nat} {L : Nat → Leg} {t c b : Nat} {lv dr : Int} {tl : Bool} {f : Nat → Int} (h0 : f 0 = b) (h1 : f 1 = c) : hit L n lv tl (b : Int) c t = anyTo n fun i => legC ⟨(t : Int) - 1, lv, dr, tl, 2, f⟩ (L i) t := by
  unfold hit legC
  have e1 : atC ⟨(t : Int) - 1, lv, dr, tl, 2, f⟩ (t : Int) = c := by
    unfold atC
    rw [if_neg (by show ¬ ((t : Int) < (t : Int) - 1 ∨ (t : Int) - 1 + ((2 : Nat) : Int) ≤ t); omega)]
    show f ((t : Int) - ((t : Int) - 1)).toNat = c
    rw [show ((t : Int) - ((t : Int) - 1)).toNat = 1 by omega]; exact h1
  have e2 : atC ⟨(t : Int) - 1, lv, dr, tl, 2, f⟩ ((t : Int) - 1) = b := by
    unfold atC
    rw [if_neg (by show ¬ ((t : Int) - 1 < (t : Int) - 1 ∨ (t : Int) - 1 + ((2 : Nat) : Int) ≤ (t : Int) - 1); omega)]
    show f ((t : Int) - 1 - ((t : Int) - 1)).toNat = b
    rw [show ((t : Int) - 1 - ((t : Int) - 1)).toNat = 0 by omega]; exact h0
  rw [e1, e2]
  simp
end M
section
variable (s : M.Sea) (dA tA sA lA : Option Addr) (dc tc sc ln lc B : Nat) (L : Nat → M.Leg) (w : World)
set_option maxRecDepth 100000 in
set_option maxHeartbeats 6400000 in
theorem rgoes0_ok (at_ lv dr fr dst : Int) (tl : Bool) (c t : Nat) (hs : s.Ok) (hR : RdC w B dA tA sA s.nd s.nt s.nt s.dep s.tide s.sw) (hB : B ≤ w.heap.size) (hL : RdL w B lA ln L) (hln : ln ≤ 1048576) (hat : ∀ i, i < ln → -100 ≤ (L i).at_ ∧ (L i).at_ ≤ 100 ∧ (L i).n ≤ 100) (hc : c < s.nd) (ht : t < s.nt) :
    Calls Tryz.prog 58 #[.agg #[.int .i64 (s.W : Int), .int .i64 (s.H : Int), .slice dA s.nd dc, .slice tA s.nt tc, .slice sA s.nt sc], .slice lA ln lc, .agg #[.int .i64 at_, .int .i64 lv, .int .i64 dr, .bool tl, .int .i64 fr, .int .i64 dst], .int .i64 (-1), .int .i64 (c : Int), .int .i64 (t : Int)] w fun e w' => e = .returned (.bool (M.goes s L ln ⟨at_, lv, dr, tl, fr, dst⟩ (-1) c t)) ∧ Below w.heap.size w w' := by
  have hnt := hs.t2
  have HR := Lib.hid (belowAlloc2 w (.cells #[.int .i64 (s.W : Int), .int .i64 (s.H : Int), .slice dA s.nd dc, .slice tA s.nt tc, .slice sA s.nt sc] 25) (.cells #[.int .i64 at_, .int .i64 lv, .int .i64 dr, .bool tl, .int .i64 fr, .int .i64 dst] 39))
  have CR := Lib.hid ((Blk.new w 25 #[.int .i64 (s.W : Int), .int .i64 (s.H : Int), .slice dA s.nd dc, .slice tA s.nt tc, .slice sA s.nt sc]).alloc (.cells #[.int .i64 at_, .int .i64 lv, .int .i64 dr, .bool tl, .int .i64 fr, .int .i64 dst] 39))
  have XR := Lib.hid (Blk.new1 w (.cells #[.int .i64 (s.W : Int), .int .i64 (s.H : Int), .slice dA s.nd dc, .slice tA s.nt tc, .slice sA s.nt sc] 25) 39 #[.int .i64 at_, .int .i64 lv, .int .i64 dr, .bool tl, .int .i64 fr, .int .i64 dst])
  obtain ⟨X, hX⟩ : ∃ X, X = (w.alloc (.cells #[.int .i64 (s.W : Int), .int .i64 (s.H : Int), .slice dA s.nd dc, .slice tA s.nt tc, .slice sA s.nt sc] 25)).alloc (.cells #[.int .i64 at_, .int .i64 lv, .int .i64 dr, .bool tl, .int .i64 fr, .int .i64 dst] 39) := ⟨_, rfl⟩
  have HXe := Lib.hid hX
  rw [← hX] at HR CR XR
  clear hX
  have HRL := Lib.hid (fun V (hb2 : Below w.heap.size w V) => hL.below (hb2.mono hB))
  have HBB := Lib.hid hB
  have HAT := Lib.hid hat
  have HCN := Lib.hid (fun V (hb2 : Below w.heap.size w V) => rcan_ok s dA tA sA dc tc sc B V lv dr c t hs hc ht (hR.below (hb2.mono hB)) (Nat.le_trans hB hb2.size))
  obtain ⟨RR, hRR⟩ : ∃ RR, RR = (M.goes s L ln ⟨at_, lv, dr, tl, fr, dst⟩ (-1) c t) := ⟨_, rfl⟩
  rw [← hRR]
  have c0 := CR.out.cell 0
  have c1 := CR.out.cell 1
  have c2 := CR.out.cell 2
  have c3 := CR.out.cell 3
  have c4 := CR.out.cell 4
  have x0 := XR.out.cell 0
  have x1 := XR.out.cell 1
  have x2 := XR.out.cell 2
  have x3 := XR.out.cell 3
  have x4 := XR.out.cell 4
  have x5 := XR.out.cell 5
  have HRE := Lib.hid (show RR = (M.can s lv dr c t && !M.hit L ln lv tl (-1) c t) from hRR)
  cases hcn : M.can s lv dr c t
  · rw [hcn] at HCN HRE
    have HEF := Lib.hid (show RR = false from HRE.out)
    clear hcn
    have hT60 : t ≤ 60 := (by omega)
    clear hs hR hL hB hat hRR hc ht
    go_enter Tryz.func58, Tryz.ntmps58
    go_upto_region 1 with fail
    rw [← HXe.out]
    clear HXe
    go_wp2_with (go_at_call 60; go_must (refine (HCN.out _ HR.out).mono ?_); rintro e w1 ⟨rfl, hb1⟩; have HR' := Lib.hid (HR.out.trans (hb1.mono HR.out.size)); have CR' := Lib.hid (CR.out.below' hb1); have XR' := Lib.hid (XR.out.below' hb1); clear hb1 HR CR XR c0 c1 c2 c3 c4 x0 x1 x2 x3 x4 x5; have HR := HR'; have CR := CR'; have XR := XR'; clear HR' CR' XR'; have c0 := CR.out.cell 0; have c1 := CR.out.cell 1; have c2 := CR.out.cell 2; have c3 := CR.out.cell 3; have c4 := CR.out.cell 4; have x0 := XR.out.cell 0; have x1 := XR.out.cell 1; have x2 := XR.out.cell 2; have x3 := XR.out.cell 3; have x4 := XR.out.cell 4; have x5 := XR.out.cell 5)
    go_ret
    exact ⟨ret_bool HEF.out.symm, HR.out⟩
  · rw [hcn] at HCN HRE
    clear hcn
    have hT60 : t ≤ 60 := (by omega)
    clear hs hR hL hB hat hRR hc ht
    go_enter Tryz.func58, Tryz.ntmps58
    go_upto_region 1 with fail
    rw [← HXe.out]
    clear HXe
    go_upto_region 3 with (go_at_call 60; go_must (refine (HCN.out _ HR.out).mono ?_); rintro e w1 ⟨rfl, hb1⟩; have HR' := Lib.hid (HR.out.trans (hb1.mono HR.out.size)); have CR' := Lib.hid (CR.out.below' hb1); have XR' := Lib.hid (XR.out.below' hb1); clear hb1 HR CR XR c0 c1 c2 c3 c4 x0 x1 x2 x3 x4 x5; have HR := HR'; have CR := CR'; have XR := XR'; clear HR' CR' XR'; have c0 := CR.out.cell 0; have c1 := CR.out.cell 1; have c2 := CR.out.cell 2; have c3 := CR.out.cell 3; have c4 := CR.out.cell 4; have x0 := XR.out.cell 0; have x1 := XR.out.cell 1; have x2 := XR.out.cell 2; have x3 := XR.out.cell 3; have x4 := XR.out.cell 4; have x5 := XR.out.cell 5)
    go_upto_region 9 with fail
    have HZ := Lib.hid (HR.out.trans ((belowAlloc2 w1 (.cells #[.int .i64 (c : Int)] 3) (.cells #[.int .i64 (t : Int), .int .i64 lv, .int .i64 dr, .bool tl, .slice (some ⟨w1.heap.size, 0, none⟩) 1 1] 46)).mono HR.out.size))
    have GZ0 := Lib.hid (Blk.new1 w1 (.cells #[.int .i64 (c : Int)] 3) 46 #[.int .i64 (t : Int), .int .i64 lv, .int .i64 dr, .bool tl, .slice (some ⟨w1.heap.size, 0, none⟩) 1 1])
    have CZ := Lib.hid ((Blk.new w1 3 #[.int .i64 (c : Int)]).alloc (.cells #[.int .i64 (t : Int), .int .i64 lv, .int .i64 dr, .bool tl, .slice (some ⟨w1.heap.size, 0, none⟩) 1 1] 46))
    have CR1 := Lib.hid (CR.out.below' (belowAlloc2 w1 (.cells #[.int .i64 (c : Int)] 3) (.cells #[.int .i64 (t : Int), .int .i64 lv, .int .i64 dr, .bool tl, .slice (some ⟨w1.heap.size, 0, none⟩) 1 1] 46)))
    have XR1 := Lib.hid (XR.out.below' (belowAlloc2 w1 (.cells #[.int .i64 (c : Int)] 3) (.cells #[.int .i64 (t : Int), .int .i64 lv, .int .i64 dr, .bool tl, .slice (some ⟨w1.heap.size, 0, none⟩) 1 1] 46)))
    obtain ⟨G, hG⟩ : ∃ G, G = w1.heap.size := ⟨_, rfl⟩
    rw [← hG] at HZ GZ0 CZ CR1 XR1
    rw [← hG]
    generalize hZE : (w1.alloc (.cells #[.int .i64 (c : Int)] 3)).alloc (.cells #[.int .i64 (t : Int), .int .i64 lv, .int .i64 dr, .bool tl, .slice (some ⟨G, 0, none⟩) 1 1] 46) = Z at HZ GZ0 CZ CR1 XR1 ⊢
    have hGle : w.heap.size ≤ G := by rw [hG]; exact HR.out.size
    clear hZE hG c0 c1 c2 c3 c4 x0 x1 x2 x3 x4 x5
    obtain ⟨l, hl⟩ : ∃ l : M.Leg, l = ⟨(t : Int), lv, dr, tl, 1, fun _ => (c : Int)⟩ := ⟨_, rfl⟩
    have GZ := Lib.hid (show Blk Z (G + 1) 46 #[.int .i64 l.at_, .int .i64 l.lv, .int .i64 l.dr, .bool l.tail, .slice (some ⟨G, 0, none⟩) l.n l.n] by rw [hl]; exact GZ0.out)
    have HAL := Lib.hid (show -100 ≤ l.at_ ∧ l.at_ ≤ 100 ∧ l.n ≤ 100 by rw [hl]; exact ⟨by show -100 ≤ (t : Int); omega, by show (t : Int) ≤ 100; omega, by show 1 ≤ 100; omega⟩)
    have HLC := Lib.hid (fun W (hb : Below Z.heap.size Z W) => (show Rd1 W W.heap.size (some ⟨G, 0, none⟩) l.n l.c from .inr ⟨G, 0, rfl, (CZ.out.below' hb).lt, fun i hi => by
      rw [hl] at hi ⊢
      have hi' : i < 1 := hi
      obtain rfl : i = 0 := by omega
      exact (CZ.out.below' hb).cell 0⟩))
    have HRR := Lib.hid (show RR = !M.anyTo ln (fun i => M.legC l (L i) (t : Int)) by rw [HRE.out, M.leg1 (f := fun _ => (c : Int)) (dr := dr) rfl, hl]; rfl)
    clear hl GZ0 CZ HRE CR1 XR1
    have HNO := Lib.hid (fun (k : Nat) (hk : k < ln) (h : M.legC l (L k) (t : Int) = true) => (show RR = false by
      rw [HRR.out, M.anyTo_iff.2 ⟨k, hk, h⟩]; rfl))
    have HYE := Lib.hid (fun (h : ∀ i, i < ln → M.legC l (L i) (t : Int) = false) => (show RR = true by
      rw [HRR.out]
      have : M.anyTo ln (fun i => M.legC l (L i) (t : Int)) = false := Bool.eq_false_iff.2 fun h2 => by
        obtain ⟨i, hi, h3⟩ := M.anyTo_iff.1 h2
        rw [h i hi] at h3; cases h3
      rw [this]; rfl))
    have hzZ := HZ.out.size
    go_wp2_with fail
    go_loopw [14] (fun i wr => ∃ k : Nat, k ≤ ln ∧ i = .int .i64 (k : Int) ∧ Hid (∀ u : Nat, u < k → M.legC l (L u) (t : Int) = false) ∧ Below Z.heap.size Z wr) (fun i _ => ln - (intOf i).toNat)
    case atStart => exact ⟨0, Nat.zero_le _, rfl, Lib.hid fun u hu => absurd hu (by omega), Below.refl _ _⟩
    case round =>
      obtain ⟨k, hk, rfl, HNT, hbw⟩ := hrel
      have HW := Lib.hid hbw
      have HBW := Lib.hid (HZ.out.trans (hbw.mono hzZ))
      have hzr := hbw.size
      clear hbw
      by_cases hlt : k < ln
      · have g0 := (GZ.out.below' HW.out).cell 0
        have g1 := (GZ.out.below' HW.out).cell 1
        have g2 := (GZ.out.below' HW.out).cell 2
        have g3 := (GZ.out.below' HW.out).cell 3
        have g4 := (GZ.out.below' HW.out).cell 4
        obtain ⟨b, off, rfl, hb, l0, l1, l2, l3, cA', cc', l4, hr, hm⟩ := (HRL.out wr HBW.out).at_ hlt
        have kx : decide (ln ≤ k) = false := decide_eq_false (by omega)
        have HCC := Lib.hid (fun W (hb2 : Below wr.heap.size wr W) => by
          have hh := HAT.out k hlt
          have ha := HAL.out
          exact rclash_any l (L k) l.n cc' W.heap.size (some ⟨G, 0, none⟩) cA' (t : Int) W (by omega) (by omega) (by omega) (by omega) (by omega) (HLC.out W (HW.out.trans (hb2.mono hzr))) ((hr.below (hb2.mono (Nat.le_trans HBB.out HBW.out.size))).more (Nat.le_trans (Nat.le_trans HBB.out HBW.out.size) hb2.size)) (Nat.le_refl _))
        clear hr hm
        obtain ⟨cv, hcv⟩ : ∃ cv, cv = M.legC l (L k) (t : Int) := ⟨_, rfl⟩
        rw [← hcv] at HCC
        have HCV := Lib.hid hcv
        clear hcv
        go_upto_region 12 with fail
        go_still_tail 6, (by kernel_rfl)
        cases cv
        · go_wp2_with (go_at_call 35; go_must (refine (HCC.out _ (Below.refl _ _).drew).mono ?_); rintro e w9 ⟨rfl, hb9⟩; have HB9 := Lib.hid ((Below.refl _ _).drew.trans (hb9.mono (Nat.le_refl _))); clear hb9)
          go_roundw
          case rel => exact ⟨k + 1, by omega, by go_num, Lib.hid fun u hu => by
            rcases Nat.lt_succ_iff_lt_or_eq.1 hu with h | h
            · exact HNT.out u h
            · subst h; exact HCV.out.symm, HW.out.trans (HB9.out.mono hzr)⟩
          case measure => simp [intOf]; omega
        · have HEF := Lib.hid (HNO.out k hlt HCV.out.symm)
          go_wp2_with (go_at_call 35; go_must (refine (HCC.out _ (Below.refl _ _).drew).mono ?_); rintro e w9 ⟨rfl, hb9⟩; have HB9 := Lib.hid ((Below.refl _ _).drew.trans (hb9.mono (Nat.le_refl _))); clear hb9)
          go_ret
          exact ⟨ret_bool HEF.out.symm, HBW.out.trans (HB9.out.mono HBW.out.size)⟩
      · obtain rfl : k = ln := by omega
        have HEF := Lib.hid (HYE.out HNT.out)
        go_wp2_with fail
        go_ret
        exact ⟨ret_bool HEF.out.symm, HBW.out⟩
set_option maxRecDepth 100000 in
set_option maxHeartbeats 6400000 in
theorem rgoes1_ok (at_ lv dr fr dst : Int) (tl : Bool) (c t b : Nat) (hb0 : b < s.nd) (hs : s.Ok) (hR : RdC w B dA tA sA s.nd s.nt s.nt s.dep s.tide s.sw) (hB : B ≤ w.heap.size) (hL : RdL w B lA ln L) (hln : ln ≤ 1048576) (hat : ∀ i, i < ln → -100 ≤ (L i).at_ ∧ (L i).at_ ≤ 100 ∧ (L i).n ≤ 100) (hc : c < s.nd) (ht : t < s.nt) :
    Calls Tryz.prog 58 #[.agg #[.int .i64 (s.W : Int), .int .i64 (s.H : Int), .slice dA s.nd dc, .slice tA s.nt tc, .slice sA s.nt sc], .slice lA ln lc, .agg #[.int .i64 at_, .int .i64 lv, .int .i64 dr, .bool tl, .int .i64 fr, .int .i64 dst], .int .i64 (b : Int), .int .i64 (c : Int), .int .i64 (t : Int)] w fun e w' => e = .returned (.bool (M.adj s.W s.H b c && M.goes s L ln ⟨at_, lv, dr, tl, fr, dst⟩ (b : Int) c t)) ∧ Below w.heap.size w w' := by
  have hnt := hs.t2
  have HR := Lib.hid (belowAlloc2 w (.cells #[.int .i64 (s.W : Int), .int .i64 (s.H : Int), .slice dA s.nd dc, .slice tA s.nt tc, .slice sA s.nt sc] 25) (.cells #[.int .i64 at_, .int .i64 lv, .int .i64 dr, .bool tl, .int .i64 fr, .int .i64 dst] 39))
  have CR := Lib.hid ((Blk.new w 25 #[.int .i64 (s.W : Int), .int .i64 (s.H : Int), .slice dA s.nd dc, .slice tA s.nt tc, .slice sA s.nt sc]).alloc (.cells #[.int .i64 at_, .int .i64 lv, .int .i64 dr, .bool tl, .int .i64 fr, .int .i64 dst] 39))
  have XR := Lib.hid (Blk.new1 w (.cells #[.int .i64 (s.W : Int), .int .i64 (s.H : Int), .slice dA s.nd dc, .slice tA s.nt tc, .slice sA s.nt sc] 25) 39 #[.int .i64 at_, .int .i64 lv, .int .i64 dr, .bool tl, .int .i64 fr, .int .i64 dst])
  obtain ⟨X, hX⟩ : ∃ X, X = (w.alloc (.cells #[.int .i64 (s.W : Int), .int .i64 (s.H : Int), .slice dA s.nd dc, .slice tA s.nt tc, .slice sA s.nt sc] 25)).alloc (.cells #[.int .i64 at_, .int .i64 lv, .int .i64 dr, .bool tl, .int .i64 fr, .int .i64 dst] 39) := ⟨_, rfl⟩
  have HXe := Lib.hid hX
  rw [← hX] at HR CR XR
  clear hX
  have HRL := Lib.hid (fun V (hb2 : Below w.heap.size w V) => hL.below (hb2.mono hB))
  have HBB := Lib.hid hB
  have HAT := Lib.hid hat
  have HCN := Lib.hid (fun V (hb2 : Below w.heap.size w V) => rcan_ok s dA tA sA dc tc sc B V lv dr c t hs hc ht (hR.below (hb2.mono hB)) (Nat.le_trans hB hb2.size))
  have HNX := Lib.hid (fun V => rnext_ok s dA tA sA dc tc sc V b c hs hb0)
  have hwt : IntKind.i64.wrap ((t : Int) - 1) = (t : Int) - 1 := by rw [IntKind.wrap_i64]; omega
  obtain ⟨RR, hRR⟩ : ∃ RR, RR = (M.adj s.W s.H b c && M.goes s L ln ⟨at_, lv, dr, tl, fr, dst⟩ (b : Int) c t) := ⟨_, rfl⟩
  rw [← hRR]
  have c0 := CR.out.cell 0
  have c1 := CR.out.cell 1
  have c2 := CR.out.cell 2
  have c3 := CR.out.cell 3
  have c4 := CR.out.cell 4
  have x0 := XR.out.cell 0
  have x1 := XR.out.cell 1
  have x2 := XR.out.cell 2
  have x3 := XR.out.cell 3
  have x4 := XR.out.cell 4
  have x5 := XR.out.cell 5
  have HRE := Lib.hid (show RR = (M.adj s.W s.H b c && (M.can s lv dr c t && !M.hit L ln lv tl (b : Int) c t)) from hRR)
  cases hcn : M.can s lv dr c t
  · rw [hcn] at HCN HRE
    have HEF := Lib.hid (show RR = false by rw [HRE.out]; simp)
    clear hcn hb0
    have hT60 : t ≤ 60 := (by omega)
    clear hs hR hL hB hat hRR hc ht
    go_enter Tryz.func58, Tryz.ntmps58
    go_upto_region 1 with fail
    rw [← HXe.out]
    clear HXe
    go_wp2_with (go_at_call 60; go_must (refine (HCN.out _ HR.out).mono ?_); rintro e w1 ⟨rfl, hb1⟩; have HR' := Lib.hid (HR.out.trans (hb1.mono HR.out.size)); have CR' := Lib.hid (CR.out.below' hb1); have XR' := Lib.hid (XR.out.below' hb1); clear hb1 HR CR XR c0 c1 c2 c3 c4 x0 x1 x2 x3 x4 x5; have HR := HR'; have CR := CR'; have XR := XR'; clear HR' CR' XR'; have c0 := CR.out.cell 0; have c1 := CR.out.cell 1; have c2 := CR.out.cell 2; have c3 := CR.out.cell 3; have c4 := CR.out.cell 4; have x0 := XR.out.cell 0; have x1 := XR.out.cell 1; have x2 := XR.out.cell 2; have x3 := XR.out.cell 3; have x4 := XR.out.cell 4; have x5 := XR.out.cell 5)
    go_ret
    exact ⟨ret_bool HEF.out.symm, HR.out⟩
  · rw [hcn] at HCN HRE
    clear hcn hb0
    have hT60 : t ≤ 60 := (by omega)
    clear hs hR hL hB hat hRR hc ht
    go_enter Tryz.func58, Tryz.ntmps58
    go_upto_region 1 with fail
    rw [← HXe.out]
    clear HXe
    go_upto_region 3 with (go_at_call 60; go_must (refine (HCN.out _ HR.out).mono ?_); rintro e w1 ⟨rfl, hb1⟩; have HR' := Lib.hid (HR.out.trans (hb1.mono HR.out.size)); have CR' := Lib.hid (CR.out.below' hb1); have XR' := Lib.hid (XR.out.below' hb1); clear hb1 HR CR XR c0 c1 c2 c3 c4 x0 x1 x2 x3 x4 x5; have HR := HR'; have CR := CR'; have XR := XR'; clear HR' CR' XR'; have c0 := CR.out.cell 0; have c1 := CR.out.cell 1; have c2 := CR.out.cell 2; have c3 := CR.out.cell 3; have c4 := CR.out.cell 4; have x0 := XR.out.cell 0; have x1 := XR.out.cell 1; have x2 := XR.out.cell 2; have x3 := XR.out.cell 3; have x4 := XR.out.cell 4; have x5 := XR.out.cell 5)
    go_upto_region 4 with fail
    have HZ := Lib.hid (HR.out.trans ((belowAlloc2 w1 (.cells #[.int .i64 (c : Int)] 3) (.cells #[.int .i64 (t : Int), .int .i64 lv, .int .i64 dr, .bool tl, .slice (some ⟨w1.heap.size, 0, none⟩) 1 1] 46)).mono HR.out.size))
    have GZ0 := Lib.hid (Blk.new1 w1 (.cells #[.int .i64 (c : Int)] 3) 46 #[.int .i64 (t : Int), .int .i64 lv, .int .i64 dr, .bool tl, .slice (some ⟨w1.heap.size, 0, none⟩) 1 1])
    have CZ := Lib.hid ((Blk.new w1 3 #[.int .i64 (c : Int)]).alloc (.cells #[.int .i64 (t : Int), .int .i64 lv, .int .i64 dr, .bool tl, .slice (some ⟨w1.heap.size, 0, none⟩) 1 1] 46))
    have CR1 := Lib.hid (CR.out.below' (belowAlloc2 w1 (.cells #[.int .i64 (c : Int)] 3) (.cells #[.int .i64 (t : Int), .int .i64 lv, .int .i64 dr, .bool tl, .slice (some ⟨w1.heap.size, 0, none⟩) 1 1] 46)))
    have XR1 := Lib.hid (XR.out.below' (belowAlloc2 w1 (.cells #[.int .i64 (c : Int)] 3) (.cells #[.int .i64 (t : Int), .int .i64 lv, .int .i64 dr, .bool tl, .slice (some ⟨w1.heap.size, 0, none⟩) 1 1] 46)))
    obtain ⟨G, hG⟩ : ∃ G, G = w1.heap.size := ⟨_, rfl⟩
    rw [← hG] at HZ GZ0 CZ CR1 XR1
    rw [← hG]
    generalize hZE : (w1.alloc (.cells #[.int .i64 (c : Int)] 3)).alloc (.cells #[.int .i64 (t : Int), .int .i64 lv, .int .i64 dr, .bool tl, .slice (some ⟨G, 0, none⟩) 1 1] 46) = Z at HZ GZ0 CZ CR1 XR1 ⊢
    have hGle : w.heap.size ≤ G := by rw [hG]; exact HR.out.size
    clear hZE hG c0 c1 c2 c3 c4 x0 x1 x2 x3 x4 x5
    have c0 := CR1.out.cell 0
    have c1 := CR1.out.cell 1
    have c2 := CR1.out.cell 2
    have c3 := CR1.out.cell 3
    have c4 := CR1.out.cell 4
    have gb : decide ((0 : Int) ≤ (b : Int)) = true := decide_eq_true (by omega)
    cases had : M.adj s.W s.H b c
    · rw [had] at HNX HRE
      have HEF := Lib.hid (show RR = false from HRE.out)
      clear had
      go_wp2_with (go_at_call 61; go_must (refine (HNX.out _).mono ?_); rintro e w2 ⟨rfl, hb2⟩; have HR2 := Lib.hid (HZ.out.trans (hb2.mono HZ.out.size)); clear hb2)
      go_ret
      exact ⟨ret_bool HEF.out.symm, HR2.out⟩
    rw [had] at HNX HRE
    clear had
    go_upto_region 7 with (go_at_call 61; go_must (refine (HNX.out _).mono ?_); rintro e w2 ⟨rfl, hb2⟩; have HR2 := Lib.hid (HZ.out.trans (hb2.mono HZ.out.size)); have GZ1 := Lib.hid (GZ0.out.below' hb2); clear hb2)
    have g0 := GZ1.out.cell 0
    have f0 := GZ1.out.frz 0
    have g4 := GZ1.out.cell 4
    have f4 := GZ1.out.frz 4
    have hG1 := GZ1.out.lt
    have hGS := HR.out.size
    clear c0 c1 c2 c3 c4 GZ0 CZ CR1 XR1
    go_upto_region 9 with fail
    have GZ2 := Lib.hid ((((GZ1.out.set_ 0 (.int .i64 ((t : Int) - 1))).set_ 4 (.slice (some ⟨w2.heap.size, 0, none⟩) 2 2)).alloc (.cells #[.int .i64 (b : Int), .int .i64 (c : Int)] 3)))
    have HZ2 := Lib.hid (((HR2.out.setCell (p := ⟨G + 1, 0, none⟩) (by show w.heap.size ≤ G + 1; omega) (.int .i64 ((t : Int) - 1))).setCell (p := ⟨G + 1, 4, none⟩) (by show w.heap.size ≤ G + 1; omega) (.slice (some ⟨w2.heap.size, 0, none⟩) 2 2)).alloc (by simp; exact HR2.out.size) (.cells #[.int .i64 (b : Int), .int .i64 (c : Int)] 3))
    obtain ⟨Zs, hZs⟩ : ∃ Zs, Zs = (w2.setCell ⟨G + 1, 0, none⟩ (.int .i64 ((t : Int) - 1))).setCell ⟨G + 1, 4, none⟩ (.slice (some ⟨w2.heap.size, 0, none⟩) 2 2) := ⟨_, rfl⟩
    have hsz : Zs.heap.size = w2.heap.size := by rw [hZs]; simp [World.setCell]
    have CZ2 := Lib.hid (Blk.new Zs 3 #[.int .i64 (b : Int), .int .i64 (c : Int)])
    rw [hsz] at CZ2
    rw [← hZs] at GZ2 HZ2
    rw [← hZs]
    obtain ⟨P1, hP1⟩ : ∃ P1, P1 = G := ⟨_, rfl⟩
    rw [← hP1] at GZ2
    rw [← hP1]
    clear hP1
    obtain ⟨G, hG⟩ : ∃ G, G = w2.heap.size := ⟨_, rfl⟩
    rw [← hG] at GZ2 CZ2
    rw [← hG]
    generalize Zs.alloc (.cells #[.int .i64 (b : Int), .int .i64 (c : Int)] 3) = Z2 at GZ2 HZ2 CZ2 ⊢
    clear hZs hsz hG g0 f0 g4 f4 hG1 hGS GZ1 HR2 HZ HR CR XR
    have HZ := HZ2
    obtain ⟨l, hl⟩ : ∃ l : M.Leg, l = ⟨(t : Int) - 1, lv, dr, tl, 2, fun i => if i = 0 then (b : Int) else (c : Int)⟩ := ⟨_, rfl⟩
    have GZ := Lib.hid (show Blk Z2 (P1 + 1) 46 #[.int .i64 l.at_, .int .i64 l.lv, .int .i64 l.dr, .bool l.tail, .slice (some ⟨G, 0, none⟩) l.n l.n] by rw [hl]; exact GZ2.out)
    have HAL := Lib.hid (show -100 ≤ l.at_ ∧ l.at_ ≤ 100 ∧ l.n ≤ 100 by rw [hl]; exact ⟨by show -100 ≤ (t : Int) - 1; omega, by show (t : Int) - 1 ≤ 100; omega, by show 2 ≤ 100; omega⟩)
    have HLC := Lib.hid (fun W (hb : Below Z2.heap.size Z2 W) => (show Rd1 W W.heap.size (some ⟨G, 0, none⟩) l.n l.c from .inr ⟨G, 0, rfl, (CZ2.out.below' hb).lt, fun i hi => by
      rw [hl] at hi ⊢
      have hi' : i < 2 := hi
      obtain rfl | rfl : i = 0 ∨ i = 1 := by omega
      · exact (CZ2.out.below' hb).cell 0
      · exact (CZ2.out.below' hb).cell 1⟩))
    have HRR := Lib.hid (show RR = !M.anyTo ln (fun i => M.legC l (L i) (t : Int)) by rw [HRE.out, M.leg2 (f := fun i => if i = 0 then (b : Int) else (c : Int)) (dr := dr) rfl rfl, hl]; rfl)
    clear hl GZ2 CZ2 HRE
    have HNO := Lib.hid (fun (k : Nat) (hk : k < ln) (h : M.legC l (L k) (t : Int) = true) => (show RR = false by
      rw [HRR.out, M.anyTo_iff.2 ⟨k, hk, h⟩]; rfl))
    have HYE := Lib.hid (fun (h : ∀ i, i < ln → M.legC l (L i) (t : Int) = false) => (show RR = true by
      rw [HRR.out]
      have : M.anyTo ln (fun i => M.legC l (L i) (t : Int)) = false := Bool.eq_false_iff.2 fun h2 => by
        obtain ⟨i, hi, h3⟩ := M.anyTo_iff.1 h2
        rw [h i hi] at h3; cases h3
      rw [this]; rfl))
    have hzZ := HZ.out.size
    go_wp2_with fail
    go_loopw [14] (fun i wr => ∃ k : Nat, k ≤ ln ∧ i = .int .i64 (k : Int) ∧ Hid (∀ u : Nat, u < k → M.legC l (L u) (t : Int) = false) ∧ Below Z2.heap.size Z2 wr) (fun i _ => ln - (intOf i).toNat)
    case atStart => exact ⟨0, Nat.zero_le _, rfl, Lib.hid fun u hu => absurd hu (by omega), Below.refl _ _⟩
    case round =>
      obtain ⟨k, hk, rfl, HNT, hbw⟩ := hrel
      have HW := Lib.hid hbw
      have HBW := Lib.hid (HZ.out.trans (hbw.mono hzZ))
      have hzr := hbw.size
      clear hbw
      by_cases hlt : k < ln
      · have g0 := (GZ.out.below' HW.out).cell 0
        have g1 := (GZ.out.below' HW.out).cell 1
        have g2 := (GZ.out.below' HW.out).cell 2
        have g3 := (GZ.out.below' HW.out).cell 3
        have g4 := (GZ.out.below' HW.out).cell 4
        obtain ⟨b, off, rfl, hb, l0, l1, l2, l3, cA', cc', l4, hr, hm⟩ := (HRL.out wr HBW.out).at_ hlt
        have kx : decide (ln ≤ k) = false := decide_eq_false (by omega)
        have HCC := Lib.hid (fun W (hb2 : Below wr.heap.size wr W) => by
          have hh := HAT.out k hlt
          have ha := HAL.out
          exact rclash_any l (L k) l.n cc' W.heap.size (some ⟨G, 0, none⟩) cA' (t : Int) W (by omega) (by omega) (by omega) (by omega) (by omega) (HLC.out W (HW.out.trans (hb2.mono hzr))) ((hr.below (hb2.mono (Nat.le_trans HBB.out HBW.out.size))).more (Nat.le_trans (Nat.le_trans HBB.out HBW.out.size) hb2.size)) (Nat.le_refl _))
        clear hr hm
        obtain ⟨cv, hcv⟩ : ∃ cv, cv = M.legC l (L k) (t : Int) := ⟨_, rfl⟩
        rw [← hcv] at HCC
        have HCV := Lib.hid hcv
        clear hcv
        go_upto_region 12 with fail
        go_still_tail 6, (by kernel_rfl)
        cases cv
        · go_wp2_with (go_at_call 35; go_must (refine (HCC.out _ (Below.refl _ _).drew).mono ?_); rintro e w9 ⟨rfl, hb9⟩; have HB9 := Lib.hid ((Below.refl _ _).drew.trans (hb9.mono (Nat.le_refl _))); clear hb9)
          go_roundw
          case rel => exact ⟨k + 1, by omega, by go_num, Lib.hid fun u hu => by
            rcases Nat.lt_succ_iff_lt_or_eq.1 hu with h | h
            · exact HNT.out u h
            · subst h; exact HCV.out.symm, HW.out.trans (HB9.out.mono hzr)⟩
          case measure => simp [intOf]; omega
        · have HEF := Lib.hid (HNO.out k hlt HCV.out.symm)
          go_wp2_with (go_at_call 35; go_must (refine (HCC.out _ (Below.refl _ _).drew).mono ?_); rintro e w9 ⟨rfl, hb9⟩; have HB9 := Lib.hid ((Below.refl _ _).drew.trans (hb9.mono (Nat.le_refl _))); clear hb9)
          go_ret
          exact ⟨ret_bool HEF.out.symm, HBW.out.trans (HB9.out.mono HBW.out.size)⟩
      · obtain rfl : k = ln := by omega
        have HEF := Lib.hid (HYE.out HNT.out)
        go_wp2_with fail
        go_ret
        exact ⟨ret_bool HEF.out.symm, HBW.out⟩
end
end Go.Proofs.YtkdpmihdhiokkaaGreatDoor
/- The reference's back: the first route through the cells that can be reached. -/
namespace Go.Proofs.YtkdpmihdhiokkaaGreatDoor
open Go.RowKit

/-- rows of bools in memory -/
def RdB (W : World) (B : Nat) (A : Option Addr) (k n : Nat) (R : Nat → Nat → Bool) : Prop :=
  ∀ i, i < k → ∃ b off gA gc, A = some ⟨b, off, none⟩ ∧ b < B ∧ W.cell? ⟨b, off + i, none⟩ = some (.slice gA n gc) ∧ RdV W B gA 1 n (bools (R i))
section
variable {W W' : World} {B k n : Nat} {A : Option Addr} {R : Nat → Nat → Bool}
theorem RdB.below (h : RdB W B A k n R) (hb : Below B W W') : RdB W' B A k n R := fun i hi => by
  obtain ⟨b, off, gA, gc, h1, h2, h3, h4⟩ := h i hi
  exact ⟨b, off, gA, gc, h1, h2, (hb.cell (p := ⟨b, off + i, none⟩) h2).trans h3, h4.below hb⟩
theorem RdB.more {B' : Nat} (h : RdB W B A k n R) (hB : B ≤ B') : RdB W B' A k n R := fun i hi => by
  obtain ⟨b, off, gA, gc, h1, h2, h3, h4⟩ := h i hi
  exact ⟨b, off, gA, gc, h1, Nat.lt_of_lt_of_le h2 hB, h3, h4.more hB⟩
theorem RdB.at_ (h : RdB W B A k n R) {i q : Nat} (hi : i < k) (hq : q < n) : ∃ b off gb go gc, A = some ⟨b, off, none⟩ ∧ b < B ∧ W.cell? ⟨b, off + i, none⟩ = some (.slice (some ⟨gb, go, none⟩) n gc) ∧ gb < B ∧ W.cell? ⟨gb, go + q, none⟩ = some (.bool (R i q)) := by
  obtain ⟨b, off, gA, gc, h1, h2, h3, h4⟩ := h i hi
  obtain ⟨gb, go, rfl, h5, h6⟩ := h4.resolve_left (by omega)
  have h7 := h6 q 0 hq (by omega)
  rw [Nat.mul_one, Nat.add_zero] at h7
  exact ⟨b, off, gb, go, gc, h1, h2, h3, h5, h7⟩
end
theorem back_cat {f : Nat → Int} {q : Int} {m : Nat} {g : Nat → Int} (h0 : g 0 = q) (h1 : ∀ j, j ≤ m → g (j + 1) = f j) : ∀ i j, i < m + 1 + 1 → j < 1 → catF 1 (ints fun _ => q) (ints f) i j = ints g i j := by
  intro i j hi _
  unfold catF ints
  by_cases e : i < 1
  · obtain rfl : i = 0 := by omega
    rw [if_pos e, h0]
  · rw [if_neg e]
    obtain ⟨i', rfl⟩ : ∃ i', i = i' + 1 := ⟨i - 1, by omega⟩
    rw [h1 i' (by omega)]
    rfl
section
variable (s : M.Sea) (dA tA sA lA rA : Option Addr) (dc tc sc ln lc rc B K : Nat) (L : Nat → M.Leg) (w : World)
set_option maxRecDepth 100000 in
set_option maxHeartbeats 6400000 in
theorem rback_ok (at' to' : Nat) (lv dr fr : Int) (tl : Bool) (hs : s.Ok) (hR : RdC w B dA tA sA s.nd s.nt s.nt s.dep s.tide s.sw) (hB : B ≤ w.heap.size) (hL : RdL w B lA ln L) (hln : ln ≤ 1048576) (hat : ∀ i, i < ln → -100 ≤ (L i).at_ ∧ (L i).at_ ≤ 100 ∧ (L i).n ≤ 100)
    (hto : M.tripOk s ⟨(at' : Int), lv, dr, tl, fr, (to' : Int)⟩ = true) (hK : at' + K < s.nt) (hre : M.reach s L ln ⟨(at' : Int), lv, dr, tl, fr, (to' : Int)⟩ K to' = true) (hrows : RdB w w.heap.size rA (K + 1) s.nd (M.reach s L ln ⟨(at' : Int), lv, dr, tl, fr, (to' : Int)⟩)) :
    Calls Tryz.prog 59 #[.agg #[.int .i64 (s.W : Int), .int .i64 (s.H : Int), .slice dA s.nd dc, .slice tA s.nt tc, .slice sA s.nt sc], .slice lA ln lc, .agg #[.int .i64 (at' : Int), .int .i64 lv, .int .i64 dr, .bool tl, .int .i64 fr, .int .i64 (to' : Int)], .slice rA (K + 1) rc] w fun e w' => (∃ v, e = .returned v ∧ Own w' w.heap.size 3 1 v (K + 1) (ints (M.routeF s L ln ⟨(at' : Int), lv, dr, tl, fr, (to' : Int)⟩ K))) ∧ Below w.heap.size w w' := by
  have hnt := hs.t2
  have hnd := hs.nd1
  have hT := (M.tripOk_iff.1 hto)
  have HR := Lib.hid (belowAlloc2 w (.cells #[.int .i64 (s.W : Int), .int .i64 (s.H : Int), .slice dA s.nd dc, .slice tA s.nt tc, .slice sA s.nt sc] 25) (.cells #[.int .i64 (at' : Int), .int .i64 lv, .int .i64 dr, .bool tl, .int .i64 fr, .int .i64 (to' : Int)] 39))
  have CR := Lib.hid ((Blk.new w 25 #[.int .i64 (s.W : Int), .int .i64 (s.H : Int), .slice dA s.nd dc, .slice tA s.nt tc, .slice sA s.nt sc]).alloc (.cells #[.int .i64 (at' : Int), .int .i64 lv, .int .i64 dr, .bool tl, .int .i64 fr, .int .i64 (to' : Int)] 39))
  have XR := Lib.hid (Blk.new1 w (.cells #[.int .i64 (s.W : Int), .int .i64 (s.H : Int), .slice dA s.nd dc, .slice tA s.nt tc, .slice sA s.nt sc] 25) 39 #[.int .i64 (at' : Int), .int .i64 lv, .int .i64 dr, .bool tl, .int .i64 fr, .int .i64 (to' : Int)])
  obtain ⟨X, hX⟩ : ∃ X, X = (w.alloc (.cells #[.int .i64 (s.W : Int), .int .i64 (s.H : Int), .slice dA s.nd dc, .slice tA s.nt tc, .slice sA s.nt sc] 25)).alloc (.cells #[.int .i64 (at' : Int), .int .i64 lv, .int .i64 dr, .bool tl, .int .i64 fr, .int .i64 (to' : Int)] 39) := ⟨_, rfl⟩
  have HXe := Lib.hid hX
  rw [← hX] at HR CR XR
  clear hX
  have HGO := Lib.hid (fun V (b c t : Nat) (hb2 : Below w.heap.size w V) (hb : b < s.nd) (hc : c < s.nd) (ht : t < s.nt) => rgoes1_ok s dA tA sA lA dc tc sc ln lc B L V (at' : Int) lv dr fr (to' : Int) tl c t b hb hs (hR.below (hb2.mono hB)) (Nat.le_trans hB hb2.size) (hL.below (hb2.mono hB)) hln hat hc ht)
  have HRB := Lib.hid (fun V (hb2 : Below w.heap.size w V) => hrows.below hb2)
  obtain ⟨r, hr⟩ : ∃ r : M.Trip, r = ⟨(at' : Int), lv, dr, tl, fr, (to' : Int)⟩ := ⟨_, rfl⟩
  have HRT := Lib.hid (show r.to_.toNat = to' ∧ r.at_.toNat = at' by rw [hr]; exact ⟨Int.toNat_natCast to', Int.toNat_natCast at'⟩)
  rw [← hr] at HGO HRB hre hT
  rw [← hr]
  have HB0 := Lib.hid (show M.bk s L ln r K 0 = to' from HRT.out.1)
  have hre' : M.reach s L ln r K r.to_.toNat = true := by rw [HRT.out.1]; exact hre
  have HBR := Lib.hid (fun j (hj : j ≤ K) => M.bk_reach hre' j hj)
  have HPM := Lib.hid (fun m (hm : m < K) => (show M.bk s L ln r K (m + 1) < s.nd ∧ M.reach s L ln r (K - (m + 1)) (M.bk s L ln r K (m + 1)) = true ∧ (M.adj s.W s.H (M.bk s L ln r K (m + 1)) (M.bk s L ln r K m) && M.goes s L ln r (M.bk s L ln r K (m + 1) : Nat) (M.bk s L ln r K m) (at' + (K - (m + 1)) + 1)) = true ∧
      ∀ b, b < M.bk s L ln r K (m + 1) → M.reach s L ln r (K - (m + 1)) b = true → (M.adj s.W s.H b (M.bk s L ln r K m) && M.goes s L ln r (b : Int) (M.bk s L ln r K m) (at' + (K - (m + 1)) + 1)) = false by
    have h1 := M.bk_reach hre' m (by omega)
    rw [show K - m = (K - (m + 1)) + 1 by omega] at h1
    have h2 := M.pred_spec h1
    rw [HRT.out.2] at h2
    refine ⟨h2.1, h2.2.1, ?_, fun b hb hbr => ?_⟩
    · rw [Bool.and_eq_true]; exact h2.2.2
    · have h3 := (M.firstTo_spec s.nd (fun b => M.reach s L ln r (K - (m + 1)) b && M.adj s.W s.H b (M.bk s L ln r K m) && M.goes s L ln r b (M.bk s L ln r K m) (r.at_.toNat + (K - (m + 1) + 1)))).1 b hb
      rw [hbr, Bool.true_and, HRT.out.2] at h3
      exact h3))
  have hto' : M.tripOk s r = true := by rw [hr]; exact hto
  have HBN := Lib.hid (fun j (hj : j ≤ K) => M.reach_lt (s := s) (L := L) (n := ln) (r := r) hto' hs.nd (HBR.out j hj))
  obtain ⟨i0, ji, jz0, jz1, jz2⟩ := info_parts int_info
  have MI := Lib.hid (And.intro ji (And.intro jz0 (And.intro jz1 jz2)))
  clear ji jz0 jz1 jz2 hs hR hB hL hat hto hre hrows hre' hT hr hto'
  have c0 := CR.out.cell 0
  have c1 := CR.out.cell 1
  have c2 := CR.out.cell 2
  have c3 := CR.out.cell 3
  have c4 := CR.out.cell 4
  have x0 := XR.out.cell 0
  have x1 := XR.out.cell 1
  have x2 := XR.out.cell 2
  have x3 := XR.out.cell 3
  have x4 := XR.out.cell 4
  have x5 := XR.out.cell 5
  go_enter Tryz.func59, Tryz.ntmps59
  go_upto_region 1 with fail
  rw [← HXe.out]
  clear HXe
  have O0 := Lib.hid (own_one (Blk.new X 3 #[.int .i64 (to' : Int)]) (ints fun j => ((M.bk s L ln r K (0 - j) : Nat) : Int)) (by show Value.int .i64 ((M.bk s L ln r K 0 : Nat) : Int) = _; rw [HB0.out]))
  have HA0 := Lib.hid (belowAlloc X (.cells #[.int .i64 (to' : Int)] 3))
  have hzX := HR.out.size
  have hwk : IntKind.i64.wrap (((K + 1 : Nat) : Int) - 2) = (K : Int) - 1 := by rw [IntKind.wrap_i64]; omega
  have hwk2 : IntKind.i64.wrap ((K : Int) + 1 - 2) = (K : Int) - 1 := by rw [IntKind.wrap_i64]; omega
  go_upto_region 3 with fail
  clear c0 c1 c2 c3 c4 x0 x1 x2 x3 x4 x5
  generalize X.alloc (.cells #[.int .i64 (to' : Int)] 3) = Y0 at HA0 O0 ⊢
  have HY := Lib.hid (HR.out.trans (HA0.out.mono hzX))
  have CY := Lib.hid (CR.out.below' HA0.out)
  have XY := Lib.hid (XR.out.below' HA0.out)
  have O1 := Lib.hid (O0.out.less hzX)
  have hzY := HY.out.size
  clear HA0 O0 CR XR HR
  go_loopw [9, 10] (fun v i wr => ∃ (m : Nat) (e : Int), m ≤ K ∧ i = .int .i64 e ∧ Hid (e = (K : Int) - 1 - m) ∧ Own wr w.heap.size 3 1 v (m + 1) (ints fun j => ((M.bk s L ln r K (m - j) : Nat) : Int)) ∧ Below Y0.heap.size Y0 wr) (fun _ i _ => (intOf i + 1).toNat)
  case atStart => exact ⟨0, (K : Int) - 1, Nat.zero_le _, rfl, Lib.hid (by omega), O1.out, Below.refl _ _⟩
  case round =>
    obtain ⟨m, e, hm, rfl, HE, ho, hbw⟩ := hrel
    obtain ⟨g9, c9, rfl⟩ := ho.nz (Nat.succ_pos m)
    have HO := Lib.hid ho
    have HW := Lib.hid hbw
    have HBW := Lib.hid (HY.out.trans (hbw.mono hzY))
    have hzr := hbw.size
    clear ho hbw
    obtain ⟨wo, rfl⟩ : ∃ wo, wo = wr := ⟨_, rfl⟩
    by_cases hlt : m < K
    · obtain ⟨j, hj⟩ : ∃ j, j = K - (m + 1) := ⟨_, rfl⟩
      obtain rfl : e = (j : Int) := by have := HE.out; omega
      have HJ := Lib.hid (show j = K - (m + 1) ∧ j < K from ⟨hj, by omega⟩)
      have HP := Lib.hid (HPM.out m hlt)
      rw [← hj] at HP
      obtain ⟨cm, hcm⟩ : ∃ cm, cm = M.bk s L ln r K m := ⟨_, rfl⟩
      obtain ⟨pm, hpm⟩ : ∃ pm, pm = M.bk s L ln r K (m + 1) := ⟨_, rfl⟩
      have HCM := Lib.hid hcm
      have HPM1 := Lib.hid hpm
      have hcn : cm < s.nd := by rw [hcm]; exact HBN.out m (by omega)
      rw [← hcm, ← hpm] at HP
      clear hcm hpm hj
      have gj : decide ((0 : Int) ≤ (j : Int)) = true := decide_eq_true (by omega)
      have hpn := HP.out.1
      have htl : at' + j + 1 < s.nt := by have := HJ.out; omega
      go_upto_block 1 with fail
      go_cut [9] (fun v wx => Own wx w.heap.size 3 1 v (m + 1 + 1) (ints fun j => ((M.bk s L ln r K (m + 1 - j) : Nat) : Int)) ∧ Below Y0.heap.size Y0 wx)
      case first =>
        have kj : decide (K + 1 ≤ j) = false := decide_eq_false (by have := HJ.out; omega)
        have kj2 : (j : Int) < (K : Int) + 1 := (by have := HJ.out; omega)
        have km2 : (0 : Int) < (m : Int) + 1 := (by omega)
        go_wp2_with fail
        go_loopw [9, 11] (fun v i wr => ∃ q : Nat, v = .slice (some ⟨g9, 0, none⟩) (m + 1) c9 ∧ q ≤ pm ∧ i = .int .i64 (q : Int) ∧ Below wo.heap.size wo wr) (fun _ i _ => s.nd - (intOf i).toNat)
        case atStart => exact ⟨0, rfl, Nat.zero_le _, rfl, Below.refl _ _⟩
        case round =>
          obtain ⟨q, rfl, hq, rfl, hbq⟩ := hrel
          have HQ := Lib.hid hbq
          have HBQ := Lib.hid (HBW.out.trans (hbq.mono HBW.out.size))
          have HYQ := Lib.hid (HW.out.trans (hbq.mono hzr))
          have hzq := hbq.size
          clear hbq
          have hqn : q < s.nd := by omega
          have kq : decide (s.nd ≤ q) = false := decide_eq_false (by omega)
          obtain ⟨rb, ro, gb, gf, gc, rfl, hrb, b0, hgb, b1⟩ := (HRB.out wr HBQ.out).at_ (i := j) (q := q) (by have := HJ.out; omega) hqn
          obtain ⟨rv, hrv⟩ : ∃ rv, rv = M.reach s L ln r j q := ⟨_, rfl⟩
          rw [← hrv] at b1
          cases rv
          · have hne : q ≠ pm := fun h => by rw [h, HP.out.2.1] at hrv; cases hrv
            clear hrv
            go_upto_region 8 with fail
            go_quiet (fail)
            go_wp2_with fail
            go_roundw
            case rel => exact ⟨q + 1, rfl, by omega, by go_num, HQ.out.drewN nq⟩
            case measure => simp [intOf]; omega
          · have HRV := Lib.hid hrv
            clear hrv
            have n0 : wr.cell? ⟨g9, 0, none⟩ = some (.int .i64 (cm : Int)) := by
              have h := (HO.out.below HQ.out).cell1 (i := 0) (by omega)
              rw [h]
              show some (Value.int .i64 ((M.bk s L ln r K (m - 0) : Nat) : Int)) = _
              rw [Nat.sub_zero, ← HCM.out]
            have HG1 := Lib.hid (fun V hb2 => HGO.out V q cm (at' + j + 1) hb2 hqn hcn htl)
            have hw1 : IntKind.i64.wrap ((at' : Int) + (j : Int)) = (at' : Int) + (j : Int) := by rw [IntKind.wrap_i64]; omega
            have hw2 : IntKind.i64.wrap ((at' : Int) + (j : Int) + 1) = ((at' + j + 1 : Nat) : Int) := by rw [IntKind.wrap_i64]; omega
            obtain ⟨gv, hgv⟩ : ∃ gv, gv = (M.adj s.W s.H q cm && M.goes s L ln r (q : Int) cm (at' + j + 1)) := ⟨_, rfl⟩
            obtain ⟨tt, htt⟩ : ∃ tt : Nat, tt = at' + j + 1 := ⟨_, rfl⟩
            rw [← htt] at HG1 hgv hw2
            have HTT := Lib.hid htt
            clear htt
            rw [← hgv] at HG1
            have HGV := Lib.hid hgv
            clear hgv
            have CQ := CY.out.below' HYQ.out
            have XQ := XY.out.below' HYQ.out
            have c0 := CQ.cell 0
            have c1 := CQ.cell 1
            have c2 := CQ.cell 2
            have c3 := CQ.cell 3
            have c4 := CQ.cell 4
            have x0 := XQ.cell 0
            have x1 := XQ.cell 1
            have x2 := XQ.cell 2
            have x3 := XQ.cell 3
            have x4 := XQ.cell 4
            have x5 := XQ.cell 5
            clear CQ XQ
            go_upto_region 8 with fail
            go_still_tail 20, (by kernel_rfl)
            clear c0 c1 c2 c3 c4 x0 x1 x2 x3 x4 x5 n0 b0 b1
            cases gv
            · have hne : q ≠ pm := fun h => by have hgv := HGV.out; rw [h, HTT.out, HP.out.2.2.1] at hgv; cases hgv
              go_wp2_with (go_at_call 58; go_must (refine (HG1.out _ HBQ.out.drew).mono ?_); rintro e w9 ⟨rfl, hb9⟩; have HB9 := Lib.hid ((Below.refl _ _).drew.trans (hb9.mono (Nat.le_refl _))); clear hb9)
              go_roundw
              case rel => exact ⟨q + 1, rfl, by omega, by go_num, HQ.out.trans (HB9.out.mono hzq)⟩
              case measure => simp [intOf]; omega
            · have HQP := Lib.hid (show q = pm by
                rcases Nat.lt_or_ge q pm with h | h
                · have h3 := HP.out.2.2.2 q h HRV.out.symm
                  rw [← HTT.out, ← HGV.out] at h3; cases h3
                · omega)
              go_wp2_with (first
                | (go_at_call 58; go_must (refine (HG1.out _ HBQ.out.drew).mono ?_); rintro e w9 ⟨rfl, hb9⟩; have HB9 := Lib.hid ((Below.refl _ _).drew.trans (hb9.mono (Nat.le_refl _))); have HY9 := Lib.hid (HYQ.out.trans (HB9.out.mono HYQ.out.size)); have O9 := Lib.hid ((HO.out.below HQ.out).below HB9.out); have hz9 := HY9.out.size; clear hb9)
                | (at_builtin; go_must (refine wpList_cat rfl (.tmp 54) (.tmp 55) 22 rfl 3 i0 _ 1 8 Tryz.underlying22 MI.out.1 MI.out.2.1 MI.out.2.2.1 MI.out.2.2.2 rfl (by decide) (by decide) (base := w9.heap.size) rfl (own_one (Blk.new w9 3 #[.int .i64 (q : Int)]) (ints fun _ => (q : Int)) rfl) (by decide) (by simp) (fun _ _ => rfl) rfl ((O9.out.alloc (.cells #[.int .i64 (q : Int)] 3)).rdV) (by omega) ?_); intro v7 w7 o7 hg7 hat7; have HO7 := Lib.hid o7; have HG7 := Lib.hid hg7; clear o7 hg7 hat7))
              go_meet
              case rel =>
                refine ⟨?_, (HY9.out.alloc hz9 (.cells #[.int .i64 (q : Int)] 3)).grown HG7.out (Nat.le_trans hz9 (by simp)) (fun g hg => by have e : w9.heap.size = g := Option.some.inj hg; rw [← e]; exact hz9)⟩
                have h := HO7.out
                rw [show 1 + (m + 1) = m + 1 + 1 by omega] at h
                exact (h.less (show w.heap.size ≤ w9.heap.size by have := HBW.out.size; omega)).congr (back_cat (by rw [Nat.sub_zero, ← HPM1.out, HQP.out]) fun j hj => by rw [show m + 1 - (j + 1) = m - j by omega])
      case rest =>
        obtain ⟨ho, hbw⟩ := hcut
        have HO9 := Lib.hid ho
        have HW9 := Lib.hid hbw
        clear ho hbw
        have hwj : IntKind.i64.wrap ((j : Int) - 1) = (j : Int) - 1 := by rw [IntKind.wrap_i64]; omega
        go_wp2_with fail
        go_roundw
        case rel => exact ⟨m + 1, (j : Int) - 1, by omega, by go_num, Lib.hid (by have := HJ.out; omega), HO9.out, HW9.out⟩
        case measure => simp [intOf] <;> omega
    · obtain rfl : m = K := by omega
      obtain rfl : e = -1 := by have := HE.out; omega
      go_wp2_with fail
      go_ret
      exact ⟨⟨_, rfl, HO.out⟩, HBW.out⟩
end
end Go.Proofs.YtkdpmihdhiokkaaGreatDoor
/- The reference's route. -/
namespace Go.Proofs.YtkdpmihdhiokkaaGreatDoor
open Go.RowKit

/-- rows of bools that a call has made -/
def OwnRB (W : World) (base : Nat) (v : Value) (k n : Nat) (R : Nat → Nat → Bool) : Prop := ∃ V : Nat → Value, Own W base 94 1 v k (fun i _ => V i) ∧ ∀ i, i < k → Own W base 4 1 (V i) n (bools (R i))
section
variable {W W' : World} {base k n : Nat} {v : Value} {R : Nat → Nat → Bool}
theorem OwnRB.below (h : OwnRB W base v k n R) (hb : Below W.heap.size W W') : OwnRB W' base v k n R := by
  obtain ⟨V, h1, h2⟩ := h
  exact ⟨V, h1.below hb, fun i hi => (h2 i hi).below hb⟩
theorem OwnRB.nil_ : OwnRB W base (.slice none 0 0) 0 n R := ⟨fun _ => .slice none 0 0, Own.nil_, fun i hi => absurd hi (by omega)⟩
theorem OwnRB.form (h : OwnRB W base v k n R) : ∃ A c, v = .slice A k c := by
  obtain ⟨V, h1, _⟩ := h
  exact h1.form
theorem OwnRB.rd {A : Option Addr} {c : Nat} (h : OwnRB W base (.slice A k c) k n R) : RdB W W.heap.size A k n R := by
  obtain ⟨V, h1, h2⟩ := h
  intro i hi
  obtain ⟨g, c', e⟩ := h1.nz (by omega)
  injection e with e1 _ e2
  subst e1; subst e2
  obtain ⟨gA, gc, e⟩ := (h2 i hi).form
  have h3 := h1.cell1 hi
  have h4 := h2 i hi
  rw [e] at h3 h4
  exact ⟨g, 0, gA, gc, rfl, (h1.block rfl).2, by rw [Nat.zero_add]; exact h3, h4.rdV⟩
/-- behind the append of one more row -/
theorem OwnRB.app {v' u : Value} {V : Nat → Value} (h1 : Own W base 94 1 v k (fun i _ => V i)) (h2 : ∀ i, i < k → Own W base 4 1 (V i) n (bools (R i))) (hu : Own W base 4 1 u n (bools (R k))) (hg : W.grownBy W' v.ownBlock)
    (ho : Own W' base 94 1 v' (k + 1) (upd (fun i _ => V i) k (fun _ => u))) : OwnRB W' base v' (k + 1) n R := by
  refine ⟨fun i => if i = k then u else V i, ho.congr fun i j _ _ => ?_, fun i hi => ?_⟩
  · unfold upd
    by_cases e : i = k
    · simp only [if_pos e]
    · simp only [if_neg e]
  · by_cases e : i = k
    · subst e
      simp only [if_true]
      exact hu.apart_grown (h1.apart_type hu (by decide)) hg
    · simp only [if_neg e]
      have h3 := h2 i (by omega)
      exact h3.apart_grown (h1.apart_type h3 (by decide)) hg
end
theorem ret_tup {v : Value} {a b : Bool} (h : a = b) : Ending.returned (.tuple #[v, .bool a]) = .returned (.tuple #[v, .bool b]) := by rw [h]
theorem bsl_info : (Tryz.prog.info? 94).map (fun i => (i.zero, i.size, i.bytes)) = some (some (.slice none 0 0), 1, 24) := by kernel_rfl
/-- a row of bools up to c, then one cell q -/
def rowB (f : Nat → Bool) (c : Nat) (q : Bool) (x : Nat) : Bool := if x < c then f x else if x = c then q else false
theorem rowB_set {f : Nat → Bool} {c : Nat} {q q' : Bool} (i j : Nat) : upd (bools (rowB f c q)) c (fun _ => .bool q') i j = bools (rowB f c q') i j := by
  unfold upd bools rowB
  by_cases e : i = c
  · rw [if_pos e, if_neg (by omega), if_pos e]
  · rw [if_neg e]
    by_cases e2 : i < c
    · rw [if_pos e2, if_pos e2]
    · rw [if_neg e2, if_neg e2, if_neg e, if_neg e]
theorem rowB_next {f : Nat → Bool} {c : Nat} {q : Bool} (h : q = f c) (i j : Nat) : bools (rowB f c q) i j = bools (rowB f (c + 1) false) i j := by
  unfold bools rowB
  by_cases e2 : i < c
  · rw [if_pos e2, if_pos (by omega)]
  · rw [if_neg e2]
    by_cases e : i = c
    · subst e; rw [if_pos rfl, if_pos (by omega), h]
    · rw [if_neg e, if_neg (by omega)]
      split <;> rfl
theorem rowB_full {f : Nat → Bool} {n : Nat} (i j : Nat) (hi : i < n) : bools (rowB f n false) i j = bools f i j := by
  unfold bools rowB
  rw [if_pos hi]
theorem rowB_zero {f : Nat → Bool} (i j : Nat) : Value.bool false = bools (rowB f 0 false) i j := by
  unfold bools rowB
  rw [if_neg (by omega)]
  split <;> rfl
section
variable (s : M.Sea) (dA tA sA lA : Option Addr) (dc tc sc ln lc B : Nat) (L : Nat → M.Leg) (w : World)
set_option maxRecDepth 100000 in
set_option maxHeartbeats 3200000 in
theorem rroute_nat (at' fr' to' : Nat) (lv dr : Int) (tl : Bool) (hs : s.Ok) (hR : RdC w B dA tA sA s.nd s.nt s.nt s.dep s.tide s.sw) (hB : B ≤ w.heap.size) (hL : RdL w B lA ln L) (hln : ln ≤ 1048576) (hat : ∀ i, i < ln → -100 ≤ (L i).at_ ∧ (L i).at_ ≤ 100 ∧ (L i).n ≤ 100)
    (hto : M.tripOk s ⟨(at' : Int), lv, dr, tl, (fr' : Int), (to' : Int)⟩ = true) :
    Calls Tryz.prog 30 #[.agg #[.int .i64 (s.W : Int), .int .i64 (s.H : Int), .slice dA s.nd dc, .slice tA s.nt tc, .slice sA s.nt sc], .slice lA ln lc, .agg #[.int .i64 (at' : Int), .int .i64 lv, .int .i64 dr, .bool tl, .int .i64 (fr' : Int), .int .i64 (to' : Int)]] w fun e w' => (∃ v, e = .returned (.tuple #[v, .bool (M.hasR s L ln ⟨(at' : Int), lv, dr, tl, (fr' : Int), (to' : Int)⟩)]) ∧ RouteV s L ln ⟨(at' : Int), lv, dr, tl, (fr' : Int), (to' : Int)⟩ w.heap.size v w') ∧ Below w.heap.size w w' := by
  have hnt := hs.t2
  have hnd := hs.nd1
  have hT := (M.tripOk_iff.1 hto)
  have hT1 : at' < s.nt := by have h : (at' : Int) < s.nt := hT.1.2; omega
  have hT2 : fr' < s.nd := by have h : (fr' : Int) < s.nd := hT.2.1.2; omega
  have hT3 : to' < s.nd := by have h : (to' : Int) < s.nd := hT.2.2.1.2; omega
  have HR := Lib.hid (belowAlloc2 w (.cells #[.int .i64 (s.W : Int), .int .i64 (s.H : Int), .slice dA s.nd dc, .slice tA s.nt tc, .slice sA s.nt sc] 25) (.cells #[.int .i64 (at' : Int), .int .i64 lv, .int .i64 dr, .bool tl, .int .i64 (fr' : Int), .int .i64 (to' : Int)] 39))
  have CR := Lib.hid ((Blk.new w 25 #[.int .i64 (s.W : Int), .int .i64 (s.H : Int), .slice dA s.nd dc, .slice tA s.nt tc, .slice sA s.nt sc]).alloc (.cells #[.int .i64 (at' : Int), .int .i64 lv, .int .i64 dr, .bool tl, .int .i64 (fr' : Int), .int .i64 (to' : Int)] 39))
  have XR := Lib.hid (Blk.new1 w (.cells #[.int .i64 (s.W : Int), .int .i64 (s.H : Int), .slice dA s.nd dc, .slice tA s.nt tc, .slice sA s.nt sc] 25) 39 #[.int .i64 (at' : Int), .int .i64 lv, .int .i64 dr, .bool tl, .int .i64 (fr' : Int), .int .i64 (to' : Int)])
  obtain ⟨X, hX⟩ : ∃ X, X = (w.alloc (.cells #[.int .i64 (s.W : Int), .int .i64 (s.H : Int), .slice dA s.nd dc, .slice tA s.nt tc, .slice sA s.nt sc] 25)).alloc (.cells #[.int .i64 (at' : Int), .int .i64 lv, .int .i64 dr, .bool tl, .int .i64 (fr' : Int), .int .i64 (to' : Int)] 39) := ⟨_, rfl⟩
  have HXe := Lib.hid hX
  rw [← hX] at HR CR XR
  clear hX
  have HG0 := Lib.hid (fun V (c t : Nat) (hb2 : Below w.heap.size w V) (hc : c < s.nd) (ht : t < s.nt) => rgoes0_ok s dA tA sA lA dc tc sc ln lc B L V (at' : Int) lv dr (fr' : Int) (to' : Int) tl c t hs (hR.below (hb2.mono hB)) (Nat.le_trans hB hb2.size) (hL.below (hb2.mono hB)) hln hat hc ht)
  have HG1 := Lib.hid (fun V (b c t : Nat) (hb2 : Below w.heap.size w V) (hb : b < s.nd) (hc : c < s.nd) (ht : t < s.nt) => rgoes1_ok s dA tA sA lA dc tc sc ln lc B L V (at' : Int) lv dr (fr' : Int) (to' : Int) tl c t b hb hs (hR.below (hb2.mono hB)) (Nat.le_trans hB hb2.size) (hL.below (hb2.mono hB)) hln hat hc ht)
  have HBK := Lib.hid (fun V rA rc K (hb2 : Below w.heap.size w V) hK hre hrows => rback_ok s dA tA sA lA rA dc tc sc ln lc rc B K L V at' to' lv dr (fr' : Int) tl hs (hR.below (hb2.mono hB)) (Nat.le_trans hB hb2.size) (hL.below (hb2.mono hB)) hln hat hto hK hre hrows)
  have HCE := Lib.hid (fun V => rcells_ok s dA tA sA dc tc sc V hs)
  obtain ⟨r, hr⟩ : ∃ r : M.Trip, r = ⟨(at' : Int), lv, dr, tl, (fr' : Int), (to' : Int)⟩ := ⟨_, rfl⟩
  have HRT := Lib.hid (show r.to_.toNat = to' ∧ r.at_.toNat = at' ∧ r.from_ = (fr' : Int) by rw [hr]; exact ⟨Int.toNat_natCast to', Int.toNat_natCast at', rfl⟩)
  rw [← hr] at HG0 HG1 HBK
  rw [← hr]
  have HR0 := Lib.hid (fun c => (show M.reach s L ln r 0 c = (decide ((c : Int) = r.from_) && M.goes s L ln r (-1) c r.at_.toNat) from rfl))
  have HRK := Lib.hid (fun k c => (show M.reach s L ln r (k + 1) c = M.anyTo s.nd (fun b => M.reach s L ln r k b && M.adj s.W s.H b c && M.goes s L ln r (b : Int) c (r.at_.toNat + (k + 1))) from rfl))
  have HYES := Lib.hid (fun k (hk : k < s.nt - at') (h : M.reach s L ln r k to' = true) (hb : ∀ j, j < k → M.reach s L ln r j to' = false) => (show M.endK s L ln r = k from M.endK_eq (by rw [HRT.out.2.1]; exact hk) (by rw [HRT.out.1]; exact h) (fun j hj => by rw [HRT.out.1]; exact hb j hj)))
  have HNO := Lib.hid (fun (hb : ∀ j, j < s.nt - at' → M.reach s L ln r j to' = false) => (show ¬ M.endK s L ln r < s.nt - r.at_.toNat from fun h => by
    have h2 := (M.firstTo_spec (s.nt - r.at_.toNat) (fun k => M.reach s L ln r k r.to_.toNat)).2 h
    rw [HRT.out.2.1] at h
    have h3 := hb _ h
    have h4 : M.reach s L ln r (M.endK s L ln r) r.to_.toNat = true := h2
    rw [HRT.out.1, h3] at h4
    cases h4))
  obtain ⟨i0, ji, jz0, jz1, jz2⟩ := info_parts bool_info
  have MI := Lib.hid (And.intro ji (And.intro jz0 (And.intro jz1 jz2)))
  obtain ⟨j0, ki, kz0, kz1, kz2⟩ := info_parts bsl_info
  have MJ := Lib.hid (And.intro ki (And.intro kz0 (And.intro kz1 kz2)))
  clear ji jz0 jz1 jz2 ki kz0 kz1 kz2 hs hR hB hL hat hto hT hr
  have c0 := (CR.out).cell 0
  have c1 := (CR.out).cell 1
  have c2 := (CR.out).cell 2
  have c3 := (CR.out).cell 3
  have c4 := (CR.out).cell 4
  have x0 := (XR.out).cell 0
  have x1 := (XR.out).cell 1
  have x2 := (XR.out).cell 2
  have x3 := (XR.out).cell 3
  have x4 := (XR.out).cell 4
  have x5 := (XR.out).cell 5
  go_enter Tryz.func30, Tryz.ntmps30
  go_upto_region 1 with fail
  rw [← HXe.out]
  clear HXe
  have hzX := HR.out.size
  go_upto_region 3 with fail
  clear c0 c1 c2 c3 c4 x0 x1 x2 x3 x4 x5
  go_loopw [8, 9] (fun v i wr => ∃ k tk : Nat, k ≤ s.nt - at' ∧ i = .int .i64 (tk : Int) ∧ Hid (tk = at' + k) ∧ Hid (∀ j, j < k → M.reach s L ln r j to' = false) ∧ OwnRB wr X.heap.size v k s.nd (M.reach s L ln r) ∧ Below X.heap.size X wr) (fun _ i _ => s.nt - (intOf i).toNat)
  case atStart => exact ⟨0, at', Nat.zero_le _, rfl, Lib.hid rfl, Lib.hid fun j hj => absurd hj (by omega), OwnRB.nil_, Below.refl _ _⟩
  case round =>
    obtain ⟨k, tk, hk, rfl, HTK, HPRE, hor, hbw⟩ := hrel
    obtain ⟨rA, rcap, rfl⟩ := hor.form
    have HOR := Lib.hid hor
    have HW := Lib.hid hbw
    have HBW := Lib.hid (HR.out.trans (hbw.mono hzX))
    have hzr := hbw.size
    clear hor hbw
    have CW := CR.out.below' HW.out
    have XW := XR.out.below' HW.out
    have c0 := (CW).cell 0
    have c1 := (CW).cell 1
    have c2 := (CW).cell 2
    have c3 := (CW).cell 3
    have c4 := (CW).cell 4
    have x0 := (XW).cell 0
    have x1 := (XW).cell 1
    have x2 := (XW).cell 2
    have x3 := (XW).cell 3
    have x4 := (XW).cell 4
    have x5 := (XW).cell 5
    clear CW XW
    obtain ⟨wo, rfl⟩ : ∃ wo, wo = wr := ⟨_, rfl⟩
    have htk := HTK.out
    by_cases hlt : k < s.nt - at'
    · have htt : tk < s.nt := by omega
      clear htk
      go_upto_region 6 with (first
        | (go_at_call 19; go_must (refine (HCE.out _).mono ?_); rintro e w1 ⟨rfl, hb1⟩; have HB1 := Lib.hid hb1; clear hb1)
        | (at_make; refine wpList_make_full _ rfl (.tmp 23) (.tmp 23) 94 rfl w1.heap.size 4 i0 (.bool false) 1 Tryz.underlying94 MI.out.1 MI.out.2.1 MI.out.2.2.1 .i64 .i64 s.nd s.nd s.nd rfl rfl rfl rfl (by rw [MI.out.2.2.2]; omega) (by unfold maxLen; omega) (Nat.le_refl _) ?_; intro w3 hm hg3; have HM3 := Lib.hid (own_made hm); have HG3 := Lib.hid (grown_below hg3); clear hm hg3))
      clear c0 c1 c2 c3 c4 x0 x1 x2 x3 x4 x5
      have hG1 : wo.heap.size ≤ w1.heap.size := HB1.out.size
      have HO1 := Lib.hid (HOR.out.below HB1.out)
      have M3 := Lib.hid (HM3.out.congr fun i j _ _ => rowB_zero (f := M.reach s L ln r k) i j)
      have HX1 := Lib.hid (HW.out.trans (HB1.out.mono hzr))
      clear HM3
      obtain ⟨G, hG⟩ : ∃ G, G = w1.heap.size := ⟨_, rfl⟩
      have HGE := Lib.hid hG
      rw [← hG] at M3 HG3 hG1
      rw [← hG]
      clear hG
      go_wp2_with fail
      go_loopw [11] (fun i wq => ∃ c : Nat, c ≤ s.nd ∧ i = .int .i64 (c : Int) ∧ Own wq G 4 1 (.slice (some ⟨G, 0, none⟩) s.nd s.nd) s.nd (bools (rowB (M.reach s L ln r k) c false)) ∧ Below G w1 wq) (fun i _ => s.nd - (intOf i).toNat)
      case atStart => exact ⟨0, Nat.zero_le _, rfl, M3.out, HG3.out⟩
      case round =>
        obtain ⟨c, hc, rfl, ho, hbq⟩ := hrel
        have HO := Lib.hid ho
        have HQ := Lib.hid hbq
        have HXQ := Lib.hid (HX1.out.trans (hbq.mono (Nat.le_trans hzr hG1)))
        have HBQ := Lib.hid (HR.out.trans (HXQ.out.mono hzX))
        have hq1 : G ≤ wr.heap.size := Nat.le_of_lt (ho.block rfl).2
        clear ho hbq
        obtain ⟨wc, rfl⟩ : ∃ wc, wc = wr := ⟨_, rfl⟩
        have CQ := CR.out.below' HXQ.out
        have XQ := XR.out.below' HXQ.out
        have c0 := (CQ).cell 0
        have c1 := (CQ).cell 1
        have c2 := (CQ).cell 2
        have c3 := (CQ).cell 3
        have c4 := (CQ).cell 4
        have x0 := (XQ).cell 0
        have x1 := (XQ).cell 1
        have x2 := (XQ).cell 2
        have x3 := (XQ).cell 3
        have x4 := (XQ).cell 4
        have x5 := (XQ).cell 5
        clear CQ XQ
        by_cases hcl : c < s.nd
        · have kc : decide (s.nd ≤ c) = false := decide_eq_false (by omega)
          have kc2 : (c : Int) < (s.nd : Int) := (by omega)
          by_cases hk0 : k = 0
          · have g31 : ((tk : Int) == (at' : Int)) = true := by rw [beq_iff_eq]; have := HTK.out; omega
            have HTA := Lib.hid (show tk = at' by have := HTK.out; omega)
            have HK0 := Lib.hid hk0
            have r0 := HO.out.cell1 hcl
            have f0 := HO.out.frz c
            unfold bools at r0
            by_cases hcf : c = fr'
            · have gcf : ((c : Int) == (fr' : Int)) = true := by rw [beq_iff_eq]; omega
              have HGC := Lib.hid (fun V hb2 => HG0.out V c tk hb2 hcl htt)
              obtain ⟨gv, hgv⟩ : ∃ gv, gv = M.goes s L ln r (-1) c tk := ⟨_, rfl⟩
              rw [← hgv] at HGC
              have HGV := Lib.hid (show gv = M.reach s L ln r k c by rw [HK0.out, HR0.out, hgv, HRT.out.2.2, HRT.out.2.1, decide_eq_true (by omega), Bool.true_and, HTA.out])
              clear hgv hcf hk0
              go_wp2_with (go_at_call 58; go_must (refine (HGC.out _ HBQ.out).mono ?_); rintro e w9 ⟨rfl, hb9⟩; have O9 := Lib.hid (HO.out.below hb9); have HB9 := Lib.hid (HQ.out.trans (hb9.mono hq1)); clear hb9 r0 f0; have r0 := O9.out.cell1 hcl; have f0 := O9.out.frz c)
              go_roundw
              case rel => exact ⟨c + 1, by omega, by go_num, ((O9.out.set1 c (.bool gv)).congr fun i j _ _ => rowB_set i j).congr fun i j _ _ => rowB_next HGV.out i j, HB9.out.setCell (p := ⟨G, c, none⟩) (Nat.le_refl _) _⟩
              case measure => simp [intOf]; omega
            · have gcf : ((c : Int) == (fr' : Int)) = false := by rw [beq_eq_false_iff_ne]; omega
              have HGV := Lib.hid (show false = M.reach s L ln r k c by rw [HK0.out, HR0.out, HRT.out.2.2, decide_eq_false (by omega), Bool.false_and])
              clear hcf hk0
              go_wp2_with fail
              go_roundw
              case rel => exact ⟨c + 1, by omega, by go_num, ((HO.out.set1 c (.bool false)).congr fun i j _ _ => rowB_set i j).congr fun i j _ _ => rowB_next HGV.out i j, HQ.out.setCell (p := ⟨G, c, none⟩) (Nat.le_refl _) _⟩
              case measure => simp [intOf]; omega
          · have g31 : ((tk : Int) == (at' : Int)) = false := by rw [beq_eq_false_iff_ne]; have := HTK.out; omega
            obtain ⟨k', hk'⟩ : ∃ k', k = k' + 1 := ⟨k - 1, by omega⟩
            have HKK := Lib.hid hk'
            have HRC := Lib.hid (show M.reach s L ln r k c = M.anyTo s.nd (fun b => M.reach s L ln r k' b && M.adj s.W s.H b c && M.goes s L ln r (b : Int) c tk) by rw [hk', HRK.out, HRT.out.2.1, HTK.out, hk'])
            obtain ⟨P, hP⟩ : ∃ P : Nat → Bool, P = (fun b => M.reach s L ln r k' b && M.adj s.W s.H b c && M.goes s L ln r (b : Int) c tk) := ⟨_, rfl⟩
            have HPE := Lib.hid (fun b => (show P b = (M.reach s L ln r k' b && (M.adj s.W s.H b c && M.goes s L ln r (b : Int) c tk)) by simp only [hP, Bool.and_assoc]))
            rw [← hP] at HRC
            have HAS := Lib.hid (fun b => (show M.anyTo (b + 1) P = (M.anyTo b P || P b) from rfl))
            have hwk : IntKind.i64.wrap ((k : Int) - 1) = (k' : Int) := by rw [IntKind.wrap_i64]; omega
            have kb1 : decide (k ≤ k') = false := decide_eq_false (by omega)
            have kb2 : (k' : Int) < (k : Int) := (by omega)
            have hkk : k' < k := (by omega)
            clear hP hk' hk0
            go_wp2_with fail
            go_loopw [12] (fun i wb => ∃ b : Nat, b ≤ s.nd ∧ i = .int .i64 (b : Int) ∧ Own wb G 4 1 (.slice (some ⟨G, 0, none⟩) s.nd s.nd) s.nd (bools (rowB (M.reach s L ln r k) c (M.anyTo b P))) ∧ Below G w1 wb) (fun i _ => s.nd - (intOf i).toNat)
            case atStart => exact ⟨0, Nat.zero_le _, rfl, HO.out, HQ.out⟩
            case round =>
              clear c0 c1 c2 c3 c4 x0 x1 x2 x3 x4 x5
              obtain ⟨b, hb, rfl, ho2, hbb⟩ := hrel
              have HO2 := Lib.hid ho2
              have HQ2 := Lib.hid hbb
              have HXB := Lib.hid (HX1.out.trans (hbb.mono (Nat.le_trans hzr hG1)))
              have HBB2 := Lib.hid (HR.out.trans (HXB.out.mono hzX))
              have hq2 : G ≤ wr.heap.size := Nat.le_of_lt (ho2.block rfl).2
              clear ho2 hbb
              by_cases hbl : b < s.nd
              · have kb : decide (s.nd ≤ b) = false := decide_eq_false (by omega)
                have kb3 : (b : Int) < (s.nd : Int) := (by omega)
                have CB := CR.out.below' HXB.out
                have XB := XR.out.below' HXB.out
                have c0 := (CB).cell 0
                have c1 := (CB).cell 1
                have c2 := (CB).cell 2
                have c3 := (CB).cell 3
                have c4 := (CB).cell 4
                have x0 := (XB).cell 0
                have x1 := (XB).cell 1
                have x2 := (XB).cell 2
                have x3 := (XB).cell 3
                have x4 := (XB).cell 4
                have x5 := (XB).cell 5
                clear CB XB
                have r0 := HO2.out.cell1 hcl
                have f0 := HO2.out.frz c
                have HR00 := Lib.hid (show rowB (M.reach s L ln r k) c (M.anyTo b P) c = M.anyTo b P by unfold rowB; rw [if_neg (by omega), if_pos rfl])
                unfold bools at r0
                rw [HR00.out] at r0
                obtain ⟨cur, hcur⟩ : ∃ cur, cur = M.anyTo b P := ⟨_, rfl⟩
                have HCU := Lib.hid hcur
                rw [← hcur] at r0
                clear hcur
                cases cur
                · obtain ⟨rb, ro, gb, gf, gc, rfl, hrb, b0, hgb, b1⟩ := (HO1.out.below (show Below w1.heap.size w1 wr by rw [← HGE.out]; exact HQ2.out)).rd.at_ hkk hbl
                  obtain ⟨pv, hpv⟩ : ∃ pv, pv = M.reach s L ln r k' b := ⟨_, rfl⟩
                  rw [← hpv] at b1
                  have HPV := Lib.hid hpv
                  clear hpv
                  cases pv
                  · have HAN := Lib.hid (show false = M.anyTo (b + 1) P by rw [HAS.out, ← HCU.out, HPE.out, ← HPV.out]; rfl)
                    go_wp2_with fail
                    go_roundw
                    case rel => exact ⟨b + 1, by omega, by go_num, by rw [← HAN.out]; exact (HO2.out.set1 c (.bool false)).congr fun i j _ _ => rowB_set i j, HQ2.out.setCell (p := ⟨G, c, none⟩) (Nat.le_refl _) _⟩
                    case measure => simp [intOf]; omega
                  · have HGC := Lib.hid (fun V hb2 => HG1.out V b c tk hb2 hbl hcl htt)
                    obtain ⟨gv, hgv⟩ : ∃ gv, gv = (M.adj s.W s.H b c && M.goes s L ln r (b : Int) c tk) := ⟨_, rfl⟩
                    rw [← hgv] at HGC
                    have HAN := Lib.hid (show gv = M.anyTo (b + 1) P by rw [HAS.out, ← HCU.out, HPE.out, ← HPV.out, ← hgv]; rfl)
                    clear hgv
                    go_wp2_with (go_at_call 58; go_must (refine (HGC.out _ HBB2.out).mono ?_); rintro e w9 ⟨rfl, hb9⟩; have O9 := Lib.hid (HO2.out.below hb9); have HB9 := Lib.hid (HQ2.out.trans (hb9.mono hq2)); clear hb9 r0 f0; have r0 := O9.out.cell1 hcl; have f0 := O9.out.frz c)
                    go_roundw
                    case rel => exact ⟨b + 1, by omega, by go_num, by rw [← HAN.out]; exact (O9.out.set1 c (.bool gv)).congr fun i j _ _ => rowB_set i j, HB9.out.setCell (p := ⟨G, c, none⟩) (Nat.le_refl _) _⟩
                    case measure => simp [intOf]; omega
                · have HAN := Lib.hid (show true = M.anyTo (b + 1) P by rw [HAS.out, ← HCU.out]; rfl)
                  go_wp2_with fail
                  go_roundw
                  case rel => exact ⟨b + 1, by omega, by go_num, by rw [← HAN.out]; exact (HO2.out.set1 c (.bool true)).congr fun i j _ _ => rowB_set i j, HQ2.out.setCell (p := ⟨G, c, none⟩) (Nat.le_refl _) _⟩
                  case measure => simp [intOf]; omega
              · obtain rfl : b = s.nd := by omega
                go_wp2_with fail
                go_roundw
                case rel => exact ⟨c + 1, by omega, by go_num, HO2.out.congr fun i j _ _ => rowB_next HRC.out.symm i j, HQ2.out⟩
                case measure => simp [intOf]; omega
        · obtain rfl : c = s.nd := by omega
          have OF := Lib.hid (HO.out.congr fun i j hi _ => rowB_full i j hi)
          obtain ⟨V, hv1, hv2⟩ := HO1.out.below (show Below w1.heap.size w1 wc by rw [← HGE.out]; exact HQ.out)
          have HV1 := Lib.hid hv1
          have HV2 := Lib.hid hv2
          clear hv1 hv2 c0 c1 c2 c3 c4 x0 x1 x2 x3 x4 x5
          have hzc := HXQ.out.size
          go_upto_region 16 with (at_builtin; go_must (refine wpList_app rfl (.tmp 83) (.tmp 85) 93 rfl X.heap.size 94 1 24 Tryz.underlying93 MJ.out.1 MJ.out.2.1 MJ.out.2.2.1 MJ.out.2.2.2 rfl (by decide) (by decide) (HV1.out.alloc _) rfl (by omega) (by simp; omega) wc.heap.size 1 (fun _ => .slice (some ⟨G, 0, none⟩) s.nd s.nd) rfl (cell_last rfl) (fun _ _ => rfl) ?_); intro v7 w7 o7 hg7 hat7; have HO7 := Lib.hid o7; have HG7 := Lib.hid hg7; clear o7 hg7 hat7)
          have OR7 := Lib.hid (OwnRB.app (HV1.out.alloc _) (fun i hi => (HV2.out i hi).alloc _) ((OF.out.less (show X.heap.size ≤ G from Nat.le_trans hzr hG1)).alloc _) HG7.out HO7.out)
          have OF7 := Lib.hid (Own.apart_grown (OF.out.alloc (.cells #[.slice (some ⟨G, 0, none⟩) s.nd s.nd] 94)) (Own.apart_type HV1.out OF.out (by decide)) HG7.out)
          have HX7 := Lib.hid ((HXQ.out.alloc hzc (.cells #[.slice (some ⟨G, 0, none⟩) s.nd s.nd] 94)).grown HG7.out (by simp; omega) (fun g hg => (HV1.out.block hg).1))
          have HB7 := Lib.hid (HR.out.trans (HX7.out.mono hzX))
          obtain ⟨A7, c7, rfl⟩ := OR7.out.form
          have r0 := OF7.out.cell1 hT3
          unfold bools at r0
          have kt : decide (s.nd ≤ to') = false := decide_eq_false (by omega)
          have kt2 : (to' : Int) < (s.nd : Int) := (by omega)
          have CQ := CR.out.below' HX7.out
          have XQ := XR.out.below' HX7.out
          have c0 := (CQ).cell 0
          have c1 := (CQ).cell 1
          have c2 := (CQ).cell 2
          have c3 := (CQ).cell 3
          have c4 := (CQ).cell 4
          have x0 := (XQ).cell 0
          have x1 := (XQ).cell 1
          have x2 := (XQ).cell 2
          have x3 := (XQ).cell 3
          have x4 := (XQ).cell 4
          have x5 := (XQ).cell 5
          clear CQ XQ
          obtain ⟨rv, hrv⟩ : ∃ rv, rv = M.reach s L ln r k to' := ⟨_, rfl⟩
          rw [← hrv] at r0
          have HRV := Lib.hid hrv
          clear hrv
          cases rv
          · go_wp2_with fail
            go_roundw
            case rel => exact ⟨k + 1, tk + 1, by omega, by go_num, Lib.hid (by have := HTK.out; omega), Lib.hid fun j hj => by
              rcases Nat.lt_succ_iff_lt_or_eq.1 hj with h | h
              · exact HPRE.out j h
              · subst h; exact HRV.out.symm, OR7.out, HX7.out⟩
            case measure => simp [intOf]; omega
          · have HEK := Lib.hid (HYES.out k hlt HRV.out.symm HPRE.out)
            have HBC := Lib.hid (HBK.out w7 A7 c7 k HB7.out (by have := HTK.out; omega) HRV.out.symm OR7.out.rd)
            go_wp2_with (go_at_call 59; go_must (refine HBC.out.mono ?_); rintro e w8 ⟨⟨v8, rfl, ho8⟩, hb8⟩; have O8 := Lib.hid (ho8.less (show w.heap.size ≤ _ from HB7.out.size)); have HB8 := Lib.hid (HB7.out.trans (hb8.mono HB7.out.size)); clear ho8 hb8)
            go_ret2
            refine ⟨⟨_, ret_tup (show true = M.hasR s L ln r from (decide_eq_true (by rw [HEK.out, HRT.out.2.1]; exact hlt)).symm), ?_⟩, HB8.out⟩
            unfold RouteV
            rw [HEK.out, if_pos (by rw [HRT.out.2.1]; exact hlt)]
            exact O8.out
    · have hE : k = s.nt - at' := by omega
      have HNN := Lib.hid (HNO.out (fun j hj => HPRE.out j (by omega)))
      obtain rfl : tk = s.nt := by omega
      clear hE
      go_wp2_with fail
      go_ret2
      refine ⟨⟨_, ret_tup (show false = M.hasR s L ln r from (decide_eq_false HNN.out).symm), ?_⟩, HBW.out⟩
      unfold RouteV
      rw [if_neg HNN.out]
      rfl
end
end Go.Proofs.YtkdpmihdhiokkaaGreatDoor
/- lanes.Plan where an argument is wrong; the reference's Plan. -/
namespace Go.Proofs.YtkdpmihdhiokkaaGreatDoor
open Go.RowKit

section
variable {W W' : World} {B base n : Nat} {u o : Value} {l : M.Leg} {L : Nat → M.Leg}
theorem LegCells.row {v : Value} {F : Nat → Nat → Value} (h : LegCells W B base u l) (h0 : 0 < l.n) (hv : Own W base 46 5 v n F) (hg : W.grownBy W' v.ownBlock) (hB : B ≤ base) : LegCells W' B base u l := by
  refine h.grown hg ?_
  rcases h.2 with ⟨cA, cc, rfl, h2⟩ | h2
  · obtain ⟨b, off, rfl, hb, _⟩ := h2.resolve_left (by omega)
    intro e
    have h3 := (hv.block (g := b) (by rw [← e]; rfl)).1
    omega
  · obtain ⟨g, c, rfl⟩ := h2.nz h0
    intro e
    exact hv.apart_type h2 (by decide) g (by rw [← e]; rfl) rfl
theorem LegsA.app {v v' : Value} {V : Nat → Value} (hB : B ≤ base) (hV1 : Own W base 46 5 v n (legV L V)) (hV2 : ∀ i, i < n → LegCells W B base (V i) (L i) ∧ 0 < (L i).n ∧ (V i).ownBlock ≠ o.ownBlock) (hu : LegCells W B base u l ∧ 0 < l.n ∧ u.ownBlock ≠ o.ownBlock) (hg : W.grownBy W' v.ownBlock)
    (ho : Own W' base 46 5 v' (n + 1) (upd (legV L V) n (legRow l u))) : LegsA W' B base v' (n + 1) (fun i => if i = n then l else L i) o := by
  refine ⟨fun i => if i = n then u else V i, by rw [← legV_upd]; exact ho, fun i hi => ?_⟩
  by_cases e : i = n
  · simp only [e, if_true]
    exact ⟨hu.1.row hu.2.1 hV1 hg hB, hu.2⟩
  · simp only [e, if_false]
    have h := hV2 i (by omega)
    exact ⟨h.1.row h.2.1 hV1 hg hB, h.2⟩
end
section
variable (s : M.Sea) (dA tA sA lA : Option Addr) (dc tc sc ln lc B : Nat) (L : Nat → M.Leg) (w : World)
theorem rroute_ok (at_ lv dr fr dst : Int) (tl : Bool) (hs : s.Ok) (hR : RdC w B dA tA sA s.nd s.nt s.nt s.dep s.tide s.sw) (hB : B ≤ w.heap.size) (hL : RdL w B lA ln L) (hln : ln ≤ 1048576) (hat : ∀ i, i < ln → -100 ≤ (L i).at_ ∧ (L i).at_ ≤ 100 ∧ (L i).n ≤ 100) (hto : M.tripOk s ⟨at_, lv, dr, tl, fr, dst⟩ = true) :
    Calls Tryz.prog 30 #[.agg #[.int .i64 (s.W : Int), .int .i64 (s.H : Int), .slice dA s.nd dc, .slice tA s.nt tc, .slice sA s.nt sc], .slice lA ln lc, .agg #[.int .i64 at_, .int .i64 lv, .int .i64 dr, .bool tl, .int .i64 fr, .int .i64 dst]] w fun e w' => (∃ v, e = .returned (.tuple #[v, .bool (M.hasR s L ln ⟨at_, lv, dr, tl, fr, dst⟩)]) ∧ RouteV s L ln ⟨at_, lv, dr, tl, fr, dst⟩ w.heap.size v w') ∧ Below w.heap.size w w' := by
  obtain ⟨h1, h2, h3, _⟩ := M.tripOk_iff.1 hto
  obtain ⟨a, rfl⟩ : ∃ a : Nat, at_ = a := ⟨at_.toNat, by have h : 0 ≤ at_ := h1.1; omega⟩
  obtain ⟨f, rfl⟩ : ∃ f : Nat, fr = f := ⟨fr.toNat, by have h : 0 ≤ fr := h2.1; omega⟩
  obtain ⟨d, rfl⟩ : ∃ d : Nat, dst = d := ⟨dst.toNat, by have h : 0 ≤ dst := h3.1; omega⟩
  exact rroute_nat s dA tA sA lA dc tc sc ln lc B L w a f d lv dr tl hs hR hB hL hln hat hto
end
section
variable (s : M.Sea) (dA tA sA lA gA : Option Addr) (dc tc sc ln lc gn gc B : Nat) (L : Nat → M.Leg) (R : Nat → M.Trip) (w : World)
set_option maxRecDepth 100000 in
set_option maxHeartbeats 3200000 in
theorem Plan_sum (hs : s.Ok) (hw : Ways w) (hR : RdC w B dA tA sA s.nd s.nt s.nt s.dep s.tide s.sw) (hB : B ≤ w.heap.size) (hL : RdL w B lA ln L) (hln : ln ≤ 12) (hlo : M.legsOk s ln L = true) (hG : RdT w B gA gn R) (hgn : gn ≤ 30) (h12 : 12 < ln + gn) :
    Calls Tryz.prog 8 #[.agg #[.int .i64 (s.W : Int), .int .i64 (s.H : Int), .slice dA s.nd dc, .slice tA s.nt tc, .slice sA s.nt sc], .slice lA ln lc, .slice gA gn gc] w fun e w' => e = .returned (.tuple #[.slice none 0 0, .int .i64 60]) ∧ Below w.heap.size w w' := by
  have HB0 := Lib.hid (belowAlloc w (.cells #[.int .i64 (s.W : Int), .int .i64 (s.H : Int), .slice dA s.nd dc, .slice tA s.nt tc, .slice sA s.nt sc] 25))
  have C0 := Lib.hid (Blk.new w 25 #[.int .i64 (s.W : Int), .int .i64 (s.H : Int), .slice dA s.nd dc, .slice tA s.nt tc, .slice sA s.nt sc])
  have HOP := Lib.hid (lopen_any s dA tA sA lA dc tc sc ln lc w.heap.size L (w.alloc (.cells #[.int .i64 (s.W : Int), .int .i64 (s.H : Int), .slice dA s.nd dc, .slice tA s.nt tc, .slice sA s.nt sc] 25)) hs (hw.below HB0.out) ((hR.below (HB0.out.mono hB)).more hB) HB0.out.size ((hL.below (HB0.out.mono hB)).more hB) (by omega))
  rw [hlo] at HOP
  have HO2 := Lib.hid (by have h := HOP.out; simp only [if_true] at h; exact h)
  have c0 := C0.out.cell 0
  have c1 := C0.out.cell 1
  have c2 := C0.out.cell 2
  have c3 := C0.out.cell 3
  have c4 := C0.out.cell 4
  have hwl : IntKind.i64.wrap ((ln : Int) + (gn : Int)) = (ln : Int) + (gn : Int) := wrapi _ (by omega)
  have hwl2 : wrap64 ((ln : Int) + (gn : Int)) = (ln : Int) + (gn : Int) := IntWalk.wrap64_in _ (by omega)
  have g12 : decide ((12 : Int) < (ln : Int) + (gn : Int)) = true := decide_eq_true (by omega)
  clear hs hw hR hL hlo hB hG HOP
  go_enter Tryz.func8, Tryz.ntmps8
  go_wp2_with (go_at_call 22; go_must (refine HO2.out.mono ?_); rintro e w1 ⟨⟨x, rfl, hx⟩, hb1⟩; have HB1 := Lib.hid (HB0.out.trans (hb1.mono HB0.out.size)); have X1 := Lib.hid (hx.less HB0.out.size); clear hb1 hx c0 c1 c2 c3 c4)
  go_ret2
  exact ⟨rfl, HB1.out⟩
set_option maxRecDepth 100000 in
set_option maxHeartbeats 3200000 in
theorem Plan_many (hs : s.Ok) (hw : Ways w) (hR : RdC w B dA tA sA s.nd s.nt s.nt s.dep s.tide s.sw) (hB : B ≤ w.heap.size) (hL : RdL w B lA ln L) (hln : ln ≤ 12) (hlo : M.legsOk s ln L = true) (hG : RdT w B gA gn R) (hgn : gn ≤ 30) (h12 : ln + gn ≤ 12) (h6 : 6 < gn) :
    Calls Tryz.prog 8 #[.agg #[.int .i64 (s.W : Int), .int .i64 (s.H : Int), .slice dA s.nd dc, .slice tA s.nt tc, .slice sA s.nt sc], .slice lA ln lc, .slice gA gn gc] w fun e w' => e = .returned (.tuple #[.slice none 0 0, .int .i64 2]) ∧ Below w.heap.size w w' := by
  have HB0 := Lib.hid (belowAlloc w (.cells #[.int .i64 (s.W : Int), .int .i64 (s.H : Int), .slice dA s.nd dc, .slice tA s.nt tc, .slice sA s.nt sc] 25))
  have C0 := Lib.hid (Blk.new w 25 #[.int .i64 (s.W : Int), .int .i64 (s.H : Int), .slice dA s.nd dc, .slice tA s.nt tc, .slice sA s.nt sc])
  have HOP := Lib.hid (lopen_any s dA tA sA lA dc tc sc ln lc w.heap.size L (w.alloc (.cells #[.int .i64 (s.W : Int), .int .i64 (s.H : Int), .slice dA s.nd dc, .slice tA s.nt tc, .slice sA s.nt sc] 25)) hs (hw.below HB0.out) ((hR.below (HB0.out.mono hB)).more hB) HB0.out.size ((hL.below (HB0.out.mono hB)).more hB) (by omega))
  rw [hlo] at HOP
  have HO2 := Lib.hid (by have h := HOP.out; simp only [if_true] at h; exact h)
  have c0 := C0.out.cell 0
  have c1 := C0.out.cell 1
  have c2 := C0.out.cell 2
  have c3 := C0.out.cell 3
  have c4 := C0.out.cell 4
  have hwl : IntKind.i64.wrap ((ln : Int) + (gn : Int)) = (ln : Int) + (gn : Int) := wrapi _ (by omega)
  have hwl2 : wrap64 ((ln : Int) + (gn : Int)) = (ln : Int) + (gn : Int) := IntWalk.wrap64_in _ (by omega)
  have g12 : decide ((12 : Int) < (ln : Int) + (gn : Int)) = false := decide_eq_false (by omega)
  have hsi : ((ln : Int) + (gn : Int)) ≤ 12 := (by omega)
  have g6 : decide ((6 : Int) < (gn : Int)) = true := decide_eq_true (by omega)
  have g6' : decide (6 < gn) = true := decide_eq_true (by omega)
  clear hs hw hR hL hlo hB hG HOP
  go_enter Tryz.func8, Tryz.ntmps8
  go_wp2_with (go_at_call 22; go_must (refine HO2.out.mono ?_); rintro e w1 ⟨⟨x, rfl, hx⟩, hb1⟩; have HB1 := Lib.hid (HB0.out.trans (hb1.mono HB0.out.size)); have X1 := Lib.hid (hx.less HB0.out.size); clear hb1 hx c0 c1 c2 c3 c4)
  go_ret2
  exact ⟨rfl, HB1.out⟩
set_option maxRecDepth 100000 in
set_option maxHeartbeats 3200000 in
theorem Plan_bad (hs : s.Ok) (hw : Ways w) (hR : RdC w B dA tA sA s.nd s.nt s.nt s.dep s.tide s.sw) (hB : B ≤ w.heap.size) (hL : RdL w B lA ln L) (hln : ln ≤ 12) (hlo : M.legsOk s ln L = true) (hG : RdT w B gA gn R) (hgn : gn ≤ 30) (h12 : ln + gn ≤ 12) (h6 : gn ≤ 6) (hbad : M.allTo gn (fun i => M.tripOk s (R i)) = false) :
    Calls Tryz.prog 8 #[.agg #[.int .i64 (s.W : Int), .int .i64 (s.H : Int), .slice dA s.nd dc, .slice tA s.nt tc, .slice sA s.nt sc], .slice lA ln lc, .slice gA gn gc] w fun e w' => e = .returned (.tuple #[.slice none 0 0, .int .i64 61]) ∧ Below w.heap.size w w' := by
  have HB0 := Lib.hid (belowAlloc w (.cells #[.int .i64 (s.W : Int), .int .i64 (s.H : Int), .slice dA s.nd dc, .slice tA s.nt tc, .slice sA s.nt sc] 25))
  have C0 := Lib.hid (Blk.new w 25 #[.int .i64 (s.W : Int), .int .i64 (s.H : Int), .slice dA s.nd dc, .slice tA s.nt tc, .slice sA s.nt sc])
  have HOP := Lib.hid (lopen_any s dA tA sA lA dc tc sc ln lc w.heap.size L (w.alloc (.cells #[.int .i64 (s.W : Int), .int .i64 (s.H : Int), .slice dA s.nd dc, .slice tA s.nt tc, .slice sA s.nt sc] 25)) hs (hw.below HB0.out) ((hR.below (HB0.out.mono hB)).more hB) HB0.out.size ((hL.below (HB0.out.mono hB)).more hB) (by omega))
  rw [hlo] at HOP
  have HO2 := Lib.hid (by have h := HOP.out; simp only [if_true] at h; exact h)
  have HAL := Lib.hid (fun W x base (ht : TrK W base x s.nd s dA tA sA lA dc tc sc ln lc) (hb : Below w.heap.size w W) => (show Calls Tryz.prog 23 #[.slice gA gn gc, .func (.func 24) #[.pointer (some ⟨x, 0, none⟩)] #[]] W fun e w' => e = .returned (.bool false) ∧ Below W.heap.size W w' from by
    have h := alltrips_any s dA tA sA lA gA dc tc sc ln lc gn gc B base x R W hs ht (Nat.le_trans hB hb.size) (hG.below (hb.mono hB)) (by omega)
    rw [hbad] at h
    exact h))
  have c0 := C0.out.cell 0
  have c1 := C0.out.cell 1
  have c2 := C0.out.cell 2
  have c3 := C0.out.cell 3
  have c4 := C0.out.cell 4
  have hwl : IntKind.i64.wrap ((ln : Int) + (gn : Int)) = (ln : Int) + (gn : Int) := wrapi _ (by omega)
  have hwl2 : wrap64 ((ln : Int) + (gn : Int)) = (ln : Int) + (gn : Int) := IntWalk.wrap64_in _ (by omega)
  have g12 : decide ((12 : Int) < (ln : Int) + (gn : Int)) = false := decide_eq_false (by omega)
  have hsi : ((ln : Int) + (gn : Int)) ≤ 12 := (by omega)
  have g6 : decide ((6 : Int) < (gn : Int)) = false := decide_eq_false (by omega)
  have g6' : decide (6 < gn) = false := decide_eq_false (by omega)
  clear hbad
  clear hs hw hR hL hlo hB hG HOP
  go_enter Tryz.func8, Tryz.ntmps8
  go_wp2_with (first
    | (go_at_call 22; go_must (refine HO2.out.mono ?_); rintro e w1 ⟨⟨x, rfl, hx⟩, hb1⟩; have HB1 := Lib.hid (HB0.out.trans (hb1.mono HB0.out.size)); have X1 := Lib.hid (hx.less HB0.out.size); clear hb1 hx c0 c1 c2 c3 c4)
    | (go_at_call 23; go_must (refine (HAL.out _ _ _ X1.out HB1.out).mono ?_); rintro e w2 ⟨rfl, hb2⟩; have HB2 := Lib.hid (HB1.out.trans (hb2.mono HB1.out.size)); clear hb2))
  go_ret2
  exact ⟨rfl, HB2.out⟩
set_option maxRecDepth 100000 in
set_option maxHeartbeats 3200000 in
theorem rplan_sum (hs : s.Ok) (hR : RdC w B dA tA sA s.nd s.nt s.nt s.dep s.tide s.sw) (hB : B ≤ w.heap.size) (hL : RdL w B lA ln L) (hln : ln ≤ 12) (hlo : M.legsOk s ln L = true) (hG : RdT w B gA gn R) (hgn : gn ≤ 30) (h12 : 12 < ln + gn) :
    Calls Tryz.prog 11 #[.agg #[.int .i64 (s.W : Int), .int .i64 (s.H : Int), .slice dA s.nd dc, .slice tA s.nt tc, .slice sA s.nt sc], .slice lA ln lc, .slice gA gn gc] w fun e w' => (e = .returned (.tuple #[.slice none 0 0, .int .i64 60])) ∧ Below w.heap.size w w' := by
  have hnt := hs.t2
  have HB0 := Lib.hid (belowAlloc w (.cells #[.int .i64 (s.W : Int), .int .i64 (s.H : Int), .slice dA s.nd dc, .slice tA s.nt tc, .slice sA s.nt sc] 25))
  have C0 := Lib.hid (Blk.new w 25 #[.int .i64 (s.W : Int), .int .i64 (s.H : Int), .slice dA s.nd dc, .slice tA s.nt tc, .slice sA s.nt sc])
  have HCK := Lib.hid (show Calls Tryz.prog 28 #[.agg #[.int .i64 (s.W : Int), .int .i64 (s.H : Int), .slice dA s.nd dc, .slice tA s.nt tc, .slice sA s.nt sc], .slice lA ln lc] (w.alloc (.cells #[.int .i64 (s.W : Int), .int .i64 (s.H : Int), .slice dA s.nd dc, .slice tA s.nt tc, .slice sA s.nt sc] 25)) fun e w' => e = .returned (.int .i64 0) ∧ Below (w.alloc (.cells #[.int .i64 (s.W : Int), .int .i64 (s.H : Int), .slice dA s.nd dc, .slice tA s.nt tc, .slice sA s.nt sc] 25)).heap.size (w.alloc (.cells #[.int .i64 (s.W : Int), .int .i64 (s.H : Int), .slice dA s.nd dc, .slice tA s.nt tc, .slice sA s.nt sc] 25)) w' from by
    have h := rcheck_ok s dA tA sA lA dc tc sc ln lc B L (w.alloc (.cells #[.int .i64 (s.W : Int), .int .i64 (s.H : Int), .slice dA s.nd dc, .slice tA s.nt tc, .slice sA s.nt sc] 25)) hs (hR.below (HB0.out.mono hB)) (Nat.le_trans hB HB0.out.size) (hL.below (HB0.out.mono hB)) (by omega)
    unfold M.legsE at h
    rw [if_pos hlo] at h
    exact h)
  have HGT := Lib.hid (fun W (hb : Below w.heap.size w W) => hG.below (hb.mono hB))
  have HIT := Lib.hid (fun k V => istrip_ok s dA tA sA dc tc sc (R k).at_ (R k).lv (R k).dr (R k).from_ (R k).to_ (R k).tail V hs)
  have HBB := Lib.hid hB
  have c0 := C0.out.cell 0
  have c1 := C0.out.cell 1
  have c2 := C0.out.cell 2
  have c3 := C0.out.cell 3
  have c4 := C0.out.cell 4
  have hwl : IntKind.i64.wrap ((ln : Int) + (gn : Int)) = (ln : Int) + (gn : Int) := wrapi _ (by omega)
  have hwl2 : wrap64 ((ln : Int) + (gn : Int)) = (ln : Int) + (gn : Int) := IntWalk.wrap64_in _ (by omega)
  have g12 : decide ((12 : Int) < (ln : Int) + (gn : Int)) = true := decide_eq_true (by omega)
  clear hs hR hL hlo hB hG
  go_enter Tryz.func11, Tryz.ntmps11
  go_wp2_with (go_at_call 28; go_must (refine HCK.out.mono ?_); rintro e w1 ⟨rfl, hb1⟩; have HB1 := Lib.hid (HB0.out.trans (hb1.mono HB0.out.size)); have C1 := Lib.hid (C0.out.below' hb1); clear hb1 c0 c1 c2 c3 c4)
  go_ret2
  exact ⟨rfl, HB1.out⟩
set_option maxRecDepth 100000 in
set_option maxHeartbeats 3200000 in
theorem rplan_many (hs : s.Ok) (hR : RdC w B dA tA sA s.nd s.nt s.nt s.dep s.tide s.sw) (hB : B ≤ w.heap.size) (hL : RdL w B lA ln L) (hln : ln ≤ 12) (hlo : M.legsOk s ln L = true) (hG : RdT w B gA gn R) (hgn : gn ≤ 30) (h12 : ln + gn ≤ 12) (h6 : 6 < gn) :
    Calls Tryz.prog 11 #[.agg #[.int .i64 (s.W : Int), .int .i64 (s.H : Int), .slice dA s.nd dc, .slice tA s.nt tc, .slice sA s.nt sc], .slice lA ln lc, .slice gA gn gc] w fun e w' => (e = .returned (.tuple #[.slice none 0 0, .int .i64 2])) ∧ Below w.heap.size w w' := by
  have hnt := hs.t2
  have HB0 := Lib.hid (belowAlloc w (.cells #[.int .i64 (s.W : Int), .int .i64 (s.H : Int), .slice dA s.nd dc, .slice tA s.nt tc, .slice sA s.nt sc] 25))
  have C0 := Lib.hid (Blk.new w 25 #[.int .i64 (s.W : Int), .int .i64 (s.H : Int), .slice dA s.nd dc, .slice tA s.nt tc, .slice sA s.nt sc])
  have HCK := Lib.hid (show Calls Tryz.prog 28 #[.agg #[.int .i64 (s.W : Int), .int .i64 (s.H : Int), .slice dA s.nd dc, .slice tA s.nt tc, .slice sA s.nt sc], .slice lA ln lc] (w.alloc (.cells #[.int .i64 (s.W : Int), .int .i64 (s.H : Int), .slice dA s.nd dc, .slice tA s.nt tc, .slice sA s.nt sc] 25)) fun e w' => e = .returned (.int .i64 0) ∧ Below (w.alloc (.cells #[.int .i64 (s.W : Int), .int .i64 (s.H : Int), .slice dA s.nd dc, .slice tA s.nt tc, .slice sA s.nt sc] 25)).heap.size (w.alloc (.cells #[.int .i64 (s.W : Int), .int .i64 (s.H : Int), .slice dA s.nd dc, .slice tA s.nt tc, .slice sA s.nt sc] 25)) w' from by
    have h := rcheck_ok s dA tA sA lA dc tc sc ln lc B L (w.alloc (.cells #[.int .i64 (s.W : Int), .int .i64 (s.H : Int), .slice dA s.nd dc, .slice tA s.nt tc, .slice sA s.nt sc] 25)) hs (hR.below (HB0.out.mono hB)) (Nat.le_trans hB HB0.out.size) (hL.below (HB0.out.mono hB)) (by omega)
    unfold M.legsE at h
    rw [if_pos hlo] at h
    exact h)
  have HGT := Lib.hid (fun W (hb : Below w.heap.size w W) => hG.below (hb.mono hB))
  have HIT := Lib.hid (fun k V => istrip_ok s dA tA sA dc tc sc (R k).at_ (R k).lv (R k).dr (R k).from_ (R k).to_ (R k).tail V hs)
  have HBB := Lib.hid hB
  have c0 := C0.out.cell 0
  have c1 := C0.out.cell 1
  have c2 := C0.out.cell 2
  have c3 := C0.out.cell 3
  have c4 := C0.out.cell 4
  have hwl : IntKind.i64.wrap ((ln : Int) + (gn : Int)) = (ln : Int) + (gn : Int) := wrapi _ (by omega)
  have hwl2 : wrap64 ((ln : Int) + (gn : Int)) = (ln : Int) + (gn : Int) := IntWalk.wrap64_in _ (by omega)
  have g12 : decide ((12 : Int) < (ln : Int) + (gn : Int)) = false := decide_eq_false (by omega)
  have hsi : ((ln : Int) + (gn : Int)) ≤ 12 := (by omega)
  have g6 : decide ((6 : Int) < (gn : Int)) = true := decide_eq_true (by omega)
  have g6' : decide (6 < gn) = true := decide_eq_true (by omega)
  clear hs hR hL hlo hB hG
  go_enter Tryz.func11, Tryz.ntmps11
  go_wp2_with (go_at_call 28; go_must (refine HCK.out.mono ?_); rintro e w1 ⟨rfl, hb1⟩; have HB1 := Lib.hid (HB0.out.trans (hb1.mono HB0.out.size)); have C1 := Lib.hid (C0.out.below' hb1); clear hb1 c0 c1 c2 c3 c4)
  go_ret2
  exact ⟨rfl, HB1.out⟩
set_option maxRecDepth 100000 in
set_option maxHeartbeats 3200000 in
theorem rplan_bad (hs : s.Ok) (hR : RdC w B dA tA sA s.nd s.nt s.nt s.dep s.tide s.sw) (hB : B ≤ w.heap.size) (hL : RdL w B lA ln L) (hln : ln ≤ 12) (hlo : M.legsOk s ln L = true) (hG : RdT w B gA gn R) (hgn : gn ≤ 30) (h12 : ln + gn ≤ 12) (h6 : gn ≤ 6) (hbad : M.allTo gn (fun i => M.tripOk s (R i)) = false) :
    Calls Tryz.prog 11 #[.agg #[.int .i64 (s.W : Int), .int .i64 (s.H : Int), .slice dA s.nd dc, .slice tA s.nt tc, .slice sA s.nt sc], .slice lA ln lc, .slice gA gn gc] w fun e w' => (e = .returned (.tuple #[.slice none 0 0, .int .i64 61])) ∧ Below w.heap.size w w' := by
  have hnt := hs.t2
  have HB0 := Lib.hid (belowAlloc w (.cells #[.int .i64 (s.W : Int), .int .i64 (s.H : Int), .slice dA s.nd dc, .slice tA s.nt tc, .slice sA s.nt sc] 25))
  have C0 := Lib.hid (Blk.new w 25 #[.int .i64 (s.W : Int), .int .i64 (s.H : Int), .slice dA s.nd dc, .slice tA s.nt tc, .slice sA s.nt sc])
  have HCK := Lib.hid (show Calls Tryz.prog 28 #[.agg #[.int .i64 (s.W : Int), .int .i64 (s.H : Int), .slice dA s.nd dc, .slice tA s.nt tc, .slice sA s.nt sc], .slice lA ln lc] (w.alloc (.cells #[.int .i64 (s.W : Int), .int .i64 (s.H : Int), .slice dA s.nd dc, .slice tA s.nt tc, .slice sA s.nt sc] 25)) fun e w' => e = .returned (.int .i64 0) ∧ Below (w.alloc (.cells #[.int .i64 (s.W : Int), .int .i64 (s.H : Int), .slice dA s.nd dc, .slice tA s.nt tc, .slice sA s.nt sc] 25)).heap.size (w.alloc (.cells #[.int .i64 (s.W : Int), .int .i64 (s.H : Int), .slice dA s.nd dc, .slice tA s.nt tc, .slice sA s.nt sc] 25)) w' from by
    have h := rcheck_ok s dA tA sA lA dc tc sc ln lc B L (w.alloc (.cells #[.int .i64 (s.W : Int), .int .i64 (s.H : Int), .slice dA s.nd dc, .slice tA s.nt tc, .slice sA s.nt sc] 25)) hs (hR.below (HB0.out.mono hB)) (Nat.le_trans hB HB0.out.size) (hL.below (HB0.out.mono hB)) (by omega)
    unfold M.legsE at h
    rw [if_pos hlo] at h
    exact h)
  have HGT := Lib.hid (fun W (hb : Below w.heap.size w W) => hG.below (hb.mono hB))
  have HIT := Lib.hid (fun k V => istrip_ok s dA tA sA dc tc sc (R k).at_ (R k).lv (R k).dr (R k).from_ (R k).to_ (R k).tail V hs)
  have HBB := Lib.hid hB
  have HBAD := Lib.hid hbad
  have c0 := C0.out.cell 0
  have c1 := C0.out.cell 1
  have c2 := C0.out.cell 2
  have c3 := C0.out.cell 3
  have c4 := C0.out.cell 4
  have hwl : IntKind.i64.wrap ((ln : Int) + (gn : Int)) = (ln : Int) + (gn : Int) := wrapi _ (by omega)
  have hwl2 : wrap64 ((ln : Int) + (gn : Int)) = (ln : Int) + (gn : Int) := IntWalk.wrap64_in _ (by omega)
  have g12 : decide ((12 : Int) < (ln : Int) + (gn : Int)) = false := decide_eq_false (by omega)
  have hsi : ((ln : Int) + (gn : Int)) ≤ 12 := (by omega)
  have g6 : decide ((6 : Int) < (gn : Int)) = false := decide_eq_false (by omega)
  have g6' : decide (6 < gn) = false := decide_eq_false (by omega)
  clear hbad
  clear hs hR hL hlo hB hG
  go_enter Tryz.func11, Tryz.ntmps11
  go_upto_region 8 with (go_at_call 28; go_must (refine HCK.out.mono ?_); rintro e w1 ⟨rfl, hb1⟩; have HB1 := Lib.hid (HB0.out.trans (hb1.mono HB0.out.size)); have C1 := Lib.hid (C0.out.below' hb1); clear hb1 c0 c1 c2 c3 c4)
  obtain ⟨Y, hY⟩ : ∃ Y, Y = w1 := ⟨_, rfl⟩
  rw [← hY] at HB1 C1
  rw [← hY]
  clear hY
  have hzY := HB1.out.size
  go_wp2_with fail
  go_loopw [9] (fun i wr => ∃ k : Nat, k ≤ gn ∧ i = .int .i64 (k : Int) ∧ Hid (∀ u, u < k → M.tripOk s (R u) = true) ∧ Below Y.heap.size Y wr) (fun i _ => gn - (intOf i).toNat)
  case atStart => exact ⟨0, Nat.zero_le _, rfl, Lib.hid fun u hu => absurd hu (by omega), Below.refl _ _⟩
  case round =>
    obtain ⟨k, hk, rfl, HTO, hbw⟩ := hrel
    have HW := Lib.hid hbw
    have HBW := Lib.hid (HB1.out.trans (hbw.mono hzY))
    have hzr := hbw.size
    clear hbw
    by_cases hlt : k < gn
    · have CW := C1.out.below' HW.out
      have c0 := CW.cell 0
      have c1 := CW.cell 1
      have c2 := CW.cell 2
      have c3 := CW.cell 3
      have c4 := CW.cell 4
      clear CW
      obtain ⟨b, off, rfl, hb, g0, g1, g2, g3, g4, g5⟩ := (HGT.out wr HBW.out).at_ hlt
      have kx : decide (gn ≤ k) = false := decide_eq_false (by omega)
      have kx2 : (k : Int) < (gn : Int) := (by omega)
      have HI := Lib.hid (fun V => HIT.out k V)
      obtain ⟨tv, htv⟩ : ∃ tv, tv = M.tripOk s (R k) := ⟨_, rfl⟩
      have HE6 : (⟨(R k).at_, (R k).lv, (R k).dr, (R k).tail, (R k).from_, (R k).to_⟩ : M.Trip) = R k := rfl
      rw [HE6, ← htv] at HI
      have HTV := Lib.hid htv
      clear htv HE6
      go_upto_region 11 with fail
      go_still_tail 5, (by kernel_rfl)
      clear c0 c1 c2 c3 c4 g0 g1 g2 g3 g4 g5
      cases tv
      · go_wp2_with (go_at_call 29; go_must (refine (HI.out _).mono ?_); rintro e w9 ⟨rfl, hb9⟩; have HB9 := Lib.hid ((Below.refl _ _).drew.trans (hb9.mono (Nat.le_refl _))); clear hb9)
        go_ret2
        exact ⟨rfl, HBW.out.trans (HB9.out.mono HBW.out.size)⟩
      · go_wp2_with (go_at_call 29; go_must (refine (HI.out _).mono ?_); rintro e w9 ⟨rfl, hb9⟩; have HB9 := Lib.hid ((Below.refl _ _).drew.trans (hb9.mono (Nat.le_refl _))); clear hb9)
        go_roundw
        case rel => exact ⟨k + 1, by omega, by go_num, Lib.hid fun u hu => by
          rcases Nat.lt_succ_iff_lt_or_eq.1 hu with h | h
          · exact HTO.out u h
          · subst h; exact HTV.out.symm, HW.out.trans (HB9.out.mono hzr)⟩
        case measure => simp [intOf]; omega
    · obtain rfl : gn = k := by omega
      exact absurd (M.allTo_iff.2 HTO.out) (by rw [HBAD.out]; simp)
set_option maxRecDepth 100000 in
set_option maxHeartbeats 3200000 in
theorem rplan_ok (hs : s.Ok) (hR : RdC w B dA tA sA s.nd s.nt s.nt s.dep s.tide s.sw) (hB : B ≤ w.heap.size) (hL : RdL w B lA ln L) (hln : ln ≤ 12) (hlo : M.legsOk s ln L = true) (hG : RdT w B gA gn R) (hgn : gn ≤ 30) (h12 : ln + gn ≤ 12) (h6 : gn ≤ 6) (htr : ∀ k, k < gn → M.tripOk s (R k) = true) :
    Calls Tryz.prog 11 #[.agg #[.int .i64 (s.W : Int), .int .i64 (s.H : Int), .slice dA s.nd dc, .slice tA s.nt tc, .slice sA s.nt sc], .slice lA ln lc, .slice gA gn gc] w fun e w' => (∃ v, e = .returned (.tuple #[v, .int .i64 0]) ∧ Own w' w.heap.size 3 1 v gn (ints (M.planE s L ln R))) ∧ Below w.heap.size w w' := by
  have hnt := hs.t2
  have HB0 := Lib.hid (belowAlloc w (.cells #[.int .i64 (s.W : Int), .int .i64 (s.H : Int), .slice dA s.nd dc, .slice tA s.nt tc, .slice sA s.nt sc] 25))
  have C0 := Lib.hid (Blk.new w 25 #[.int .i64 (s.W : Int), .int .i64 (s.H : Int), .slice dA s.nd dc, .slice tA s.nt tc, .slice sA s.nt sc])
  have HCK := Lib.hid (show Calls Tryz.prog 28 #[.agg #[.int .i64 (s.W : Int), .int .i64 (s.H : Int), .slice dA s.nd dc, .slice tA s.nt tc, .slice sA s.nt sc], .slice lA ln lc] (w.alloc (.cells #[.int .i64 (s.W : Int), .int .i64 (s.H : Int), .slice dA s.nd dc, .slice tA s.nt tc, .slice sA s.nt sc] 25)) fun e w' => e = .returned (.int .i64 0) ∧ Below (w.alloc (.cells #[.int .i64 (s.W : Int), .int .i64 (s.H : Int), .slice dA s.nd dc, .slice tA s.nt tc, .slice sA s.nt sc] 25)).heap.size (w.alloc (.cells #[.int .i64 (s.W : Int), .int .i64 (s.H : Int), .slice dA s.nd dc, .slice tA s.nt tc, .slice sA s.nt sc] 25)) w' from by
    have h := rcheck_ok s dA tA sA lA dc tc sc ln lc B L (w.alloc (.cells #[.int .i64 (s.W : Int), .int .i64 (s.H : Int), .slice dA s.nd dc, .slice tA s.nt tc, .slice sA s.nt sc] 25)) hs (hR.below (HB0.out.mono hB)) (Nat.le_trans hB HB0.out.size) (hL.below (HB0.out.mono hB)) (by omega)
    unfold M.legsE at h
    rw [if_pos hlo] at h
    exact h)
  have HGT := Lib.hid (fun W (hb : Below w.heap.size w W) => hG.below (hb.mono hB))
  have HIT := Lib.hid (fun k V => istrip_ok s dA tA sA dc tc sc (R k).at_ (R k).lv (R k).dr (R k).from_ (R k).to_ (R k).tail V hs)
  have HBB := Lib.hid hB
  have hok : ∀ i, i < ln → M.LegOk s (L i) := fun i hi => by
    unfold M.legsOk at hlo
    simp only [Bool.and_eq_true] at hlo
    exact M.legOk_iff.1 (M.allTo_iff.1 hlo.2 i hi)
  have HTRS := Lib.hid htr
  have HPO := Lib.hid (fun k (hk : k ≤ gn) => M.plan_ok (R := R) hs hok k (fun j hj => htr j (by omega)))
  have HPP := Lib.hid (fun k => M.plan_pre (s := s) (L := L) (n := ln) (R := R) k)
  have HRO := Lib.hid (fun W A n c L' k (hk : k < gn) (hb : Below w.heap.size w W) (hl' : RdL W W.heap.size A n L') (hn : n ≤ 1048576) (hok' : ∀ i, i < n → M.LegOk s (L' i)) => rroute_ok s dA tA sA A dc tc sc n c W.heap.size L' W (R k).at_ (R k).lv (R k).dr (R k).from_ (R k).to_ (R k).tail hs ((hR.below (hb.mono hB)).more (Nat.le_trans hB hb.size)) (Nat.le_refl _) hl' hn (fun i hi => by
    have h := hok' i hi
    have h0 := h.at0
    have h1 := h.at1
    have h2 := h.n1
    omega) (htr k hk))
  have HTA := Lib.hid (fun k (hk : k < gn) => (show 0 ≤ (R k).at_ ∧ (R k).at_ < s.nt from (M.tripOk_iff.1 (htr k hk)).1))
  have HLG := Lib.hid (fun k V => legof_any (R k).at_ (R k).lv (R k).dr (R k).from_ (R k).to_ (R k).tail V)
  have HL0 := Lib.hid (fun i (hi : i < ln) => (hok i hi).n0)
  have HLV := Lib.hid (fun W (hb : Below w.heap.size w W) => (hL.below (hb.mono hB)).v w.heap.size)
  obtain ⟨i0, hi, hz0, hz1, hz2⟩ := info_parts int_info
  have MI := Lib.hid (And.intro hi (And.intro hz0 (And.intro hz1 hz2)))
  obtain ⟨j0, ji, jz0, jz1, jz2⟩ := info_parts leg_info
  have MJ := Lib.hid (And.intro ji (And.intro jz0 (And.intro jz1 jz2)))
  clear hi hz0 hz1 hz2 ji jz0 jz1 jz2
  have c0 := C0.out.cell 0
  have c1 := C0.out.cell 1
  have c2 := C0.out.cell 2
  have c3 := C0.out.cell 3
  have c4 := C0.out.cell 4
  have hwl : IntKind.i64.wrap ((ln : Int) + (gn : Int)) = (ln : Int) + (gn : Int) := wrapi _ (by omega)
  have hwl2 : wrap64 ((ln : Int) + (gn : Int)) = (ln : Int) + (gn : Int) := IntWalk.wrap64_in _ (by omega)
  have g12 : decide ((12 : Int) < (ln : Int) + (gn : Int)) = false := decide_eq_false (by omega)
  have hsi : ((ln : Int) + (gn : Int)) ≤ 12 := (by omega)
  have g6 : decide ((6 : Int) < (gn : Int)) = false := decide_eq_false (by omega)
  have g6' : decide (6 < gn) = false := decide_eq_false (by omega)
  clear htr hok
  clear hs hR hL hlo hB hG
  go_enter Tryz.func11, Tryz.ntmps11
  go_upto_region 8 with (go_at_call 28; go_must (refine HCK.out.mono ?_); rintro e w1 ⟨rfl, hb1⟩; have HB1 := Lib.hid (HB0.out.trans (hb1.mono HB0.out.size)); have C1 := Lib.hid (C0.out.below' hb1); clear hb1 c0 c1 c2 c3 c4)
  obtain ⟨Y, hY⟩ : ∃ Y, Y = w1 := ⟨_, rfl⟩
  rw [← hY] at HB1 C1
  rw [← hY]
  clear hY
  have hzY := HB1.out.size
  go_wp2_with fail
  go_loopw [9] (fun i wr => ∃ k : Nat, k ≤ gn ∧ i = .int .i64 (k : Int) ∧ Hid (∀ u, u < k → M.tripOk s (R u) = true) ∧ Below Y.heap.size Y wr) (fun i _ => gn - (intOf i).toNat)
  case atStart => exact ⟨0, Nat.zero_le _, rfl, Lib.hid fun u hu => absurd hu (by omega), Below.refl _ _⟩
  case round =>
    obtain ⟨k, hk, rfl, HTO, hbw⟩ := hrel
    have HW := Lib.hid hbw
    have HBW := Lib.hid (HB1.out.trans (hbw.mono hzY))
    have hzr := hbw.size
    clear hbw
    by_cases hlt : k < gn
    · have CW := C1.out.below' HW.out
      have c0 := CW.cell 0
      have c1 := CW.cell 1
      have c2 := CW.cell 2
      have c3 := CW.cell 3
      have c4 := CW.cell 4
      clear CW
      obtain ⟨b, off, rfl, hb, g0, g1, g2, g3, g4, g5⟩ := (HGT.out wr HBW.out).at_ hlt
      have kx : decide (gn ≤ k) = false := decide_eq_false (by omega)
      have kx2 : (k : Int) < (gn : Int) := (by omega)
      have HI := Lib.hid (fun V => HIT.out k V)
      obtain ⟨tv, htv⟩ : ∃ tv, tv = M.tripOk s (R k) := ⟨_, rfl⟩
      have HE6 : (⟨(R k).at_, (R k).lv, (R k).dr, (R k).tail, (R k).from_, (R k).to_⟩ : M.Trip) = R k := rfl
      rw [HE6, ← htv] at HI
      have HTV := Lib.hid htv
      clear htv HE6
      go_upto_region 11 with fail
      go_still_tail 5, (by kernel_rfl)
      clear c0 c1 c2 c3 c4 g0 g1 g2 g3 g4 g5
      cases tv
      · go_wp2_with (go_at_call 29; go_must (refine (HI.out _).mono ?_); rintro e w9 ⟨rfl, hb9⟩; have HB9 := Lib.hid ((Below.refl _ _).drew.trans (hb9.mono (Nat.le_refl _))); clear hb9)
        exact absurd HTV.out (by rw [HTRS.out k hlt]; simp)
      · go_wp2_with (go_at_call 29; go_must (refine (HI.out _).mono ?_); rintro e w9 ⟨rfl, hb9⟩; have HB9 := Lib.hid ((Below.refl _ _).drew.trans (hb9.mono (Nat.le_refl _))); clear hb9)
        go_roundw
        case rel => exact ⟨k + 1, by omega, by go_num, Lib.hid fun u hu => by
          rcases Nat.lt_succ_iff_lt_or_eq.1 hu with h | h
          · exact HTO.out u h
          · subst h; exact HTV.out.symm, HW.out.trans (HB9.out.mono hzr)⟩
        case measure => simp [intOf]; omega
    · obtain rfl : gn = k := by omega
      obtain ⟨V, hv, hcl, h1⟩ := HLV.out _ HBW.out
      have HV := Lib.hid hv
      have HC := Lib.hid hcl
      have H1 := Lib.hid h1
      clear hv hcl h1
      have hzw := HBW.out.size
      go_upto_region 14 with (at_builtin; go_must (refine wpList_copy rfl (.tmp 43) (.tmp 44) 26 rfl 46 j0 _ 5 56 Tryz.underlying26 MJ.out.1 MJ.out.2.1 MJ.out.2.2.1 MJ.out.2.2.2 rfl (by decide) (by decide) (g := wr.heap.size) rfl (Blk.new wr 46 #[]) (fun i j => legRow_one (L i) (V i) (H1.out i) j) rfl (HV.out.below ((belowAlloc wr _).mono (Nat.le_trans HBB.out hzw))) (by omega) ?_); intro A7 c7 w7 o7 hb7; have HO7 := Lib.hid o7; have HB7 := Lib.hid ((belowAlloc wr (.cells #[] 46)).trans (hb7.mono (by simp))); clear o7 hb7)
      have HBS := Lib.hid (HBW.out.trans (HB7.out.mono hzw))
      have C7 := Lib.hid (C1.out.below' (HW.out.trans (HB7.out.mono hzr)))
      have L7 := Lib.hid (OwnL.apart (show OwnL w7 B w.heap.size (.slice A7 ln c7) ln L from ⟨V, HO7.out.less (show w.heap.size ≤ wr.heap.size from hzw), fun i hi => (HC.out i hi).below HB7.out (Nat.le_trans HBB.out hzw)⟩) (Nat.le_trans HBB.out HBS.out.size) HL0.out)
      have hz7 := HBS.out.size
      obtain ⟨Z, hZ⟩ : ∃ Z, Z = w7 := ⟨_, rfl⟩
      rw [← hZ] at HBS C7 L7 hz7
      rw [← hZ]
      clear hZ HV HC H1 HO7 HB7 HTO
      go_wp2_with fail
      go_loopw [10, 11, 12] (fun v10 v11 i wr => ∃ k : Nat, k ≤ gn ∧ i = .int .i64 (k : Int) ∧ Own wr w.heap.size 3 1 v11 k (ints (M.planE s L ln R)) ∧ LegsA wr B w.heap.size v10 (M.planL s L ln R k).1 (M.planL s L ln R k).2 v11 ∧ Blk wr w.heap.size 25 #[.int .i64 (s.W : Int), .int .i64 (s.H : Int), .slice dA s.nd dc, .slice tA s.nt tc, .slice sA s.nt sc] ∧ Below w.heap.size w wr) (fun _ _ i _ => gn - (intOf i).toNat)
      case atStart => exact ⟨0, Nat.zero_le _, rfl, Own.nil_, L7.out, C7.out, HBS.out⟩
      case round =>
        obtain ⟨k, hk, rfl, ho, hla, hcb, hbw⟩ := hrel
        obtain ⟨oA, oc, rfl⟩ := ho.form
        obtain ⟨A, c, rfl⟩ := hla.form
        have HO := Lib.hid ho
        have HLe := Lib.hid hla
        have HCB := Lib.hid hcb
        have HW := Lib.hid hbw
        have hz := hbw.size
        clear ho hla hcb hbw
        by_cases hlt : k < gn
        · have HPL := Lib.hid (show M.planL s L ln R (k + 1) = if M.hasR s (M.planL s L ln R k).2 (M.planL s L ln R k).1 (R k) then ((M.planL s L ln R k).1 + 1, fun j => if j = (M.planL s L ln R k).1 then M.firstLeg s (M.planL s L ln R k).1 (M.planL s L ln R k).2 (R k) else (M.planL s L ln R k).2 j) else ((M.planL s L ln R k).1, (M.planL s L ln R k).2) from rfl)
          have HPE := Lib.hid (show M.planE s L ln R k = if M.hasR s (M.planL s L ln R k).2 (M.planL s L ln R k).1 (R k) then (R k).at_ + M.endK s (M.planL s L ln R k).2 (M.planL s L ln R k).1 (R k) else -1 from rfl)
          have HOK := Lib.hid (HPO.out k hk)
          have hm12 : (M.planL s L ln R k).1 ≤ 12 := by have := (HPP.out k).2.1; omega
          obtain ⟨PN, hPN⟩ : ∃ PN, PN = M.planL s L ln R (k + 1) := ⟨_, rfl⟩
          have HPN := Lib.hid hPN
          rw [← hPN] at HPL
          obtain ⟨pe, hpe⟩ : ∃ pe, pe = M.planE s L ln R k := ⟨_, rfl⟩
          have HPE2 := Lib.hid hpe
          rw [← hpe] at HPE
          obtain ⟨m, hm⟩ : ∃ m, m = (M.planL s L ln R k).1 := ⟨_, rfl⟩
          obtain ⟨XL, hXL⟩ : ∃ XL, XL = (M.planL s L ln R k).2 := ⟨_, rfl⟩
          rw [← hm, ← hXL] at HPL HPE HOK HLe
          rw [← hm] at hm12
          rw [← hm]
          clear hPN hpe hm hXL
          have HTK := Lib.hid (HTA.out k hlt)
          obtain ⟨b, off, rfl, hb, q0⟩ := (HGT.out wr HW.out).at_ hlt
          clear q0
          have HG6 := Lib.hid (fun V (hb2 : Below w.heap.size w V) => (show V.cell? ⟨b, off + k * 6, none⟩ = some (.int .i64 (R k).at_) ∧ V.cell? ⟨b, off + k * 6 + 1, none⟩ = some (.int .i64 (R k).lv) ∧ V.cell? ⟨b, off + k * 6 + 2, none⟩ = some (.int .i64 (R k).dr) ∧ V.cell? ⟨b, off + k * 6 + 3, none⟩ = some (.bool (R k).tail) ∧ V.cell? ⟨b, off + k * 6 + 4, none⟩ = some (.int .i64 (R k).from_) ∧ V.cell? ⟨b, off + k * 6 + 5, none⟩ = some (.int .i64 (R k).to_) from by
            obtain ⟨b', off', hbb, _, q0, q1, q2, q3, q4, q5⟩ := (HGT.out V hb2).at_ hlt
            injection hbb with hbb
            injection hbb with h1 h2 _
            subst h1; subst h2
            exact ⟨q0, q1, q2, q3, q4, q5⟩))
          have hbw : b < wr.heap.size := Nat.lt_of_lt_of_le hb (Nat.le_trans HBB.out hz)
          have kx : decide (gn ≤ k) = false := decide_eq_false (by omega)
          have kx2 : (k : Int) < (gn : Int) := (by omega)
          have HRK := Lib.hid (fun V (hb2 : Below wr.heap.size wr V) => HRO.out V A m c XL k hlt (HW.out.trans (hb2.mono hz)) ((HLe.out.below hb2 (Nat.le_trans HBB.out hz)).own.rd (Nat.le_trans HBB.out (Nat.le_trans hz hb2.size))) (by omega) HOK.out)
          have HLK := Lib.hid (fun V => HLG.out k V)
          obtain ⟨r, hr⟩ : ∃ r, r = R k := ⟨_, rfl⟩
          rw [← hr] at HPL HPE HTK HRK HLK HG6
          have HE6 : (⟨r.at_, r.lv, r.dr, r.tail, r.from_, r.to_⟩ : M.Trip) = r := rfl
          rw [HE6] at HRK
          clear hr HE6
          obtain ⟨at', hat⟩ : ∃ a : Nat, r.at_ = (a : Int) := ⟨r.at_.toNat, by have := HTK.out; omega⟩
          have HAT := Lib.hid hat
          have hat60 : at' < 61 := (by have := HTK.out; omega)
          clear hat
          go_upto_region 18 with fail
          have HRT := HRK
          obtain ⟨hv, hhv⟩ : ∃ hv, hv = M.hasR s XL m r := ⟨_, rfl⟩
          have HHV := Lib.hid hhv.symm
          rw [← hhv] at HPL HPE HRT
          clear hhv
          cases hv
          · have HPL2 := Lib.hid (show PN = (m, XL) from HPL.out)
            have HPE3 := Lib.hid (show pe = -1 from HPE.out)
            refine wp_region_T 11 (fun w' => Below wr.heap.size wr w') (by kernel_rfl) (Below.refl _ _).drew ?_
            intro hS
            refine wpAnyT_take (i := 0) (v := ?_) rfl (by kernel_rfl) (by kernel_rfl) (by kernel_rfl) (by kernel_rfl) (by kernel_rfl) (fun _ _ _ h => h) (.inl ⟨by kernel_rfl, ?_⟩) hS ?_
            rotate_left
            · (intro w' hw; have CQ := HCB.out.below' hw; have c0 := CQ.cell 0; have c1 := CQ.cell 1; have c2 := CQ.cell 2; have c3 := CQ.cell 3; have c4 := CQ.cell 4; obtain ⟨g0, g1, g2, g3, g4, g5⟩ := HG6.out w' (HW.out.trans (hw.mono hz)); go_simp; try with_reducible rfl)
            try simp only [put_laws]
            refine wpAnyT_take (i := 1) (v := ?_) rfl (by kernel_rfl) (by kernel_rfl) (by kernel_rfl) (by kernel_rfl) (by kernel_rfl) (fun _ _ _ h => h) (.inl ⟨by kernel_rfl, ?_⟩) hS ?_
            rotate_left
            · (intro w' hw; have CQ := HCB.out.below' hw; have c0 := CQ.cell 0; have c1 := CQ.cell 1; have c2 := CQ.cell 2; have c3 := CQ.cell 3; have c4 := CQ.cell 4; obtain ⟨g0, g1, g2, g3, g4, g5⟩ := HG6.out w' (HW.out.trans (hw.mono hz)); go_simp; try with_reducible rfl)
            try simp only [put_laws]
            refine wpAnyT_take (i := 2) (v := ?_) rfl (by kernel_rfl) (by kernel_rfl) (by kernel_rfl) (by kernel_rfl) (by kernel_rfl) (fun _ _ _ h => h) (.inl ⟨by kernel_rfl, ?_⟩) hS ?_
            rotate_left
            · (intro w' hw; have CQ := HCB.out.below' hw; have c0 := CQ.cell 0; have c1 := CQ.cell 1; have c2 := CQ.cell 2; have c3 := CQ.cell 3; have c4 := CQ.cell 4; obtain ⟨g0, g1, g2, g3, g4, g5⟩ := HG6.out w' (HW.out.trans (hw.mono hz)); go_simp; try with_reducible rfl)
            try simp only [put_laws]
            refine wpAnyT_take (i := 3) (v := ?_) rfl (by kernel_rfl) (by kernel_rfl) (by kernel_rfl) (by kernel_rfl) (by kernel_rfl) (fun _ _ _ h => h) (.inl ⟨by kernel_rfl, ?_⟩) hS ?_
            rotate_left
            · (intro w' hw; have CQ := HCB.out.below' hw; have c0 := CQ.cell 0; have c1 := CQ.cell 1; have c2 := CQ.cell 2; have c3 := CQ.cell 3; have c4 := CQ.cell 4; obtain ⟨g0, g1, g2, g3, g4, g5⟩ := HG6.out w' (HW.out.trans (hw.mono hz)); go_simp; try with_reducible rfl)
            try simp only [put_laws]
            refine wpAnyT_take (i := 4) (v := ?_) rfl (by kernel_rfl) (by kernel_rfl) (by kernel_rfl) (by kernel_rfl) (by kernel_rfl) (fun _ _ _ h => h) (.inl ⟨by kernel_rfl, ?_⟩) hS ?_
            rotate_left
            · (intro w' hw; have CQ := HCB.out.below' hw; have c0 := CQ.cell 0; have c1 := CQ.cell 1; have c2 := CQ.cell 2; have c3 := CQ.cell 3; have c4 := CQ.cell 4; obtain ⟨g0, g1, g2, g3, g4, g5⟩ := HG6.out w' (HW.out.trans (hw.mono hz)); go_simp; try with_reducible rfl)
            try simp only [put_laws]
            refine wpAnyT_take (i := 5) (v := ?_) rfl (by kernel_rfl) (by kernel_rfl) (by kernel_rfl) (by kernel_rfl) (by kernel_rfl) (fun _ _ _ h => h) (.inl ⟨by kernel_rfl, ?_⟩) hS ?_
            rotate_left
            · (intro w' hw; have CQ := HCB.out.below' hw; have c0 := CQ.cell 0; have c1 := CQ.cell 1; have c2 := CQ.cell 2; have c3 := CQ.cell 3; have c4 := CQ.cell 4; obtain ⟨g0, g1, g2, g3, g4, g5⟩ := HG6.out w' (HW.out.trans (hw.mono hz)); go_simp; try with_reducible rfl)
            try simp only [put_laws]
            refine wpAnyT_one (i := 6) (by kernel_rfl) rfl ?_
            intro K' hK'
            go_simp
            refine (HRT.out _ hS).mono ?_
            rintro e w5 ⟨⟨v, rfl, hv⟩, hb5⟩
            have HB5r := Lib.hid (show Below wr.heap.size wr w5 from hS.trans (hb5.mono hS.size))
            have HB5 := Lib.hid (HW.out.trans (HB5r.out.mono hz))
            have L5 := Lib.hid (HLe.out.below HB5r.out (Nat.le_trans HBB.out hz))
            have O5 := Lib.hid (HO.out.below HB5r.out)
            have CB5 := Lib.hid (HCB.out.below' HB5r.out)
            have hvf := RouteV.nil_ hv HHV.out
            subst hvf
            clear hv
            clear hS hb5
            have hS := HB5r.out
            refine hK'.out _ _ (.inr hS) ?_
            clear hK' K'
            try simp only [put_laws]
            refine wpAnyT_one (i := 7) (by kernel_rfl) rfl ?_
            intro K' hK'
            go_simp
            refine hK'.out _ _ (.inr hS) ?_
            clear hK' K'
            try simp only [put_laws]
            refine wpAnyT_take (i := 8) (v := ?_) rfl (by kernel_rfl) (by kernel_rfl) (by kernel_rfl) (by kernel_rfl) (by kernel_rfl) (fun _ _ _ h => h) (.inl ⟨by kernel_rfl, ?_⟩) hS ?_
            rotate_left
            · (intro w' hw; skip; go_simp; try with_reducible rfl)
            try simp only [put_laws]
            refine wpAnyT_take (i := 9) (v := ?_) rfl (by kernel_rfl) (by kernel_rfl) (by kernel_rfl) (by kernel_rfl) (by kernel_rfl) (fun _ _ _ h => h) (.inl ⟨by kernel_rfl, ?_⟩) hS ?_
            rotate_left
            · (intro w' hw; skip; go_simp; try with_reducible rfl)
            try simp only [put_laws]
            refine wpAnyT_one (i := 10) (by kernel_rfl) rfl ?_
            intro K' hK'
            go_simp
            refine hK'.out _ _ (.inr hS) ?_
            clear hK' K'
            try simp only [put_laws]
            refine wpAnyT_one (i := 11) (by kernel_rfl) rfl ?_
            intro K' hK'
            go_simp
            refine hK'.out _ _ (.inl rfl) ?_
            clear hK' K'
            try simp only [put_laws]
            refine wpAnyT_done (by kernel_rfl) ?_ _
            clear hS
            go_wp2_with (first
              | (at_builtin; go_must (refine wpList_app rfl (.tmp 64) (.tmp 65) 22 rfl w.heap.size 3 1 8 Tryz.underlying22 MI.out.1 MI.out.2.1 MI.out.2.2.1 MI.out.2.2.2 rfl (by decide) (by decide) (O5.out.alloc _) rfl (by omega) (by have := HB5.out.size; simp; omega) w5.heap.size 1 (fun _ => .int .i64 (-1)) rfl (cell_last rfl) (fun _ _ => rfl) ?_); intro v7 w7 o7 hg7 hat7; have HO7 := Lib.hid o7; have HG7 := Lib.hid hg7; have HAT7 := Lib.hid hat7; clear o7 hg7 hat7))
            go_roundw
            case rel =>
              refine ⟨k + 1, by omega, by go_num, HO7.out.congr (plan_out HPE2.out HPE3.out), ?_, Blk.grown_own (CB5.out.alloc _) (O5.out.alloc _) (by decide) HG7.out, (HB5.out.alloc HB5.out.size _).grown HG7.out (by have := HB5.out.size; simp; omega) (fun g hg => (O5.out.block hg).1)⟩
              rw [← HPN.out, HPL2.out]
              exact (L5.out.below (belowAlloc _ _) (Nat.le_trans HBB.out HB5.out.size)).grew (by have := HB5.out.size; have := HBB.out; simp; omega) (O5.out.alloc _) (by decide) HG7.out HAT7.out
            case measure => simp [intOf]; omega
          · have HEK := Lib.hid (show M.endK s XL m r < s.nt - r.at_.toNat from of_decide_eq_true HHV.out)
            have HPL2 := Lib.hid (show PN = (m + 1, fun j => if j = m then M.firstLeg s m XL r else XL j) from HPL.out)
            have HPE3 := Lib.hid (show pe = r.at_ + M.endK s XL m r from HPE.out)
            obtain ⟨K, hK⟩ : ∃ K, K = M.endK s XL m r := ⟨_, rfl⟩
            have HKE := Lib.hid hK
            rw [← hK] at HPE3
            have hK60 : K < 60 := by have := HEK.out; rw [← hK] at this; omega
            clear hK
            obtain ⟨kq, hkq⟩ : ∃ kq, kq = K + 1 := ⟨_, rfl⟩
            have HKQ := Lib.hid hkq
            have hkq60 : kq ≤ 60 := by omega
            clear hkq
            have hw1 : IntKind.i64.wrap ((at' : Int) + (kq : Int)) = (at' : Int) + (kq : Int) := by rw [IntKind.wrap_i64]; omega
            have hw2 : IntKind.i64.wrap ((at' : Int) + (kq : Int) - 1) = (at' : Int) + (kq : Int) - 1 := by rw [IntKind.wrap_i64]; omega
            have HPQ := Lib.hid (show pe = (at' : Int) + (kq : Int) - 1 by rw [HPE3.out, HAT.out, HKQ.out]; omega)
            refine wp_region_T 11 (fun w' => Below wr.heap.size wr w') (by kernel_rfl) (Below.refl _ _).drew ?_
            intro hS
            refine wpAnyT_take (i := 0) (v := ?_) rfl (by kernel_rfl) (by kernel_rfl) (by kernel_rfl) (by kernel_rfl) (by kernel_rfl) (fun _ _ _ h => h) (.inl ⟨by kernel_rfl, ?_⟩) hS ?_
            rotate_left
            · (intro w' hw; have CQ := HCB.out.below' hw; have c0 := CQ.cell 0; have c1 := CQ.cell 1; have c2 := CQ.cell 2; have c3 := CQ.cell 3; have c4 := CQ.cell 4; obtain ⟨g0, g1, g2, g3, g4, g5⟩ := HG6.out w' (HW.out.trans (hw.mono hz)); go_simp; try with_reducible rfl)
            try simp only [put_laws]
            refine wpAnyT_take (i := 1) (v := ?_) rfl (by kernel_rfl) (by kernel_rfl) (by kernel_rfl) (by kernel_rfl) (by kernel_rfl) (fun _ _ _ h => h) (.inl ⟨by kernel_rfl, ?_⟩) hS ?_
            rotate_left
            · (intro w' hw; have CQ := HCB.out.below' hw; have c0 := CQ.cell 0; have c1 := CQ.cell 1; have c2 := CQ.cell 2; have c3 := CQ.cell 3; have c4 := CQ.cell 4; obtain ⟨g0, g1, g2, g3, g4, g5⟩ := HG6.out w' (HW.out.trans (hw.mono hz)); go_simp; try with_reducible rfl)
            try simp only [put_laws]
            refine wpAnyT_take (i := 2) (v := ?_) rfl (by kernel_rfl) (by kernel_rfl) (by kernel_rfl) (by kernel_rfl) (by kernel_rfl) (fun _ _ _ h => h) (.inl ⟨by kernel_rfl, ?_⟩) hS ?_
            rotate_left
            · (intro w' hw; have CQ := HCB.out.below' hw; have c0 := CQ.cell 0; have c1 := CQ.cell 1; have c2 := CQ.cell 2; have c3 := CQ.cell 3; have c4 := CQ.cell 4; obtain ⟨g0, g1, g2, g3, g4, g5⟩ := HG6.out w' (HW.out.trans (hw.mono hz)); go_simp; try with_reducible rfl)
            try simp only [put_laws]
            refine wpAnyT_take (i := 3) (v := ?_) rfl (by kernel_rfl) (by kernel_rfl) (by kernel_rfl) (by kernel_rfl) (by kernel_rfl) (fun _ _ _ h => h) (.inl ⟨by kernel_rfl, ?_⟩) hS ?_
            rotate_left
            · (intro w' hw; have CQ := HCB.out.below' hw; have c0 := CQ.cell 0; have c1 := CQ.cell 1; have c2 := CQ.cell 2; have c3 := CQ.cell 3; have c4 := CQ.cell 4; obtain ⟨g0, g1, g2, g3, g4, g5⟩ := HG6.out w' (HW.out.trans (hw.mono hz)); go_simp; try with_reducible rfl)
            try simp only [put_laws]
            refine wpAnyT_take (i := 4) (v := ?_) rfl (by kernel_rfl) (by kernel_rfl) (by kernel_rfl) (by kernel_rfl) (by kernel_rfl) (fun _ _ _ h => h) (.inl ⟨by kernel_rfl, ?_⟩) hS ?_
            rotate_left
            · (intro w' hw; have CQ := HCB.out.below' hw; have c0 := CQ.cell 0; have c1 := CQ.cell 1; have c2 := CQ.cell 2; have c3 := CQ.cell 3; have c4 := CQ.cell 4; obtain ⟨g0, g1, g2, g3, g4, g5⟩ := HG6.out w' (HW.out.trans (hw.mono hz)); go_simp; try with_reducible rfl)
            try simp only [put_laws]
            refine wpAnyT_take (i := 5) (v := ?_) rfl (by kernel_rfl) (by kernel_rfl) (by kernel_rfl) (by kernel_rfl) (by kernel_rfl) (fun _ _ _ h => h) (.inl ⟨by kernel_rfl, ?_⟩) hS ?_
            rotate_left
            · (intro w' hw; have CQ := HCB.out.below' hw; have c0 := CQ.cell 0; have c1 := CQ.cell 1; have c2 := CQ.cell 2; have c3 := CQ.cell 3; have c4 := CQ.cell 4; obtain ⟨g0, g1, g2, g3, g4, g5⟩ := HG6.out w' (HW.out.trans (hw.mono hz)); go_simp; try with_reducible rfl)
            try simp only [put_laws]
            refine wpAnyT_one (i := 6) (by kernel_rfl) rfl ?_
            intro K' hK'
            go_simp
            refine (HRT.out _ hS).mono ?_
            rintro e w5 ⟨⟨v, rfl, hv⟩, hb5⟩
            have HB5r := Lib.hid (show Below wr.heap.size wr w5 from hS.trans (hb5.mono hS.size))
            have HB5 := Lib.hid (HW.out.trans (HB5r.out.mono hz))
            have L5 := Lib.hid (HLe.out.below HB5r.out (Nat.le_trans HBB.out hz))
            have O5 := Lib.hid (HO.out.below HB5r.out)
            have CB5 := Lib.hid (HCB.out.below' HB5r.out)
            have hpo := hv.yes HEK.out
            rw [← HKE.out, ← HKQ.out] at hpo
            obtain ⟨gp, cp, rfl⟩ := hpo.nz (by have := HKQ.out; omega)
            have OP := Lib.hid (show Own w5 wr.heap.size 3 1 (.slice (some ⟨gp, 0, none⟩) kq cp) kq (ints (M.routeF s XL m r K)) from hpo.less hS.size)
            clear hv hpo
            clear hS hb5
            have hS := HB5r.out
            refine hK'.out _ _ (.inr hS) ?_
            clear hK' K'
            try simp only [put_laws]
            refine wpAnyT_one (i := 7) (by kernel_rfl) rfl ?_
            intro K' hK'
            go_simp
            refine hK'.out _ _ (.inr hS) ?_
            clear hK' K'
            try simp only [put_laws]
            refine wpAnyT_take (i := 8) (v := ?_) rfl (by kernel_rfl) (by kernel_rfl) (by kernel_rfl) (by kernel_rfl) (by kernel_rfl) (fun _ _ _ h => h) (.inl ⟨by kernel_rfl, ?_⟩) hS ?_
            rotate_left
            · (intro w' hw; skip; go_simp; try with_reducible rfl)
            try simp only [put_laws]
            refine wpAnyT_take (i := 9) (v := ?_) rfl (by kernel_rfl) (by kernel_rfl) (by kernel_rfl) (by kernel_rfl) (by kernel_rfl) (fun _ _ _ h => h) (.inl ⟨by kernel_rfl, ?_⟩) hS ?_
            rotate_left
            · (intro w' hw; skip; go_simp; try with_reducible rfl)
            try simp only [put_laws]
            refine wpAnyT_one (i := 10) (by kernel_rfl) rfl ?_
            intro K' hK'
            go_simp
            refine hK'.out _ _ (.inr hS) ?_
            clear hK' K'
            try simp only [put_laws]
            refine wpAnyT_one (i := 11) (by kernel_rfl) rfl ?_
            intro K' hK'
            go_simp
            refine hK'.out _ _ (.inl rfl) ?_
            clear hK' K'
            try simp only [put_laws]
            refine wpAnyT_done (by kernel_rfl) ?_ _
            clear hS
            go_upto_region 21 with fail
            have HFL := Lib.hid (show M.firstLeg s m XL r = M.legOf r kq (M.routeF s XL m r K) by rw [HKQ.out, HKE.out]; rfl)
            have hz5 := HB5.out.size
            have HGN := Lib.hid (show gp < w5.heap.size ∧ (Value.slice (some ⟨gp, 0, none⟩) kq cp).ownBlock ≠ (Value.slice oA k oc).ownBlock from ⟨(OP.out.block rfl).2, fun e => by
              have h1 : wr.heap.size ≤ gp := (OP.out.block rfl).1
              have h2 : gp < wr.heap.size := (HO.out.block e.symm).2
              omega⟩)
            obtain ⟨g0, g1, g2, g3, g4, g5⟩ := HG6.out w5 HB5.out
            rw [HAT.out] at g0
            go_upto_region 22 with (at_builtin; go_must (refine wpList_app rfl (.tmp 67) (.tmp 77) 22 rfl w.heap.size 3 1 8 Tryz.underlying22 MI.out.1 MI.out.2.1 MI.out.2.2.1 MI.out.2.2.2 rfl (by decide) (by decide) (O5.out.alloc _) rfl (by omega) (by simp; omega) w5.heap.size 1 (fun _ => .int .i64 ((at' : Int) + (kq : Int) - 1)) rfl (cell_last rfl) (fun _ _ => rfl) ?_); intro v7 w7 o7 hg7 hat7; have HO7 := Lib.hid o7; have HG7 := Lib.hid hg7; have HAT7 := Lib.hid hat7; clear o7 hg7 hat7)
            clear g0 g1 g2 g3 g4 g5
            have HB7 := Lib.hid ((HB5.out.alloc hz5 (.cells #[.int .i64 ((at' : Int) + (kq : Int) - 1)] 3)).grown HG7.out (by simp; omega) (fun g hg => (O5.out.block hg).1))
            have CB7 := Lib.hid (Blk.grown_own (CB5.out.alloc (.cells #[.int .i64 ((at' : Int) + (kq : Int) - 1)] 3)) (O5.out.alloc (.cells #[.int .i64 ((at' : Int) + (kq : Int) - 1)] 3)) (by decide) HG7.out)
            have L7 := Lib.hid ((L5.out.below (belowAlloc w5 (.cells #[.int .i64 ((at' : Int) + (kq : Int) - 1)] 3)) (Nat.le_trans HBB.out hz5)).grew (by have := HBB.out; simp; omega) (O5.out.alloc (.cells #[.int .i64 ((at' : Int) + (kq : Int) - 1)] 3)) (by decide) HG7.out HAT7.out)
            have HU := Lib.hid (show LegCells w7 B w.heap.size (.slice (some ⟨gp, 0, none⟩) kq cp) (M.firstLeg s m XL r) ∧ 0 < (M.firstLeg s m XL r).n ∧ (Value.slice (some ⟨gp, 0, none⟩) kq cp).ownBlock ≠ v7.ownBlock by
              rw [HFL.out]
              refine ⟨⟨show kq ≤ maxLen by unfold maxLen; omega, .inr (((OP.out.less hz).alloc (.cells #[.int .i64 ((at' : Int) + (kq : Int) - 1)] 3)).grown HG7.out (.inr HGN.out.2))⟩, show 0 < kq by have := HKQ.out; omega, fun e => ?_⟩
              rcases HAT7.out with h | h
              · exact HGN.out.2 (e.trans h)
              · have h2 : gp = (w5.alloc (.cells #[.int .i64 ((at' : Int) + (kq : Int) - 1)] 3)).heap.size := Option.some.inj (e.trans h)
                have h3 := HGN.out.1
                simp at h2
                omega)
            have HLR := Lib.hid (show (M.firstLeg s m XL r).at_ = r.at_ ∧ (M.firstLeg s m XL r).lv = r.lv ∧ (M.firstLeg s m XL r).dr = r.dr ∧ (M.firstLeg s m XL r).tail = r.tail from ⟨rfl, rfl, rfl, rfl⟩)
            obtain ⟨fl, hfl⟩ : ∃ fl, fl = M.firstLeg s m XL r := ⟨_, rfl⟩
            rw [← hfl] at HU HLR HPL2
            clear hfl HFL
            have hz7 := HB7.out.size
            obtain ⟨g0, g1, g2, g3, g4, g5⟩ := HG6.out w7 HB7.out
            go_wp2_with (first
              | (go_at_call 31; go_must (refine (HLK.out w7 (some ⟨gp, 0, none⟩) kq cp).mono ?_); rintro e w8 ⟨rfl, hb8⟩; have HB8 := Lib.hid (HB7.out.trans (hb8.mono hz7)); have CB8 := Lib.hid (CB7.out.below' hb8); have O8 := Lib.hid (HO7.out.below hb8); have L8 := Lib.hid (L7.out.below hb8 (Nat.le_trans HBB.out hz7)); have U8 := Lib.hid (show LegCells w8 B w.heap.size (.slice (some ⟨gp, 0, none⟩) kq cp) fl ∧ 0 < fl.n ∧ (Value.slice (some ⟨gp, 0, none⟩) kq cp).ownBlock ≠ v7.ownBlock from ⟨HU.out.1.below hb8 (Nat.le_trans HBB.out hz7), HU.out.2⟩); clear hb8; obtain ⟨V8, hv1, hv2⟩ := L8.out; have HV1 := Lib.hid hv1; have HV2 := Lib.hid hv2; clear hv1 hv2; have hz8 := HB8.out.size; have HTMP := Lib.hid (show ∀ j, j < 5 → (w8.alloc (.cells #[.int .i64 r.at_, .int .i64 r.lv, .int .i64 r.dr, .bool r.tail, .slice (some ⟨gp, 0, none⟩) kq cp] 46)).cell? ⟨w8.heap.size, j, none⟩ = some (legRow fl (.slice (some ⟨gp, 0, none⟩) kq cp) j) from by (obtain ⟨e1, e2, e3, e4⟩ := HLR.out; rw [← e1, ← e2, ← e3, ← e4]; exact leg_tmp w8 fl _)))
              | (at_builtin; go_must (refine wpList_app rfl (.tmp 79) (.tmp 86) 26 rfl w.heap.size 46 5 56 Tryz.underlying26 MJ.out.1 MJ.out.2.1 MJ.out.2.2.1 MJ.out.2.2.2 rfl (by decide) (by decide) (HV1.out.alloc _) rfl (by omega) (by simp; omega) w8.heap.size 1 (legRow fl (.slice (some ⟨gp, 0, none⟩) kq cp)) rfl HTMP.out (fun j _ => legRow_one fl _ rfl j) ?_); intro v9 w9 o9 hg9 hat9; have HO9 := Lib.hid o9; have HG9 := Lib.hid hg9; clear o9 hg9 hat9))
            go_roundw
            case rel =>
              refine ⟨k + 1, by omega, by go_num, (Own.apart_grown (O8.out.alloc (.cells #[.int .i64 r.at_, .int .i64 r.lv, .int .i64 r.dr, .bool r.tail, .slice (some ⟨gp, 0, none⟩) kq cp] 46)) (Own.apart_type HV1.out O8.out (by decide)) HG9.out).congr (plan_out HPE2.out HPQ.out), ?_, Blk.grown_own (CB8.out.alloc _) (HV1.out.alloc _) (by decide) HG9.out, (HB8.out.alloc hz8 _).grown HG9.out (by simp; omega) (fun g hg => (HV1.out.block hg).1)⟩
              rw [← HPN.out, HPL2.out]
              exact LegsA.app HBB.out (HV1.out.alloc _) (fun i hi => ⟨(HV2.out i hi).1.below (belowAlloc _ _) (Nat.le_trans HBB.out hz8), (HV2.out i hi).2⟩) ⟨U8.out.1.below (belowAlloc _ _) (Nat.le_trans HBB.out hz8), U8.out.2⟩ HG9.out HO9.out
            case measure => simp [intOf]; omega
        · obtain rfl : k = gn := by omega
          go_wp2_with fail
          go_ret2
          exact ⟨⟨_, rfl, HO.out⟩, HW.out⟩
end
section
variable (W H : Int) (dA tA sA lA gA : Option Addr) (nd dc nt tc ns sc ln lc gn gc : Nat) (E : Int) (w : World)
set_option maxRecDepth 100000 in
set_option maxHeartbeats 1600000 in
theorem Plan_err (HO : ∀ V, Below w.heap.size w V → Calls Tryz.prog 22 #[.agg #[.int .i64 W, .int .i64 H, .slice dA nd dc, .slice tA nt tc, .slice sA ns sc], .slice lA ln lc] V fun e w' => e = .returned (.tuple #[.pointer none, .int .i64 E]) ∧ Below V.heap.size V w') (hE : E ≠ 0) :
    Calls Tryz.prog 8 #[.agg #[.int .i64 W, .int .i64 H, .slice dA nd dc, .slice tA nt tc, .slice sA ns sc], .slice lA ln lc, .slice gA gn gc] w fun e w' => e = .returned (.tuple #[.slice none 0 0, .int .i64 E]) ∧ Below w.heap.size w w' := by
  have HB0 := Lib.hid (belowAlloc w (.cells #[.int .i64 W, .int .i64 H, .slice dA nd dc, .slice tA nt tc, .slice sA ns sc] 25))
  have HC := Lib.hid (HO _ HB0.out)
  have e1 : (E != 0) = true := by simpa using hE
  clear HO hE
  go_enter Tryz.func8, Tryz.ntmps8
  go_wp2_with (go_at_call 22; go_must (refine HC.out.mono ?_); rintro e w1 ⟨rfl, hb1⟩; have HB1 := Lib.hid (HB0.out.trans (hb1.mono HB0.out.size)); clear hb1)
  go_ret2
  exact ⟨rfl, HB1.out⟩
set_option maxRecDepth 100000 in
set_option maxHeartbeats 1600000 in
theorem rplan_err (HO : ∀ V, Below w.heap.size w V → Calls Tryz.prog 28 #[.agg #[.int .i64 W, .int .i64 H, .slice dA nd dc, .slice tA nt tc, .slice sA ns sc], .slice lA ln lc] V fun e w' => e = .returned (.int .i64 E) ∧ Below V.heap.size V w') (hE : E ≠ 0) :
    Calls Tryz.prog 11 #[.agg #[.int .i64 W, .int .i64 H, .slice dA nd dc, .slice tA nt tc, .slice sA ns sc], .slice lA ln lc, .slice gA gn gc] w fun e w' => e = .returned (.tuple #[.slice none 0 0, .int .i64 E]) ∧ Below w.heap.size w w' := by
  have HB0 := Lib.hid (belowAlloc w (.cells #[.int .i64 W, .int .i64 H, .slice dA nd dc, .slice tA nt tc, .slice sA ns sc] 25))
  have HC := Lib.hid (HO _ HB0.out)
  have e1 : (E != 0) = true := by simpa using hE
  clear HO hE
  go_enter Tryz.func11, Tryz.ntmps11
  go_wp2_with (go_at_call 28; go_must (refine HC.out.mono ?_); rintro e w1 ⟨rfl, hb1⟩; have HB1 := Lib.hid (HB0.out.trans (hb1.mono HB0.out.size)); clear hb1)
  go_ret2
  exact ⟨rfl, HB1.out⟩
end
end Go.Proofs.YtkdpmihdhiokkaaGreatDoor
/- LanesPlans, walked. -/
namespace Go.Proofs.YtkdpmihdhiokkaaGreatDoor
open Go.RowKit

/-- the answer's code and ends of Plan for any chart, legs and trips -/
def M.plC (W H : Int) (nd nt ns : Nat) (dep : Nat → Int) (tide : Nat → Nat → Int) (sw : Nat → Int) (n : Nat) (L : Nat → M.Leg) (gn : Nat) (R : Nat → M.Trip) : Int :=
  if M.chkE W H nd nt ns dep tide sw n L = 0 then (if 12 < n + gn then 60 else if 6 < gn then 2 else if M.allTo gn (fun i => M.tripOk ⟨W.toNat, H.toNat, nd, nt, dep, tide, sw⟩ (R i)) = true then 0 else 61) else M.chkE W H nd nt ns dep tide sw n L
def M.plN (W H : Int) (nd nt ns : Nat) (dep : Nat → Int) (tide : Nat → Nat → Int) (sw : Nat → Int) (n : Nat) (L : Nat → M.Leg) (gn : Nat) (R : Nat → M.Trip) : Nat := if M.plC W H nd nt ns dep tide sw n L gn R = 0 then gn else 0
theorem M.chkE_zero {W H : Int} {nd nt ns : Nat} {dep : Nat → Int} {tide : Nat → Nat → Int} {sw : Nat → Int} {n : Nat} {L : Nat → M.Leg} (h : M.chkE W H nd nt ns dep tide sw n L = 0) :
    ∃ W' H' : Nat, W = W' ∧ H = H' ∧ ns = nt ∧ M.Sea.Ok ⟨W', H', nd, nt, dep, tide, sw⟩ ∧ M.legsOk ⟨W', H', nd, nt, dep, tide, sw⟩ n L = true := by
  cases hc : M.chkC W H nd nt ns dep tide sw
  · unfold M.chkE at h
    rw [hc] at h
    exact absurd (show (10 : Int) = 0 from h) (by decide)
  · obtain ⟨W', H', rfl, rfl, rfl, hs⟩ := M.chkC_ok hc
    refine ⟨W', H', rfl, rfl, rfl, hs, ?_⟩
    rw [M.Sea.Ok.chkE hs] at h
    unfold M.legsE at h
    by_cases ho : M.legsOk ⟨W', H', nd, ns, dep, tide, sw⟩ n L = true
    · exact ho
    · rw [if_neg ho] at h
      exact absurd h (by decide)
section
variable (W H : Int) (dA tA sA lA gA : Option Addr) (nd dc nt tc ns sc ln lc gn gc B : Nat) (dep : Nat → Int) (tide : Nat → Nat → Int) (sw : Nat → Int) (L : Nat → M.Leg) (R : Nat → M.Trip) (w : World)
theorem plan_split {Q : Int → Nat → (Nat → Int) → Prop} (hE : M.chkE W H nd nt ns dep tide sw ln L ≠ 0 → Q (M.chkE W H nd nt ns dep tide sw ln L) 0 (M.planE ⟨W.toNat, H.toNat, nd, nt, dep, tide, sw⟩ L ln R))
    (h0 : ∀ W' H' : Nat, W = W' → H = H' → ns = nt → M.Sea.Ok ⟨W', H', nd, nt, dep, tide, sw⟩ → M.legsOk ⟨W', H', nd, nt, dep, tide, sw⟩ ln L = true →
      (12 < ln + gn → Q 60 0 (M.planE ⟨W', H', nd, nt, dep, tide, sw⟩ L ln R)) ∧ (ln + gn ≤ 12 → 6 < gn → Q 2 0 (M.planE ⟨W', H', nd, nt, dep, tide, sw⟩ L ln R)) ∧ (ln + gn ≤ 12 → gn ≤ 6 → M.allTo gn (fun i => M.tripOk ⟨W', H', nd, nt, dep, tide, sw⟩ (R i)) = false → Q 61 0 (M.planE ⟨W', H', nd, nt, dep, tide, sw⟩ L ln R)) ∧
      (ln + gn ≤ 12 → gn ≤ 6 → (∀ k, k < gn → M.tripOk ⟨W', H', nd, nt, dep, tide, sw⟩ (R k) = true) → Q 0 gn (M.planE ⟨W', H', nd, nt, dep, tide, sw⟩ L ln R))) :
    Q (M.plC W H nd nt ns dep tide sw ln L gn R) (M.plN W H nd nt ns dep tide sw ln L gn R) (M.planE ⟨W.toNat, H.toNat, nd, nt, dep, tide, sw⟩ L ln R) := by
  unfold M.plN M.plC
  by_cases hz : M.chkE W H nd nt ns dep tide sw ln L = 0
  · rw [if_pos hz]
    obtain ⟨W', H', rfl, rfl, rfl, hs, ho⟩ := M.chkE_zero hz
    obtain ⟨h1, h2, h3, h4⟩ := h0 W' H' rfl rfl rfl hs ho
    by_cases a : 12 < ln + gn
    · rw [if_pos a, if_neg (by decide)]; exact h1 a
    · rw [if_neg a]
      by_cases b : 6 < gn
      · rw [if_pos b, if_neg (by decide)]; exact h2 (by omega) b
      · rw [if_neg b]
        by_cases c : M.allTo gn (fun i => M.tripOk ⟨((W' : Int)).toNat, ((H' : Int)).toNat, nd, ns, dep, tide, sw⟩ (R i)) = true
        · rw [if_pos c, if_pos rfl]; exact h4 (by omega) (by omega) (M.allTo_iff.1 c)
        · rw [if_neg c, if_neg (by decide)]; exact h3 (by omega) (by omega) (Bool.eq_false_iff.2 c)
  · rw [if_neg hz, if_neg hz]
    exact hE hz
theorem lplan_all (hnd : nd ≤ maxLen) (hnt : nt ≤ maxLen) (hns : ns ≤ maxLen) (hw : Ways w) (hR : RdC w B dA tA sA nd nt ns dep tide sw) (hB : B ≤ w.heap.size) (hL : RdL w B lA ln L) (hln : ln ≤ 1048576) (hG : RdT w B gA gn R) (hgn : gn ≤ 30) :
    Calls Tryz.prog 8 #[.agg #[.int .i64 W, .int .i64 H, .slice dA nd dc, .slice tA nt tc, .slice sA ns sc], .slice lA ln lc, .slice gA gn gc] w fun e w' => (∃ v, e = .returned (.tuple #[v, .int .i64 (M.plC W H nd nt ns dep tide sw ln L gn R)]) ∧ Own w' w.heap.size 3 1 v (M.plN W H nd nt ns dep tide sw ln L gn R) (ints (M.planE ⟨W.toNat, H.toNat, nd, nt, dep, tide, sw⟩ L ln R))) ∧ Below w.heap.size w w' := by
  refine plan_split W H nd nt ns ln gn dep tide sw L R (Q := fun c n F => Calls Tryz.prog 8 #[.agg #[.int .i64 W, .int .i64 H, .slice dA nd dc, .slice tA nt tc, .slice sA ns sc], .slice lA ln lc, .slice gA gn gc] w fun e w' => (∃ v, e = .returned (.tuple #[v, .int .i64 c]) ∧ Own w' w.heap.size 3 1 v n (ints F)) ∧ Below w.heap.size w w') (fun hE => ?_) (fun W' H' h1 h2 h3 hs ho => ?_)
  · exact (Plan_err W H dA tA sA lA gA nd dc nt tc ns sc ln lc gn gc _ w (fun V hb => lopen_err W H dA tA sA lA nd dc nt tc ns sc ln lc B dep tide sw L V hnd hnt hns (hw.below hb) (hR.below (hb.mono hB)) (Nat.le_trans hB hb.size) (hL.below (hb.mono hB)) hln hE) hE).mono fun e w' ⟨h1, h2⟩ => ⟨⟨_, h1, Own.nil_⟩, h2⟩
  · subst h1; subst h2; subst h3
    have h12 : ln ≤ 12 := by
      unfold M.legsOk at ho
      simp only [Bool.and_eq_true, decide_eq_true_eq] at ho
      exact ho.1
    exact ⟨fun a => (Plan_sum ⟨W', H', nd, ns, dep, tide, sw⟩ dA tA sA lA gA dc tc sc ln lc gn gc B L R w hs hw hR hB hL h12 ho hG hgn a).mono fun e w' ⟨h1, h2⟩ => ⟨⟨_, h1, Own.nil_⟩, h2⟩,
      fun a b => (Plan_many ⟨W', H', nd, ns, dep, tide, sw⟩ dA tA sA lA gA dc tc sc ln lc gn gc B L R w hs hw hR hB hL h12 ho hG hgn a b).mono fun e w' ⟨h1, h2⟩ => ⟨⟨_, h1, Own.nil_⟩, h2⟩,
      fun a b c => (Plan_bad ⟨W', H', nd, ns, dep, tide, sw⟩ dA tA sA lA gA dc tc sc ln lc gn gc B L R w hs hw hR hB hL h12 ho hG hgn a b c).mono fun e w' ⟨h1, h2⟩ => ⟨⟨_, h1, Own.nil_⟩, h2⟩,
      fun a b c => Plan_ok ⟨W', H', nd, ns, dep, tide, sw⟩ dA tA sA lA gA dc tc sc ln lc gn gc B L R w hs hw hR hB hL ho hG b a c⟩
theorem rplan_all (hnd : nd ≤ maxLen) (hnt : nt ≤ maxLen) (hns : ns ≤ maxLen) (hR : RdC w B dA tA sA nd nt ns dep tide sw) (hB : B ≤ w.heap.size) (hL : RdL w B lA ln L) (hln : ln ≤ 1048576) (hG : RdT w B gA gn R) (hgn : gn ≤ 30) :
    Calls Tryz.prog 11 #[.agg #[.int .i64 W, .int .i64 H, .slice dA nd dc, .slice tA nt tc, .slice sA ns sc], .slice lA ln lc, .slice gA gn gc] w fun e w' => (∃ v, e = .returned (.tuple #[v, .int .i64 (M.plC W H nd nt ns dep tide sw ln L gn R)]) ∧ Own w' w.heap.size 3 1 v (M.plN W H nd nt ns dep tide sw ln L gn R) (ints (M.planE ⟨W.toNat, H.toNat, nd, nt, dep, tide, sw⟩ L ln R))) ∧ Below w.heap.size w w' := by
  refine plan_split W H nd nt ns ln gn dep tide sw L R (Q := fun c n F => Calls Tryz.prog 11 #[.agg #[.int .i64 W, .int .i64 H, .slice dA nd dc, .slice tA nt tc, .slice sA ns sc], .slice lA ln lc, .slice gA gn gc] w fun e w' => (∃ v, e = .returned (.tuple #[v, .int .i64 c]) ∧ Own w' w.heap.size 3 1 v n (ints F)) ∧ Below w.heap.size w w') (fun hE => ?_) (fun W' H' h1 h2 h3 hs ho => ?_)
  · exact (rplan_err W H dA tA sA lA gA nd dc nt tc ns sc ln lc gn gc _ w (fun V hb => rcheck_any W H dA tA sA lA nd dc nt tc ns sc ln lc B dep tide sw L V hnd hnt hns (hR.below (hb.mono hB)) (Nat.le_trans hB hb.size) (hL.below (hb.mono hB)) hln) hE).mono fun e w' ⟨h1, h2⟩ => ⟨⟨_, h1, Own.nil_⟩, h2⟩
  · subst h1; subst h2; subst h3
    have h12 : ln ≤ 12 := by
      unfold M.legsOk at ho
      simp only [Bool.and_eq_true, decide_eq_true_eq] at ho
      exact ho.1
    exact ⟨fun a => (rplan_sum ⟨W', H', nd, ns, dep, tide, sw⟩ dA tA sA lA gA dc tc sc ln lc gn gc B L R w hs hR hB hL h12 ho hG hgn a).mono fun e w' ⟨h1, h2⟩ => ⟨⟨_, h1, Own.nil_⟩, h2⟩,
      fun a b => (rplan_many ⟨W', H', nd, ns, dep, tide, sw⟩ dA tA sA lA gA dc tc sc ln lc gn gc B L R w hs hR hB hL h12 ho hG hgn a b).mono fun e w' ⟨h1, h2⟩ => ⟨⟨_, h1, Own.nil_⟩, h2⟩,
      fun a b c => (rplan_bad ⟨W', H', nd, ns, dep, tide, sw⟩ dA tA sA lA gA dc tc sc ln lc gn gc B L R w hs hR hB hL h12 ho hG hgn a b c).mono fun e w' ⟨h1, h2⟩ => ⟨⟨_, h1, Own.nil_⟩, h2⟩,
      fun a b c => rplan_ok ⟨W', H', nd, ns, dep, tide, sw⟩ dA tA sA lA gA dc tc sc ln lc gn gc B L R w hs hR hB hL h12 ho hG hgn a b c⟩
end
theorem trip_info : (Tryz.prog.info? 39).map (fun i => (i.zero, i.size, i.bytes)) = some (some (.agg #[.int .i64 0, .int .i64 0, .int .i64 0, .bool false, .int .i64 0, .int .i64 0]), 6, 48) := by kernel_rfl
theorem tripRow_one (r : M.Trip) (j : Nat) : (tripRow r j).oneCell' = true := by
  unfold tripRow
  (repeat' split) <;> rfl
section
variable (W H : Int) (dA tA sA lA gA : Option Addr) (nd dc nt tc ns sc ln lc gn gc B : Nat) (dep : Nat → Int) (tide : Nat → Nat → Int) (sw : Nat → Int) (L : Nat → M.Leg) (R : Nat → M.Trip) (w : World)
set_option maxRecDepth 100000 in
set_option maxHeartbeats 3200000 in
theorem lanesPlans_any (hnd : nd ≤ maxLen) (hnt : nt ≤ maxLen) (hns : ns ≤ maxLen) (hln : ln ≤ maxLen) (hgn : gn ≤ maxLen) (hw : Ways w) (hR : RdC w B dA tA sA nd nt ns dep tide sw) (hB : B ≤ w.heap.size) (hL : RdL w B lA ln L) (hG : RdT w B gA gn R) :
    Calls Tryz.prog 3 #[.agg #[.int .i64 W, .int .i64 H, .slice dA nd dc, .slice tA nt tc, .slice sA ns sc], .slice lA ln lc, .slice gA gn gc] w fun e w' => e = .returned (.bool true) ∧ Below w.heap.size w w' := by
  have HR := Lib.hid (belowAlloc w (.cells #[.int .i64 W, .int .i64 H, .slice dA nd dc, .slice tA nt tc, .slice sA ns sc] 25))
  have CR := Lib.hid (Blk.new w 25 #[.int .i64 W, .int .i64 H, .slice dA nd dc, .slice tA nt tc, .slice sA ns sc])
  obtain ⟨X, hX⟩ : ∃ X, X = w.alloc (.cells #[.int .i64 W, .int .i64 H, .slice dA nd dc, .slice tA nt tc, .slice sA ns sc] 25) := ⟨_, rfl⟩
  have HXe := Lib.hid hX
  rw [← hX] at HR CR
  clear hX
  have HRC := Lib.hid (fun V (hb2 : Below w.heap.size w V) => hR.below (hb2.mono hB))
  have HRL := Lib.hid (fun V (hb2 : Below w.heap.size w V) => hL.below (hb2.mono hB))
  have HRG := Lib.hid (fun V (hb2 : Below w.heap.size w V) => hG.below (hb2.mono hB))
  have HWY := Lib.hid (fun V (hb2 : Below w.heap.size w V) => hw.below hb2)
  have HBB := Lib.hid hB
  have HWO := Lib.hid (fun V (hb2 : Below w.heap.size w V) => works_any V (hw.below hb2))
  have HFC := Lib.hid (fun V (hb2 : Below w.heap.size w V) => far_any W H dA tA sA nd dc nt tc ns sc B dep tide sw V hnd hnt hns (HRC.out V hb2) (Nat.le_trans HBB.out hb2.size))
  have HFL := Lib.hid (fun V (hb2 : Below w.heap.size w V) => farlegs_any lA ln lc B L V (HRL.out V hb2) hln)
  have c0 := CR.out.cell 0
  have c1 := CR.out.cell 1
  have c2 := CR.out.cell 2
  have c3 := CR.out.cell 3
  have c4 := CR.out.cell 4
  obtain ⟨i0, ji, jz0, jz1, jz2⟩ := info_parts trip_info
  have MI := Lib.hid (And.intro ji (And.intro jz0 (And.intro jz1 jz2)))
  clear hR hw hB hL hG ji jz0 jz1 jz2
  go_enter Tryz.func3, Tryz.ntmps3
  go_upto_region 1 with fail
  rw [← HXe.out]
  clear HXe
  cases hf : M.farC W H nd nt ns dep tide sw
  · rw [hf] at HFC
    cases hl : M.farL ln L
    · rw [hl] at HFL
      have HSZ := Lib.hid (show nd ≤ 200 ∧ nt ≤ 80 ∧ ns ≤ 80 by
        unfold M.farC at hf
        simp only [Bool.or_eq_false_iff, decide_eq_false_iff_not] at hf
        omega)
      have HSL := Lib.hid (show ln ≤ 30 ∧ ∀ i, i < ln → (L i).n ≤ 80 by
        unfold M.farL at hl
        simp only [Bool.or_eq_false_iff, decide_eq_false_iff_not] at hl
        refine ⟨by omega, fun i hi => ?_⟩
        have h2 := hl.1
        refine Nat.le_of_not_lt fun h3 => ?_
        rw [M.anyTo_iff.2 ⟨i, hi, decide_eq_true h3⟩] at h2
        cases h2)
      clear hf hl
      by_cases h4 : 4 < gn
      · have g4 : decide (4 < gn) = true := decide_eq_true h4
        have i4 : decide ((4 : Int) < (gn : Int)) = true := decide_eq_true (by omega)
        by_cases h6 : gn ≤ 6
        · have g6 : decide (gn ≤ 6) = true := decide_eq_true h6
          have i6 : decide ((gn : Int) ≤ 6) = true := decide_eq_true (by omega)
          clear h4 h6
          go_upto_region 2 with (first
            | (go_at_call 5; go_must (refine (HFC.out _ HR.out).mono ?_); rintro e w1 ⟨rfl, hb1⟩; have HR' := Lib.hid (HR.out.trans (hb1.mono HR.out.size)); have CR' := Lib.hid (CR.out.below' hb1); clear hb1 HR CR c0 c1 c2 c3 c4; have HR := HR'; have CR := CR'; clear HR' CR'; have c0 := CR.out.cell 0; have c1 := CR.out.cell 1; have c2 := CR.out.cell 2; have c3 := CR.out.cell 3; have c4 := CR.out.cell 4)
            | (go_at_call 6; go_must (refine (HFL.out _ HR.out).mono ?_); rintro e w2 ⟨rfl, h2⟩; rw [h2]; clear h2))
          go_wp2_with (go_at_call 7; go_must (refine (HWO.out _ HR.out).mono ?_); rintro e w9 ⟨rfl, hb9⟩; have HB9 := Lib.hid (HR.out.trans (hb9.mono HR.out.size)); clear hb9)
          go_ret
          exact ⟨rfl, HB9.out⟩
        · have g6 : decide (gn ≤ 6) = false := decide_eq_false h6
          have i6 : decide ((gn : Int) ≤ 6) = false := decide_eq_false (by omega)
          by_cases h30 : 30 < gn
          · have g30 : decide (30 < gn) = true := decide_eq_true h30
            have i30 : decide ((30 : Int) < (gn : Int)) = true := decide_eq_true (by omega)
            clear h4 h6 h30
            go_upto_region 2 with (first
              | (go_at_call 5; go_must (refine (HFC.out _ HR.out).mono ?_); rintro e w1 ⟨rfl, hb1⟩; have HR' := Lib.hid (HR.out.trans (hb1.mono HR.out.size)); have CR' := Lib.hid (CR.out.below' hb1); clear hb1 HR CR c0 c1 c2 c3 c4; have HR := HR'; have CR := CR'; clear HR' CR'; have c0 := CR.out.cell 0; have c1 := CR.out.cell 1; have c2 := CR.out.cell 2; have c3 := CR.out.cell 3; have c4 := CR.out.cell 4)
              | (go_at_call 6; go_must (refine (HFL.out _ HR.out).mono ?_); rintro e w2 ⟨rfl, h2⟩; rw [h2]; clear h2))
            go_wp2_with (go_at_call 7; go_must (refine (HWO.out _ HR.out).mono ?_); rintro e w9 ⟨rfl, hb9⟩; have HB9 := Lib.hid (HR.out.trans (hb9.mono HR.out.size)); clear hb9)
            go_ret
            exact ⟨rfl, HB9.out⟩
          · have g30 : decide (30 < gn) = false := decide_eq_false h30
            have i30 : decide ((30 : Int) < (gn : Int)) = false := decide_eq_false (by omega)
            have HGN := Lib.hid (show gn ≤ 30 by omega)
            clear h4 h6 h30
            have HCC := Lib.hid (fun V (hb2 : Below w.heap.size w V) => copied_any dA tA sA nd dc nt tc ns sc B W H dep tide sw V (by have := HSZ.out; omega) (by have := HSZ.out; omega) (by have := HSZ.out; omega) (HRC.out V hb2) (Nat.le_trans HBB.out hb2.size))
            have HCL := Lib.hid (fun V (hb2 : Below w.heap.size w V) => rlcopy_any lA ln lc B L V (HRL.out V hb2) (Nat.le_trans HBB.out hb2.size) (by have := HSL.out; omega) (fun i hi => by have := HSL.out.2 i hi; omega))
            have HPL := Lib.hid (fun V dA' dc' tA' tc' sA' sc' mA mc gA' gc' (hb2 : Below w.heap.size w V) (hR' : RdC V V.heap.size dA' tA' sA' nd nt ns dep tide sw) (hL' : RdL V V.heap.size mA ln L) (hG' : RdT V V.heap.size gA' gn R) => lplan_all W H dA' tA' sA' mA gA' nd dc' nt tc' ns sc' ln mc gn gc' V.heap.size dep tide sw L R V hnd hnt hns (HWY.out V hb2) hR' (Nat.le_refl _) hL' (by have := HSL.out; omega) hG' HGN.out)
            have HPR := Lib.hid (fun V (hb2 : Below w.heap.size w V) => rplan_all W H dA tA sA lA gA nd dc nt tc ns sc ln lc gn gc B dep tide sw L R V hnd hnt hns (HRC.out V hb2) (Nat.le_trans HBB.out hb2.size) (HRL.out V hb2) (by have := HSL.out; omega) (HRG.out V hb2) HGN.out)
            have HPN := Lib.hid (show M.plN W H nd nt ns dep tide sw ln L gn R ≤ 30 by
              unfold M.plN
              split
              · exact HGN.out
              · omega)
            obtain ⟨E, hE⟩ : ∃ E, E = M.plC W H nd nt ns dep tide sw ln L gn R := ⟨_, rfl⟩
            obtain ⟨PN, hPN⟩ : ∃ PN, PN = M.plN W H nd nt ns dep tide sw ln L gn R := ⟨_, rfl⟩
            obtain ⟨PF, hPF⟩ : ∃ PF, PF = M.planE ⟨W.toNat, H.toNat, nd, nt, dep, tide, sw⟩ L ln R := ⟨_, rfl⟩
            rw [← hE, ← hPN, ← hPF] at HPL HPR
            rw [← hPN] at HPN
            clear hE hPN hPF
            go_upto_region 4 with (first
              | (go_at_call 5; go_must (refine (HFC.out _ HR.out).mono ?_); rintro e w1 ⟨rfl, hb1⟩; have HR' := Lib.hid (HR.out.trans (hb1.mono HR.out.size)); have CR' := Lib.hid (CR.out.below' hb1); clear hb1 HR CR c0 c1 c2 c3 c4; have HR := HR'; have CR := CR'; clear HR' CR'; have c0 := CR.out.cell 0; have c1 := CR.out.cell 1; have c2 := CR.out.cell 2; have c3 := CR.out.cell 3; have c4 := CR.out.cell 4)
              | (go_at_call 6; go_must (refine (HFL.out _ HR.out).mono ?_); rintro e w2 ⟨rfl, h2⟩; rw [h2]; clear h2)
              | (go_at_call 9; go_must (refine (HCC.out _ HR.out).mono ?_); rintro e w3 ⟨⟨dA', dc', tA', tc', sA', sc', rfl, ho⟩, hb3⟩; have O3 := Lib.hid ho; clear ho; have HR' := Lib.hid (HR.out.trans (hb3.mono HR.out.size)); have CR' := Lib.hid (CR.out.below' hb3); clear hb3 HR CR c0 c1 c2 c3 c4; have HR := HR'; have CR := CR'; clear HR' CR'; have c0 := CR.out.cell 0; have c1 := CR.out.cell 1; have c2 := CR.out.cell 2; have c3 := CR.out.cell 3; have c4 := CR.out.cell 4)
              | (go_at_call 10; go_must (refine (HCL.out _ HR.out).mono ?_); rintro e w4 ⟨⟨v4, rfl, ho⟩, hb4⟩; have L4 := Lib.hid ho; obtain ⟨mA, mc, rfl⟩ := L4.out.form; have O4 := Lib.hid (O3.out.below hb4); clear ho O3; have HR' := Lib.hid (HR.out.trans (hb4.mono HR.out.size)); have CR' := Lib.hid (CR.out.below' hb4); clear hb4 HR CR c0 c1 c2 c3 c4; have HR := HR'; have CR := CR'; clear HR' CR'; have c0 := CR.out.cell 0; have c1 := CR.out.cell 1; have c2 := CR.out.cell 2; have c3 := CR.out.cell 3; have c4 := CR.out.cell 4)
              | (at_builtin; go_must (refine wpList_copy rfl (.tmp 38) (.tmp 39) 27 rfl 39 i0 _ 6 48 Tryz.underlying27 MI.out.1 MI.out.2.1 MI.out.2.2.1 MI.out.2.2.2 rfl (by decide) (by decide) (g := w4.heap.size) rfl (Blk.new w4 39 #[]) (fun i j => tripRow_one (R i) j) rfl ((show RdV w4 B gA 6 gn (fun i => tripRow (R i)) from HRG.out w4 HR.out).below ((belowAlloc w4 _).mono (Nat.le_trans HBB.out HR.out.size))) (by have := HGN.out; omega) ?_); intro A7 c7 w7 o7 hb7; have HB7 := Lib.hid ((belowAlloc w4 (.cells #[] 39)).trans (hb7.mono (by simp))); have G7 := Lib.hid (show RdT w7 w7.heap.size A7 gn R from o7.rdV); have L7 := Lib.hid ((L4.out.below HB7.out).rd (fun i hi => by have := HSL.out.2 i hi; unfold maxLen; omega)); have O7 := Lib.hid ((O4.out.below HB7.out).rd); have HR7 := Lib.hid (HR.out.trans (HB7.out.mono HR.out.size)); have CR7 := Lib.hid (CR.out.below' HB7.out); clear o7 hb7 HR CR c0 c1 c2 c3 c4; have HR := HR7; have CR := CR7; clear HR7 CR7; have c0 := CR.out.cell 0; have c1 := CR.out.cell 1; have c2 := CR.out.cell 2; have c3 := CR.out.cell 3; have c4 := CR.out.cell 4)
              | (go_at_call 8; go_must (refine (HPL.out w7 dA' dc' tA' tc' sA' sc' mA mc A7 c7 HR.out O7.out L7.out G7.out).mono ?_); rintro e w8 ⟨⟨v8, rfl, ho⟩, hb8⟩; have P8 := Lib.hid ho; obtain ⟨aA, ac, rfl⟩ := P8.out.form; clear ho; have HR' := Lib.hid (HR.out.trans (hb8.mono HR.out.size)); have CR' := Lib.hid (CR.out.below' hb8); clear hb8 HR CR c0 c1 c2 c3 c4; have HR := HR'; have CR := CR'; clear HR' CR'; have c0 := CR.out.cell 0; have c1 := CR.out.cell 1; have c2 := CR.out.cell 2; have c3 := CR.out.cell 3; have c4 := CR.out.cell 4))
            go_upto_region 5 with (go_at_call 11; go_must (refine (HPR.out _ HR.out).mono ?_); rintro e w9 ⟨⟨v9, rfl, ho⟩, hb9⟩; have P9 := Lib.hid ho; obtain ⟨bA, bc, rfl⟩ := P9.out.form; have P8' := Lib.hid (P8.out.below hb9); clear ho; have HR' := Lib.hid (HR.out.trans (hb9.mono HR.out.size)); have CR' := Lib.hid (CR.out.below' hb9); clear hb9 HR CR c0 c1 c2 c3 c4; have HR := HR'; have CR := CR'; clear HR' CR'; have c0 := CR.out.cell 0; have c1 := CR.out.cell 1; have c2 := CR.out.cell 2; have c3 := CR.out.cell 3; have c4 := CR.out.cell 4)
            have HSI := Lib.hid (sameInts_any aA bA PN PN ac bc w9.heap.size PF PF w9 (by unfold maxLen; have := HPN.out; omega) (by unfold maxLen; have := HPN.out; omega) (Own.rd1' P8'.out) (Own.rd1' P9.out))
            rw [same_self] at HSI
            clear c0 c1 c2 c3 c4
            go_wp2_with (first
              | (go_at_call 12; go_must (refine HSI.out.mono ?_); rintro e w10 ⟨rfl, hs1⟩; have HS := Lib.hid (HR.out.trans (hs1.mono HR.out.size)); clear hs1)
              | (go_at_call 7; go_must (refine (HWO.out _ HS.out).mono ?_); rintro e w11 ⟨rfl, hb11⟩; have HB11 := Lib.hid (HS.out.trans (hb11.mono HS.out.size)); clear hb11))
            go_ret
            exact ⟨rfl, HB11.out⟩
      · have g4 : decide (4 < gn) = false := decide_eq_false h4
        have i4 : decide ((4 : Int) < (gn : Int)) = false := decide_eq_false (by omega)
        have g30 : decide (30 < gn) = false := decide_eq_false (by omega)
        have i30 : decide ((30 : Int) < (gn : Int)) = false := decide_eq_false (by omega)
        have HGN := Lib.hid (show gn ≤ 30 by omega)
        clear h4
        have HCC := Lib.hid (fun V (hb2 : Below w.heap.size w V) => copied_any dA tA sA nd dc nt tc ns sc B W H dep tide sw V (by have := HSZ.out; omega) (by have := HSZ.out; omega) (by have := HSZ.out; omega) (HRC.out V hb2) (Nat.le_trans HBB.out hb2.size))
        have HCL := Lib.hid (fun V (hb2 : Below w.heap.size w V) => rlcopy_any lA ln lc B L V (HRL.out V hb2) (Nat.le_trans HBB.out hb2.size) (by have := HSL.out; omega) (fun i hi => by have := HSL.out.2 i hi; omega))
        have HPL := Lib.hid (fun V dA' dc' tA' tc' sA' sc' mA mc gA' gc' (hb2 : Below w.heap.size w V) (hR' : RdC V V.heap.size dA' tA' sA' nd nt ns dep tide sw) (hL' : RdL V V.heap.size mA ln L) (hG' : RdT V V.heap.size gA' gn R) => lplan_all W H dA' tA' sA' mA gA' nd dc' nt tc' ns sc' ln mc gn gc' V.heap.size dep tide sw L R V hnd hnt hns (HWY.out V hb2) hR' (Nat.le_refl _) hL' (by have := HSL.out; omega) hG' HGN.out)
        have HPR := Lib.hid (fun V (hb2 : Below w.heap.size w V) => rplan_all W H dA tA sA lA gA nd dc nt tc ns sc ln lc gn gc B dep tide sw L R V hnd hnt hns (HRC.out V hb2) (Nat.le_trans HBB.out hb2.size) (HRL.out V hb2) (by have := HSL.out; omega) (HRG.out V hb2) HGN.out)
        have HPN := Lib.hid (show M.plN W H nd nt ns dep tide sw ln L gn R ≤ 30 by
          unfold M.plN
          split
          · exact HGN.out
          · omega)
        obtain ⟨E, hE⟩ : ∃ E, E = M.plC W H nd nt ns dep tide sw ln L gn R := ⟨_, rfl⟩
        obtain ⟨PN, hPN⟩ : ∃ PN, PN = M.plN W H nd nt ns dep tide sw ln L gn R := ⟨_, rfl⟩
        obtain ⟨PF, hPF⟩ : ∃ PF, PF = M.planE ⟨W.toNat, H.toNat, nd, nt, dep, tide, sw⟩ L ln R := ⟨_, rfl⟩
        rw [← hE, ← hPN, ← hPF] at HPL HPR
        rw [← hPN] at HPN
        clear hE hPN hPF
        go_upto_region 4 with (first
          | (go_at_call 5; go_must (refine (HFC.out _ HR.out).mono ?_); rintro e w1 ⟨rfl, hb1⟩; have HR' := Lib.hid (HR.out.trans (hb1.mono HR.out.size)); have CR' := Lib.hid (CR.out.below' hb1); clear hb1 HR CR c0 c1 c2 c3 c4; have HR := HR'; have CR := CR'; clear HR' CR'; have c0 := CR.out.cell 0; have c1 := CR.out.cell 1; have c2 := CR.out.cell 2; have c3 := CR.out.cell 3; have c4 := CR.out.cell 4)
          | (go_at_call 6; go_must (refine (HFL.out _ HR.out).mono ?_); rintro e w2 ⟨rfl, h2⟩; rw [h2]; clear h2)
          | (go_at_call 9; go_must (refine (HCC.out _ HR.out).mono ?_); rintro e w3 ⟨⟨dA', dc', tA', tc', sA', sc', rfl, ho⟩, hb3⟩; have O3 := Lib.hid ho; clear ho; have HR' := Lib.hid (HR.out.trans (hb3.mono HR.out.size)); have CR' := Lib.hid (CR.out.below' hb3); clear hb3 HR CR c0 c1 c2 c3 c4; have HR := HR'; have CR := CR'; clear HR' CR'; have c0 := CR.out.cell 0; have c1 := CR.out.cell 1; have c2 := CR.out.cell 2; have c3 := CR.out.cell 3; have c4 := CR.out.cell 4)
          | (go_at_call 10; go_must (refine (HCL.out _ HR.out).mono ?_); rintro e w4 ⟨⟨v4, rfl, ho⟩, hb4⟩; have L4 := Lib.hid ho; obtain ⟨mA, mc, rfl⟩ := L4.out.form; have O4 := Lib.hid (O3.out.below hb4); clear ho O3; have HR' := Lib.hid (HR.out.trans (hb4.mono HR.out.size)); have CR' := Lib.hid (CR.out.below' hb4); clear hb4 HR CR c0 c1 c2 c3 c4; have HR := HR'; have CR := CR'; clear HR' CR'; have c0 := CR.out.cell 0; have c1 := CR.out.cell 1; have c2 := CR.out.cell 2; have c3 := CR.out.cell 3; have c4 := CR.out.cell 4)
          | (at_builtin; go_must (refine wpList_copy rfl (.tmp 38) (.tmp 39) 27 rfl 39 i0 _ 6 48 Tryz.underlying27 MI.out.1 MI.out.2.1 MI.out.2.2.1 MI.out.2.2.2 rfl (by decide) (by decide) (g := w4.heap.size) rfl (Blk.new w4 39 #[]) (fun i j => tripRow_one (R i) j) rfl ((show RdV w4 B gA 6 gn (fun i => tripRow (R i)) from HRG.out w4 HR.out).below ((belowAlloc w4 _).mono (Nat.le_trans HBB.out HR.out.size))) (by have := HGN.out; omega) ?_); intro A7 c7 w7 o7 hb7; have HB7 := Lib.hid ((belowAlloc w4 (.cells #[] 39)).trans (hb7.mono (by simp))); have G7 := Lib.hid (show RdT w7 w7.heap.size A7 gn R from o7.rdV); have L7 := Lib.hid ((L4.out.below HB7.out).rd (fun i hi => by have := HSL.out.2 i hi; unfold maxLen; omega)); have O7 := Lib.hid ((O4.out.below HB7.out).rd); have HR7 := Lib.hid (HR.out.trans (HB7.out.mono HR.out.size)); have CR7 := Lib.hid (CR.out.below' HB7.out); clear o7 hb7 HR CR c0 c1 c2 c3 c4; have HR := HR7; have CR := CR7; clear HR7 CR7; have c0 := CR.out.cell 0; have c1 := CR.out.cell 1; have c2 := CR.out.cell 2; have c3 := CR.out.cell 3; have c4 := CR.out.cell 4)
          | (go_at_call 8; go_must (refine (HPL.out w7 dA' dc' tA' tc' sA' sc' mA mc A7 c7 HR.out O7.out L7.out G7.out).mono ?_); rintro e w8 ⟨⟨v8, rfl, ho⟩, hb8⟩; have P8 := Lib.hid ho; obtain ⟨aA, ac, rfl⟩ := P8.out.form; clear ho; have HR' := Lib.hid (HR.out.trans (hb8.mono HR.out.size)); have CR' := Lib.hid (CR.out.below' hb8); clear hb8 HR CR c0 c1 c2 c3 c4; have HR := HR'; have CR := CR'; clear HR' CR'; have c0 := CR.out.cell 0; have c1 := CR.out.cell 1; have c2 := CR.out.cell 2; have c3 := CR.out.cell 3; have c4 := CR.out.cell 4))
        go_upto_region 5 with (go_at_call 11; go_must (refine (HPR.out _ HR.out).mono ?_); rintro e w9 ⟨⟨v9, rfl, ho⟩, hb9⟩; have P9 := Lib.hid ho; obtain ⟨bA, bc, rfl⟩ := P9.out.form; have P8' := Lib.hid (P8.out.below hb9); clear ho; have HR' := Lib.hid (HR.out.trans (hb9.mono HR.out.size)); have CR' := Lib.hid (CR.out.below' hb9); clear hb9 HR CR c0 c1 c2 c3 c4; have HR := HR'; have CR := CR'; clear HR' CR'; have c0 := CR.out.cell 0; have c1 := CR.out.cell 1; have c2 := CR.out.cell 2; have c3 := CR.out.cell 3; have c4 := CR.out.cell 4)
        have HSI := Lib.hid (sameInts_any aA bA PN PN ac bc w9.heap.size PF PF w9 (by unfold maxLen; have := HPN.out; omega) (by unfold maxLen; have := HPN.out; omega) (Own.rd1' P8'.out) (Own.rd1' P9.out))
        rw [same_self] at HSI
        clear c0 c1 c2 c3 c4
        go_wp2_with (first
          | (go_at_call 12; go_must (refine HSI.out.mono ?_); rintro e w10 ⟨rfl, hs1⟩; have HS := Lib.hid (HR.out.trans (hs1.mono HR.out.size)); clear hs1)
          | (go_at_call 7; go_must (refine (HWO.out _ HS.out).mono ?_); rintro e w11 ⟨rfl, hb11⟩; have HB11 := Lib.hid (HS.out.trans (hb11.mono HS.out.size)); clear hb11))
        go_ret
        exact ⟨rfl, HB11.out⟩
    · rw [hl] at HFL
      clear hf hl
      go_upto_region 2 with (first
        | (go_at_call 5; go_must (refine (HFC.out _ HR.out).mono ?_); rintro e w1 ⟨rfl, hb1⟩; have HR' := Lib.hid (HR.out.trans (hb1.mono HR.out.size)); have CR' := Lib.hid (CR.out.below' hb1); clear hb1 HR CR c0 c1 c2 c3 c4; have HR := HR'; have CR := CR'; clear HR' CR'; have c0 := CR.out.cell 0; have c1 := CR.out.cell 1; have c2 := CR.out.cell 2; have c3 := CR.out.cell 3; have c4 := CR.out.cell 4)
        | (go_at_call 6; go_must (refine (HFL.out _ HR.out).mono ?_); rintro e w2 ⟨rfl, h2⟩; rw [h2]; clear h2))
      go_wp2_with (go_at_call 7; go_must (refine (HWO.out _ HR.out).mono ?_); rintro e w9 ⟨rfl, hb9⟩; have HB9 := Lib.hid (HR.out.trans (hb9.mono HR.out.size)); clear hb9)
      go_ret
      exact ⟨rfl, HB9.out⟩
  · rw [hf] at HFC
    clear hf
    go_upto_region 2 with (go_at_call 5; go_must (refine (HFC.out _ HR.out).mono ?_); rintro e w1 ⟨rfl, hb1⟩; have HR' := Lib.hid (HR.out.trans (hb1.mono HR.out.size)); have CR' := Lib.hid (CR.out.below' hb1); clear hb1 HR CR c0 c1 c2 c3 c4; have HR := HR'; have CR := CR'; clear HR' CR'; have c0 := CR.out.cell 0; have c1 := CR.out.cell 1; have c2 := CR.out.cell 2; have c3 := CR.out.cell 3; have c4 := CR.out.cell 4)
    go_wp2_with (go_at_call 7; go_must (refine (HWO.out _ HR.out).mono ?_); rintro e w9 ⟨rfl, hb9⟩; have HB9 := Lib.hid (HR.out.trans (hb9.mono HR.out.size)); clear hb9)
    go_ret
    exact ⟨rfl, HB9.out⟩
end
end Go.Proofs.YtkdpmihdhiokkaaGreatDoor
