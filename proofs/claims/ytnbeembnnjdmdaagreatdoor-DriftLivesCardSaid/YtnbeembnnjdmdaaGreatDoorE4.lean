/- The reference of layer 2: isPush, arePushes, Check. -/
import Derived.Test.YtnbeembnnjdmdaaGreatDoorE1
namespace Go.Proofs.YtnbeembnnjdmdaaGreatDoor
open Go.RowKit

set_option maxRecDepth 100000 in
set_option maxHeartbeats 3200000 in
theorem rpush_any (x y z : Int) (w : World) :
  Calls Tryz.prog 95 #[.agg #[.int .i64 x, .int .i64 y, .int .i64 z]] w fun e w' => e = .returned (.bool (M.inB 1 63 x && (decide (0 ≤ y) && decide (y ≤ z) && decide (z ≤ 3)))) ∧ Below w.heap.size w w' := by
 rw [show (decide (0 ≤ y) && decide (y ≤ z)) = M.inB 0 z y from rfl]
 obtain ⟨q1, hq1⟩ : ∃ q, M.inB 1 63 x = q := ⟨_, rfl⟩
 obtain ⟨q2, hq2⟩ : ∃ q, M.inB 0 z y = q := ⟨_, rfl⟩
 rw [hq1, hq2]
 cases q1 <;> cases q2 <;> by_cases h3 : z ≤ 3
 all_goals
  have g3 := dcd z 3
  have g6 := dlt z 3
  simp only [h3, if_true, if_false] at g3 g6
  have HB0 := Lib.hid (belowAlloc w (.cells #[.int .i64 x, .int .i64 y, .int .i64 z] 142))
  go_enter Tryz.func95, Tryz.ntmps95
  go_wp2_with (go_at_call 50; refine (rin_any _ _ _ _).mono ?_; rintro e w1 ⟨rfl, rfl⟩)
  go_ret
  exact ⟨ret_bool (by simp [h3]), HB0.out⟩
theorem rpushes_any (A : Option Addr) (n c B : Nat) (f : Nat → Nat → Int) (m : Int) (w : World) (hm : n ≤ maxLen) (hR : Rd w B A 3 n f) (hB : B ≤ w.heap.size) :
  Calls Tryz.prog 54 #[.slice A n c, .int .i64 m] w fun e w' => e = .returned (.bool (M.allTo n (fun i => M.pushB (f i)) && decide ((n : Int) = m))) ∧ Below w.heap.size w w' := by
 unfold maxLen at hm
 have HR := Lib.hid hR
 clear hR
 obtain ⟨r, hr⟩ : ∃ r, decide ((n : Int) = m) = r := ⟨_, rfl⟩
 have g1 : ((n : Int) == m) = r := hr
 rw [hr]
 clear hr
 go_enter Tryz.func54, Tryz.ntmps54
 go_wp2_with fail
 go_loopw [5] (fun i wr => ∃ k : Nat, k ≤ n ∧ i = .int .i64 k ∧ M.allTo k (fun i => M.pushB (f i)) = true ∧ Hid (Below w.heap.size w wr)) (fun i _ => n - (intOf i).toNat)
 case atStart => exact ⟨0, Nat.zero_le _, rfl, rfl, Lib.hid (Below.refl _ _)⟩
 case round =>
  obtain ⟨k, hk, rfl, hf, HB⟩ := hrel
  have HF := Lib.hid hf
  clear hf
  by_cases hlt : k < n
  ·
   obtain ⟨b, off, rfl, hb, c0, c1, c2⟩ := (HR.out.below (HB.out.mono hB)).at3 hlt
   obtain ⟨q, hq⟩ : ∃ q, M.pushB (f k) = q := ⟨_, rfl⟩
   have HV := Lib.hid (fun W => rpush_any (f k 0) (f k 1) (f k 2) W)
   rw [show (M.inB 1 63 (f k 0) && (decide (0 ≤ f k 1) && decide (f k 1 ≤ f k 2) && decide (f k 2 ≤ 3))) = q from hq] at HV
   have HQ := Lib.hid hq
   clear hq
   cases q
   ·
    go_wp2_with (go_at_call 95; refine (HV.out _).mono ?_; rintro e w1 ⟨rfl, hb1⟩; have HB1 := Lib.hid hb1; clear hb1)
    go_ret
    refine ⟨ret_bool ?_, HB.out.trans (HB1.out.mono HB.out.size)⟩
    rw [M.allTo_no hlt HQ.out]; rfl
   ·
    go_wp2_with (go_at_call 95; refine (HV.out _).mono ?_; rintro e w1 ⟨rfl, hb1⟩; have HB1 := Lib.hid hb1; clear hb1)
    go_roundw
    case rel => exact ⟨k + 1, by omega, by go_num, by simp [M.allTo, HF.out, HQ.out], Lib.hid (HB.out.trans (HB1.out.mono HB.out.size))⟩
    case measure => simp [intOf]; omega
  ·
   obtain rfl : k = n := by omega
   go_wp2_with fail
   go_ret
   exact ⟨ret_bool (by rw [HF.out]; rfl), HB.out⟩
section
variable {W H : Int} {dA tA sA zA cA wA : Option Addr} {nd dc nt tc ns sc zn zc cn cc wn wc B : Nat} {dep : Nat → Int} {tide : Nat → Nat → Int} {sw z : Nat → Int} {cl : Nat → Nat} {cu : Nat → Nat → Nat → Int} {wd : Nat → Nat → Int} {w : World}
set_option maxRecDepth 100000 in
set_option maxHeartbeats 6400000 in
theorem rdchk_any (hnd : nd ≤ maxLen) (hnt : nt ≤ maxLen) (hns : ns ≤ maxLen) (hzn : zn ≤ maxLen) (hcn : cn ≤ maxLen) (hwn : wn ≤ maxLen) (hR : RdD w B dA tA sA zA cA wA nd nt ns zn cn wn dep tide sw z cl cu wd) (hB : B ≤ w.heap.size) :
  Calls Tryz.prog 18 #[.agg #[.int .i64 W, .int .i64 H, .slice dA nd dc, .slice tA nt tc, .slice sA ns sc, .slice zA zn zc, .slice cA cn cc, .slice wA wn wc]] w fun e w' => e = .returned (.int .i64 (if M.chkD (M.chkC W H nd nt ns dep tide sw) nd nt zn cn wn z cl cu wd = true then 0 else 20)) ∧ Below w.heap.size w w' := by
 have HB0 := Lib.hid (belowAlloc w (.cells #[.int .i64 W, .int .i64 H, .slice dA nd dc, .slice tA nt tc, .slice sA ns sc, .slice zA zn zc, .slice cA cn cc, .slice wA wn wc] 29))
 have D0 := Lib.hid (Blk.new w 29 #[.int .i64 W, .int .i64 H, .slice dA nd dc, .slice tA nt tc, .slice sA ns sc, .slice zA zn zc, .slice cA cn cc, .slice wA wn wc])
 have HCC := Lib.hid (rchk_any W H dA tA sA nd dc nt tc ns sc B dep tide sw (w.alloc (.cells #[.int .i64 W, .int .i64 H, .slice dA nd dc, .slice tA nt tc, .slice sA ns sc, .slice zA zn zc, .slice cA cn cc, .slice wA wn wc] 29)) hnd hnt hns (hR.c.below (HB0.out.mono hB)) (Nat.le_trans hB HB0.out.size))
 obtain ⟨ck, hck⟩ : ∃ q, M.chkC W H nd nt ns dep tide sw = q := ⟨_, rfl⟩
 rw [hck] at HCC
 rw [hck]
 clear hck
 obtain ⟨E, hE⟩ : ∃ E, E = M.chkD ck nd nt zn cn wn z cl cu wd := ⟨_, rfl⟩
 rw [← hE]
 unfold M.chkD at hE
 obtain ⟨R, hRE⟩ : ∃ R : Int, R = if E = true then 0 else 20 := ⟨_, rfl⟩
 rw [← hRE]
 obtain ⟨q1, hq1⟩ : ∃ q, M.inB 1 4 (cn : Int) = q := ⟨_, rfl⟩
 obtain ⟨q3, hq3⟩ : ∃ q, (M.allTo wn (fun i => M.pushB (wd i)) && decide ((wn : Int) = (nt : Int) - 1)) = q := ⟨_, rfl⟩
 have hE1 : (decide (1 ≤ cn) && decide (cn ≤ 4)) = q1 := by
  rw [← hq1]; unfold M.inB
  rw [show decide ((1 : Int) ≤ (cn : Int)) = decide (1 ≤ cn) from decide_eq_decide.2 (by omega), show decide ((cn : Int) ≤ 4) = decide (cn ≤ 4) from decide_eq_decide.2 (by omega)]
 have hE3 : (decide (wn + 1 = nt) && M.allTo wn fun t => M.pushB (wd t)) = q3 := by
  rw [← hq3, Bool.and_comm]
  rw [show decide ((wn : Int) = (nt : Int) - 1) = decide (wn + 1 = nt) from decide_eq_decide.2 (by omega)]
 rw [hE1, hE3] at hE
 have HQ1 := Lib.hid (fun V => rin_v V hq1)
 have HW := Lib.hid (fun (V : World) (hb : Below w.heap.size w V) => rpushes_any wA wn wc B wd ((nt : Int) - 1) V hwn (hR.wd.below (hb.mono hB)) (Nat.le_trans hB hb.size))
 rw [hq3] at HW
 have HR := Lib.hid (fun (V : World) (hb : Below w.heap.size w V) => hR.below (hb.mono hB))
 unfold maxLen at hnd hnt hns hzn hcn hwn
 clear hq1 hq3 hE1 hE3 hR
 by_cases hall : ck = true ∧ q1 = true ∧ zn = nd ∧ q3 = true
 ·
  obtain ⟨rfl, rfl, rfl, rfl⟩ := hall
  have HRE := Lib.hid hRE
  have HE := Lib.hid (show E = (M.allTo zn (fun i => M.inB 0 ((cn : Int) - 1) (z i)) && M.allTo cn fun i => decide (cl i + 1 = nt) && M.allTo (cl i) fun t => M.pushB (cu i t)) from by rw [hE]; simp)
  clear hRE hE
  have g2 : ((zn : Int) != (zn : Int)) = false := by simp
  go_enter Tryz.func18, Tryz.ntmps18
  go_upto_region 3 with (first | (go_at_call 53; go_must (refine HCC.out.mono ?_); rintro e w1 ⟨rfl, hb1⟩; have HB1 := Lib.hid (HB0.out.trans (hb1.mono HB0.out.size)); have D1 := Lib.hid (D0.out.below' hb1); clear hb1; have x1 := D1.out.cell 5; have x2 := D1.out.cell 6; have x3 := D1.out.cell 2; have x4 := D1.out.cell 3; have x5 := D1.out.cell 7) | (go_at_call 50; refine (HQ1.out _).mono ?_; rintro e w9 ⟨rfl, rfl⟩) | (go_at_call 54; refine (HW.out _ HB1.out).mono ?_; rintro e w2 ⟨rfl, hb1⟩; have HB2 := Lib.hid (HB1.out.trans (hb1.mono HB1.out.size)); have D2 := Lib.hid (D1.out.below' hb1); clear hb1))
  have HRX := Lib.hid (HR.out w2 HB2.out)
  clear HR HW HCC HQ1 D0 D1 HB0 HB1 x1 x2 x3 x4 x5
  generalize hX : w2 = X at *
  have h5 := D2.out.cell 5
  have h6 := D2.out.cell 6
  go_wp2_with fail
  clear h5 h6
  go_loopw [3] (fun i wr => ∃ k : Nat, k ≤ zn ∧ i = .int .i64 (k : Int) ∧ Hid (M.allTo k (fun i => M.inB 0 ((cn : Int) - 1) (z i)) = true) ∧ ∃ n, wr = X.drewN n) (fun i _ => zn - (intOf i).toNat)
  case atStart => exact ⟨0, Nat.zero_le _, rfl, Lib.hid rfl, 0, rfl⟩
  case round =>
   obtain ⟨k, hk, rfl, HF, n, rfl⟩ := hrel
   by_cases hlt : k < zn
   ·
    obtain ⟨b, off, rfl, hb, c0⟩ := HRX.out.z.at_ hlt
    have kx : decide (zn ≤ k) = false := decide_eq_false (by omega)
    have d5 : (X.drewN n).cell? ⟨w.heap.size, 5, none⟩ = some (.slice (some ⟨b, off, none⟩) zn zc) := D2.out.cell 5
    have d6 : (X.drewN n).cell? ⟨w.heap.size, 6, none⟩ = some (.slice cA cn cc) := D2.out.cell 6
    have c0 : (X.drewN n).cell? ⟨b, off + k, none⟩ = some (.int .i64 (z k)) := c0
    have HB3 := Lib.hid (show Below w.heap.size w (X.drewN n) from HB2.out.drewN n)
    have HMO := Lib.hid (show ∀ m, ∃ n', (X.drewN n).drewN m = X.drewN n' from fun m => ⟨n + m, by rw [World.drewN_drewN]⟩)
    generalize X.drewN n = Y at d5 d6 c0 HB3 HMO ⊢
    have HA := Lib.hid (show M.allTo (k + 1) (fun i => M.inB 0 ((cn : Int) - 1) (z i)) = (M.allTo k (fun i => M.inB 0 ((cn : Int) - 1) (z i)) && M.inB 0 ((cn : Int) - 1) (z k)) from rfl)
    have HNO := Lib.hid (fun h : M.inB 0 ((cn : Int) - 1) (z k) = false => (show E = false by rw [HE.out, M.allTo_no (n := zn) (p := fun i => M.inB 0 ((cn : Int) - 1) (z i)) hlt h]; rfl))
    cases hp : M.inB 0 ((cn : Int) - 1) (z k)
    ·
     have HP := Lib.hid (fun V => rin_v V hp)
     have HEF := Lib.hid (HNO.out hp)
     clear hp
     go_upto_region 6 with fail
     go_quiet (first | (go_at_call 50; exact Calls.quiet_of_same (HP.out _)) | fail)
     go_wp2_with fail
     go_ret
     exact ⟨by rw [HRE.out, HEF.out]; rfl, HB3.out.drewN nq⟩
    ·
     have HP := Lib.hid (fun V => rin_v V hp)
     have HPE := Lib.hid hp
     clear hp
     go_upto_region 6 with fail
     go_quiet (first | (go_at_call 50; exact Calls.quiet_of_same (HP.out _)) | fail)
     go_wp2_with fail
     go_roundw
     case rel => exact ⟨k + 1, by omega, by go_num, Lib.hid (by rw [HA.out, HF.out, HPE.out]; rfl), HMO.out _⟩
     case measure => simp [intOf]; omega
   ·
    obtain rfl : k = zn := by omega
    have HQ1 := Lib.hid HF.out
    have d5 : (X.drewN n).cell? ⟨w.heap.size, 5, none⟩ = some (.slice zA k zc) := D2.out.cell 5
    have h6 : (X.drewN n).cell? ⟨w.heap.size, 6, none⟩ = some (.slice cA cn cc) := D2.out.cell 6
    go_wp2_with fail
    clear d5 h6
    have HB3 := Lib.hid (show Below w.heap.size w (X.drewN n) from HB2.out.drewN n)
    have D3 := Lib.hid (show Blk (X.drewN n) w.heap.size 29 #[.int .i64 W, .int .i64 H, .slice dA k dc, .slice tA nt tc, .slice sA ns sc, .slice zA k zc, .slice cA cn cc, .slice wA wn wc] from D2.out)
    have HRY := Lib.hid (show RdD (X.drewN n) B dA tA sA zA cA wA k nt ns k cn wn dep tide sw z cl cu wd from HRX.out.below ((Below.refl _ _).drewN n))
    generalize X.drewN n = Y at HB3 D3 HRY ⊢
    go_loopw [4] (fun i wr => ∃ j : Nat, j ≤ cn ∧ i = .int .i64 (j : Int) ∧ Hid (M.allTo j (fun i => decide (cl i + 1 = nt) && M.allTo (cl i) fun t => M.pushB (cu i t)) = true) ∧ Hid (Below Y.heap.size Y wr)) (fun i _ => cn - (intOf i).toNat)
    case atStart => exact ⟨0, Nat.zero_le _, rfl, Lib.hid rfl, Lib.hid (Below.refl _ _)⟩
    case round =>
     obtain ⟨j, hj, rfl, HF2, HBR⟩ := hrel
     have D4 := Lib.hid (D3.out.below' HBR.out)
     have hBY : B ≤ Y.heap.size := Nat.le_trans hB HB3.out.size
     by_cases hlt : j < cn
     ·
      obtain ⟨b, off, rA, rc, rfl, hb, c0, hrd, hcl⟩ := (HRY.out.cu.below (HBR.out.mono hBY)).at_ hlt
      have kx : decide (cn ≤ j) = false := decide_eq_false (by omega)
      have d3 := D4.out.cell 3
      have d6 := D4.out.cell 6
      have HA := Lib.hid (show M.allTo (j + 1) (fun i => decide (cl i + 1 = nt) && M.allTo (cl i) fun t => M.pushB (cu i t)) = (M.allTo j (fun i => decide (cl i + 1 = nt) && M.allTo (cl i) fun t => M.pushB (cu i t)) && (decide (cl j + 1 = nt) && M.allTo (cl j) fun t => M.pushB (cu j t))) from rfl)
      have HNO := Lib.hid (fun h : (decide (cl j + 1 = nt) && M.allTo (cl j) fun t => M.pushB (cu j t)) = false => (show E = false by rw [HE.out, M.allTo_no (n := cn) (p := fun i => decide (cl i + 1 = nt) && M.allTo (cl i) fun t => M.pushB (cu i t)) hlt h]; simp))
      have hV := rpushes_any rA (cl j) rc B (cu j) ((nt : Int) - 1) wr.drew hcl (hrd.below (Below.refl _ _).drew) (Nat.le_trans hBY HBR.out.size)
      obtain ⟨q, hq⟩ : ∃ q, (decide (cl j + 1 = nt) && M.allTo (cl j) fun t => M.pushB (cu j t)) = q := ⟨_, rfl⟩
      rw [show (M.allTo (cl j) (fun i => M.pushB (cu j i)) && decide ((cl j : Int) = (nt : Int) - 1)) = q from by rw [← hq, Bool.and_comm, show decide ((cl j : Int) = (nt : Int) - 1) = decide (cl j + 1 = nt) from decide_eq_decide.2 (by omega)]] at hV
      have HV := Lib.hid hV
      rw [hq] at HA HNO
      have HBZ := Lib.hid (show Below w.heap.size w wr from HB3.out.trans (HBR.out.mono HB3.out.size))
      clear hq hV hrd
      generalize cl j = m at *
      cases q
      ·
       have HEF := Lib.hid (HNO.out rfl)
       go_upto_region 11 with fail
       go_still_tail 10, (by kernel_rfl)
       change wpList _ _ _ _ _ wr.drew
       go_wp2_with (go_at_call 54; go_must (refine HV.out.mono ?_); rintro e w1 ⟨rfl, hb1⟩; have HB1 := Lib.hid hb1; clear hb1)
       go_ret
       exact ⟨by rw [HRE.out, HEF.out]; rfl, HBZ.out.drew.trans (HB1.out.mono HBZ.out.size)⟩
      ·
       go_upto_region 11 with fail
       go_still_tail 10, (by kernel_rfl)
       change wpList _ _ _ _ _ wr.drew
       go_wp2_with (go_at_call 54; go_must (refine HV.out.mono ?_); rintro e w1 ⟨rfl, hb1⟩; have HB1 := Lib.hid hb1; clear hb1)
       go_roundw
       case rel => exact ⟨j + 1, by omega, by go_num, Lib.hid (by rw [HA.out, HF2.out]; rfl), Lib.hid (HBR.out.drew.trans (HB1.out.mono HBR.out.size))⟩
       case measure => simp [intOf]; omega
     ·
      obtain rfl : j = cn := by omega
      have d6 := D4.out.cell 6
      go_wp2_with fail
      go_ret
      refine ⟨?_, HB3.out.trans (HBR.out.mono HB3.out.size)⟩
      rw [HRE.out, HE.out, HQ1.out, HF2.out]
      rfl
 ·
  have hEf : E = false := by
   cases hE' : E
   · rfl
   ·
    rw [hE'] at hE
    have hE := hE.symm
    simp only [Bool.and_eq_true, decide_eq_true_eq] at hE
    exact absurd ⟨hE.1.1.1.1.1, hE.1.1.1.2, hE.1.1.1.1.2, hE.2⟩ hall
  have hR20 : R = 20 := by rw [hRE, hEf]; rfl
  rw [hR20]
  have k1 : ck = false ∨ (ck = true ∧ q1 = false) ∨ (ck = true ∧ q1 = true ∧ zn ≠ nd) ∨ (ck = true ∧ q1 = true ∧ zn = nd ∧ q3 = false) := by
   cases ck
   · exact .inl rfl
   ·
    cases q1
    · exact .inr (.inl ⟨rfl, rfl⟩)
    ·
     by_cases h2 : zn = nd
     ·
      cases q3
      · exact .inr (.inr (.inr ⟨rfl, rfl, h2, rfl⟩))
      · exact absurd ⟨rfl, rfl, h2, rfl⟩ hall
     · exact .inr (.inr (.inl ⟨rfl, rfl, h2⟩))
  clear hE hRE hEf hR20 hall HR
  rcases k1 with rfl | ⟨rfl, rfl⟩ | ⟨rfl, rfl, h2⟩ | ⟨rfl, rfl, h2, rfl⟩
  rotate_left 2
  ·
   have g2 : ((zn : Int) != (nd : Int)) = true := by rw [bne_iff_ne]; omega
   clear h2
   go_enter Tryz.func18, Tryz.ntmps18
   go_wp2_with (first | (go_at_call 53; go_must (refine HCC.out.mono ?_); rintro e w1 ⟨rfl, hb1⟩; have HB1 := Lib.hid (HB0.out.trans (hb1.mono HB0.out.size)); have D1 := Lib.hid (D0.out.below' hb1); clear hb1; have x1 := D1.out.cell 5; have x2 := D1.out.cell 6; have x3 := D1.out.cell 2; have x4 := D1.out.cell 3; have x5 := D1.out.cell 7) | (go_at_call 50; refine (HQ1.out _).mono ?_; rintro e w9 ⟨rfl, rfl⟩))
   go_ret
   exact ⟨rfl, HB1.out⟩
  ·
   have g2 : ((zn : Int) != (nd : Int)) = false := by rw [h2]; simp
   clear h2
   go_enter Tryz.func18, Tryz.ntmps18
   go_wp2_with (first | (go_at_call 53; go_must (refine HCC.out.mono ?_); rintro e w1 ⟨rfl, hb1⟩; have HB1 := Lib.hid (HB0.out.trans (hb1.mono HB0.out.size)); have D1 := Lib.hid (D0.out.below' hb1); clear hb1; have x1 := D1.out.cell 5; have x2 := D1.out.cell 6; have x3 := D1.out.cell 2; have x4 := D1.out.cell 3; have x5 := D1.out.cell 7) | (go_at_call 50; refine (HQ1.out _).mono ?_; rintro e w9 ⟨rfl, rfl⟩) | (go_at_call 54; refine (HW.out _ HB1.out).mono ?_; rintro e w2 ⟨rfl, hb1⟩; have HB2 := Lib.hid (HB1.out.trans (hb1.mono HB1.out.size)); clear hb1))
   go_ret
   exact ⟨rfl, HB2.out⟩
  all_goals
   go_enter Tryz.func18, Tryz.ntmps18
   go_wp2_with (first | (go_at_call 53; go_must (refine HCC.out.mono ?_); rintro e w1 ⟨rfl, hb1⟩; have HB1 := Lib.hid (HB0.out.trans (hb1.mono HB0.out.size)); have D1 := Lib.hid (D0.out.below' hb1); clear hb1; have x1 := D1.out.cell 5; have x2 := D1.out.cell 6; have x3 := D1.out.cell 2; have x4 := D1.out.cell 3; have x5 := D1.out.cell 7) | (go_at_call 50; refine (HQ1.out _).mono ?_; rintro e w9 ⟨rfl, rfl⟩))
   go_ret
   exact ⟨rfl, HB1.out⟩
end
end Go.Proofs.YtnbeembnnjdmdaaGreatDoor
/- Far: whether a drift is larger than a statement looks at. -/
namespace Go.Proofs.YtnbeembnnjdmdaaGreatDoor
open Go.RowKit

structure FarOk (nd nt ns zn cn wn : Nat) (cl : Nat → Nat) (ok : Bool) : Prop where
 d : nd ≤ 200
 t : nt ≤ 80
 s : ns ≤ 80
 z : zn ≤ 200
 c : cn ≤ 8
 w : wn ≤ 80
 l : ∀ i, i < cn → cl i ≤ 80
 far : ok = true → nd ≤ 20 ∧ nt ≤ 5
section
variable {W H : Int} {dA tA sA zA cA wA : Option Addr} {nd dc nt tc ns sc zn zc cn cc wn wc B : Nat} {dep : Nat → Int} {tide : Nat → Nat → Int} {sw z : Nat → Int} {cl : Nat → Nat} {cu : Nat → Nat → Nat → Int} {wd : Nat → Nat → Int} {w : World}
set_option maxRecDepth 100000 in
set_option maxHeartbeats 6400000 in
theorem rfar_any (hnd : nd ≤ maxLen) (hnt : nt ≤ maxLen) (hns : ns ≤ maxLen) (hzn : zn ≤ maxLen) (hcn : cn ≤ maxLen) (hwn : wn ≤ maxLen) (hR : RdD w B dA tA sA zA cA wA nd nt ns zn cn wn dep tide sw z cl cu wd) (hB : B ≤ w.heap.size) :
  Calls Tryz.prog 12 #[.agg #[.int .i64 W, .int .i64 H, .slice dA nd dc, .slice tA nt tc, .slice sA ns sc, .slice zA zn zc, .slice cA cn cc, .slice wA wn wc]] w fun e w' => (∃ q, e = .returned (.bool q) ∧ (q = false → FarOk nd nt ns zn cn wn cl (M.chkD (M.chkC W H nd nt ns dep tide sw) nd nt zn cn wn z cl cu wd))) ∧ Below w.heap.size w w' := by
 have HB0 := Lib.hid (belowAlloc w (.cells #[.int .i64 W, .int .i64 H, .slice dA nd dc, .slice tA nt tc, .slice sA ns sc, .slice zA zn zc, .slice cA cn cc, .slice wA wn wc] 29))
 have D0 := Lib.hid (Blk.new w 29 #[.int .i64 W, .int .i64 H, .slice dA nd dc, .slice tA nt tc, .slice sA ns sc, .slice zA zn zc, .slice cA cn cc, .slice wA wn wc])
 have HCK := Lib.hid (fun V (hb : Below w.heap.size w V) => rdchk_any (dc := dc) (tc := tc) (sc := sc) (zc := zc) (cc := cc) (wc := wc) (W := W) (H := H) hnd hnt hns hzn hcn hwn (hR.below (hb.mono hB)) (Nat.le_trans hB hb.size))
 have HCE := Lib.hid (fun (h : M.chkD (M.chkC W H nd nt ns dep tide sw) nd nt zn cn wn z cl cu wd = true) => (show (∀ V : World, Calls Tryz.prog 41 #[.agg #[.int .i64 W, .int .i64 H, .slice dA nd dc, .slice tA nt tc, .slice sA ns sc]] V fun e w' => e = .returned (.int .i64 (nd : Int)) ∧ Below V.heap.size V w') ∧ ∀ t, t < nt → 0 ≤ tide t 0 ∧ tide t 0 ≤ tide t 1 ∧ tide t 1 ≤ 200 from by
  have h1 : M.chkC W H nd nt ns dep tide sw = true := by
   unfold M.chkD at h
   simp only [Bool.and_eq_true] at h
   exact h.1.1.1.1.1
  obtain ⟨W', H', rfl, rfl, rfl, hs⟩ := M.chkC_ok h1
  exact ⟨fun V => rcells_ok ⟨W', H', nd, ns, dep, tide, sw⟩ dA tA sA dc tc sc V hs, hs.tide⟩))
 have HR := Lib.hid (hR.below (HB0.out.mono hB))
 have HX := Lib.hid (show w.heap.size + 1 = (w.alloc (.cells #[.int .i64 W, .int .i64 H, .slice dA nd dc, .slice tA nt tc, .slice sA ns sc, .slice zA zn zc, .slice cA cn cc, .slice wA wn wc] 29)).heap.size by simp)
 obtain ⟨E, hE⟩ : ∃ E, M.chkD (M.chkC W H nd nt ns dep tide sw) nd nt zn cn wn z cl cu wd = E := ⟨_, rfl⟩
 rw [hE] at HCK HCE
 rw [hE]
 clear hE hR
 unfold maxLen at hnd hnt hns hzn hcn hwn
 obtain ⟨b1, hb1⟩ : ∃ b, decide ((200 : Int) < (nd : Int)) = b := ⟨_, rfl⟩
 obtain ⟨b2, hb2⟩ : ∃ b, decide ((80 : Int) < (nt : Int)) = b := ⟨_, rfl⟩
 obtain ⟨b3, hb3⟩ : ∃ b, decide ((80 : Int) < (ns : Int)) = b := ⟨_, rfl⟩
 obtain ⟨b4, hb4⟩ : ∃ b, decide ((200 : Int) < (zn : Int)) = b := ⟨_, rfl⟩
 obtain ⟨b5, hb5⟩ : ∃ b, decide ((8 : Int) < (cn : Int)) = b := ⟨_, rfl⟩
 obtain ⟨b6, hb6⟩ : ∃ b, decide ((80 : Int) < (wn : Int)) = b := ⟨_, rfl⟩
 cases b1
 rotate_left
 ·
  go_enter Tryz.func12, Tryz.ntmps12
  go_wp2_with fail
  go_ret
  exact ⟨⟨true, rfl, fun h => by cases h⟩, HB0.out⟩
 cases b2
 rotate_left
 ·
  go_enter Tryz.func12, Tryz.ntmps12
  go_wp2_with fail
  go_ret
  exact ⟨⟨true, rfl, fun h => by cases h⟩, HB0.out⟩
 cases b3
 rotate_left
 ·
  go_enter Tryz.func12, Tryz.ntmps12
  go_wp2_with fail
  go_ret
  exact ⟨⟨true, rfl, fun h => by cases h⟩, HB0.out⟩
 cases b4
 rotate_left
 ·
  go_enter Tryz.func12, Tryz.ntmps12
  go_wp2_with fail
  go_ret
  exact ⟨⟨true, rfl, fun h => by cases h⟩, HB0.out⟩
 cases b5
 rotate_left
 ·
  go_enter Tryz.func12, Tryz.ntmps12
  go_wp2_with fail
  go_ret
  exact ⟨⟨true, rfl, fun h => by cases h⟩, HB0.out⟩
 cases b6
 rotate_left
 ·
  go_enter Tryz.func12, Tryz.ntmps12
  go_wp2_with fail
  go_ret
  exact ⟨⟨true, rfl, fun h => by cases h⟩, HB0.out⟩
 have ib1 : nd ≤ 200 := by have := of_decide_eq_false hb1; omega
 have ib2 : nt ≤ 80 := by have := of_decide_eq_false hb2; omega
 have ib3 : ns ≤ 80 := by have := of_decide_eq_false hb3; omega
 have ib4 : zn ≤ 200 := by have := of_decide_eq_false hb4; omega
 have ib5 : cn ≤ 8 := by have := of_decide_eq_false hb5; omega
 have ib6 : wn ≤ 80 := by have := of_decide_eq_false hb6; omega
 go_enter Tryz.func12, Tryz.ntmps12
 go_upto_region 3 with fail
 clear hb1 hb2 hb3 hb4 hb5 hb6
 generalize hXe : w.alloc (.cells #[.int .i64 W, .int .i64 H, .slice dA nd dc, .slice tA nt tc, .slice sA ns sc, .slice zA zn zc, .slice cA cn cc, .slice wA wn wc] 29) = X at HB0 D0 HR ⊢
 clear hXe HX
 go_wp2_with fail
 go_loopw [3] (fun i wr => ∃ k : Nat, k ≤ cn ∧ i = .int .i64 (k : Int) ∧ Hid (∀ i, i < k → cl i ≤ 80) ∧ wr = X) (fun i _ => cn - (intOf i).toNat)
 case atStart => exact ⟨0, Nat.zero_le _, rfl, Lib.hid (fun i h => absurd h (by omega)), rfl⟩
 case round =>
  obtain ⟨k, hk, rfl, HF, hwr⟩ := hrel
  obtain rfl := hwr
  have d6 := D0.out.cell 6
  by_cases hlt : k < cn
  ·
   obtain ⟨b, off, rA, rc, rfl, hb, c0, hrd, hcl⟩ := HR.out.cu.at_ hlt
   have kx : decide (cn ≤ k) = false := decide_eq_false (by omega)
   unfold maxLen at hcl
   clear hrd
   have HCL := Lib.hid (fun h : cl k ≤ 80 => (show ∀ i, i < k + 1 → cl i ≤ 80 from fun i hi => by
    rcases Nat.lt_succ_iff_lt_or_eq.1 hi with h2 | rfl
    · exact HF.out i h2
    · exact h))
   generalize cl k = m at c0 hcl HCL
   by_cases h8 : 80 < m
   ·
    have i8 : decide ((80 : Int) < (m : Int)) = true := decide_eq_true (by omega)
    clear h8
    go_wp2_with fail
    go_ret
    exact ⟨⟨true, rfl, fun h => by cases h⟩, HB0.out⟩
   ·
    have i8 : decide ((80 : Int) < (m : Int)) = false := decide_eq_false (by omega)
    have HC2 := Lib.hid (HCL.out (by omega))
    clear h8
    go_wp2_with fail
    go_roundw
    case rel => exact ⟨k + 1, by omega, by go_num, HC2, by first | rfl | trivial⟩
    case measure => simp [intOf]; omega
  ·
   obtain rfl : k = cn := by omega
   have HKQ := Lib.hid (HCK.out wr HB0.out)
   obtain ⟨d0, d1, d2, d3⟩ := D0.out.c4
   have d4 := D0.out.cell 4
   have d5 := D0.out.cell 5
   have d7 := D0.out.cell 7
   cases E
   ·
    rw [if_neg (by simp)] at HKQ
    go_wp2_with (go_at_call 18; go_must (refine HKQ.out.mono ?_); rintro e w1 ⟨rfl, hb1⟩; have HB1 := Lib.hid (HB0.out.trans (hb1.mono HB0.out.size)); clear hb1)
    go_ret
    exact ⟨⟨false, rfl, fun _ => ⟨ib1, ib2, ib3, ib4, ib5, ib6, HF.out, fun h => by cases h⟩⟩, HB1.out⟩
   ·
    rw [if_pos rfl] at HKQ
    have HCE1 := Lib.hid (HCE.out rfl).1
    have HTI := Lib.hid (HCE.out rfl).2
    clear HCE HCK
    go_upto_region 10 with (go_at_call 18; go_must (refine HKQ.out.mono ?_); rintro e w1 ⟨rfl, hb1⟩; have HB1 := Lib.hid (HB0.out.trans (hb1.mono HB0.out.size)); have D1 := Lib.hid (D0.out.below' hb1); have HT1 := Lib.hid (HR.out.c.below (hb1.mono (Nat.le_trans hB HB0.out.size))).t; clear hb1)
    clear d0 d1 d2 d3 d4 d5 d6 d7 D0 HB0 HR HKQ
    go_wp2_with fail
    go_loopw [4] (fun i wq => ∃ j : Nat, j ≤ nt ∧ i = .int .i64 (j : Int) ∧ ∃ n, wq = w1.drewN n) (fun i _ => nt - (intOf i).toNat)
    case atStart => exact ⟨0, Nat.zero_le _, rfl, 0, rfl⟩
    case round =>
     obtain ⟨j, hj, rfl, n, rfl⟩ := hrel
     have HB2 := Lib.hid (show Below w.heap.size w (w1.drewN n) from HB1.out.drewN n)
     by_cases hlt : j < nt
     ·
      obtain ⟨tb, to_, rfl, htb, t0, t1⟩ := HT1.out.at2 hlt
      have d3 : (w1.drewN n).cell? ⟨w.heap.size, 3, none⟩ = some (.slice (some ⟨tb, to_, none⟩) nt tc) := D1.out.cell 3
      have t0 : (w1.drewN n).cell? ⟨tb, to_ + j * 2, none⟩ = some (.int .i64 (tide j 0)) := t0
      have t1 : (w1.drewN n).cell? ⟨tb, to_ + j * 2 + 1, none⟩ = some (.int .i64 (tide j 1)) := t1
      have HMO := Lib.hid (show ∀ m, ∃ n', (w1.drewN n).drewN m = w1.drewN n' from fun m => ⟨n + m, by rw [World.drewN_drewN]⟩)
      have hti := HTI.out j hlt
      have kx : decide (nt ≤ j) = false := decide_eq_false (by omega)
      generalize w1.drewN n = Y at d3 t0 t1 HB2 HMO ⊢
      generalize tide j 0 = x0 at t0 hti
      generalize tide j 1 = x1 at t1 hti
      obtain ⟨b7, hb7⟩ : ∃ b, decide ((7 : Int) < x1 - x0) = b := ⟨_, rfl⟩
      cases b7
      ·
       go_upto_region 13 with fail
       go_quiet (fail)
       go_wp2_with fail
       go_roundw
       case rel => exact ⟨j + 1, by omega, by go_num, HMO.out _⟩
       case measure => simp [intOf]; omega
      ·
       go_upto_region 13 with fail
       go_quiet (fail)
       go_wp2_with fail
       go_ret
       exact ⟨⟨true, rfl, fun h => by cases h⟩, HB2.out.drewN nq⟩
     ·
      obtain rfl : j = nt := by omega
      have D2 := Lib.hid (show Blk (w1.drewN n) w.heap.size 29 #[.int .i64 W, .int .i64 H, .slice dA nd dc, .slice tA j tc, .slice sA ns sc, .slice zA zn zc, .slice cA k cc, .slice wA wn wc] from D1.out)
      have HC1 := Lib.hid (HCE1.out (w1.drewN n))
      generalize w1.drewN n = Y at D2 HB2 HC1 ⊢
      obtain ⟨d0, d1, d2, d3⟩ := D2.out.c4
      have d4 := D2.out.cell 4
      obtain ⟨b8, hb8⟩ : ∃ b, decide ((20 : Int) < (nd : Int)) = b := ⟨_, rfl⟩
      obtain ⟨b9, hb9⟩ : ∃ b, decide ((5 : Int) < (j : Int)) = b := ⟨_, rfl⟩
      cases b8 <;> cases b9
      all_goals
       go_wp2_with (go_at_call 41; go_must (refine HC1.out.mono ?_); rintro e w2 ⟨rfl, hb2⟩; have HB3 := Lib.hid (HB2.out.trans (hb2.mono HB2.out.size)); have D3 := Lib.hid (D2.out.below' hb2); have e3 := D3.out.cell 3; clear hb2)
       go_ret
      · exact ⟨⟨false, rfl, fun _ => ⟨ib1, ib2, ib3, ib4, ib5, ib6, HF.out, fun _ => ⟨by have := of_decide_eq_false hb8; omega, by have := of_decide_eq_false hb9; omega⟩⟩⟩, HB3.out⟩
      all_goals exact ⟨⟨true, rfl, fun h => by cases h⟩, HB3.out⟩
end
end Go.Proofs.YtnbeembnnjdmdaaGreatDoor
