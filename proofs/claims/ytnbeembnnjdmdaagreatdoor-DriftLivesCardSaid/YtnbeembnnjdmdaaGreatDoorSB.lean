/- The reference: a body's test, what is lost in a cell. -/
import Derived.Test.YtnbeembnnjdmdaaGreatDoorE1
import Derived.Test.YtnbeembnnjdmdaaGreatDoorS1
import Derived.Test.YtnbeembnnjdmdaaGreatDoorG3
namespace Go.Proofs.YtnbeembnnjdmdaaGreatDoor
open Go.RowKit

section
variable {W H : Int} {dA tA sA zA cA wA bA : Option Addr} {nd dc nt tc ns sc zn zc cn cc wn wc bn bc B : Nat} {cs : Nat → Nat → Int} {s0 s1 : Int}
set_option maxRecDepth 100000 in
set_option maxHeartbeats 6400000 in
theorem rcheckbody_any (w : World) (hcn : cn ≤ maxLen) (hbn : bn ≤ maxLen) (hb : Rd w B bA 2 bn cs) (hB : B ≤ w.heap.size) :
  Calls Tryz.prog 37 #[.agg #[.int .i64 W, .int .i64 H, .slice dA nd dc, .slice tA nt tc, .slice sA ns sc, .slice zA zn zc, .slice cA cn cc, .slice wA wn wc], .agg #[.slice bA bn bc, .int .i64 s0, .int .i64 s1]] w fun e w' => e = .returned (.int .i64 (if M.bodB cn bn cs s0 s1 = true then 0 else 23)) ∧ Below w.heap.size w w' := by
 have HB0 := Lib.hid (belowAlloc2 w (.cells #[.int .i64 W, .int .i64 H, .slice dA nd dc, .slice tA nt tc, .slice sA ns sc, .slice zA zn zc, .slice cA cn cc, .slice wA wn wc] 29) (.cells #[.slice bA bn bc, .int .i64 s0, .int .i64 s1] 73))
 have K0 := Lib.hid ((Blk.new w 29 #[.int .i64 W, .int .i64 H, .slice dA nd dc, .slice tA nt tc, .slice sA ns sc, .slice zA zn zc, .slice cA cn cc, .slice wA wn wc]).alloc (.cells #[.slice bA bn bc, .int .i64 s0, .int .i64 s1] 73))
 have Y0 := Lib.hid (Blk.new1 w (.cells #[.int .i64 W, .int .i64 H, .slice dA nd dc, .slice tA nt tc, .slice sA ns sc, .slice zA zn zc, .slice cA cn cc, .slice wA wn wc] 29) 73 #[.slice bA bn bc, .int .i64 s0, .int .i64 s1])
 have HR := Lib.hid (hb.below (HB0.out.mono hB))
 obtain ⟨Q, hQ⟩ : ∃ Q, Q = M.bodB cn bn cs s0 s1 := ⟨_, rfl⟩
 rw [← hQ]
 obtain ⟨r, hr⟩ : ∃ r : Int, r = if Q = true then 0 else 23 := ⟨_, rfl⟩
 rw [← hr]
 have HRR := Lib.hid hr
 have HQ := Lib.hid hQ
 unfold maxLen at hcn hbn
 clear hQ hb hr
 go_enter Tryz.func37, Tryz.ntmps37
 go_upto_region 1 with fail
 generalize (w.alloc (.cells #[.int .i64 W, .int .i64 H, .slice dA nd dc, .slice tA nt tc, .slice sA ns sc, .slice zA zn zc, .slice cA cn cc, .slice wA wn wc] 29)).alloc (.cells #[.slice bA bn bc, .int .i64 s0, .int .i64 s1] 73) = X at HB0 K0 Y0 HR ⊢
 have k6 := K0.out.cell 6
 obtain ⟨y0, y1, y2⟩ := Y0.out.c3
 by_cases hbc : bn = cn
 ·
  subst hbc
  have g1 : ((bn : Int) != (bn : Int)) = false := by simp
  cases hp : M.inB 0 s1 s0
  ·
   have HP := Lib.hid (fun V => rin_v V hp)
   have HQF : Hid (Q = false) := Lib.hid <| by
    rw [HQ.out]
    unfold M.bodB M.spanOk
    simp only [if_true]
    rw [show (decide (0 ≤ s0) && decide (s0 ≤ if (1 : Nat) = 0 then s0 else s1)) = M.inB 0 s1 s0 from rfl, hp]
    simp
   clear hp
   go_wp2_with (go_at_call 50; refine (HP.out _).mono ?_; rintro e w1 ⟨rfl, hw⟩; have hw := hw.symm; subst hw)
   go_ret
   exact ⟨by rw [HRR.out, HQF.out]; simp, HB0.out⟩
  ·
   have HP := Lib.hid (fun V => rin_v V hp)
   have HPE := Lib.hid hp
   by_cases hs : s1 ≤ 100000
   ·
    have g2 : decide (s1 ≤ 100000) = true := decide_eq_true hs
    have g3 : decide (100000 < s1) = false := decide_eq_false (by omega)
    have HQ2 := Lib.hid (show Q = M.allTo bn (fun i => M.spanOk 100 (cs i)) from by
     rw [HQ.out]
     unfold M.bodB
     rw [show M.spanOk 100000 (fun j => if j = 0 then s0 else s1) = true from by
      unfold M.spanOk
      simp only [if_true]
      rw [show (decide (0 ≤ s0) && decide (s0 ≤ if (1 : Nat) = 0 then s0 else s1)) = M.inB 0 s1 s0 from rfl, hp]
      simp [hs]]
     simp)
    clear hp hs
    go_upto_region 3 with (go_at_call 50; refine (HP.out _).mono ?_; rintro e w1 ⟨rfl, hw⟩; have hw := hw.symm; subst hw)
    clear g2 g3 y1 y2 k6 HP HPE
    go_wp2_with fail
    go_loopw [5] (fun i wr => ∃ k : Nat, k ≤ bn ∧ i = .int .i64 (k : Int) ∧ Hid (M.allTo k (fun i => M.spanOk 100 (cs i)) = true) ∧ ∃ m, wr = X.drewN m) (fun i _ => bn - (intOf i).toNat)
    case atStart => exact ⟨0, Nat.zero_le _, rfl, Lib.hid rfl, 0, rfl⟩
    case round =>
     obtain ⟨k, hk, rfl, HF, m, rfl⟩ := hrel
     clear y0
     have y0 : (X.drewN m).cell? ⟨w.heap.size + 1, 0, none⟩ = some (.slice bA bn bc) := Y0.out.cell 0
     by_cases hlt : k < bn
     ·
      obtain ⟨b, off, rfl, hbl, c0, c1⟩ := HR.out.at2 hlt
      have c0 : (X.drewN m).cell? ⟨b, off + k * 2, none⟩ = some (.int .i64 (cs k 0)) := c0
      have c1 : (X.drewN m).cell? ⟨b, off + k * 2 + 1, none⟩ = some (.int .i64 (cs k 1)) := c1
      have HBY := Lib.hid (show Below w.heap.size w (X.drewN m) from HB0.out.drewN m)
      have HMO := Lib.hid (show ∀ q, ∃ n', (X.drewN m).drewN q = X.drewN n' from fun q => ⟨m + q, by rw [World.drewN_drewN]⟩)
      have kx : decide (bn ≤ k) = false := decide_eq_false (by omega)
      have HA1 := Lib.hid (show M.allTo (k + 1) (fun i => M.spanOk 100 (cs i)) = (M.allTo k (fun i => M.spanOk 100 (cs i)) && M.spanOk 100 (cs k)) from rfl)
      have HN1 := Lib.hid (fun h : M.spanOk 100 (cs k) = false => (show Q = false by rw [HQ2.out, M.allTo_no (n := bn) (p := fun i => M.spanOk 100 (cs i)) hlt h]))
      have HSP := Lib.hid (show M.spanOk 100 (cs k) = (M.inB 0 (cs k 1) (cs k 0) && decide (cs k 1 ≤ 100)) from rfl)
      generalize X.drewN m = Y at y0 c0 c1 HBY HMO ⊢
      generalize cs k 0 = a at c0 HSP
      generalize cs k 1 = z at c1 HSP
      cases hp : M.inB 0 z a
      ·
       have HP := Lib.hid (fun V => rin_v V hp)
       have HEF := Lib.hid (HN1.out (by rw [HSP.out, hp]; rfl))
       clear hp
       go_upto_region 6 with fail
       go_quiet (first | (go_at_call 50; exact Calls.quiet_of_same (HP.out _)) | fail)
       go_wp2_with fail
       go_ret
       exact ⟨by rw [HRR.out, HEF.out]; simp, HBY.out.drewN nq⟩
      ·
       have HP := Lib.hid (fun V => rin_v V hp)
       have HPE := Lib.hid hp
       clear hp
       by_cases hz : z ≤ 100
       ·
        have g2 : decide (z ≤ 100) = true := decide_eq_true hz
        have g3 : decide (100 < z) = false := decide_eq_false (by omega)
        have HK1 := Lib.hid (show M.allTo (k + 1) (fun i => M.spanOk 100 (cs i)) = true from by rw [HA1.out, HF.out, HSP.out, HPE.out, g2]; rfl)
        clear hz HPE
        go_upto_region 6 with fail
        go_quiet (first | (go_at_call 50; exact Calls.quiet_of_same (HP.out _)) | fail)
        go_wp2_with fail
        go_roundw
        case rel => exact ⟨k + 1, by omega, by go_num, HK1, HMO.out _⟩
        case measure => simp [intOf]; omega
       ·
        have g2 : decide (z ≤ 100) = false := decide_eq_false hz
        have g3 : decide (100 < z) = true := decide_eq_true (by omega)
        have HEF := Lib.hid (HN1.out (by rw [HSP.out, g2]; simp))
        clear hz HPE
        go_upto_region 6 with fail
        go_quiet (first | (go_at_call 50; exact Calls.quiet_of_same (HP.out _)) | fail)
        go_wp2_with fail
        go_ret
        exact ⟨by rw [HRR.out, HEF.out]; simp, HBY.out.drewN nq⟩
     ·
      obtain rfl : k = bn := by omega
      have HQT := Lib.hid (show Q = true from by rw [HQ2.out]; exact HF.out)
      go_wp2_with fail
      go_ret
      exact ⟨by rw [HRR.out, HQT.out]; simp, HB0.out.drewN m⟩
   ·
    have g2 : decide (s1 ≤ 100000) = false := decide_eq_false hs
    have g3 : decide (100000 < s1) = true := decide_eq_true (by omega)
    have HQF : Hid (Q = false) := Lib.hid <| by
     rw [HQ.out]
     unfold M.bodB M.spanOk
     simp [hs]
    clear hp hs
    go_wp2_with (go_at_call 50; refine (HP.out _).mono ?_; rintro e w1 ⟨rfl, hw⟩; have hw := hw.symm; subst hw)
    go_ret
    exact ⟨by rw [HRR.out, HQF.out]; simp, HB0.out⟩
 ·
  have g1 : ((bn : Int) != (cn : Int)) = true := by simp; omega
  have HQF : Hid (Q = false) := Lib.hid <| by
   rw [HQ.out]
   unfold M.bodB
   simp [hbc]
  clear hbc
  go_wp2_with fail
  go_ret
  exact ⟨by rw [HRR.out, HQF.out]; simp, HB0.out⟩
end
section
variable {d : M.Dr} {zA cA wA dA tA sA bA : Option Addr} {cl : Nat → Nat} {B B' dc tc sc zc cc wc bc : Nat} {cs : Nat → Nat → Int} {s0 s1 c : Int}
set_option maxRecDepth 100000 in
set_option maxHeartbeats 6400000 in
theorem rcost_any (w : World) (hd : d.Ok) (hR : RdD w B dA tA sA zA cA wA d.s.nd d.s.nt d.s.nt d.s.nd d.nz (d.s.nt - 1) d.s.dep d.s.tide d.s.sw d.z cl d.cu d.wd) (hB : B ≤ w.heap.size) (hb : Rd w B' bA 2 d.nz cs) (hB' : B' ≤ w.heap.size) (hc : -1 ≤ c ∧ c < d.s.nd) :
  Calls Tryz.prog 39 #[.agg #[.int .i64 (d.s.W : Int), .int .i64 (d.s.H : Int), .slice dA d.s.nd dc, .slice tA d.s.nt tc, .slice sA d.s.nt sc, .slice zA d.s.nd zc, .slice cA d.nz cc, .slice wA (d.s.nt - 1) wc], .agg #[.slice bA d.nz bc, .int .i64 s0, .int .i64 s1], .int .i64 c] w fun e w' => e = .returned (.agg #[.int .i64 (M.costN d.s.nd d.z cs c 0), .int .i64 (M.costN d.s.nd d.z cs c 1)]) ∧ Below w.heap.size w w' := by
 have hnd := hd.s.nd1
 have hnz := hd.z4
 have HB0 := Lib.hid (belowAlloc3 w (.cells #[.int .i64 (d.s.W : Int), .int .i64 (d.s.H : Int), .slice dA d.s.nd dc, .slice tA d.s.nt tc, .slice sA d.s.nt sc, .slice zA d.s.nd zc, .slice cA d.nz cc, .slice wA (d.s.nt - 1) wc] 29) (.cells #[.slice bA d.nz bc, .int .i64 s0, .int .i64 s1] 73) (.cells #[.int .i64 0, .int .i64 0] 42))
 have K0 := Lib.hid (((Blk.new w 29 #[.int .i64 (d.s.W : Int), .int .i64 (d.s.H : Int), .slice dA d.s.nd dc, .slice tA d.s.nt tc, .slice sA d.s.nt sc, .slice zA d.s.nd zc, .slice cA d.nz cc, .slice wA (d.s.nt - 1) wc]).alloc (.cells #[.slice bA d.nz bc, .int .i64 s0, .int .i64 s1] 73)).alloc (.cells #[.int .i64 0, .int .i64 0] 42))
 have Z0 := Lib.hid (Blk.new2 w (.cells #[.int .i64 (d.s.W : Int), .int .i64 (d.s.H : Int), .slice dA d.s.nd dc, .slice tA d.s.nt tc, .slice sA d.s.nt sc, .slice zA d.s.nd zc, .slice cA d.nz cc, .slice wA (d.s.nt - 1) wc] 29) (.cells #[.slice bA d.nz bc, .int .i64 s0, .int .i64 s1] 73) 42 #[.int .i64 0, .int .i64 0])
 have Y0 := Lib.hid ((Blk.new1 w (.cells #[.int .i64 (d.s.W : Int), .int .i64 (d.s.H : Int), .slice dA d.s.nd dc, .slice tA d.s.nt tc, .slice sA d.s.nt sc, .slice zA d.s.nd zc, .slice cA d.nz cc, .slice wA (d.s.nt - 1) wc] 29) 73 #[.slice bA d.nz bc, .int .i64 s0, .int .i64 s1]).alloc (.cells #[.int .i64 0, .int .i64 0] 42))
 have HZ := Lib.hid (hR.z.below (HB0.out.mono hB))
 have HBB := Lib.hid (hb.below (HB0.out.mono hB'))
 by_cases h0 : c < 0
 ·
  obtain rfl : c = -1 := by omega
  clear hR hb hB hB' HZ HBB
  have HC := Lib.hid (show ∀ j, M.costN d.s.nd d.z cs (-1) j = 0 from fun j => by unfold M.costN; simp)
  rw [HC.out, HC.out]
  go_enter Tryz.func39, Tryz.ntmps39
  go_upto_region 1 with fail
  generalize ((w.alloc (.cells #[.int .i64 (d.s.W : Int), .int .i64 (d.s.H : Int), .slice dA d.s.nd dc, .slice tA d.s.nt tc, .slice sA d.s.nt sc, .slice zA d.s.nd zc, .slice cA d.nz cc, .slice wA (d.s.nt - 1) wc] 29)).alloc (.cells #[.slice bA d.nz bc, .int .i64 s0, .int .i64 s1] 73)).alloc (.cells #[.int .i64 0, .int .i64 0] 42) = X at HB0 K0 Z0 Y0 ⊢
  simp only [Nat.add_assoc, Nat.reduceAdd] at Z0 ⊢
  obtain ⟨z0, z1⟩ := Z0.out.c2
  have f0 := Z0.out.frz 0
  have f1 := Z0.out.frz 1
  have hl := Z0.out.lt
  go_wp2_with fail
  have Z1 := (Z0.out.set_ 0 (.int .i64 0)).set_ 1 (.int .i64 0)
  have hb1 := (HB0.out.setCell (p := ⟨w.heap.size + 2, 0, none⟩) (by show w.heap.size ≤ w.heap.size + 2; omega) (.int .i64 0)).setCell (p := ⟨w.heap.size + 2, 1, none⟩) (by show w.heap.size ≤ w.heap.size + 2; omega) (.int .i64 0)
  refine bodyPost_ret (results_cell_row rfl _ _ (w.heap.size + 2) 42 #[.int .i64 0, .int .i64 0] (0, 0) _ rfl Z1 Tryz.underlying42 rfl span_size) rfl ⟨rfl, hb1⟩
 ·
  obtain ⟨k, rfl⟩ : ∃ k : Nat, c = (k : Int) := ⟨c.toNat, by omega⟩
  have hk : k < d.s.nd := by omega
  obtain ⟨gz, oz, rfl, hgz, c0⟩ := HZ.out.at_ hk
  have hzk := hd.z k hk
  obtain ⟨q, hq⟩ : ∃ q : Nat, d.z k = (q : Int) := ⟨(d.z k).toNat, by omega⟩
  rw [hq] at c0
  have hqn : q < d.nz := by omega
  have kx1 : decide (d.s.nd ≤ k) = false := decide_eq_false (by omega)
  have kx2 : decide (d.nz ≤ q) = false := decide_eq_false (by omega)
  obtain ⟨gb, ob, rfl, hgb, d0, d1⟩ := HBB.out.at2 hqn
  have HCO := Lib.hid (show ∀ j, cs q j = M.costN d.s.nd d.z cs (k : Int) j from fun j => by unfold M.costN; rw [if_neg (by omega), Int.toNat_natCast, hq, Int.toNat_natCast])
  clear hR hb hB hB' HZ HBB hq hzk
  go_enter Tryz.func39, Tryz.ntmps39
  go_upto_region 1 with fail
  generalize ((w.alloc (.cells #[.int .i64 (d.s.W : Int), .int .i64 (d.s.H : Int), .slice dA d.s.nd dc, .slice tA d.s.nt tc, .slice sA d.s.nt sc, .slice (some ⟨gz, oz, none⟩) d.s.nd zc, .slice cA d.nz cc, .slice wA (d.s.nt - 1) wc] 29)).alloc (.cells #[.slice (some ⟨gb, ob, none⟩) d.nz bc, .int .i64 s0, .int .i64 s1] 73)).alloc (.cells #[.int .i64 0, .int .i64 0] 42) = X at HB0 K0 Z0 Y0 c0 d0 d1 ⊢
  simp only [Nat.add_assoc, Nat.reduceAdd] at Z0 ⊢
  have k5 := K0.out.cell 5
  have y0 := Y0.out.cell 0
  obtain ⟨z0, z1⟩ := Z0.out.c2
  have f0 := Z0.out.frz 0
  have f1 := Z0.out.frz 1
  have hl := Z0.out.lt
  go_upto_region 3 with fail
  go_still_tail 9, (by kernel_rfl)
  change wpList _ _ _ _ _ X.drew
  go_wp2_with fail
  rw [← HCO.out 0, ← HCO.out 1]
  have Z1 := ((Z0.out.set_ 0 (.int .i64 (cs q 0))).set_ 1 (.int .i64 (cs q 1))).below' (Below.refl _ _).drew
  have hb1 := ((HB0.out.setCell (p := ⟨w.heap.size + 2, 0, none⟩) (by show w.heap.size ≤ w.heap.size + 2; omega) (.int .i64 (cs q 0))).setCell (p := ⟨w.heap.size + 2, 1, none⟩) (by show w.heap.size ≤ w.heap.size + 2; omega) (.int .i64 (cs q 1))).drew
  refine bodyPost_ret (results_cell_row rfl _ _ (w.heap.size + 2) 42 #[.int .i64 (cs q 0), .int .i64 (cs q 1)] (0, 0) _ rfl Z1 Tryz.underlying42 rfl span_size) rfl ⟨rfl, hb1⟩
end
end Go.Proofs.YtnbeembnnjdmdaaGreatDoor
