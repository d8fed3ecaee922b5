/- The reference: a body's test, what is lost in a cell. -/
import Derived.Test.YtnbeembnnjdmdaaGreatDoorE1
import Derived.Test.YtnbeembnnjdmdaaGreatDoorS1
import Derived.Test.YtnbeembnnjdmdaaGreatDoorA3
import Derived.Test.YtnbeembnnjdmdaaGreatDoorG4
import Derived.Test.YtnbeembnnjdmdaaGreatDoorH4
import Derived.Test.YtnbeembnnjdmdaaGreatDoorA4
import Derived.Test.YtnbeembnnjdmdaaGreatDoorE10
import Derived.Test.YtnbeembnnjdmdaaGreatDoorP1
namespace Go.Proofs.YtnbeembnnjdmdaaGreatDoor
open Go.RowKit

section
variable {W H : Int} {dA tA sA zA cA wA bA : Option Addr} {nd dc nt tc ns sc zn zc cn cc wn wc bn bc B : Nat} {cs : Nat → Nat → Int} {s0 s1 : Int}
set_option maxRecDepth 100000 in
set_option maxHeartbeats 6400000 in
theorem rcheckbody_any (w : World) (hcn : cn ≤ maxLen) (hbn : bn ≤ maxLen) (hb : Rd w B bA 2 bn cs) (hB : B ≤ w.heap.size) :
    Calls Tryz.prog 37 #[.agg #[.int .i64 W, .int .i64 H, .slice dA nd dc, .slice tA nt tc, .slice sA ns sc, .slice zA zn zc, .slice cA cn cc, .slice wA wn wc], .agg #[.slice bA bn bc, .int .i64 s0, .int .i64 s1]] w fun e w' => e = .returned (.int .i64 (if M.bodB cn bn cs s0 s1 = true then 0 else 23)) ∧ Below w.heap.size w w' := by
  have HB0 := Lib.hid (belowAlloc2 w (.cells #[.int .i64 W, .int .i64 H, .slice dA nd dc, .slice tA nt tc, .slice sA ns sc, .slice zA zn zc, .slice cA cn cc, .slice wA wn wc] 29) (.cells #[.slice bA bn bc, .int .i64 s0, .int .i64 s1] 73))
  have K0 := Lib.hid ((Blk.new w 29 #[.int .i64 W, .int .i64 H, .slice dA nd dc, .slice tA nt tc, .slice sA ns sc, .slice zA zn zc, .slice cA cn cc, .slice wA wn wc]).alloc (.cells #[.slice bA bn bc, .int .i64 s0, .int .i64 s1] 73))
  have Y0 := Lib.hid (Blk.new1 w (.cells #[.int .i64 W, .int .i64 H, .slice dA nd dc, .slice tA nt tc, .slice sA ns sc, .slice zA zn zc, .slice cA cn cc, .slice wA wn wc] 29) 73 #[.slice bA bn bc, .int .i64 s0, .int .i64 s1])
  have HR := Lib.hid (hb.below (HB0.out.mono hB))
  obtain ⟨Q, hQ⟩ : ∃ Q, Q = M.bodB cn bn cs s0 s1 := ⟨_, rfl⟩
  rw [← hQ]
  obtain ⟨r, hr⟩ : ∃ r : Int, r = if Q = true then 0 else 23 := ⟨_, rfl⟩
  rw [← hr]
  have HRR := Lib.hid hr
  have HQ := Lib.hid hQ
  unfold maxLen at hcn hbn
  clear hQ hb hr
  go_enter Tryz.func37, Tryz.ntmps37
  go_upto_region 1 with fail
  generalize (w.alloc (.cells #[.int .i64 W, .int .i64 H, .slice dA nd dc, .slice tA nt tc, .slice sA ns sc, .slice zA zn zc, .slice cA cn cc, .slice wA wn wc] 29)).alloc (.cells #[.slice bA bn bc, .int .i64 s0, .int .i64 s1] 73) = X at HB0 K0 Y0 HR ⊢
  have k6 := K0.out.cell 6
  have y0 := Y0.out.cell 0
  have y1 := Y0.out.cell 1
  have y2 := Y0.out.cell 2
  by_cases hbc : bn = cn
  · subst hbc
    have g1 : ((bn : Int) != (bn : Int)) = false := by simp
    cases hp : M.inB 0 s1 s0
    · have HP := Lib.hid (fun V => rin_v V hp)
      have HQF : Hid (Q = false) := Lib.hid <| by
        rw [HQ.out]
        unfold M.bodB M.spanOk
        simp only [if_true]
        rw [show (decide (0 ≤ s0) && decide (s0 ≤ if (1 : Nat) = 0 then s0 else s1)) = M.inB 0 s1 s0 from rfl, hp]
        simp
      clear hp
      go_wp2_with (go_at_call 50; refine (HP.out _).mono ?_; rintro e w1 ⟨rfl, hw⟩; have hw := hw.symm; subst hw)
      go_ret
      exact ⟨by rw [HRR.out, HQF.out]; simp, HB0.out⟩
    · have HP := Lib.hid (fun V => rin_v V hp)
      have HPE := Lib.hid hp
      by_cases hs : s1 ≤ 100000
      · have g2 : decide (s1 ≤ 100000) = true := decide_eq_true hs
        have g3 : decide (100000 < s1) = false := decide_eq_false (by omega)
        have HQ2 := Lib.hid (show Q = M.allTo bn (fun i => M.spanOk 100 (cs i)) from by
          rw [HQ.out]
          unfold M.bodB
          rw [show M.spanOk 100000 (fun j => if j = 0 then s0 else s1) = true from by
            unfold M.spanOk
            simp only [if_true]
            rw [show (decide (0 ≤ s0) && decide (s0 ≤ if (1 : Nat) = 0 then s0 else s1)) = M.inB 0 s1 s0 from rfl, hp]
            simp [hs]]
          simp)
        clear hp hs
        go_upto_region 3 with (go_at_call 50; refine (HP.out _).mono ?_; rintro e w1 ⟨rfl, hw⟩; have hw := hw.symm; subst hw)
        clear g2 g3 y1 y2 k6 HP HPE
        go_wp2_with fail
        go_loopw [5] (fun i wr => ∃ k : Nat, k ≤ bn ∧ i = .int .i64 (k : Int) ∧ Hid (M.allTo k (fun i => M.spanOk 100 (cs i)) = true) ∧ ∃ m, wr = X.drewN m) (fun i _ => bn - (intOf i).toNat)
        case atStart => exact ⟨0, Nat.zero_le _, rfl, Lib.hid rfl, 0, rfl⟩
        case round =>
          obtain ⟨k, hk, rfl, HF, m, rfl⟩ := hrel
          clear y0
          have y0 : (X.drewN m).cell? ⟨w.heap.size + 1, 0, none⟩ = some (.slice bA bn bc) := Y0.out.cell 0
          by_cases hlt : k < bn
          · obtain ⟨b, off, rfl, hbl, c0, c1⟩ := HR.out.at2 hlt
            have c0 : (X.drewN m).cell? ⟨b, off + k * 2, none⟩ = some (.int .i64 (cs k 0)) := c0
            have c1 : (X.drewN m).cell? ⟨b, off + k * 2 + 1, none⟩ = some (.int .i64 (cs k 1)) := c1
            have HBY := Lib.hid (show Below w.heap.size w (X.drewN m) from HB0.out.drewN m)
            have HMO := Lib.hid (show ∀ q, ∃ n', (X.drewN m).drewN q = X.drewN n' from fun q => ⟨m + q, by rw [World.drewN_drewN]⟩)
            have kx : decide (bn ≤ k) = false := decide_eq_false (by omega)
            have HA1 := Lib.hid (show M.allTo (k + 1) (fun i => M.spanOk 100 (cs i)) = (M.allTo k (fun i => M.spanOk 100 (cs i)) && M.spanOk 100 (cs k)) from rfl)
            have HN1 := Lib.hid (fun h : M.spanOk 100 (cs k) = false => (show Q = false by rw [HQ2.out, M.allTo_no (n := bn) (p := fun i => M.spanOk 100 (cs i)) hlt h]))
            have HSP := Lib.hid (show M.spanOk 100 (cs k) = (M.inB 0 (cs k 1) (cs k 0) && decide (cs k 1 ≤ 100)) from rfl)
            generalize X.drewN m = Y at y0 c0 c1 HBY HMO ⊢
            generalize cs k 0 = a at c0 HSP
            generalize cs k 1 = z at c1 HSP
            cases hp : M.inB 0 z a
            · have HP := Lib.hid (fun V => rin_v V hp)
              have HEF := Lib.hid (HN1.out (by rw [HSP.out, hp]; rfl))
              clear hp
              go_upto_region 6 with fail
              go_quiet (first | (go_at_call 50; exact Calls.quiet_of_same (HP.out _)) | fail)
              go_wp2_with fail
              go_ret
              exact ⟨by rw [HRR.out, HEF.out]; simp, HBY.out.drewN nq⟩
            · have HP := Lib.hid (fun V => rin_v V hp)
              have HPE := Lib.hid hp
              clear hp
              by_cases hz : z ≤ 100
              · have g2 : decide (z ≤ 100) = true := decide_eq_true hz
                have g3 : decide (100 < z) = false := decide_eq_false (by omega)
                have HK1 := Lib.hid (show M.allTo (k + 1) (fun i => M.spanOk 100 (cs i)) = true from by rw [HA1.out, HF.out, HSP.out, HPE.out, g2]; rfl)
                clear hz HPE
                go_upto_region 6 with fail
                go_quiet (first | (go_at_call 50; exact Calls.quiet_of_same (HP.out _)) | fail)
                go_wp2_with fail
                go_roundw
                case rel => exact ⟨k + 1, by omega, by go_num, HK1, HMO.out _⟩
                case measure => simp [intOf]; omega
              · have g2 : decide (z ≤ 100) = false := decide_eq_false hz
                have g3 : decide (100 < z) = true := decide_eq_true (by omega)
                have HEF := Lib.hid (HN1.out (by rw [HSP.out, g2]; simp))
                clear hz HPE
                go_upto_region 6 with fail
                go_quiet (first | (go_at_call 50; exact Calls.quiet_of_same (HP.out _)) | fail)
                go_wp2_with fail
                go_ret
                exact ⟨by rw [HRR.out, HEF.out]; simp, HBY.out.drewN nq⟩
          · obtain rfl : k = bn := by omega
            have HQT := Lib.hid (show Q = true from by rw [HQ2.out]; exact HF.out)
            go_wp2_with fail
            go_ret
            exact ⟨by rw [HRR.out, HQT.out]; simp, HB0.out.drewN m⟩
      · have g2 : decide (s1 ≤ 100000) = false := decide_eq_false hs
        have g3 : decide (100000 < s1) = true := decide_eq_true (by omega)
        have HQF : Hid (Q = false) := Lib.hid <| by
          rw [HQ.out]
          unfold M.bodB M.spanOk
          simp [hs]
        clear hp hs
        go_wp2_with (go_at_call 50; refine (HP.out _).mono ?_; rintro e w1 ⟨rfl, hw⟩; have hw := hw.symm; subst hw)
        go_ret
        exact ⟨by rw [HRR.out, HQF.out]; simp, HB0.out⟩
  · have g1 : ((bn : Int) != (cn : Int)) = true := by simp; omega
    have HQF : Hid (Q = false) := Lib.hid <| by
      rw [HQ.out]
      unfold M.bodB
      simp [hbc]
    clear hbc
    go_wp2_with fail
    go_ret
    exact ⟨by rw [HRR.out, HQF.out]; simp, HB0.out⟩
end
section
variable {d : M.Dr} {zA cA wA dA tA sA bA : Option Addr} {cl : Nat → Nat} {B B' dc tc sc zc cc wc bc : Nat} {cs : Nat → Nat → Int} {s0 s1 c : Int}
set_option maxRecDepth 100000 in
set_option maxHeartbeats 6400000 in
theorem rcost_any (w : World) (hd : d.Ok) (hR : RdD w B dA tA sA zA cA wA d.s.nd d.s.nt d.s.nt d.s.nd d.nz (d.s.nt - 1) d.s.dep d.s.tide d.s.sw d.z cl d.cu d.wd) (hB : B ≤ w.heap.size) (hb : Rd w B' bA 2 d.nz cs) (hB' : B' ≤ w.heap.size) (hc : -1 ≤ c ∧ c < d.s.nd) :
    Calls Tryz.prog 39 #[.agg #[.int .i64 (d.s.W : Int), .int .i64 (d.s.H : Int), .slice dA d.s.nd dc, .slice tA d.s.nt tc, .slice sA d.s.nt sc, .slice zA d.s.nd zc, .slice cA d.nz cc, .slice wA (d.s.nt - 1) wc], .agg #[.slice bA d.nz bc, .int .i64 s0, .int .i64 s1], .int .i64 c] w fun e w' => e = .returned (.agg #[.int .i64 (M.costN d.s.nd d.z cs c 0), .int .i64 (M.costN d.s.nd d.z cs c 1)]) ∧ Below w.heap.size w w' := by
  have hnd := hd.s.nd1
  have hnz := hd.z4
  have HB0 := Lib.hid (belowAlloc3 w (.cells #[.int .i64 (d.s.W : Int), .int .i64 (d.s.H : Int), .slice dA d.s.nd dc, .slice tA d.s.nt tc, .slice sA d.s.nt sc, .slice zA d.s.nd zc, .slice cA d.nz cc, .slice wA (d.s.nt - 1) wc] 29) (.cells #[.slice bA d.nz bc, .int .i64 s0, .int .i64 s1] 73) (.cells #[.int .i64 0, .int .i64 0] 42))
  have K0 := Lib.hid (((Blk.new w 29 #[.int .i64 (d.s.W : Int), .int .i64 (d.s.H : Int), .slice dA d.s.nd dc, .slice tA d.s.nt tc, .slice sA d.s.nt sc, .slice zA d.s.nd zc, .slice cA d.nz cc, .slice wA (d.s.nt - 1) wc]).alloc (.cells #[.slice bA d.nz bc, .int .i64 s0, .int .i64 s1] 73)).alloc (.cells #[.int .i64 0, .int .i64 0] 42))
  have Z0 := Lib.hid (Blk.new2 w (.cells #[.int .i64 (d.s.W : Int), .int .i64 (d.s.H : Int), .slice dA d.s.nd dc, .slice tA d.s.nt tc, .slice sA d.s.nt sc, .slice zA d.s.nd zc, .slice cA d.nz cc, .slice wA (d.s.nt - 1) wc] 29) (.cells #[.slice bA d.nz bc, .int .i64 s0, .int .i64 s1] 73) 42 #[.int .i64 0, .int .i64 0])
  have Y0 := Lib.hid ((Blk.new1 w (.cells #[.int .i64 (d.s.W : Int), .int .i64 (d.s.H : Int), .slice dA d.s.nd dc, .slice tA d.s.nt tc, .slice sA d.s.nt sc, .slice zA d.s.nd zc, .slice cA d.nz cc, .slice wA (d.s.nt - 1) wc] 29) 73 #[.slice bA d.nz bc, .int .i64 s0, .int .i64 s1]).alloc (.cells #[.int .i64 0, .int .i64 0] 42))
  have HZ := Lib.hid (hR.z.below (HB0.out.mono hB))
  have HBB := Lib.hid (hb.below (HB0.out.mono hB'))
  by_cases h0 : c < 0
  · obtain rfl : c = -1 := by omega
    clear hR hb hB hB' HZ HBB
    have HC := Lib.hid (show ∀ j, M.costN d.s.nd d.z cs (-1) j = 0 from fun j => by unfold M.costN; simp)
    rw [HC.out, HC.out]
    go_enter Tryz.func39, Tryz.ntmps39
    go_upto_region 1 with fail
    generalize ((w.alloc (.cells #[.int .i64 (d.s.W : Int), .int .i64 (d.s.H : Int), .slice dA d.s.nd dc, .slice tA d.s.nt tc, .slice sA d.s.nt sc, .slice zA d.s.nd zc, .slice cA d.nz cc, .slice wA (d.s.nt - 1) wc] 29)).alloc (.cells #[.slice bA d.nz bc, .int .i64 s0, .int .i64 s1] 73)).alloc (.cells #[.int .i64 0, .int .i64 0] 42) = X at HB0 K0 Z0 Y0 ⊢
    simp only [Nat.add_assoc, Nat.reduceAdd] at Z0 ⊢
    have z0 := Z0.out.cell 0
    have z1 := Z0.out.cell 1
    have f0 := Z0.out.frz 0
    have f1 := Z0.out.frz 1
    have hl := Z0.out.lt
    go_wp2_with fail
    have Z1 := (Z0.out.set_ 0 (.int .i64 0)).set_ 1 (.int .i64 0)
    have hb1 := (HB0.out.setCell (p := ⟨w.heap.size + 2, 0, none⟩) (by show w.heap.size ≤ w.heap.size + 2; omega) (.int .i64 0)).setCell (p := ⟨w.heap.size + 2, 1, none⟩) (by show w.heap.size ≤ w.heap.size + 2; omega) (.int .i64 0)
    refine bodyPost_ret (results_cell_row rfl _ _ (w.heap.size + 2) 42 #[.int .i64 0, .int .i64 0] (0, 0) _ rfl Z1 Tryz.underlying42 rfl span_size) rfl ⟨rfl, hb1⟩
  · obtain ⟨k, rfl⟩ : ∃ k : Nat, c = (k : Int) := ⟨c.toNat, by omega⟩
    have hk : k < d.s.nd := by omega
    obtain ⟨gz, oz, rfl, hgz, c0⟩ := HZ.out.at_ hk
    have hzk := hd.z k hk
    obtain ⟨q, hq⟩ : ∃ q : Nat, d.z k = (q : Int) := ⟨(d.z k).toNat, by omega⟩
    rw [hq] at c0
    have hqn : q < d.nz := by omega
    have kx1 : decide (d.s.nd ≤ k) = false := decide_eq_false (by omega)
    have kx2 : decide (d.nz ≤ q) = false := decide_eq_false (by omega)
    obtain ⟨gb, ob, rfl, hgb, d0, d1⟩ := HBB.out.at2 hqn
    have HCO := Lib.hid (show ∀ j, cs q j = M.costN d.s.nd d.z cs (k : Int) j from fun j => by unfold M.costN; rw [if_neg (by omega), Int.toNat_natCast, hq, Int.toNat_natCast])
    clear hR hb hB hB' HZ HBB hq hzk
    go_enter Tryz.func39, Tryz.ntmps39
    go_upto_region 1 with fail
    generalize ((w.alloc (.cells #[.int .i64 (d.s.W : Int), .int .i64 (d.s.H : Int), .slice dA d.s.nd dc, .slice tA d.s.nt tc, .slice sA d.s.nt sc, .slice (some ⟨gz, oz, none⟩) d.s.nd zc, .slice cA d.nz cc, .slice wA (d.s.nt - 1) wc] 29)).alloc (.cells #[.slice (some ⟨gb, ob, none⟩) d.nz bc, .int .i64 s0, .int .i64 s1] 73)).alloc (.cells #[.int .i64 0, .int .i64 0] 42) = X at HB0 K0 Z0 Y0 c0 d0 d1 ⊢
    simp only [Nat.add_assoc, Nat.reduceAdd] at Z0 ⊢
    have k5 := K0.out.cell 5
    have y0 := Y0.out.cell 0
    have z0 := Z0.out.cell 0
    have z1 := Z0.out.cell 1
    have f0 := Z0.out.frz 0
    have f1 := Z0.out.frz 1
    have hl := Z0.out.lt
    go_upto_region 3 with fail
    go_still_tail 9, (by kernel_rfl)
    change wpList _ _ _ _ _ X.drew
    go_wp2_with fail
    rw [← HCO.out 0, ← HCO.out 1]
    have Z1 := ((Z0.out.set_ 0 (.int .i64 (cs q 0))).set_ 1 (.int .i64 (cs q 1))).below' (Below.refl _ _).drew
    have hb1 := ((HB0.out.setCell (p := ⟨w.heap.size + 2, 0, none⟩) (by show w.heap.size ≤ w.heap.size + 2; omega) (.int .i64 (cs q 0))).setCell (p := ⟨w.heap.size + 2, 1, none⟩) (by show w.heap.size ≤ w.heap.size + 2; omega) (.int .i64 (cs q 1))).drew
    refine bodyPost_ret (results_cell_row rfl _ _ (w.heap.size + 2) 42 #[.int .i64 (cs q 0), .int .i64 (cs q 1)] (0, 0) _ rfl Z1 Tryz.underlying42 rfl span_size) rfl ⟨rfl, hb1⟩
end
end Go.Proofs.YtnbeembnnjdmdaaGreatDoor
/- DriftHope: in a history a person is alive in these ticks and not behind those. -/
namespace Go.Proofs.YtnbeembnnjdmdaaGreatDoor
open Go.RowKit Go.Maps

namespace M
section
variable {d : Dr} {at_ : Nat} {l : Int} {X : Int → Bool} {fit : Nat → Int → Bool} {n : Nat} {co : Int → Nat → Int} {ls : List Int}
theorem low_high (h0 : ∀ p, co p 0 ≤ co p 1) (hr : rwL d at_ l X fit n 0 ≠ []) {i : Nat} (hi : i ≤ n) : lowR d at_ l X fit n co i ≤ highR d at_ l X fit n co i := by
  cases hp : posB d at_ l X fit n
  · exact absurd (List.length_eq_zero_iff.1 (posB_len.2 hp)) hr
  · obtain ⟨f, hf⟩ := posB_iff.1 hp
    have := hf.low (L := fun k => co (f k) 0) (co := co) hi fun k _ => ⟨Int.le_refl _, h0 _⟩
    omega
theorem sure_may {lw hw : Int} (h0 : ∀ p, co p 0 ≤ co p 1) (hne : ls ≠ []) (hr : ∀ l, l ∈ ls → rwL d at_ l X fit n 0 ≠ []) (h : lw ≤ hw) : sureN d at_ X fit n co ls lw ≤ mayN d at_ X fit n co ls hw := by
  obtain ⟨g1, g2, g3⟩ := fstB_spec (p := fun i => decide (lw ≤ mostA d at_ X fit n co ls i)) (n + 1)
  obtain ⟨k1, k2, k3⟩ := fstB_spec (p := fun i => decide (hw ≤ leastA d at_ X fit n co ls i)) (n + 1)
  refine Nat.not_lt.1 fun h5 => ?_
  have h5 : fstB (fun i => decide (hw ≤ leastA d at_ X fit n co ls i)) (n + 1) < fstB (fun i => decide (lw ≤ mostA d at_ X fit n co ls i)) (n + 1) := h5
  have h6 := of_decide_eq_false (g2 _ h5)
  have h7 := of_decide_eq_true (k3 (by omega))
  obtain ⟨l, hl, e⟩ := leastA_mem (d := d) (at_ := at_) (X := X) (fit := fit) (n := n) (co := co) (i := fstB (fun i => decide (hw ≤ leastA d at_ X fit n co ls i)) (n + 1)) hne
  have h8 := mostA_le (d := d) (at_ := at_) (X := X) (fit := fit) (n := n) (co := co) (i := fstB (fun i => decide (hw ≤ leastA d at_ X fit n co ls i)) (n + 1)) hl
  have h9 := low_high (co := co) h0 (hr l hl) (i := fstB (fun i => decide (hw ≤ leastA d at_ X fit n co ls i)) (n + 1)) (by omega)
  omega
end
end M
/-- what is known of a possible history -/
def HopK (nd ta m pn : Nat) (pf lf : Nat → Int) (co : Int → Nat → Int) (s0 s1 st er sure may : Int) : Prop :=
  er = 0 ∧ pn = m ∧ (∀ i, i < m → -1 ≤ pf i ∧ pf i < nd) ∧ ∃ n0 n1 : Nat, sure = (ta : Int) + n0 - 1 ∧ may = (ta : Int) + n1 - 1 ∧ (s0 ≤ st → st ≤ s1 → ∀ i, i < m → (∀ k, k < i → co (pf k) 0 ≤ lf k ∧ lf k ≤ co (pf k) 1) → (st ≤ M.tot lf i → n0 ≤ i) ∧ (M.tot lf i < st → i < n1))
def HopR (w : World) (e : Ending) (w' : World) : Prop := e = .returned (.bool true) ∧ Below w.heap.size w w'
theorem tot_bd {lf : Nat → Int} {co : Int → Nat → Int} {pf : Nat → Int} (hco : ∀ p, 0 ≤ co p 0 ∧ co p 1 ≤ 100) : ∀ {i : Nat}, (∀ k, k < i → co (pf k) 0 ≤ lf k ∧ lf k ≤ co (pf k) 1) → 0 ≤ M.tot lf i ∧ M.tot lf i ≤ 100 * i
  | 0, _ => ⟨Int.le_refl _, Int.le_refl _⟩
  | i + 1, h => by
    have h1 := tot_bd hco (i := i) fun k hk => h k (by omega)
    have h2 := h i (by omega)
    have h3 := hco (pf i)
    show 0 ≤ M.tot lf i + lf i ∧ M.tot lf i + lf i ≤ _
    omega
def fstC : Code → Code
  | .seq a _ => a
  | c => c
def sndC : Code → Code
  | .seq _ a => a
  | c => c
def blkC : Code → Code
  | .block _ a => a
  | c => c
def lopC : Code → Code
  | .loop a => a
  | c => c
/-- the first region in the loop behind a function's statements -/
def regH (f : Func) (k : Nat) : Code := fstC (blkC (fstC (sndC (lopC (blkC (sndC (fstC (restAt f k))))))))
/-- a cost asked and boxed, in either order -/
structure CstI (Y : World) (a z : Int) (b9 b10 b11 : Bool) (u x13 : Value) (V : World) : Prop where
  b : Below Y.heap.size Y V
  h9 : b9 = true → u = .agg #[.int .i64 a, .int .i64 z]
  h10 : b10 = true → ∃ g, Y.heap.size ≤ g ∧ x13 = .pointer (some ⟨g, 0, none⟩) ∧ Blk V g 42 (if b11 = true then #[.int .i64 a, .int .i64 z] else #[.int .i64 0, .int .i64 0])
  c11 : b11 = true → b9 = true ∧ b10 = true
section
variable {Y V V' : World} {a z : Int} {b9 b10 b11 : Bool} {u x13 : Value}
theorem CstI.ask (h : CstI Y a z false b10 b11 u x13 V) (hb : Below V.heap.size V V') : CstI Y a z true b10 b11 (.agg #[.int .i64 a, .int .i64 z]) x13 V' := by
  obtain rfl : b11 = false := by
    cases hb : b11
    · rfl
    · have := (h.c11 hb).1; cases this
  refine ⟨h.b.trans (hb.mono h.b.size), fun _ => rfl, fun q => ?_, fun q => (by cases q)⟩
  obtain ⟨g, h1, h2, h3⟩ := h.h10 q
  exact ⟨g, h1, h2, h3.below' hb⟩
theorem CstI.box (h : CstI Y a z b9 false b11 u x13 V) : CstI Y a z b9 true b11 u (.pointer (some ⟨V.heap.size, 0, none⟩)) (V.alloc (.cells #[.int .i64 0, .int .i64 0] 42)) := by
  obtain rfl : b11 = false := by
    cases hb : b11
    · rfl
    · have := (h.c11 hb).2; cases this
  have hb := belowAlloc V (.cells #[.int .i64 0, .int .i64 0] 42)
  exact ⟨h.b.trans (hb.mono h.b.size), h.h9, fun _ => ⟨_, h.b.size, rfl, Blk.new _ _ _⟩, fun q => (by cases q)⟩
theorem CstI.put_ {g : Nat} (h : CstI Y a z b9 b10 false u (.pointer (some ⟨g, 0, none⟩)) V) (c9 : b9 = true) (c10 : b10 = true) : CstI Y a z b9 b10 true u (.pointer (some ⟨g, 0, none⟩)) ((V.setCell ⟨g, 0, none⟩ (.int .i64 a)).setCell ⟨g, 1, none⟩ (.int .i64 z)) := by
  obtain ⟨g', a1, a2, a3⟩ := h.h10 c10
  obtain rfl : g' = g := by injection a2 with a2; injection a2 with a2; injection a2 with a2; exact a2.symm
  rw [if_neg (by simp)] at a3
  exact ⟨(h.b.setCell (p := ⟨g', 0, none⟩) a1 _).setCell (p := ⟨g', 1, none⟩) a1 _, h.h9, fun _ => ⟨g', a1, rfl, by rw [if_pos rfl]; exact (a3.set_ 0 (.int .i64 a)).set_ 1 (.int .i64 z)⟩, fun _ => ⟨c9, c10⟩⟩
end
section
variable {d : M.Dr} {zA cA wA dA tA sA xA hA pA bA lA : Option Addr} {B dc tc sc zc cc wc xc hn hc pn pc bc ln lc ta m P3 P4 P5 : Nat} {lo hi lw s0 s1 st er sure may : Int} {xL : List Int} {pf lf : Nat → Int} {co : Int → Nat → Int} {q : Bool} {w X : World}
set_option maxRecDepth 100000 in
set_option maxHeartbeats 12800000 in
/-- the loop's region that asks a cost and boxes it -/
theorem hope_cost {v0 v1 v2 v4 v6 v7 v8 v9 v10 v11 v13 v14 v15 v16 v17 v18 v19 v20 v21 v22 v23 v24 v25 v26 v27 v28 v29 v30 v31 v32 v33 v34 v35 v36 v37 v38 v39 v40 v41 v42 v43 v44 v45 v46 v47 v48 v49 v50 v51 v52 v53 v54 v55 v56 v57 v58 v59 v60 v61 v62 v63 v64 v65 v66 v67 v68 v69 v70 v71 v72 v73 v74 v75 v76 v77 v78 v79 v80 v81 v82 v83 v84 v85 v86 v87 v88 v89 v90 v91 v92 v93 v94 v95 v96 v97 v98 v99 v100 v101 v102 v103 v104 v105 v106 v107 v108 v109 v110 v111 v112 v113 v114 v115 v116 v117 v118 v119 v120 v121 v122 v123 v124 v125 v126 v127 v128 v129 v130 v131 v132 v133 v134 v135 v136 v137 v138 v139 v140 v141 v142 v143 v144 v145 v146 v147 v148 v149 v150 v151 v152 v153 v154 v155 v156 v157 v158 v159 v160 v161 v162 v163 v164 v165 v166 v167 v168 v169 v170 v171 v172 v173 v174 v175 v176 v177 v178 v179 : Value} {k gp op : Nat} {c a z : Int} {Q : Exit → Act → World → Prop} (hBX : Below w.heap.size w X) (B3 : Blk X P3 29 #[.int .i64 (d.s.W : Int), .int .i64 (d.s.H : Int), .slice dA d.s.nd dc, .slice tA d.s.nt tc, .slice sA d.s.nt sc, .slice zA d.s.nd zc, .slice cA d.nz cc, .slice wA (d.s.nt - 1) wc]) (B5 : Blk X P5 75 #[.slice hA hn hc, .int .i64 lw, .slice (some ⟨gp, op, none⟩) pn pc, .slice bA d.nz bc, .int .i64 s0, .int .i64 s1, .slice lA ln lc, .int .i64 st]) (hgp : gp < X.heap.size) (hk : k < pn) (hpn : pn ≤ 60) (p0 : X.cell? ⟨gp, op + k, none⟩ = some (.int .i64 c))
  (hCO : ∀ (V : World), Below w.heap.size w V → Calls Tryz.prog 39 #[.agg #[.int .i64 (d.s.W : Int), .int .i64 (d.s.H : Int), .slice dA d.s.nd dc, .slice tA d.s.nt tc, .slice sA d.s.nt sc, .slice zA d.s.nd zc, .slice cA d.nz cc, .slice wA (d.s.nt - 1) wc], .agg #[.slice bA d.nz bc, .int .i64 s0, .int .i64 s1], .int .i64 c] V fun e w' => e = .returned (.agg #[.int .i64 a, .int .i64 z]) ∧ Below V.heap.size V w')
  (hK : ∀ (g : Nat) (V : World) (u118 u119 u120 u121 u122 u123 u124 u125 u126 u127 : Value), Below X.heap.size X V → X.heap.size ≤ g → Blk V g 42 #[.int .i64 a, .int .i64 z] → Q .normal { tmps := List.toArray (v0 :: v1 :: v2 :: .pointer (some ⟨P3, 0, none⟩) :: v4 :: .pointer (some ⟨P5, 0, none⟩) :: v6 :: v7 :: v8 :: v9 :: v10 :: v11 :: .int .i64 (k : Int) :: .pointer (some ⟨g, 0, none⟩) :: v14 :: v15 :: v16 :: v17 :: v18 :: v19 :: v20 :: v21 :: v22 :: v23 :: v24 :: v25 :: v26 :: v27 :: v28 :: v29 :: v30 :: v31 :: v32 :: v33 :: v34 :: v35 :: v36 :: v37 :: v38 :: v39 :: v40 :: v41 :: v42 :: v43 :: v44 :: v45 :: v46 :: v47 :: v48 :: v49 :: v50 :: v51 :: v52 :: v53 :: v54 :: v55 :: v56 :: v57 :: v58 :: v59 :: v60 :: v61 :: v62 :: v63 :: v64 :: v65 :: v66 :: v67 :: v68 :: v69 :: v70 :: v71 :: v72 :: v73 :: v74 :: v75 :: v76 :: v77 :: v78 :: v79 :: v80 :: v81 :: v82 :: v83 :: v84 :: v85 :: v86 :: v87 :: v88 :: v89 :: v90 :: v91 :: v92 :: v93 :: v94 :: v95 :: v96 :: v97 :: v98 :: v99 :: v100 :: v101 :: v102 :: v103 :: v104 :: v105 :: v106 :: v107 :: v108 :: v109 :: v110 :: v111 :: v112 :: v113 :: v114 :: v115 :: v116 :: v117 :: u118 :: u119 :: u120 :: u121 :: u122 :: u123 :: u124 :: u125 :: u126 :: u127 :: v128 :: v129 :: v130 :: v131 :: v132 :: v133 :: v134 :: v135 :: v136 :: v137 :: v138 :: v139 :: v140 :: v141 :: v142 :: v143 :: v144 :: v145 :: v146 :: v147 :: v148 :: v149 :: v150 :: v151 :: v152 :: v153 :: v154 :: v155 :: v156 :: v157 :: v158 :: v159 :: v160 :: v161 :: v162 :: v163 :: v164 :: v165 :: v166 :: v167 :: v168 :: v169 :: v170 :: v171 :: v172 :: v173 :: v174 :: v175 :: v176 :: v177 :: v178 :: v179 :: []), defers := [] } V) :
  Code.wp Tryz.prog (regH Tryz.f10 8) Q { tmps := List.toArray (v0 :: v1 :: v2 :: .pointer (some ⟨P3, 0, none⟩) :: v4 :: .pointer (some ⟨P5, 0, none⟩) :: v6 :: v7 :: v8 :: v9 :: v10 :: v11 :: .int .i64 (k : Int) :: v13 :: v14 :: v15 :: v16 :: v17 :: v18 :: v19 :: v20 :: v21 :: v22 :: v23 :: v24 :: v25 :: v26 :: v27 :: v28 :: v29 :: v30 :: v31 :: v32 :: v33 :: v34 :: v35 :: v36 :: v37 :: v38 :: v39 :: v40 :: v41 :: v42 :: v43 :: v44 :: v45 :: v46 :: v47 :: v48 :: v49 :: v50 :: v51 :: v52 :: v53 :: v54 :: v55 :: v56 :: v57 :: v58 :: v59 :: v60 :: v61 :: v62 :: v63 :: v64 :: v65 :: v66 :: v67 :: v68 :: v69 :: v70 :: v71 :: v72 :: v73 :: v74 :: v75 :: v76 :: v77 :: v78 :: v79 :: v80 :: v81 :: v82 :: v83 :: v84 :: v85 :: v86 :: v87 :: v88 :: v89 :: v90 :: v91 :: v92 :: v93 :: v94 :: v95 :: v96 :: v97 :: v98 :: v99 :: v100 :: v101 :: v102 :: v103 :: v104 :: v105 :: v106 :: v107 :: v108 :: v109 :: v110 :: v111 :: v112 :: v113 :: v114 :: v115 :: v116 :: v117 :: v118 :: v119 :: v120 :: v121 :: v122 :: v123 :: v124 :: v125 :: v126 :: v127 :: v128 :: v129 :: v130 :: v131 :: v132 :: v133 :: v134 :: v135 :: v136 :: v137 :: v138 :: v139 :: v140 :: v141 :: v142 :: v143 :: v144 :: v145 :: v146 :: v147 :: v148 :: v149 :: v150 :: v151 :: v152 :: v153 :: v154 :: v155 :: v156 :: v157 :: v158 :: v159 :: v160 :: v161 :: v162 :: v163 :: v164 :: v165 :: v166 :: v167 :: v168 :: v169 :: v170 :: v171 :: v172 :: v173 :: v174 :: v175 :: v176 :: v177 :: v178 :: v179 :: []), defers := [] } X := by
  conv in regH _ _ => whnf
  go_upto_region 15 with fail
  have kx : decide (pn ≤ k) = false := decide_eq_false (by omega)
  have HCO := Lib.hid hCO
  have HK := Lib.hid hK
  have HBX := Lib.hid hBX
  clear hCO hK hBX
  refine wp_nopanic ?_
  refine wp_region_T 11 (fun V => Below X.heap.size X V) (by kernel_rfl) (Below.refl _ _).drew ?_
  intro hS
  refine wpAnyT_take (i := 0) (v := ?_) rfl (by kernel_rfl) (by kernel_rfl) (by kernel_rfl) (by kernel_rfl) (by kernel_rfl) (fun _ _ _ h => absurd rfl (h.1 _)) (.inl ⟨by kernel_rfl, ?_⟩) hS ?_
  rotate_left
  · (intro w' hw; have k0 := (B3.below' hw).cell 0; have k1 := (B3.below' hw).cell 1; have k2 := (B3.below' hw).cell 2; have k3 := (B3.below' hw).cell 3; have k4 := (B3.below' hw).cell 4; have k5 := (B3.below' hw).cell 5; have k6 := (B3.below' hw).cell 6; have k7 := (B3.below' hw).cell 7; have y2 := (B5.below' hw).cell 2; have y3 := (B5.below' hw).cell 3; have y4 := (B5.below' hw).cell 4; have y5 := (B5.below' hw).cell 5; have p1 := (hw.cell (p := ⟨gp, op + k, none⟩) hgp).trans p0; go_simp; try with_reducible rfl)
  try simp only [List.getElem_toArray, List.getElem_cons_zero, List.getElem_cons_succ, put_laws]
  refine wpAnyT_take (i := 1) (v := ?_) rfl (by kernel_rfl) (by kernel_rfl) (by kernel_rfl) (by kernel_rfl) (by kernel_rfl) (fun _ _ _ h => absurd rfl (h.1 _)) (.inl ⟨by kernel_rfl, ?_⟩) hS ?_
  rotate_left
  · (intro w' hw; have k0 := (B3.below' hw).cell 0; have k1 := (B3.below' hw).cell 1; have k2 := (B3.below' hw).cell 2; have k3 := (B3.below' hw).cell 3; have k4 := (B3.below' hw).cell 4; have k5 := (B3.below' hw).cell 5; have k6 := (B3.below' hw).cell 6; have k7 := (B3.below' hw).cell 7; have y2 := (B5.below' hw).cell 2; have y3 := (B5.below' hw).cell 3; have y4 := (B5.below' hw).cell 4; have y5 := (B5.below' hw).cell 5; have p1 := (hw.cell (p := ⟨gp, op + k, none⟩) hgp).trans p0; go_simp; try with_reducible rfl)
  try simp only [List.getElem_toArray, List.getElem_cons_zero, List.getElem_cons_succ, put_laws]
  refine wpAnyT_take (i := 2) (v := ?_) rfl (by kernel_rfl) (by kernel_rfl) (by kernel_rfl) (by kernel_rfl) (by kernel_rfl) (fun _ _ _ h => absurd rfl (h.1 _)) (.inl ⟨by kernel_rfl, ?_⟩) hS ?_
  rotate_left
  · (intro w' hw; have k0 := (B3.below' hw).cell 0; have k1 := (B3.below' hw).cell 1; have k2 := (B3.below' hw).cell 2; have k3 := (B3.below' hw).cell 3; have k4 := (B3.below' hw).cell 4; have k5 := (B3.below' hw).cell 5; have k6 := (B3.below' hw).cell 6; have k7 := (B3.below' hw).cell 7; have y2 := (B5.below' hw).cell 2; have y3 := (B5.below' hw).cell 3; have y4 := (B5.below' hw).cell 4; have y5 := (B5.below' hw).cell 5; have p1 := (hw.cell (p := ⟨gp, op + k, none⟩) hgp).trans p0; go_simp; try with_reducible rfl)
  try simp only [List.getElem_toArray, List.getElem_cons_zero, List.getElem_cons_succ, put_laws]
  refine wpAnyT_take (i := 3) (v := ?_) rfl (by kernel_rfl) (by kernel_rfl) (by kernel_rfl) (by kernel_rfl) (by kernel_rfl) (fun _ _ _ h => absurd rfl (h.1 _)) (.inl ⟨by kernel_rfl, ?_⟩) hS ?_
  rotate_left
  · (intro w' hw; have k0 := (B3.below' hw).cell 0; have k1 := (B3.below' hw).cell 1; have k2 := (B3.below' hw).cell 2; have k3 := (B3.below' hw).cell 3; have k4 := (B3.below' hw).cell 4; have k5 := (B3.below' hw).cell 5; have k6 := (B3.below' hw).cell 6; have k7 := (B3.below' hw).cell 7; have y2 := (B5.below' hw).cell 2; have y3 := (B5.below' hw).cell 3; have y4 := (B5.below' hw).cell 4; have y5 := (B5.below' hw).cell 5; have p1 := (hw.cell (p := ⟨gp, op + k, none⟩) hgp).trans p0; go_simp; try with_reducible rfl)
  try simp only [List.getElem_toArray, List.getElem_cons_zero, List.getElem_cons_succ, put_laws]
  refine wpAnyT_take (i := 4) (v := ?_) rfl (by kernel_rfl) (by kernel_rfl) (by kernel_rfl) (by kernel_rfl) (by kernel_rfl) (fun _ _ _ h => absurd rfl (h.1 _)) (.inl ⟨by kernel_rfl, ?_⟩) hS ?_
  rotate_left
  · (intro w' hw; have k0 := (B3.below' hw).cell 0; have k1 := (B3.below' hw).cell 1; have k2 := (B3.below' hw).cell 2; have k3 := (B3.below' hw).cell 3; have k4 := (B3.below' hw).cell 4; have k5 := (B3.below' hw).cell 5; have k6 := (B3.below' hw).cell 6; have k7 := (B3.below' hw).cell 7; have y2 := (B5.below' hw).cell 2; have y3 := (B5.below' hw).cell 3; have y4 := (B5.below' hw).cell 4; have y5 := (B5.below' hw).cell 5; have p1 := (hw.cell (p := ⟨gp, op + k, none⟩) hgp).trans p0; go_simp; try with_reducible rfl)
  try simp only [List.getElem_toArray, List.getElem_cons_zero, List.getElem_cons_succ, put_laws]
  refine wpAnyT_take (i := 5) (v := ?_) rfl (by kernel_rfl) (by kernel_rfl) (by kernel_rfl) (by kernel_rfl) (by kernel_rfl) (fun _ _ _ h => absurd rfl (h.1 _)) (.inl ⟨by kernel_rfl, ?_⟩) hS ?_
  rotate_left
  · (intro w' hw; have k0 := (B3.below' hw).cell 0; have k1 := (B3.below' hw).cell 1; have k2 := (B3.below' hw).cell 2; have k3 := (B3.below' hw).cell 3; have k4 := (B3.below' hw).cell 4; have k5 := (B3.below' hw).cell 5; have k6 := (B3.below' hw).cell 6; have k7 := (B3.below' hw).cell 7; have y2 := (B5.below' hw).cell 2; have y3 := (B5.below' hw).cell 3; have y4 := (B5.below' hw).cell 4; have y5 := (B5.below' hw).cell 5; have p1 := (hw.cell (p := ⟨gp, op + k, none⟩) hgp).trans p0; go_simp; try with_reducible rfl)
  try simp only [List.getElem_toArray, List.getElem_cons_zero, List.getElem_cons_succ, put_laws]
  refine wpAnyT_take (i := 6) (v := ?_) rfl (by kernel_rfl) (by kernel_rfl) (by kernel_rfl) (by kernel_rfl) (by kernel_rfl) (fun _ _ _ h => absurd rfl (h.1 _)) (.inl ⟨by kernel_rfl, ?_⟩) hS ?_
  rotate_left
  · (intro w' hw; have k0 := (B3.below' hw).cell 0; have k1 := (B3.below' hw).cell 1; have k2 := (B3.below' hw).cell 2; have k3 := (B3.below' hw).cell 3; have k4 := (B3.below' hw).cell 4; have k5 := (B3.below' hw).cell 5; have k6 := (B3.below' hw).cell 6; have k7 := (B3.below' hw).cell 7; have y2 := (B5.below' hw).cell 2; have y3 := (B5.below' hw).cell 3; have y4 := (B5.below' hw).cell 4; have y5 := (B5.below' hw).cell 5; have p1 := (hw.cell (p := ⟨gp, op + k, none⟩) hgp).trans p0; go_simp; try with_reducible rfl)
  try simp only [List.getElem_toArray, List.getElem_cons_zero, List.getElem_cons_succ, put_laws]
  refine wpAnyT_take (i := 7) (v := ?_) rfl (by kernel_rfl) (by kernel_rfl) (by kernel_rfl) (by kernel_rfl) (by kernel_rfl) (fun _ _ _ h => absurd rfl (h.1 _)) (.inl ⟨by kernel_rfl, ?_⟩) hS ?_
  rotate_left
  · (intro w' hw; have k0 := (B3.below' hw).cell 0; have k1 := (B3.below' hw).cell 1; have k2 := (B3.below' hw).cell 2; have k3 := (B3.below' hw).cell 3; have k4 := (B3.below' hw).cell 4; have k5 := (B3.below' hw).cell 5; have k6 := (B3.below' hw).cell 6; have k7 := (B3.below' hw).cell 7; have y2 := (B5.below' hw).cell 2; have y3 := (B5.below' hw).cell 3; have y4 := (B5.below' hw).cell 4; have y5 := (B5.below' hw).cell 5; have p1 := (hw.cell (p := ⟨gp, op + k, none⟩) hgp).trans p0; go_simp; try with_reducible rfl)
  try simp only [List.getElem_toArray, List.getElem_cons_zero, List.getElem_cons_succ, put_laws]
  refine wpAnyT_take (i := 8) (v := ?_) rfl (by kernel_rfl) (by kernel_rfl) (by kernel_rfl) (by kernel_rfl) (by kernel_rfl) (fun _ _ _ h => absurd rfl (h.1 _)) (.inl ⟨by kernel_rfl, ?_⟩) hS ?_
  rotate_left
  · (intro w' hw; have k0 := (B3.below' hw).cell 0; have k1 := (B3.below' hw).cell 1; have k2 := (B3.below' hw).cell 2; have k3 := (B3.below' hw).cell 3; have k4 := (B3.below' hw).cell 4; have k5 := (B3.below' hw).cell 5; have k6 := (B3.below' hw).cell 6; have k7 := (B3.below' hw).cell 7; have y2 := (B5.below' hw).cell 2; have y3 := (B5.below' hw).cell 3; have y4 := (B5.below' hw).cell 4; have y5 := (B5.below' hw).cell 5; have p1 := (hw.cell (p := ⟨gp, op + k, none⟩) hgp).trans p0; go_simp; try with_reducible rfl)
  try simp only [List.getElem_toArray, List.getElem_cons_zero, List.getElem_cons_succ, put_laws]
  refine wpAnyT_inv (fun listed aa V => ∃ (b9 b10 b11 : Bool) (u x13 : Value), listed = #[true, true, true, true, true, true, true, true, true, b9, b10, b11] ∧ aa = { tmps := List.toArray (v0 :: v1 :: v2 :: .pointer (some ⟨P3, 0, none⟩) :: v4 :: .pointer (some ⟨P5, 0, none⟩) :: v6 :: v7 :: v8 :: v9 :: v10 :: v11 :: .int .i64 (k : Int) :: x13 :: v14 :: v15 :: v16 :: v17 :: v18 :: v19 :: v20 :: v21 :: v22 :: v23 :: v24 :: v25 :: v26 :: v27 :: v28 :: v29 :: v30 :: v31 :: v32 :: v33 :: v34 :: v35 :: v36 :: v37 :: v38 :: v39 :: v40 :: v41 :: v42 :: v43 :: v44 :: v45 :: v46 :: v47 :: v48 :: v49 :: v50 :: v51 :: v52 :: v53 :: v54 :: v55 :: v56 :: v57 :: v58 :: v59 :: v60 :: v61 :: v62 :: v63 :: v64 :: v65 :: v66 :: v67 :: v68 :: v69 :: v70 :: v71 :: v72 :: v73 :: v74 :: v75 :: v76 :: v77 :: v78 :: v79 :: v80 :: v81 :: v82 :: v83 :: v84 :: v85 :: v86 :: v87 :: v88 :: v89 :: v90 :: v91 :: v92 :: v93 :: v94 :: v95 :: v96 :: v97 :: v98 :: v99 :: v100 :: v101 :: v102 :: v103 :: v104 :: v105 :: v106 :: v107 :: v108 :: v109 :: v110 :: v111 :: v112 :: v113 :: v114 :: v115 :: v116 :: v117 :: .agg #[.int .i64 (d.s.W : Int), .int .i64 (d.s.H : Int), .slice dA d.s.nd dc, .slice tA d.s.nt tc, .slice sA d.s.nt sc, .slice zA d.s.nd zc, .slice cA d.nz cc, .slice wA (d.s.nt - 1) wc] :: .pointer (some ⟨P5, 3, none⟩) :: .agg #[.slice bA d.nz bc, .int .i64 s0, .int .i64 s1] :: .pointer (some ⟨P5, 0, none⟩) :: .pointer (some ⟨P5, 2, none⟩) :: .slice (some ⟨gp, op, none⟩) pn pc :: .int .i64 (k : Int) :: .pointer (some ⟨gp, op + k, none⟩) :: .int .i64 c :: u :: v128 :: v129 :: v130 :: v131 :: v132 :: v133 :: v134 :: v135 :: v136 :: v137 :: v138 :: v139 :: v140 :: v141 :: v142 :: v143 :: v144 :: v145 :: v146 :: v147 :: v148 :: v149 :: v150 :: v151 :: v152 :: v153 :: v154 :: v155 :: v156 :: v157 :: v158 :: v159 :: v160 :: v161 :: v162 :: v163 :: v164 :: v165 :: v166 :: v167 :: v168 :: v169 :: v170 :: v171 :: v172 :: v173 :: v174 :: v175 :: v176 :: v177 :: v178 :: v179 :: []), defers := [] } ∧ CstI X a z b9 b10 b11 u x13 V) ?_ ?_ _ _ _ _ (by exact Nat.le_refl _) ?_
  rotate_left 2
  · exact ⟨false, false, false, v127, v13, rfl, rfl, ⟨hS, fun h => (by cases h), fun h => (by cases h), fun h => (by cases h)⟩⟩
  rotate_left
  · skip
    rintro listed aa V i o hlt hun hall ho ⟨b9, b10, b11, u, x13, rfl, rfl, hI⟩ K' hK'
    have hi : i = 0 ∨ i = 1 ∨ i = 2 ∨ i = 3 ∨ i = 4 ∨ i = 5 ∨ i = 6 ∨ i = 7 ∨ i = 8 ∨ i = 9 ∨ i = 10 ∨ i = 11 := by have hlt' : i < 12 := hlt; omega
    rcases hi with rfl | rfl | rfl | rfl | rfl | rfl | rfl | rfl | rfl | rfl | rfl | rfl
    · exact absurd hun (by simp)
    · exact absurd hun (by simp)
    · exact absurd hun (by simp)
    · exact absurd hun (by simp)
    · exact absurd hun (by simp)
    · exact absurd hun (by simp)
    · exact absurd hun (by simp)
    · exact absurd hun (by simp)
    · exact absurd hun (by simp)
    · skip
      obtain rfl : b9 = false := hun
      have ho' := Option.some.inj ho
      subst ho'
      go_simp
      refine (HCO.out V (HBX.out.trans (hI.b.mono HBX.out.size))).mono ?_
      rintro e w2 ⟨rfl, hb⟩
      try simp only [put_laws]
      exact hK'.out _ _ (.inr (hI.ask hb).b) ⟨true, b10, b11, _, _, rfl, rfl, hI.ask hb⟩
    · skip
      obtain rfl : b10 = false := hun
      have ho' := Option.some.inj ho
      subst ho'
      go_simp
      try simp only [put_laws]
      exact hK'.out _ _ (.inr (hI.box.b)) ⟨b9, true, b11, _, _, rfl, rfl, hI.box⟩
    · skip
      obtain rfl : b11 = false := hun
      have ho' := Option.some.inj ho
      subst ho'
      have hc1 : b10 = true := hall _ (Array.mem_of_getElem? (i := 0) rfl) rfl
      have hc2 : b9 = true := hall _ (Array.mem_of_getElem? (i := 1) rfl) rfl
      obtain rfl := hI.h9 hc2
      obtain ⟨g, hg, rfl, hbk⟩ := hI.h10 hc1
      rw [if_neg (by simp)] at hbk
      have c0 := hbk.cell 0
      have c1 := hbk.cell 1
      have f0 := hbk.frz 0
      have f1 := hbk.frz 1
      have hgl := hbk.lt
      go_simp
      try simp only [put_laws]
      exact hK'.out _ _ (.inl rfl) ⟨b9, b10, true, _, _, rfl, rfl, hI.put_ hc2 hc1⟩
  rintro listed aa V hr ⟨b9, b10, b11, u, x13, rfl, rfl, hI⟩
  have hall : b9 = true ∧ b10 = true ∧ b11 = true := by
    clear hI
    cases b9 <;> cases b10 <;> cases b11 <;> first | exact ⟨rfl, rfl, rfl⟩ | exact absurd hr (of_decide_eq_false (by kernel_rfl))
  obtain ⟨rfl, rfl, rfl⟩ := hall
  refine ⟨fun x e => (by cases e), ?_⟩
  obtain ⟨g, hg, rfl, hbk⟩ := hI.h10 rfl
  rw [if_pos rfl] at hbk
  exact HK.out g V _ _ _ _ _ _ _ _ _ _ hI.b hg hbk
end
end Go.Proofs.YtnbeembnnjdmdaaGreatDoor
/- DriftHope, walked. -/
namespace Go.Proofs.YtnbeembnnjdmdaaGreatDoor
open Go.RowKit Go.Maps

section
variable {d : M.Dr} {zA cA wA dA tA sA xA hA pA bA lA : Option Addr} {B dc tc sc zc cc wc xc hn hc pn pc bc ln lc ta m P3 P4 P5 : Nat} {lo hi lw s0 s1 st er sure may : Int} {xL : List Int} {pf lf : Nat → Int} {co : Int → Nat → Int} {q : Bool} {w X : World}
set_option maxRecDepth 100000 in
set_option maxHeartbeats 12800000 in
theorem hope_tail {v0 v1 v2 v6 v10 v11 v12 v13 v14 v15 v16 v17 v18 v19 v20 v21 v22 v23 v24 v25 v26 v27 v28 v29 v30 v31 v32 v33 v34 v35 v36 v37 v38 v39 v40 v41 v42 v43 v44 v45 v46 v47 v48 v49 v50 v51 v52 v53 v54 v55 v56 v57 v58 v59 v60 v61 v62 v63 v64 v65 v66 v67 v68 v69 v70 v71 v72 v73 v74 v75 v76 v77 v78 v79 v80 v81 v82 v83 v84 v85 v86 v87 v88 v89 v90 v91 v92 v93 v94 v95 v96 v97 v98 v99 v100 v101 v102 v103 v104 v105 v106 v107 v108 v109 v110 v111 v112 v113 v114 v115 v116 v117 v118 v119 v120 v121 v122 v123 v124 v125 v126 v127 v128 v129 v130 v131 v132 v133 v134 v135 v136 v137 v138 v139 v140 v141 v142 v143 v144 v145 v146 v147 v148 v149 v150 v151 v152 v153 v154 v155 v156 v157 v158 v159 v160 v161 v162 v163 v164 v165 v166 v167 v168 v169 v170 v171 v172 v173 v174 v175 v176 v177 v178 v179 : Value} (hB : B ≤ w.heap.size) (hta : ta ≤ 60) (hm : m ≤ 60) (hln : ln ≤ maxLen) (hpn : pn ≤ maxLen)
  (hP : Rd1 w B pA pn pf) (hL : Rd1 w B lA ln lf) (hco : ∀ p, 0 ≤ co p 0 ∧ co p 1 ≤ 100)
  (hPP : ∀ V, Below w.heap.size w V → Calls Tryz.prog 33 #[.agg #[.int .i64 (d.s.W : Int), .int .i64 (d.s.H : Int), .slice dA d.s.nd dc, .slice tA d.s.nt tc, .slice sA d.s.nt sc, .slice zA d.s.nd zc, .slice cA d.nz cc, .slice wA (d.s.nt - 1) wc], .agg #[.int .i64 (ta : Int), .slice xA xL.length xc, .int .i64 lo, .int .i64 hi], .agg #[.slice hA hn hc, .int .i64 lw, .slice pA pn pc]] V fun e w' => e = .returned (.bool q) ∧ Below V.heap.size V w')
  (hWK : ∀ V, Below w.heap.size w V → Calls Tryz.prog 13 #[] V fun e w' => e = .returned (.bool true) ∧ Below V.heap.size V w')
  (hCO : ∀ (V : World) (c : Int), Below w.heap.size w V → -1 ≤ c → c < d.s.nd → Calls Tryz.prog 39 #[.agg #[.int .i64 (d.s.W : Int), .int .i64 (d.s.H : Int), .slice dA d.s.nd dc, .slice tA d.s.nt tc, .slice sA d.s.nt sc, .slice zA d.s.nd zc, .slice cA d.nz cc, .slice wA (d.s.nt - 1) wc], .agg #[.slice bA d.nz bc, .int .i64 s0, .int .i64 s1], .int .i64 c] V fun e w' => e = .returned (.agg #[.int .i64 (co c 0), .int .i64 (co c 1)]) ∧ Below V.heap.size V w')
  (hq : q = true → HopK d.s.nd ta m pn pf lf co s0 s1 st er sure may)
  (hX : Below w.heap.size w X) (B3 : Blk X P3 29 #[.int .i64 (d.s.W : Int), .int .i64 (d.s.H : Int), .slice dA d.s.nd dc, .slice tA d.s.nt tc, .slice sA d.s.nt sc, .slice zA d.s.nd zc, .slice cA d.nz cc, .slice wA (d.s.nt - 1) wc]) (B4 : Blk X P4 44 #[.int .i64 (ta : Int), .slice xA xL.length xc, .int .i64 lo, .int .i64 hi]) (B5 : Blk X P5 75 #[.slice hA hn hc, .int .i64 lw, .slice pA pn pc, .slice bA d.nz bc, .int .i64 s0, .int .i64 s1, .slice lA ln lc, .int .i64 st]) :
  Code.wp Tryz.prog (restAt Tryz.f10 5) (bodyPost Tryz.prog Tryz.f10 (HopR w)) { tmps := List.toArray (v0 :: v1 :: v2 :: .pointer (some ⟨P3, 0, none⟩) :: .pointer (some ⟨P4, 0, none⟩) :: .pointer (some ⟨P5, 0, none⟩) :: v6 :: .int .i64 sure :: .int .i64 may :: .int .i64 er :: v10 :: v11 :: v12 :: v13 :: v14 :: v15 :: v16 :: v17 :: v18 :: v19 :: v20 :: v21 :: v22 :: v23 :: v24 :: v25 :: v26 :: v27 :: v28 :: v29 :: v30 :: v31 :: v32 :: v33 :: v34 :: v35 :: v36 :: v37 :: v38 :: v39 :: v40 :: v41 :: v42 :: v43 :: v44 :: v45 :: v46 :: v47 :: v48 :: v49 :: v50 :: v51 :: v52 :: v53 :: v54 :: v55 :: v56 :: v57 :: v58 :: v59 :: v60 :: v61 :: v62 :: v63 :: v64 :: v65 :: v66 :: v67 :: v68 :: v69 :: v70 :: v71 :: v72 :: v73 :: v74 :: v75 :: v76 :: v77 :: v78 :: v79 :: v80 :: v81 :: v82 :: v83 :: v84 :: v85 :: v86 :: v87 :: v88 :: v89 :: v90 :: v91 :: v92 :: v93 :: v94 :: v95 :: v96 :: v97 :: v98 :: v99 :: v100 :: v101 :: v102 :: v103 :: v104 :: v105 :: v106 :: v107 :: v108 :: v109 :: v110 :: v111 :: v112 :: v113 :: v114 :: v115 :: v116 :: v117 :: v118 :: v119 :: v120 :: v121 :: v122 :: v123 :: v124 :: v125 :: v126 :: v127 :: v128 :: v129 :: v130 :: v131 :: v132 :: v133 :: v134 :: v135 :: v136 :: v137 :: v138 :: v139 :: v140 :: v141 :: v142 :: v143 :: v144 :: v145 :: v146 :: v147 :: v148 :: v149 :: v150 :: v151 :: v152 :: v153 :: v154 :: v155 :: v156 :: v157 :: v158 :: v159 :: v160 :: v161 :: v162 :: v163 :: v164 :: v165 :: v166 :: v167 :: v168 :: v169 :: v170 :: v171 :: v172 :: v173 :: v174 :: v175 :: v176 :: v177 :: v178 :: v179 :: []), defers := [] } X := by
  unfold maxLen at hln hpn
  have HP := Lib.hid (fun (V : World) (hb : Below w.heap.size w V) => hP.below (hb.mono hB))
  have HL := Lib.hid (fun (V : World) (hb : Below w.heap.size w V) => hL.below (hb.mono hB))
  have HPP := Lib.hid hPP
  have HWK := Lib.hid hWK
  have HCO := Lib.hid hCO
  have HC := Lib.hid hco
  have HX := Lib.hid hX
  have B3' := Lib.hid B3
  have B4' := Lib.hid B4
  have B5' := Lib.hid B5
  have k0 := B3.cell 0
  have k1 := B3.cell 1
  have k2 := B3.cell 2
  have k3 := B3.cell 3
  have k4 := B3.cell 4
  have k5 := B3.cell 5
  have k6 := B3.cell 6
  have k7 := B3.cell 7
  have x0 := B4.cell 0
  have x1 := B4.cell 1
  have x2 := B4.cell 2
  have x3 := B4.cell 3
  have y0 := B5.cell 0
  have y1 := B5.cell 1
  have y2 := B5.cell 2
  have y3 := B5.cell 3
  have y4 := B5.cell 4
  have y5 := B5.cell 5
  have y6 := B5.cell 6
  have y7 := B5.cell 7
  clear hP hL hPP hWK hCO hco hX B3 B4 B5
  conv in restAt _ _ => whnf
  cases q
  · skip
    clear hq HCO HC HP HL
    go_wp2_with (first | (go_at_call 33; go_must (refine (HPP.out _ HX.out).mono ?_); rintro e w1 ⟨rfl, hb⟩; have HB1 := Lib.hid (HX.out.trans (hb.mono HX.out.size)); have Z3 := Lib.hid (B3'.out.below' hb); have Z4 := Lib.hid (B4'.out.below' hb); have Z5 := Lib.hid (B5'.out.below' hb); clear hb k0 k1 k2 k3 k4 k5 k6 k7 x0 x1 x2 x3 y0 y1 y2 y3 y4 y5 y6 y7; have y0 := Z5.out.cell 0; have y2 := Z5.out.cell 2; have y4 := Z5.out.cell 4; have y5 := Z5.out.cell 5; have y6 := Z5.out.cell 6; have y7 := Z5.out.cell 7) | (go_at_call 13; go_must (refine (HWK.out _ HB1.out).mono ?_); rintro e w2 ⟨rfl, hb⟩; have HB2 := Lib.hid (HB1.out.trans (hb.mono HB1.out.size)); clear hb))
    go_ret
    exact ⟨rfl, HB2.out⟩
  · skip
    obtain ⟨he, hpm, hpb, n0, n1, hs, hy, hh⟩ := hq rfl
    subst he
    subst hpm
    have HPB := Lib.hid hpb
    have HH := Lib.hid hh
    clear hq hpb hh
    by_cases hle : ln = pn
    · skip
      subst hle
      have g1 : ((ln : Int) != (ln : Int)) = false := by simp
      by_cases h1 : st < s0
      · skip
        have g2 : decide (st < s0) = true := decide_eq_true h1
        clear HCO HC HP HL HPB HH hs hy h1
        go_wp2_with (first | (go_at_call 33; go_must (refine (HPP.out _ HX.out).mono ?_); rintro e w1 ⟨rfl, hb⟩; have HB1 := Lib.hid (HX.out.trans (hb.mono HX.out.size)); have Z3 := Lib.hid (B3'.out.below' hb); have Z4 := Lib.hid (B4'.out.below' hb); have Z5 := Lib.hid (B5'.out.below' hb); clear hb k0 k1 k2 k3 k4 k5 k6 k7 x0 x1 x2 x3 y0 y1 y2 y3 y4 y5 y6 y7; have y0 := Z5.out.cell 0; have y2 := Z5.out.cell 2; have y4 := Z5.out.cell 4; have y5 := Z5.out.cell 5; have y6 := Z5.out.cell 6; have y7 := Z5.out.cell 7) | (go_at_call 13; go_must (refine (HWK.out _ HB1.out).mono ?_); rintro e w2 ⟨rfl, hb⟩; have HB2 := Lib.hid (HB1.out.trans (hb.mono HB1.out.size)); clear hb))
        go_ret
        exact ⟨rfl, HB2.out⟩
      · skip
        have g2 : decide (st < s0) = false := decide_eq_false h1
        by_cases h2 : s1 < st
        · skip
          have g3 : decide (s1 < st) = true := decide_eq_true h2
          clear HCO HC HP HL HPB HH hs hy h1 h2
          go_wp2_with (first | (go_at_call 33; go_must (refine (HPP.out _ HX.out).mono ?_); rintro e w1 ⟨rfl, hb⟩; have HB1 := Lib.hid (HX.out.trans (hb.mono HX.out.size)); have Z3 := Lib.hid (B3'.out.below' hb); have Z4 := Lib.hid (B4'.out.below' hb); have Z5 := Lib.hid (B5'.out.below' hb); clear hb k0 k1 k2 k3 k4 k5 k6 k7 x0 x1 x2 x3 y0 y1 y2 y3 y4 y5 y6 y7; have y0 := Z5.out.cell 0; have y2 := Z5.out.cell 2; have y4 := Z5.out.cell 4; have y5 := Z5.out.cell 5; have y6 := Z5.out.cell 6; have y7 := Z5.out.cell 7) | (go_at_call 13; go_must (refine (HWK.out _ HB1.out).mono ?_); rintro e w2 ⟨rfl, hb⟩; have HB2 := Lib.hid (HB1.out.trans (hb.mono HB1.out.size)); clear hb))
          go_ret
          exact ⟨rfl, HB2.out⟩
        · skip
          have g3 : decide (s1 < st) = false := decide_eq_false h2
          have HH2 := Lib.hid (HH.out (by omega) (by omega))
          clear HH h1 h2
          go_upto_region 11 with (go_at_call 33; go_must (refine (HPP.out _ HX.out).mono ?_); rintro e w1 ⟨rfl, hb⟩; have HB1 := Lib.hid (HX.out.trans (hb.mono HX.out.size)); have Z3 := Lib.hid (B3'.out.below' hb); have Z4 := Lib.hid (B4'.out.below' hb); have Z5 := Lib.hid (B5'.out.below' hb); clear hb k0 k1 k2 k3 k4 k5 k6 k7 x0 x1 x2 x3 y0 y1 y2 y3 y4 y5 y6 y7; have y0 := Z5.out.cell 0; have y2 := Z5.out.cell 2; have y4 := Z5.out.cell 4; have y5 := Z5.out.cell 5; have y6 := Z5.out.cell 6; have y7 := Z5.out.cell 7)
          clear g1 g2 g3 y0 y2 y4 y5 y6 y7 hs hy
          go_wp2_with fail
          go_loopw [11, 12] (fun tt i wr => ∃ k : Nat, k ≤ ln ∧ i = .int .i64 (k : Int) ∧ tt = .int .i64 (M.tot lf k) ∧ Hid ((∀ j, j < k → co (pf j) 0 ≤ lf j ∧ lf j ≤ co (pf j) 1) ∧ Below w1.heap.size w1 wr)) (fun _ i _ => ln - (intOf i).toNat)
          case atStart => exact ⟨0, Nat.zero_le _, rfl, rfl, Lib.hid ⟨fun j h => absurd h (Nat.not_lt_zero j), Below.refl _ _⟩⟩
          case round =>
            obtain ⟨k, hk, rfl, rfl, HI⟩ := hrel
            have HBR := Lib.hid (HB1.out.trans (HI.out.2.mono HB1.out.size))
            have Y3 := Lib.hid (Z3.out.below' HI.out.2)
            have Y4 := Lib.hid (Z4.out.below' HI.out.2)
            have Y5 := Lib.hid (Z5.out.below' HI.out.2)
            have hBw := Nat.le_trans hB HBR.out.size
            by_cases hlt : k < ln
            · skip
              obtain ⟨gp, op, rfl, hgp, p0⟩ := (HP.out wr HBR.out).at_ hlt
              obtain ⟨gl, ol, rfl, hgl, l0⟩ := (HL.out wr HBR.out).at_ hlt
              have kx : decide (ln ≤ k) = false := decide_eq_false (by omega)
              have y6 := Y5.out.cell 6
              have HPK := Lib.hid (HPB.out k hlt)
              obtain ⟨c, hc⟩ : ∃ c, c = pf k := ⟨_, rfl⟩
              rw [← hc] at p0 HPK
              have HCE := Lib.hid hc
              clear hc
              have HCK := Lib.hid (HC.out c)
              obtain ⟨a, ha⟩ : ∃ a, a = co c 0 := ⟨_, rfl⟩
              obtain ⟨z, hz⟩ : ∃ z, z = co c 1 := ⟨_, rfl⟩
              rw [← ha, ← hz] at HCK
              have HCC := Lib.hid (fun (V : World) (hb : Below w.heap.size w V) => HCO.out V c hb HPK.out.1 HPK.out.2)
              rw [← ha, ← hz] at HCC
              have HAZ := Lib.hid (And.intro ha hz)
              clear ha hz
              obtain ⟨lk, hlk⟩ : ∃ l, l = lf k := ⟨_, rfl⟩
              rw [← hlk] at l0
              have HLK := Lib.hid hlk
              clear hlk
              go_upto_region 15 with fail
              have hgp2 : gp < wr.heap.size := Nat.lt_of_lt_of_le hgp hBw
              refine show Code.wp _ (regH Tryz.f10 8) _ _ _ from hope_cost HBR.out Y3.out Y5.out hgp2 hlt hm p0 HCC.out ?_
              rintro g V u118 u119 u120 u121 u122 u123 u124 u125 u126 u127 hbV hgw hbk
              have HBV := Lib.hid (HBR.out.trans (hbV.mono HBR.out.size))
              have HBV1 := Lib.hid (HI.out.2.trans (hbV.mono HI.out.2.size))
              have HG := Lib.hid hbk
              have U4 := Lib.hid (Y4.out.below' hbV)
              have U5 := Lib.hid (Y5.out.below' hbV)
              have l1 := (hbV.cell (p := ⟨gl, ol + k, none⟩) (Nat.lt_of_lt_of_le hgl hBw)).trans l0
              clear l0 p0 y6 hbk
              have y6 := U5.out.cell 6
              have c0 := HG.out.cell 0
              have c1 := HG.out.cell 1
              have HTB := Lib.hid (tot_bd HC.out (i := k) HI.out.1)
              have HHK := Lib.hid (HH2.out k hlt HI.out.1)
              clear HPK HCC
              by_cases h1 : lk < a
              · skip
                have g2 : decide (lk < a) = true := decide_eq_true h1
                clear h1
                go_upto_region 16 with fail
                go_quiet (fail)
                go_wp2_with (go_at_call 13; go_must (refine (HWK.out _ (HBV.out.drewN nq)).mono ?_); rintro e w2 ⟨rfl, hb⟩; have HB2 := Lib.hid ((HBV.out.drewN nq).trans (hb.mono (HBV.out.drewN nq).size)); clear hb)
                go_ret
                exact ⟨rfl, HB2.out⟩
              · skip
                by_cases h2 : z < lk
                · skip
                  have g2 : decide (lk < a) = false := decide_eq_false h1
                  have g3 : decide (z < lk) = true := decide_eq_true h2
                  clear h1 h2
                  go_upto_region 16 with fail
                  go_quiet (fail)
                  go_wp2_with (go_at_call 13; go_must (refine (HWK.out _ (HBV.out.drewN nq)).mono ?_); rintro e w2 ⟨rfl, hb⟩; have HB2 := Lib.hid ((HBV.out.drewN nq).trans (hb.mono (HBV.out.drewN nq).size)); clear hb)
                  go_ret
                  exact ⟨rfl, HB2.out⟩
                · skip
                  have g2 : decide (lk < a) = false := decide_eq_false h1
                  have g3 : decide (z < lk) = false := decide_eq_false h2
                  go_upto_region 16 with fail
                  go_quiet (fail)
                  have HB2 : Below V.heap.size V (V.drewN nq) := (Below.refl _ _).drewN nq
                  have HV2 := Lib.hid (HBV.out.trans (HB2.mono HBV.out.size))
                  have HV3 := Lib.hid (HBV1.out.trans (HB2.mono HBV1.out.size))
                  have T4 := Lib.hid (U4.out.below' HB2)
                  have T5 := Lib.hid (U5.out.below' HB2)
                  have m1 := (HB2.cell (p := ⟨gl, ol + k, none⟩) (Nat.lt_of_lt_of_le hgl (Nat.le_trans hB HBV.out.size))).trans l1
                  clear y6 c0 c1 l1 HG g2 g3 U4 U5 HB2
                  generalize V.drewN nq = V2 at HV2 HV3 T4 T5 m1 ⊢
                  have y6 := T5.out.cell 6
                  have y7 := T5.out.cell 7
                  have x0 := T4.out.cell 0
                  obtain ⟨tk, htk⟩ : ∃ x, x = M.tot lf k := ⟨_, rfl⟩
                  rw [← htk] at HHK HTB ⊢
                  have HTK := Lib.hid htk
                  clear htk
                  have htb := HTB.out
                  have hcb := HCK.out
                  have HN := Lib.hid (show IntKind.i64.wrap ((ta : Int) + (k : Int)) = (ta : Int) + k from by rw [IntKind.wrap_i64]; omega)
                  by_cases hal : tk < st
                  · skip
                    have g5 : decide (tk < st) = true := decide_eq_true hal
                    have hn := HHK.out.2 hal
                    have g6 : decide ((ta : Int) + (n1 : Int) - 1 < (ta : Int) + (k : Int)) = false := decide_eq_false (by omega)
                    go_wp2_with fail
                    go_roundw
                    case rel =>
                      refine ⟨k + 1, by omega, by go_num, ?_, Lib.hid ⟨fun j hj => ?_, HV3.out⟩⟩
                      · rw [show M.tot lf (k + 1) = M.tot lf k + lf k from rfl, ← HLK.out, ← HTK.out]
                      · by_cases e : j = k
                        · subst e; rw [← HLK.out, ← HCE.out, ← HAZ.out.1, ← HAZ.out.2]; omega
                        · exact HI.out.1 j (by omega)
                    case measure => simp [intOf]; omega
                  · skip
                    have g5 : decide (tk < st) = false := decide_eq_false hal
                    have hn := HHK.out.1 (by omega)
                    have g6 : decide ((ta : Int) + (k : Int) ≤ (ta : Int) + (n0 : Int) - 1) = false := decide_eq_false (by omega)
                    go_wp2_with fail
                    go_roundw
                    case rel =>
                      refine ⟨k + 1, by omega, by go_num, ?_, Lib.hid ⟨fun j hj => ?_, HV3.out⟩⟩
                      · rw [show M.tot lf (k + 1) = M.tot lf k + lf k from rfl, ← HLK.out, ← HTK.out]
                      · by_cases e : j = k
                        · subst e; rw [← HLK.out, ← HCE.out, ← HAZ.out.1, ← HAZ.out.2]; omega
                        · exact HI.out.1 j (by omega)
                    case measure => simp [intOf]; omega
            · skip
              obtain rfl : k = ln := by omega
              have y6 := Y5.out.cell 6
              go_wp2_with (go_at_call 13; go_must (refine (HWK.out _ HBR.out).mono ?_); rintro e w2 ⟨rfl, hb⟩; have HB2 := Lib.hid (HBR.out.trans (hb.mono HBR.out.size)); clear hb)
              go_ret
              exact ⟨rfl, HB2.out⟩
    · skip
      have g1 : ((ln : Int) != (pn : Int)) = true := by simp; omega
      clear HCO HC HP HL HPB HH hs hy hle
      go_wp2_with (first | (go_at_call 33; go_must (refine (HPP.out _ HX.out).mono ?_); rintro e w1 ⟨rfl, hb⟩; have HB1 := Lib.hid (HX.out.trans (hb.mono HX.out.size)); have Z3 := Lib.hid (B3'.out.below' hb); have Z4 := Lib.hid (B4'.out.below' hb); have Z5 := Lib.hid (B5'.out.below' hb); clear hb k0 k1 k2 k3 k4 k5 k6 k7 x0 x1 x2 x3 y0 y1 y2 y3 y4 y5 y6 y7; have y0 := Z5.out.cell 0; have y2 := Z5.out.cell 2; have y4 := Z5.out.cell 4; have y5 := Z5.out.cell 5; have y6 := Z5.out.cell 6; have y7 := Z5.out.cell 7) | (go_at_call 13; go_must (refine (HWK.out _ HB1.out).mono ?_); rintro e w2 ⟨rfl, hb⟩; have HB2 := Lib.hid (HB1.out.trans (hb.mono HB1.out.size)); clear hb))
      go_ret
      exact ⟨rfl, HB2.out⟩
end
end Go.Proofs.YtnbeembnnjdmdaaGreatDoor
/- DriftHope, walked: its front. -/
namespace Go.Proofs.YtnbeembnnjdmdaaGreatDoor
open Go.RowKit Go.Maps

section
variable {d : M.Dr} {ta hn pn : Nat} {lo hi lw s0 s1 st : Int} {xL : List Int} {Xs : Nat → SgV} {pf lf : Nat → Int} {cs : Nat → Nat → Int}
theorem lee_row (_hta : ta < d.s.nt) : ∀ l, l ∈ leeL d (ta : Int) lo hi xL hn Xs → M.rwL d ta l (fun c => xL.contains c) (trFit Xs hn ta (-1) 0) (d.s.nt - ta - 1) 0 ≠ [] := by
  intro l hl e
  unfold leeL at hl
  rw [Int.toNat_natCast] at hl
  have h1 := (M.mem_spanL.1 hl).2
  have h2 := M.posB_len.1 (show (M.rwL d ta l (fun c => xL.contains c) (trFit Xs hn ta (-1) 0) (d.s.nt - ta - 1) 0).length = 0 from by rw [e]; rfl)
  rw [show M.posB d ta l (fun c => xL.contains c) (trFit Xs hn ta (-1) 0) (d.s.nt - ta - 1) = true from h1] at h2
  cases h2
theorem hope_k (hta : ta < d.s.nt) (h0 : ∀ p, 0 ≤ M.costN d.s.nd d.z cs p 0) (hq : M.hisB d ta (d.s.nt - ta) lo hi xL (fun i => (Xs i).sg) hn lw pn pf = true) :
    leeL d (ta : Int) lo hi xL hn Xs ≠ [] ∧ HopK d.s.nd ta (d.s.nt - ta) pn pf lf (M.costN d.s.nd d.z cs) s0 s1 st 0 ((ta : Int) + (sureA d ta hn lo hi xL Xs cs s0 : Nat) - 1) ((ta : Int) + (mayA d ta hn lo hi xL Xs cs s1 : Nat) - 1) := by
  have h1 := his_in (d := d) (at_ := (ta : Int)) (lo := lo) (hi := hi) (lw := lw) (xL := xL) (hn := hn) (n := pn) (Xs := Xs) (f := pf) (show 1 ≤ d.s.nt - ta by omega) hq
  rw [Int.toNat_natCast] at h1
  obtain ⟨g1, g2, g3⟩ := (M.hisB_iff (show 1 ≤ d.s.nt - ta by omega)).1 hq
  have g3 : M.Hist d ta lw (fun c => xL.contains c) (trFit Xs hn ta (-1) 0) (d.s.nt - ta - 1) pf := g3
  refine ⟨List.ne_nil_of_mem h1.2.1, rfl, h1.1, fun i hi => g3.bd i (by omega), _, _, rfl, rfl, fun a1 a2 i hi hL => ?_⟩
  exact M.hope (co := M.costN d.s.nd d.z cs) h0 (lee_row hta) h1.2.1 g3 a1 a2 (show i ≤ d.s.nt - ta - 1 by omega) hL
theorem hope_le (hta : ta < d.s.nt) (h0 : ∀ p, M.costN d.s.nd d.z cs p 0 ≤ M.costN d.s.nd d.z cs p 1) (hne : leeL d (ta : Int) lo hi xL hn Xs ≠ []) (h : s0 ≤ s1) : sureA d ta hn lo hi xL Xs cs s0 ≤ mayA d ta hn lo hi xL Xs cs s1 ∧ mayA d ta hn lo hi xL Xs cs s1 ≤ d.s.nt - ta :=
  ⟨M.sure_may h0 hne (lee_row hta) h, by have := (M.fstB_spec (p := fun i => decide (s1 ≤ M.leastA d ta (fun c => xL.contains c) (trFit Xs hn ta (-1) 0) (d.s.nt - ta - 1) (M.costN d.s.nd d.z cs) (leeL d (ta : Int) lo hi xL hn Xs) i)) (d.s.nt - ta - 1 + 1)).1; unfold mayA M.mayN; omega⟩
end
section
variable {W H : Int} {dA tA sA zA cA wA xA hA pA bA lA : Option Addr} {nd dc nt tc ns sc zn zc cn cc wn wc xc hn hc pn pc bn bc ln lc B : Nat} {at_ lo hi lw s0 s1 st : Int} {pf lf : Nat → Int} {cs : Nat → Nat → Int} {dep : Nat → Int} {tide : Nat → Nat → Int} {sw z : Nat → Int} {cl : Nat → Nat} {cu : Nat → Nat → Nat → Int} {wd : Nat → Nat → Int} {xL : List Int} {Xs : Nat → SgV} {w : World}
set_option maxRecDepth 100000 in
set_option maxHeartbeats 12800000 in
theorem driftHope_any (hnd : nd ≤ maxLen) (hnt : nt ≤ maxLen) (hns : ns ≤ maxLen) (hzn : zn ≤ maxLen) (hcn : cn ≤ maxLen) (hwn : wn ≤ maxLen) (hR : RdD w B dA tA sA zA cA wA nd nt ns zn cn wn dep tide sw z cl cu wd) (hB : B ≤ w.heap.size) (hW : Ways w)
    (hx3 : Rd1 w B xA xL.length (fun k => xL.getD k 0)) (hx4 : xL.length ≤ maxLen) (hRS : RdS w B hA hn Xs) (hhn : hn ≤ maxLen) (hP : Rd1 w B pA pn pf) (hpn : pn ≤ maxLen) (hb : Rd w B bA 2 bn cs) (hbn : bn ≤ maxLen) (hL : Rd1 w B lA ln lf) (hln : ln ≤ maxLen) (hF : Fre w) :
    Calls Tryz.prog 10 #[.agg #[.int .i64 W, .int .i64 H, .slice dA nd dc, .slice tA nt tc, .slice sA ns sc, .slice zA zn zc, .slice cA cn cc, .slice wA wn wc], .agg #[.int .i64 at_, .slice xA xL.length xc, .int .i64 lo, .int .i64 hi], .agg #[.slice hA hn hc, .int .i64 lw, .slice pA pn pc, .slice bA bn bc, .int .i64 s0, .int .i64 s1, .slice lA ln lc, .int .i64 st]] w fun e w' => e = .returned (.bool true) ∧ Below w.heap.size w w' := by
  have HB0 := Lib.hid (belowAlloc3 w (.cells #[.int .i64 W, .int .i64 H, .slice dA nd dc, .slice tA nt tc, .slice sA ns sc, .slice zA zn zc, .slice cA cn cc, .slice wA wn wc] 29) (.cells #[.int .i64 at_, .slice xA xL.length xc, .int .i64 lo, .int .i64 hi] 44) (.cells #[.slice hA hn hc, .int .i64 lw, .slice pA pn pc, .slice bA bn bc, .int .i64 s0, .int .i64 s1, .slice lA ln lc, .int .i64 st] 75))
  have K0 := Lib.hid (((Blk.new w 29 #[.int .i64 W, .int .i64 H, .slice dA nd dc, .slice tA nt tc, .slice sA ns sc, .slice zA zn zc, .slice cA cn cc, .slice wA wn wc]).alloc (.cells #[.int .i64 at_, .slice xA xL.length xc, .int .i64 lo, .int .i64 hi] 44)).alloc (.cells #[.slice hA hn hc, .int .i64 lw, .slice pA pn pc, .slice bA bn bc, .int .i64 s0, .int .i64 s1, .slice lA ln lc, .int .i64 st] 75))
  have X0 := Lib.hid ((Blk.new1 w (.cells #[.int .i64 W, .int .i64 H, .slice dA nd dc, .slice tA nt tc, .slice sA ns sc, .slice zA zn zc, .slice cA cn cc, .slice wA wn wc] 29) 44 #[.int .i64 at_, .slice xA xL.length xc, .int .i64 lo, .int .i64 hi]).alloc (.cells #[.slice hA hn hc, .int .i64 lw, .slice pA pn pc, .slice bA bn bc, .int .i64 s0, .int .i64 s1, .slice lA ln lc, .int .i64 st] 75))
  have Y0 := Lib.hid (Blk.new2 w (.cells #[.int .i64 W, .int .i64 H, .slice dA nd dc, .slice tA nt tc, .slice sA ns sc, .slice zA zn zc, .slice cA cn cc, .slice wA wn wc] 29) (.cells #[.int .i64 at_, .slice xA xL.length xc, .int .i64 lo, .int .i64 hi] 44) 75 #[.slice hA hn hc, .int .i64 lw, .slice pA pn pc, .slice bA bn bc, .int .i64 s0, .int .i64 s1, .slice lA ln lc, .int .i64 st])
  have HVA := Lib.hid (fun (V : World) (hb : Below w.heap.size w V) => valid_any (dc := dc) (tc := tc) (sc := sc) (zc := zc) (cc := cc) (wc := wc) (xc := xc) (hc := hc) (W := W) (H := H) (at_ := at_) (lo := lo) (hi := hi) hnd hnt hns hzn hcn hwn (hR.below (hb.mono hB)) (Nat.le_trans hB hb.size) (hx3.below (hb.mono hB)) hx4 (hRS.below (hb.mono hB)) hhn)
  have HWK := Lib.hid (fun (V : World) (hb : Below w.heap.size w V) => works_any V (hW.below hb))
  have HWY := Lib.hid (fun (V : World) (hb : Below w.heap.size w V) => hW.below hb)
  have HRR := Lib.hid (fun (V : World) (hb : Below w.heap.size w V) => hR.below (hb.mono hB))
  have HRX := Lib.hid (fun (V : World) (hb : Below w.heap.size w V) => hx3.below (hb.mono hB))
  have HRH := Lib.hid (fun (V : World) (hb : Below w.heap.size w V) => hRS.below (hb.mono hB))
  have HFR := Lib.hid (fun (V : World) (hb : Below w.heap.size w V) => hF.below hb)
  have HRP := Lib.hid (fun (V : World) (hb : Below w.heap.size w V) => hP.below (hb.mono hB))
  have HRB := Lib.hid (fun (V : World) (hc : Below w.heap.size w V) => hb.below (hc.mono hB))
  have HP := Lib.hid hP
  have HL := Lib.hid hL
  clear hR hW hx3 hRS hF hP hb hL
  go_enter Tryz.func10, Tryz.ntmps10
  go_upto_region 1 with fail
  generalize ((w.alloc (.cells #[.int .i64 W, .int .i64 H, .slice dA nd dc, .slice tA nt tc, .slice sA ns sc, .slice zA zn zc, .slice cA cn cc, .slice wA wn wc] 29)).alloc (.cells #[.int .i64 at_, .slice xA xL.length xc, .int .i64 lo, .int .i64 hi] 44)).alloc (.cells #[.slice hA hn hc, .int .i64 lw, .slice pA pn pc, .slice bA bn bc, .int .i64 s0, .int .i64 s1, .slice lA ln lc, .int .i64 st] 75) = X at HB0 K0 X0 Y0 ⊢
  simp only [Nat.add_assoc, Nat.reduceAdd] at Y0 ⊢
  have HFX := Lib.hid (HVA.out X HB0.out)
  have k0 := K0.out.cell 0
  have k1 := K0.out.cell 1
  have k2 := K0.out.cell 2
  have k3 := K0.out.cell 3
  have k4 := K0.out.cell 4
  have k5 := K0.out.cell 5
  have k6 := K0.out.cell 6
  have k7 := K0.out.cell 7
  have x0 := X0.out.cell 0
  have x1 := X0.out.cell 1
  have x2 := X0.out.cell 2
  have x3 := X0.out.cell 3
  have y0 := Y0.out.cell 0
  have y1 := Y0.out.cell 1
  have y2 := Y0.out.cell 2
  have y3 := Y0.out.cell 3
  have y4 := Y0.out.cell 4
  have y5 := Y0.out.cell 5
  have y6 := Y0.out.cell 6
  have y7 := Y0.out.cell 7
  go_wp2_with fail
  refine HFX.out.mono ?_
  rintro e w1 ⟨⟨q, rfl, hq⟩, hb⟩
  have HB1 := Lib.hid (HB0.out.trans (hb.mono HB0.out.size))
  have K1 := Lib.hid (K0.out.below' hb)
  have X1 := Lib.hid (X0.out.below' hb)
  have Y1 := Lib.hid (Y0.out.below' hb)
  have HQ := Lib.hid hq
  clear hq HFX HVA
  clear k0 k1 k2 k3 k4 k5 k6 k7 x0 x1 x2 x3 y0 y1 y2 y3 y4 y5 y6 y7
  clear hb K0 X0 Y0 HB0
  cases q
  · skip
    clear K1 X1 Y1
    go_wp2_with (go_at_call 13; go_must (refine (HWK.out _ HB1.out).mono ?_); rintro e wz ⟨rfl, hb⟩; have HBZ := Lib.hid (HB1.out.trans (hb.mono HB1.out.size)); clear hb)
    go_ret
    exact ⟨rfl, HBZ.out⟩
  obtain ⟨hok, hxo, hso, hfar, hfars, h6⟩ := HQ.out rfl
  obtain ⟨d, hd, rfl, rfl, rfl, rfl, rfl, rfl, rfl, rfl, rfl, rfl, rfl, rfl, rfl, rfl, hcl⟩ := M.chkD_form hok
  have h60 := hd.s.t2
  have h1n := hd.s.t1
  have hnd2 := hd.s.nd1
  have hnz := hd.z4
  obtain ⟨⟨ha1, ha2⟩, hxl, ⟨hx1, hx2⟩, hl1, hl2, hl3⟩ := chkX_bd hxo
  obtain ⟨ta, rfl⟩ : ∃ n : Nat, at_ = (n : Int) := ⟨at_.toNat, by omega⟩
  have hta : ta < d.s.nt := by omega
  have HVL := Lib.hid (And.intro hd (And.intro hcl (And.intro hxo hso)))
  clear hok hxo hso hfar hfars HQ hxl hx1 hx2
  have HCB := Lib.hid (fun (V : World) (hb : Below w.heap.size w V) => rcheckbody_any (W := (d.s.W : Int)) (H := (d.s.H : Int)) (dA := dA) (tA := tA) (sA := sA) (zA := zA) (cA := cA) (wA := wA) (nd := d.s.nd) (dc := dc) (nt := d.s.nt) (tc := tc) (ns := d.s.nt) (sc := sc) (zn := d.s.nd) (zc := zc) (cn := d.nz) (cc := cc) (wn := d.s.nt - 1) (wc := wc) (bc := bc) (s0 := s0) (s1 := s1) V hcn hbn (HRB.out V hb) (Nat.le_trans hB hb.size))
  have k0 := K1.out.cell 0
  have k1 := K1.out.cell 1
  have k2 := K1.out.cell 2
  have k3 := K1.out.cell 3
  have k4 := K1.out.cell 4
  have k5 := K1.out.cell 5
  have k6 := K1.out.cell 6
  have k7 := K1.out.cell 7
  have x0 := X1.out.cell 0
  have x1 := X1.out.cell 1
  have x2 := X1.out.cell 2
  have x3 := X1.out.cell 3
  have y0 := Y1.out.cell 0
  have y1 := Y1.out.cell 1
  have y2 := Y1.out.cell 2
  have y3 := Y1.out.cell 3
  have y4 := Y1.out.cell 4
  have y5 := Y1.out.cell 5
  have y6 := Y1.out.cell 6
  have y7 := Y1.out.cell 7
  by_cases hbo : M.bodB d.nz bn cs s0 s1 = true
  · skip
    have hcx := HCB.out w1 HB1.out
    rw [if_pos hbo] at hcx
    have HCX := Lib.hid hcx
    clear hcx HCB
    unfold M.bodB at hbo
    simp only [Bool.and_eq_true, decide_eq_true_eq] at hbo
    have HBO := Lib.hid (show M.bodB bn bn cs s0 s1 = true from by unfold M.bodB; simp only [Bool.and_eq_true, decide_eq_true_eq]; exact ⟨⟨trivial, hbo.1.2⟩, hbo.2⟩)
    obtain ⟨⟨hbz, hba⟩, hbs⟩ := hbo
    subst hbz
    clear hbn
    have hs01 : s0 ≤ s1 := by unfold M.spanOk at hbs; simp only [Bool.and_eq_true, decide_eq_true_eq] at hbs; exact hbs.1.2
    have HCO := Lib.hid (show ∀ p, 0 ≤ M.costN d.s.nd d.z cs p 0 ∧ M.costN d.s.nd d.z cs p 0 ≤ M.costN d.s.nd d.z cs p 1 ∧ M.costN d.s.nd d.z cs p 1 ≤ 100 from fun p => by
      unfold M.costN
      by_cases h : p < 0 ∨ (d.s.nd : Int) ≤ p
      · rw [if_pos h]; simp [h]
      · rw [if_neg h, if_neg h]
        have hz := HVL.out.1.z p.toNat (by omega)
        have h9 := M.allTo_iff.1 hba (d.z p.toNat).toNat (by omega)
        unfold M.spanOk at h9
        simp only [Bool.and_eq_true, decide_eq_true_eq] at h9
        omega)
    clear hba hbs
    go_upto_region 3 with (go_at_call 37; go_must (refine HCX.out.mono ?_); rintro e w2 ⟨rfl, hb⟩; have HB2 := Lib.hid (HB1.out.trans (hb.mono HB1.out.size)); have K2 := Lib.hid (K1.out.below' hb); have X2 := Lib.hid (X1.out.below' hb); have Y2 := Lib.hid (Y1.out.below' hb); clear hb)
    clear HCX
    clear k0 k1 k2 k3 k4 k5 k6 k7 x0 x1 x2 x3 y0 y1 y2 y3 y4 y5 y6 y7
    have k0 := K2.out.cell 0
    have k1 := K2.out.cell 1
    have k2 := K2.out.cell 2
    have k3 := K2.out.cell 3
    have k4 := K2.out.cell 4
    have k5 := K2.out.cell 5
    have k6 := K2.out.cell 6
    have k7 := K2.out.cell 7
    have x0 := X2.out.cell 0
    have x1 := X2.out.cell 1
    have x2 := X2.out.cell 2
    have x3 := X2.out.cell 3
    have y0 := Y2.out.cell 0
    have y1 := Y2.out.cell 1
    have y2 := Y2.out.cell 2
    have y3 := Y2.out.cell 3
    have y4 := Y2.out.cell 4
    have y5 := Y2.out.cell 5
    have y6 := Y2.out.cell 6
    have y7 := Y2.out.cell 7
    have HAV := Lib.hid (alive_ok (dc := dc) (tc := tc) (sc := sc) (zc := zc) (cc := cc) (wc := wc) (xc := xc) (hc := hc) (bc := bc) (lo := lo) (hi := hi) HVL.out.1 HVL.out.2.1 (HRR.out w2 HB2.out) (Nat.le_trans hB HB2.out.size) (HWY.out w2 HB2.out) (HRX.out w2 HB2.out) hx4 (HRH.out w2 HB2.out) hhn (HFR.out w2 HB2.out) HVL.out.2.2.1 HVL.out.2.2.2 (HRB.out w2 HB2.out) (by unfold maxLen; omega) HBO.out)
    have HPP := Lib.hid (fun (V : World) (hb : Below w.heap.size w V) => possible_past (dc := dc) (tc := tc) (sc := sc) (zc := zc) (cc := cc) (wc := wc) (xc := xc) (hc := hc) (pc := pc) (lw := lw) (lo := lo) (hi := hi) HVL.out.1 HVL.out.2.1 (HRR.out _ hb) (Nat.le_trans hB hb.size) (HRX.out _ hb) hx4 (HRH.out _ hb) hhn ta hta hl1 hl3 (HRP.out _ hb) hpn)
    have HHK := Lib.hid (hope_k (d := d) (ta := ta) (hn := hn) (pn := pn) (lo := lo) (hi := hi) (lw := lw) (s0 := s0) (s1 := s1) (st := st) (xL := xL) (Xs := Xs) (pf := pf) (lf := lf) (cs := cs) hta (fun p => (HCO.out p).1))
    have HCS := Lib.hid (fun (V : World) (c : Int) (hb : Below w.heap.size w V) (h1 : -1 ≤ c) (h2 : c < d.s.nd) => rcost_any (dc := dc) (tc := tc) (sc := sc) (zc := zc) (cc := cc) (wc := wc) (bc := bc) (s0 := s0) (s1 := s1) V HVL.out.1 (HRR.out V hb) (Nat.le_trans hB hb.size) (HRB.out V hb) (Nat.le_trans hB hb.size) ⟨h1, h2⟩)
    by_cases hne : leeL d (ta : Int) lo hi xL hn Xs = []
    · skip
      have HAX := Lib.hid (HAV.out.mono (R' := fun e w' => e = .returned (.tuple #[.int .i64 0, .int .i64 0, .int .i64 3]) ∧ Below w2.heap.size w2 w') fun e w' h => by
        obtain ⟨hb, h⟩ := h
        rcases h with ⟨_, h⟩ | ⟨h, _⟩
        · exact ⟨h, hb⟩
        · exact absurd hne h)
      clear HAV
      go_upto_if 73 with (go_at_call 38; go_must (refine HAX.out.mono ?_); rintro e w3 ⟨rfl, hb⟩; have HB3 := Lib.hid (HB2.out.trans (hb.mono HB2.out.size)); have K3 := Lib.hid (K2.out.below' hb); have X3 := Lib.hid (X2.out.below' hb); have Y3 := Lib.hid (Y2.out.below' hb); clear hb; clear k0 k1 k2 k3 k4 k5 k6 k7 x0 x1 x2 x3 y0 y1 y2 y3 y4 y5 y6 y7; have x0 := X3.out.cell 0; have k3 := K3.out.cell 3)
      refine wp_cond_false rfl (wp_skip ?_)
      apply_assumption
      exact hope_tail hB (by omega) (show d.s.nt - ta ≤ 60 by omega) hln hpn HP.out HL.out (fun p => ⟨(HCO.out p).1, (HCO.out p).2.2⟩) HPP.out HWK.out HCS.out (fun h => absurd hne (HHK.out h).1) HB3.out K3.out X3.out Y3.out
    · skip
      have hle := hope_le (s0 := s0) (s1 := s1) (cs := cs) hta (fun p => (HCO.out p).2.1) hne hs01
      have HHX := Lib.hid (fun h => (HHK.out h).2)
      clear HHK
      have HAX := Lib.hid (HAV.out.mono (R' := fun e w' => e = .returned (.tuple #[.int .i64 ((ta : Int) + (sureA d ta hn lo hi xL Xs cs s0 : Nat) - 1), .int .i64 ((ta : Int) + (mayA d ta hn lo hi xL Xs cs s1 : Nat) - 1), .int .i64 0]) ∧ Below w2.heap.size w2 w') fun e w' h => by
        obtain ⟨hb, h⟩ := h
        rcases h with ⟨h, _⟩ | ⟨_, h⟩
        · exact absurd h hne
        · exact ⟨h, hb⟩)
      clear HAV hne
      generalize sureA d ta hn lo hi xL Xs cs s0 = n0 at HAX HHX hle
      generalize mayA d ta hn lo hi xL Xs cs s1 = n1 at HAX HHX hle
      have g7 : decide ((ta : Int) + (n0 : Int) < (ta : Int)) = false := decide_eq_false (by omega)
      have g8 : decide (n1 < n0) = false := decide_eq_false (by omega)
      have g9 : decide ((d.s.nt : Int) < (ta : Int) + (n1 : Int)) = false := decide_eq_false (by omega)
      go_upto_if 73 with (go_at_call 38; go_must (refine HAX.out.mono ?_); rintro e w3 ⟨rfl, hb⟩; have HB3 := Lib.hid (HB2.out.trans (hb.mono HB2.out.size)); have K3 := Lib.hid (K2.out.below' hb); have X3 := Lib.hid (X2.out.below' hb); have Y3 := Lib.hid (Y2.out.below' hb); clear hb; clear k0 k1 k2 k3 k4 k5 k6 k7 x0 x1 x2 x3 y0 y1 y2 y3 y4 y5 y6 y7; have x0 := X3.out.cell 0; have k3 := K3.out.cell 3)
      refine wp_cond_false rfl (wp_skip ?_)
      apply_assumption
      exact hope_tail hB (by omega) (show d.s.nt - ta ≤ 60 by omega) hln hpn HP.out HL.out (fun p => ⟨(HCO.out p).1, (HCO.out p).2.2⟩) HPP.out HWK.out HCS.out HHX.out HB3.out K3.out X3.out Y3.out
  · skip
    have hcx := HCB.out w1 HB1.out
    rw [if_neg hbo] at hcx
    have HCX := Lib.hid hcx
    clear hcx HCB hbo
    go_wp2_with (first | (go_at_call 37; go_must (refine HCX.out.mono ?_); rintro e w2 ⟨rfl, hb⟩; have HB2 := Lib.hid (HB1.out.trans (hb.mono HB1.out.size)); have K2 := Lib.hid (K1.out.below' hb); have X2 := Lib.hid (X1.out.below' hb); have Y2 := Lib.hid (Y1.out.below' hb); clear hb) | (go_at_call 13; go_must (refine (HWK.out _ HB2.out).mono ?_); rintro e wz ⟨rfl, hb⟩; have HBZ := Lib.hid (HB2.out.trans (hb.mono HB2.out.size)); clear hb))
    go_ret
    exact ⟨rfl, HBZ.out⟩
end
end Go.Proofs.YtnbeembnnjdmdaaGreatDoor
/- A past with its body, opened. -/
namespace Go.Proofs.YtnbeembnnjdmdaaGreatDoor
open Go.ChangeShapes Go.WideShapes Go.ChangeAt Go.RowKit Go.Deep Go.Joins

section
variable {H : Type} {enc : TypeId × Value → H} {w : World} {base : Nat} {spare : Nat → Bool} {held : Bool}
theorem cells_past : Tryz.prog.cellsOf 61 = 3 := by kernel_rfl
theorem cells_body : Tryz.prog.cellsOf 73 = 3 := by kernel_rfl
theorem past_cells {n : Nat} {l : List Value} {x : DataW H × List MemPlace} (h : DataW.trod enc Tryz.prog w base spare held n 61 l = some x) :
    ∃ (hA : Option Addr) (hn hc : Nat) (Xs : Nat → SgV) (a : Int) (pA : Option Addr) (pn pc : Nat) (pf : Nat → Int), l[0]? = some (.slice hA hn hc) ∧ l[1]? = some (.int .i64 a) ∧ l[2]? = some (.slice pA pn pc) ∧ hn ≤ maxLen ∧ RdS w w.heap.size hA hn Xs ∧ pn ≤ maxLen ∧ Rd1 w w.heap.size pA pn pf := by
  obtain ⟨xs, n', _, _, _, hlen, hf⟩ := DataW.trod_struct Tryz.underlying61 h
  have hl : xs.length = 3 := hlen
  obtain ⟨A, m, c, Xs, e0, hm, hr⟩ := field_sgs (i := 0) (hf 0 _ rfl) (by omega)
  obtain ⟨a, e1⟩ := field_int (i := 1) (hf 1 _ rfl) (by omega)
  obtain ⟨A2, m2, c2, f2, e2, hm2, hr2⟩ := field_ints (i := 2) (hf 2 _ rfl) (by omega)
  exact ⟨A, m, c, Xs, a, A2, m2, c2, f2, e0, e1, e2, hm, hr, hm2, hr2⟩
theorem body_cells {n : Nat} {l : List Value} {x : DataW H × List MemPlace} (h : DataW.trod enc Tryz.prog w base spare held n 73 l = some x) :
    ∃ (bA : Option Addr) (bn bc : Nat) (cs : Nat → Nat → Int) (a b : Int), l[0]? = some (.slice bA bn bc) ∧ l[1]? = some (.int .i64 a) ∧ l[2]? = some (.int .i64 b) ∧ bn ≤ maxLen ∧ Rd w w.heap.size bA 2 bn cs := by
  obtain ⟨xs, n', _, _, _, hlen, hf⟩ := DataW.trod_struct Tryz.underlying73 h
  have hl : xs.length = 2 := hlen
  obtain ⟨A, m, c, f, e0, hm, hr⟩ := field_spans (i := 0) (hf 0 _ rfl) (by omega)
  obtain ⟨a, b, e1, e2⟩ := field_span (i := 1) (hf 1 _ rfl) (by omega)
  exact ⟨A, m, c, f, a, b, e0, e1, e2, hm, hr⟩
set_option maxRecDepth 100000 in
/-- a swim by value -/
theorem open_swim {r : Reach} {b0 : Nat} {v : Value} {d : DataW H} {p : List MemPlace} (hv : Value.okWide Tryz.prog w r b0 75 v) (h : DataW.Trod enc Tryz.prog w base spare held 75 v d p) :
    ∃ (hA : Option Addr) (hn hc : Nat) (Xs : Nat → SgV) (lw : Int) (pA : Option Addr) (pn pc : Nat) (pf : Nat → Int) (bA : Option Addr) (bn bc : Nat) (cs : Nat → Nat → Int) (s0 s1 : Int) (lA : Option Addr) (ln lc : Nat) (lf : Nat → Int) (st : Int),
      v = .agg #[.slice hA hn hc, .int .i64 lw, .slice pA pn pc, .slice bA bn bc, .int .i64 s0, .int .i64 s1, .slice lA ln lc, .int .i64 st] ∧ hn ≤ maxLen ∧ RdS w w.heap.size hA hn Xs ∧ pn ≤ maxLen ∧ Rd1 w w.heap.size pA pn pf ∧ bn ≤ maxLen ∧ Rd w w.heap.size bA 2 bn cs ∧ ln ≤ maxLen ∧ Rd1 w w.heap.size lA ln lf := by
  obtain ⟨cs, rfl, hsz⟩ := okWide_struct Tryz.underlying75 hv
  have hsz8 : cs.size = 8 := hsz.trans (by kernel_rfl)
  obtain ⟨fuel, hf⟩ := h
  obtain ⟨xs, n', _, _, _, hlen, hff⟩ := DataW.trod_struct Tryz.underlying75 hf
  have hl : xs.length = 4 := hlen
  have h0 := hff 0 _ rfl
  rw [List.getElem?_eq_getElem (show 0 < xs.length by omega)] at h0
  obtain ⟨hA, hn, hc, Xs, lw, pA, pn, pc, pf, e0, e1, e2, hhn, hS, hpn, hP⟩ := past_cells h0
  have h1 := hff 1 _ rfl
  rw [List.getElem?_eq_getElem (show 1 < xs.length by omega)] at h1
  obtain ⟨bA, bn, bc, f, s0, s1, e3, e4, e5, hbn, hb⟩ := body_cells h1
  obtain ⟨lA, ln, lc, lf, e6, hln, hL⟩ := field_ints (i := 2) (hff 2 _ rfl) (by omega)
  obtain ⟨st, e7⟩ := field_int (i := 3) (hff 3 _ rfl) (by omega)
  obtain ⟨l⟩ := cs
  match l, hsz8 with
  | [c0, c1, c2, c3, c4, c5, c6, c7], _ =>
    simp [Value.cells, cells_past, cells_body] at e0 e1 e2 e3 e4 e5 e6 e7
    subst e0; subst e1; subst e2; subst e3; subst e4; subst e5; subst e6; subst e7
    exact ⟨hA, hn, hc, Xs, lw, pA, pn, pc, pf, bA, bn, bc, f, s0, s1, lA, ln, lc, lf, st, rfl, hhn, hS, hpn, hP, hbn, hb, hln, hL⟩
end
end Go.Proofs.YtnbeembnnjdmdaaGreatDoor
