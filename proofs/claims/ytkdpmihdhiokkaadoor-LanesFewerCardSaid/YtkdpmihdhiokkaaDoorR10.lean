/- Far and FarLegs. -/
import Derived.Test.YtkdpmihdhiokkaaDoorR6
namespace Go.Proofs.YtkdpmihdhiokkaaDoor
open Go.RowKit

def M.farC (W H : Int) (nd nt ns : Nat) (dep : Nat → Int) (tide : Nat → Nat → Int) (sw : Nat → Int) : Bool := decide (200 < nd) || (decide (80 < nt) || (decide (80 < ns) || (M.chkC W H nd nt ns dep tide sw && (decide (20 < nd) || decide (8 < nt)))))
def M.farL (n : Nat) (L : Nat → M.Leg) : Bool := M.anyTo n (fun i => decide (80 < (L i).n)) || ((decide (5 < n) && decide (n ≤ 12)) || decide (30 < n))
section
variable (W H : Int) (dA tA sA : Option Addr) (nd dc nt tc ns sc B : Nat) (dep : Nat → Int) (tide : Nat → Nat → Int) (sw : Nat → Int) (w : World)
set_option maxRecDepth 100000 in
set_option maxHeartbeats 3200000 in
theorem far_any (hnd : nd ≤ maxLen) (hnt : nt ≤ maxLen) (hns : ns ≤ maxLen) (hR : RdC w B dA tA sA nd nt ns dep tide sw) (hB : B ≤ w.heap.size) :
    Calls Tryd.prog 22 #[.agg #[.int .i64 W, .int .i64 H, .slice dA nd dc, .slice tA nt tc, .slice sA ns sc]] w fun e w' => e = .returned (.bool (M.farC W H nd nt ns dep tide sw)) ∧ Below w.heap.size w w' := by
  have HF := Lib.hid (show M.farC W H nd nt ns dep tide sw = (decide (200 < nd) || (decide (80 < nt) || (decide (80 < ns) || (M.chkC W H nd nt ns dep tide sw && (decide (20 < nd) || decide (8 < nt)))))) from rfl)
  have HB0 := Lib.hid (belowAlloc w (.cells #[.int .i64 W, .int .i64 H, .slice dA nd dc, .slice tA nt tc, .slice sA ns sc] 25))
  have C0 := Lib.hid (Blk.new w 25 #[.int .i64 W, .int .i64 H, .slice dA nd dc, .slice tA nt tc, .slice sA ns sc])
  have HCK := Lib.hid (rchk_any W H dA tA sA nd dc nt tc ns sc B dep tide sw (w.alloc (.cells #[.int .i64 W, .int .i64 H, .slice dA nd dc, .slice tA nt tc, .slice sA ns sc] 25)) hnd hnt hns (hR.below (HB0.out.mono hB)) (Nat.le_trans hB HB0.out.size))
  have HCE := Lib.hid (fun (h : M.chkC W H nd nt ns dep tide sw = true) (V : World) => (show Calls Tryd.prog 51 #[.agg #[.int .i64 W, .int .i64 H, .slice dA nd dc, .slice tA nt tc, .slice sA ns sc]] V fun e w' => e = .returned (.int .i64 (nd : Int)) ∧ Below V.heap.size V w' from by
    obtain ⟨W', H', rfl, rfl, rfl, hs⟩ := M.chkC_ok h
    exact rcells_ok ⟨W', H', nd, ns, dep, tide, sw⟩ dA tA sA dc tc sc V hs))
  obtain ⟨F, hF⟩ : ∃ F, F = M.farC W H nd nt ns dep tide sw := ⟨_, rfl⟩
  rw [← hF] at HF
  rw [← hF]
  unfold maxLen at hnd hnt hns
  clear hF hR
  by_cases h1 : 200 < nd
  · have g1 : decide (200 < nd) = true := decide_eq_true h1
    have i1 : decide ((200 : Int) < (nd : Int)) = true := decide_eq_true (by omega)
    have HV := Lib.hid (show F = true by rw [HF.out, g1]; rfl)
    clear h1
    go_enter Tryd.func22, Tryd.ntmps22
    go_wp2_with fail
    go_ret
    exact ⟨ret_bool HV.out.symm, HB0.out⟩
  · have g1 : decide (200 < nd) = false := decide_eq_false h1
    have i1 : decide ((200 : Int) < (nd : Int)) = false := decide_eq_false (by omega)
    by_cases h2 : 80 < nt
    · have g2 : decide (80 < nt) = true := decide_eq_true h2
      have i2 : decide ((80 : Int) < (nt : Int)) = true := decide_eq_true (by omega)
      have HV := Lib.hid (show F = true by rw [HF.out, g1, g2]; rfl)
      clear h1 h2
      go_enter Tryd.func22, Tryd.ntmps22
      go_wp2_with fail
      go_ret
      exact ⟨ret_bool HV.out.symm, HB0.out⟩
    · have g2 : decide (80 < nt) = false := decide_eq_false h2
      have i2 : decide ((80 : Int) < (nt : Int)) = false := decide_eq_false (by omega)
      by_cases h3 : 80 < ns
      · have g3 : decide (80 < ns) = true := decide_eq_true h3
        have i3 : decide ((80 : Int) < (ns : Int)) = true := decide_eq_true (by omega)
        have HV := Lib.hid (show F = true by rw [HF.out, g1, g2, g3]; rfl)
        clear h1 h2 h3
        go_enter Tryd.func22, Tryd.ntmps22
        go_wp2_with fail
        go_ret
        exact ⟨ret_bool HV.out.symm, HB0.out⟩
      · have g3 : decide (80 < ns) = false := decide_eq_false h3
        have i3 : decide ((80 : Int) < (ns : Int)) = false := decide_eq_false (by omega)
        cases hc : M.chkC W H nd nt ns dep tide sw
        · have HV := Lib.hid (show F = false by rw [HF.out, g1, g2, g3, hc]; rfl)
          rw [hc, if_neg (by simp)] at HCK
          clear h1 h2 h3 hc
          go_enter Tryd.func22, Tryd.ntmps22
          go_wp2_with (go_at_call 50; go_must (refine HCK.out.mono ?_); rintro e w1 ⟨rfl, hb1⟩; have HB1 := Lib.hid (HB0.out.trans (hb1.mono HB0.out.size)); clear hb1)
          go_ret
          exact ⟨ret_bool HV.out.symm, HB1.out⟩
        · have HC2 := Lib.hid (HCE.out hc)
          rw [hc, if_pos rfl] at HCK
          have HV := Lib.hid (show F = (decide (20 < nd) || decide (8 < nt)) by rw [HF.out, g1, g2, g3, hc]; rfl)
          clear h1 h2 h3 hc
          by_cases h4 : 20 < nd
          all_goals (by_cases h5 : 8 < nt)
          all_goals
            have HD4 := Lib.hid h4
            have HD5 := Lib.hid h5
            first
              | (have g4 : decide (20 < nd) = true := decide_eq_true h4; have i4 : decide ((20 : Int) < (nd : Int)) = true := decide_eq_true (by omega))
              | (have g4 : decide (20 < nd) = false := decide_eq_false h4; have i4 : decide ((20 : Int) < (nd : Int)) = false := decide_eq_false (by omega))
            first
              | (have g5 : decide (8 < nt) = true := decide_eq_true h5; have i5 : decide ((8 : Int) < (nt : Int)) = true := decide_eq_true (by omega))
              | (have g5 : decide (8 < nt) = false := decide_eq_false h5; have i5 : decide ((8 : Int) < (nt : Int)) = false := decide_eq_false (by omega))
            rw [g4, g5] at HV
            clear h4 h5
            go_enter Tryd.func22, Tryd.ntmps22
            go_wp2_with (first
              | (go_at_call 50; go_must (refine HCK.out.mono ?_); rintro e w1 ⟨rfl, hb1⟩; have HB1 := Lib.hid (HB0.out.trans (hb1.mono HB0.out.size)); have c0 := (C0.out.below' hb1).cell 0; have c1 := (C0.out.below' hb1).cell 1; have c2 := (C0.out.below' hb1).cell 2; have c3 := (C0.out.below' hb1).cell 3; have c4 := (C0.out.below' hb1).cell 4; have C1 := Lib.hid (C0.out.below' hb1); clear hb1)
              | (go_at_call 51; go_must (refine (HC2.out _).mono ?_); rintro e w2 ⟨rfl, hb2⟩; have HB2 := Lib.hid (HB1.out.trans (hb2.mono HB1.out.size)); have c3 := (C1.out.below' hb2).cell 3; clear hb2))
            go_ret
            exact ⟨ret_bool (by rw [HV.out]; rfl), HB2.out⟩
end
section
variable (lA : Option Addr) (ln lc B : Nat) (L : Nat → M.Leg) (w : World)
set_option maxRecDepth 100000 in
set_option maxHeartbeats 3200000 in
theorem farlegs_any (hL : RdL w B lA ln L) (hn : ln ≤ maxLen) :
    Calls Tryd.prog 23 #[.slice lA ln lc] w fun e w' => e = .returned (.bool (M.farL ln L)) ∧ w' = w := by
  unfold maxLen at hn
  have HF := Lib.hid (show M.farL ln L = (M.anyTo ln (fun i => decide (80 < (L i).n)) || ((decide (5 < ln) && decide (ln ≤ 12)) || decide (30 < ln))) from rfl)
  obtain ⟨F, hF⟩ : ∃ F, F = M.farL ln L := ⟨_, rfl⟩
  rw [← hF] at HF
  rw [← hF]
  have HL := Lib.hid hL
  clear hF hL
  go_enter Tryd.func23, Tryd.ntmps23
  go_wp2_with fail
  go_loopw [3] (fun i wr => ∃ k : Nat, k ≤ ln ∧ i = .int .i64 (k : Int) ∧ Hid (M.anyTo k (fun i => decide (80 < (L i).n)) = false) ∧ wr = w) (fun i _ => ln - (intOf i).toNat)
  case atStart => exact ⟨0, Nat.zero_le _, rfl, Lib.hid rfl, rfl⟩
  case round =>
    obtain ⟨k, hk, rfl, HK, rfl⟩ := hrel
    by_cases hlt : k < ln
    · obtain ⟨b, off, rfl, hb, c0, c1, c2, c3, cA, cc, c4, hr, hm⟩ := HL.out.at_ hlt
      have kx : decide (ln ≤ k) = false := decide_eq_false (by omega)
      have HNX := Lib.hid (show M.anyTo (k + 1) (fun i => decide (80 < (L i).n)) = (M.anyTo k (fun i => decide (80 < (L i).n)) || decide (80 < (L k).n)) from rfl)
      have HYS := Lib.hid (fun h : decide (80 < (L k).n) = true => (M.anyTo_iff.2 ⟨k, hlt, h⟩ : M.anyTo ln (fun i => decide (80 < (L i).n)) = true))
      clear hr c0 c1 c2 c3
      by_cases h8 : 80 < (L k).n
      · have g : decide (80 < (L k).n) = true := decide_eq_true h8
        have i : decide ((80 : Int) < ((L k).n : Int)) = true := decide_eq_true (by omega)
        have HV := Lib.hid (show F = true by rw [HF.out, HYS.out g]; rfl)
        clear h8
        go_wp2_with fail
        go_ret
        exact ⟨ret_bool HV.out.symm, by first | rfl | trivial⟩
      · have g : decide (80 < (L k).n) = false := decide_eq_false h8
        have i : decide ((80 : Int) < ((L k).n : Int)) = false := decide_eq_false (by omega)
        have HV := Lib.hid (show M.anyTo (k + 1) (fun i => decide (80 < (L i).n)) = false by rw [HNX.out, HK.out, g]; rfl)
        clear h8
        go_wp2_with fail
        go_roundw
        case rel => exact ⟨k + 1, by omega, by go_num, HV.out, by first | rfl | trivial⟩
        case measure => simp [intOf]; omega
    · obtain rfl : k = ln := by omega
      have HV := Lib.hid (show F = ((decide (5 < k) && decide (k ≤ 12)) || decide (30 < k)) by rw [HF.out, HK.out]; rfl)
      by_cases h1 : 5 < k
      all_goals (by_cases h2 : k ≤ 12)
      all_goals (by_cases h3 : 30 < k)
      all_goals
        first
          | (have g1 : decide (5 < k) = true := decide_eq_true h1; have i1 : decide ((5 : Int) < (k : Int)) = true := decide_eq_true (by omega))
          | (have g1 : decide (5 < k) = false := decide_eq_false h1; have i1 : decide ((5 : Int) < (k : Int)) = false := decide_eq_false (by omega))
        first
          | (have g2 : decide (k ≤ 12) = true := decide_eq_true h2; have i2 : decide ((k : Int) ≤ (12 : Int)) = true := decide_eq_true (by omega))
          | (have g2 : decide (k ≤ 12) = false := decide_eq_false h2; have i2 : decide ((k : Int) ≤ (12 : Int)) = false := decide_eq_false (by omega))
        first
          | (have g3 : decide (30 < k) = true := decide_eq_true h3; have i3 : decide ((30 : Int) < (k : Int)) = true := decide_eq_true (by omega))
          | (have g3 : decide (30 < k) = false := decide_eq_false h3; have i3 : decide ((30 : Int) < (k : Int)) = false := decide_eq_false (by omega))
        rw [g1, g2, g3] at HV
        clear h1 h2 h3
        go_wp2_with fail
        go_ret
        exact ⟨ret_bool (by rw [HV.out]; rfl), by first | rfl | trivial⟩
end
end Go.Proofs.YtkdpmihdhiokkaaDoor
