/- The reference's Check of legs; valid. -/
import Derived.Test.YtkdpmihdhiokkaaDoorR7
import Derived.Test.YtkdpmihdhiokkaaDoorR10
import Derived.Test.YtkdpmihdhiokkaaDoorK22
namespace Go.Proofs.YtkdpmihdhiokkaaDoor
open Go.RowKit

section
variable (W H : Int) (dA tA sA lA : Option Addr) (nd dc nt tc ns sc ln lc B : Nat) (dep : Nat → Int) (tide : Nat → Nat → Int) (sw : Nat → Int) (w : World)
set_option maxRecDepth 100000 in
set_option maxHeartbeats 3200000 in
theorem rcheck_bad (hnd : nd ≤ maxLen) (hnt : nt ≤ maxLen) (hns : ns ≤ maxLen) (hR : RdC w B dA tA sA nd nt ns dep tide sw) (hB : B ≤ w.heap.size) (hbad : M.chkC W H nd nt ns dep tide sw = false) :
    Calls Tryd.prog 26 #[.agg #[.int .i64 W, .int .i64 H, .slice dA nd dc, .slice tA nt tc, .slice sA ns sc], .slice lA ln lc] w fun e w' => e = .returned (.int .i64 10) ∧ Below w.heap.size w w' := by
  have HB0 := Lib.hid (belowAlloc w (.cells #[.int .i64 W, .int .i64 H, .slice dA nd dc, .slice tA nt tc, .slice sA ns sc] 25))
  have HC := Lib.hid (rchk_any W H dA tA sA nd dc nt tc ns sc B dep tide sw (w.alloc (.cells #[.int .i64 W, .int .i64 H, .slice dA nd dc, .slice tA nt tc, .slice sA ns sc] 25)) hnd hnt hns (hR.below (HB0.out.mono hB)) (Nat.le_trans hB HB0.out.size))
  rw [hbad, if_neg (by simp)] at HC
  clear hR hbad
  go_enter Tryd.func26, Tryd.ntmps26
  go_wp2_with (go_at_call 50; go_must (refine HC.out.mono ?_); rintro e w1 ⟨rfl, hb1⟩; have HB1 := Lib.hid (HB0.out.trans (hb1.mono HB0.out.size)); clear hb1)
  go_ret
  exact ⟨rfl, HB1.out⟩
end
section
variable (s : M.Sea) (dA tA sA lA : Option Addr) (dc tc sc ln lc B : Nat) (L : Nat → M.Leg) (w : World)
set_option maxRecDepth 100000 in
set_option maxHeartbeats 6400000 in
theorem rcheck_ok (hs : s.Ok) (hR : RdC w B dA tA sA s.nd s.nt s.nt s.dep s.tide s.sw) (hB : B ≤ w.heap.size) (hL : RdL w B lA ln L) (hln : ln ≤ 1048576) :
    Calls Tryd.prog 26 #[.agg #[.int .i64 (s.W : Int), .int .i64 (s.H : Int), .slice dA s.nd dc, .slice tA s.nt tc, .slice sA s.nt sc], .slice lA ln lc] w fun e w' => e = .returned (.int .i64 (M.legsE s ln L)) ∧ Below w.heap.size w w' := by
  have hnd := hs.nd1
  have hnt := hs.t2
  have HLE := Lib.hid (show M.legsE s ln L = if (decide (ln ≤ 12) && M.allTo ln fun i => M.legOk s (L i)) = true then 0 else 60 from rfl)
  obtain ⟨E, hE⟩ : ∃ E, E = M.legsE s ln L := ⟨_, rfl⟩
  rw [← hE] at HLE
  rw [← hE]
  have HB0 := Lib.hid (belowAlloc w (.cells #[.int .i64 (s.W : Int), .int .i64 (s.H : Int), .slice dA s.nd dc, .slice tA s.nt tc, .slice sA s.nt sc] 25))
  have C0 := Lib.hid (Blk.new w 25 #[.int .i64 (s.W : Int), .int .i64 (s.H : Int), .slice dA s.nd dc, .slice tA s.nt tc, .slice sA s.nt sc])
  have HC := Lib.hid (rchk_any (s.W : Int) (s.H : Int) dA tA sA s.nd dc s.nt tc s.nt sc B s.dep s.tide s.sw (w.alloc (.cells #[.int .i64 (s.W : Int), .int .i64 (s.H : Int), .slice dA s.nd dc, .slice tA s.nt tc, .slice sA s.nt sc] 25)) (by unfold maxLen; omega) (by unfold maxLen; omega) (by unfold maxLen; omega) (hR.below (HB0.out.mono hB)) (Nat.le_trans hB HB0.out.size))
  rw [hs.chk, if_pos rfl] at HC
  have HIS := Lib.hid (fun W (hb : Below w.heap.size w W) k cA cc (hl : Rd1 W B cA (L k).n (L k).c) (hn : (L k).n ≤ maxLen) => isleg_ok s dA tA sA cA dc tc sc cc B (L k) W hs (hR.below (hb.mono hB)) (Nat.le_trans hB hb.size) hl hn)
  have HL := Lib.hid (fun W (hb : Below w.heap.size w W) => hL.below (hb.mono hB))
  have HBB := Lib.hid hB
  clear hE hs hR hL hB
  go_enter Tryd.func26, Tryd.ntmps26
  by_cases h12 : 12 < ln
  · have g1 : decide (12 < ln) = true := decide_eq_true h12
    have i1 : decide ((12 : Int) < (ln : Int)) = true := decide_eq_true (by omega)
    have HV := Lib.hid (show E = 60 by rw [HLE.out, decide_eq_false (by omega)]; rfl)
    clear h12
    go_wp2_with (go_at_call 50; go_must (refine HC.out.mono ?_); rintro e w1 ⟨rfl, hb1⟩; have HB1 := Lib.hid (HB0.out.trans (hb1.mono HB0.out.size)); clear hb1)
    go_ret
    exact ⟨by rw [HV.out]; rfl, HB1.out⟩
  · have g1 : decide (12 < ln) = false := decide_eq_false h12
    have i1 : decide ((12 : Int) < (ln : Int)) = false := decide_eq_false (by omega)
    have HV := Lib.hid (show E = if (M.allTo ln fun i => M.legOk s (L i)) = true then 0 else 60 by rw [HLE.out, decide_eq_true (show ln ≤ 12 by omega), Bool.true_and])
    go_wp2_with (go_at_call 50; go_must (refine HC.out.mono ?_); rintro e w1 ⟨rfl, hb1⟩; have HB1 := Lib.hid (HB0.out.trans (hb1.mono HB0.out.size)); have C1 := Lib.hid (C0.out.below' hb1); clear hb1)
    obtain ⟨Y, rfl⟩ : ∃ Y, Y = w1 := ⟨_, rfl⟩
    have hzY := HB1.out.size
    go_loopw [5] (fun i wr => ∃ k : Nat, k ≤ ln ∧ i = .int .i64 (k : Int) ∧ Hid (M.allTo k (fun i => M.legOk s (L i)) = true) ∧ Below Y.heap.size Y wr) (fun i _ => ln - (intOf i).toNat)
    case atStart => exact ⟨0, Nat.zero_le _, rfl, Lib.hid rfl, Below.refl _ _⟩
    case round =>
      obtain ⟨k, hk, rfl, HF, hbw⟩ := hrel
      have HCr := Lib.hid (C1.out.below' hbw)
      have HW := Lib.hid (HB1.out.trans (hbw.mono hzY))
      have HWY := Lib.hid hbw
      have hz := hbw.size
      clear hbw
      by_cases hlt : k < ln
      · obtain ⟨b, off, hlA, hb, q0, q1, q2, q3, cA, cc, q4, hr, hm⟩ := (HL.out wr HW.out).at_ hlt
        subst hlA
        have hbw : b < wr.heap.size := by have := HW.out.size; have := HBB.out; omega
        have HLC := Lib.hid (fun W (hb' : Below wr.heap.size wr W) => (show W.cell? ⟨b, off + k * 5, none⟩ = some (.int .i64 (L k).at_) ∧ W.cell? ⟨b, off + k * 5 + 1, none⟩ = some (.int .i64 (L k).lv) ∧ W.cell? ⟨b, off + k * 5 + 2, none⟩ = some (.int .i64 (L k).dr) ∧ W.cell? ⟨b, off + k * 5 + 3, none⟩ = some (.bool (L k).tail) ∧ W.cell? ⟨b, off + k * 5 + 4, none⟩ = some (.slice cA (L k).n cc) from
          ⟨(hb'.cell (p := ⟨b, _, none⟩) hbw).trans q0, (hb'.cell (p := ⟨b, _, none⟩) hbw).trans q1, (hb'.cell (p := ⟨b, _, none⟩) hbw).trans q2, (hb'.cell (p := ⟨b, _, none⟩) hbw).trans q3, (hb'.cell (p := ⟨b, _, none⟩) hbw).trans q4⟩))
        have HIL := Lib.hid (fun W (hb' : Below wr.heap.size wr W) => HIS.out W (HW.out.trans (hb'.mono HW.out.size)) k cA cc (hr.below (hb'.mono (Nat.le_trans HBB.out HW.out.size))) hm)
        have k1 : (k : Int) < (ln : Int) := by omega
        have HNS := Lib.hid (show M.allTo (k + 1) (fun i => M.legOk s (L i)) = (M.allTo k (fun i => M.legOk s (L i)) && M.legOk s (L k)) from rfl)
        have HNO := Lib.hid (fun h : M.legOk s (L k) = false => (show E = 60 by rw [HV.out, M.allTo_no (n := ln) (p := fun i => M.legOk s (L i)) hlt h]; rfl))
        obtain ⟨ok, hok⟩ : ∃ ok, ok = M.legOk s (L k) := ⟨_, rfl⟩
        rw [← hok] at HIL HNS HNO
        clear hok q0 q1 q2 q3 q4 hr hm hb
        go_upto_region 8 with fail
        refine wp_region_T 6 (fun w' => Below wr.heap.size wr w') (by kernel_rfl) (Below.refl _ _).drew ?_
        intro hS
        refine wpAnyT_take (i := 0) (v := ?_) rfl (by kernel_rfl) (by kernel_rfl) (by kernel_rfl) (by kernel_rfl) (by kernel_rfl) (fun _ _ _ h => h) (.inl ⟨by kernel_rfl, ?_⟩) hS ?_
        rotate_left
        · (intro w' hw; have a0 := (HCr.out.below' hw).cell 0; have a1 := (HCr.out.below' hw).cell 1; have a2 := (HCr.out.below' hw).cell 2; have a3 := (HCr.out.below' hw).cell 3; have a4 := (HCr.out.below' hw).cell 4; obtain ⟨b0, b1, b2, b3, b4⟩ := HLC.out w' hw; go_simp; try with_reducible rfl)
        try simp only [Act.put, List.setIfInBounds_toArray, List.set_cons_zero, List.set_cons_succ]
        refine wpAnyT_take (i := 1) (v := ?_) rfl (by kernel_rfl) (by kernel_rfl) (by kernel_rfl) (by kernel_rfl) (by kernel_rfl) (fun _ _ _ h => h) (.inl ⟨by kernel_rfl, ?_⟩) hS ?_
        rotate_left
        · (intro w' hw; have a0 := (HCr.out.below' hw).cell 0; have a1 := (HCr.out.below' hw).cell 1; have a2 := (HCr.out.below' hw).cell 2; have a3 := (HCr.out.below' hw).cell 3; have a4 := (HCr.out.below' hw).cell 4; obtain ⟨b0, b1, b2, b3, b4⟩ := HLC.out w' hw; go_simp; try with_reducible rfl)
        try simp only [Act.put, List.setIfInBounds_toArray, List.set_cons_zero, List.set_cons_succ]
        refine wpAnyT_take (i := 2) (v := ?_) rfl (by kernel_rfl) (by kernel_rfl) (by kernel_rfl) (by kernel_rfl) (by kernel_rfl) (fun _ _ _ h => h) (.inl ⟨by kernel_rfl, ?_⟩) hS ?_
        rotate_left
        · (intro w' hw; have a0 := (HCr.out.below' hw).cell 0; have a1 := (HCr.out.below' hw).cell 1; have a2 := (HCr.out.below' hw).cell 2; have a3 := (HCr.out.below' hw).cell 3; have a4 := (HCr.out.below' hw).cell 4; obtain ⟨b0, b1, b2, b3, b4⟩ := HLC.out w' hw; go_simp; try with_reducible rfl)
        try simp only [Act.put, List.setIfInBounds_toArray, List.set_cons_zero, List.set_cons_succ]
        refine wpAnyT_take (i := 3) (v := ?_) rfl (by kernel_rfl) (by kernel_rfl) (by kernel_rfl) (by kernel_rfl) (by kernel_rfl) (fun _ _ _ h => h) (.inl ⟨by kernel_rfl, ?_⟩) hS ?_
        rotate_left
        · (intro w' hw; have a0 := (HCr.out.below' hw).cell 0; have a1 := (HCr.out.below' hw).cell 1; have a2 := (HCr.out.below' hw).cell 2; have a3 := (HCr.out.below' hw).cell 3; have a4 := (HCr.out.below' hw).cell 4; obtain ⟨b0, b1, b2, b3, b4⟩ := HLC.out w' hw; go_simp; try with_reducible rfl)
        try simp only [Act.put, List.setIfInBounds_toArray, List.set_cons_zero, List.set_cons_succ]
        refine wpAnyT_take (i := 4) (v := ?_) rfl (by kernel_rfl) (by kernel_rfl) (by kernel_rfl) (by kernel_rfl) (by kernel_rfl) (fun _ _ _ h => h) (.inl ⟨by kernel_rfl, ?_⟩) hS ?_
        rotate_left
        · (intro w' hw; have a0 := (HCr.out.below' hw).cell 0; have a1 := (HCr.out.below' hw).cell 1; have a2 := (HCr.out.below' hw).cell 2; have a3 := (HCr.out.below' hw).cell 3; have a4 := (HCr.out.below' hw).cell 4; obtain ⟨b0, b1, b2, b3, b4⟩ := HLC.out w' hw; go_simp; try with_reducible rfl)
        try simp only [Act.put, List.setIfInBounds_toArray, List.set_cons_zero, List.set_cons_succ]
        refine wpAnyT_one (i := 5) (by kernel_rfl) rfl ?_
        intro K' hK'
        go_simp
        refine (HIL.out _ (Below.drew (Below.refl _ _))).mono ?_
        rintro e w8 ⟨rfl, hb8⟩
        have hS' := Below.trans hS (Below.mono hb8 (Below.size hS))
        clear hS
        have hS := hS'
        clear hS' hb8
        refine hK'.out _ _ (.inr hS) ?_
        clear hK' K'
        try simp only [Act.put, List.setIfInBounds_toArray, List.set_cons_zero, List.set_cons_succ]
        refine wpAnyT_one (i := 6) (by kernel_rfl) rfl ?_
        intro K' hK'
        go_simp
        refine hK'.out _ _ (.inl rfl) ?_
        clear hK' K'
        try simp only [Act.put, List.setIfInBounds_toArray, List.set_cons_zero, List.set_cons_succ]
        refine wpAnyT_done (by kernel_rfl) ?_ _
        cases ok
        · have HEF := Lib.hid (HNO.out rfl)
          go_wp2_with fail
          go_ret
          exact ⟨by rw [HEF.out]; rfl, HW.out.trans (Below.mono hS HW.out.size)⟩
        · go_wp2_with fail
          go_roundw
          case rel => exact ⟨k + 1, by omega, by go_num, Lib.hid (by rw [HNS.out, HF.out]; rfl), HWY.out.trans (Below.mono hS hz)⟩
          case measure => simp [intOf]; omega
      · obtain rfl : k = ln := by omega
        have HEF := Lib.hid (show E = 0 by rw [HV.out, HF.out]; rfl)
        go_wp2_with fail
        go_ret
        exact ⟨by rw [HEF.out]; rfl, HW.out⟩
end
section
variable (W H : Int) (dA tA sA lA : Option Addr) (nd dc nt tc ns sc ln lc B : Nat) (dep : Nat → Int) (tide : Nat → Nat → Int) (sw : Nat → Int) (L : Nat → M.Leg) (w : World)
/-- what valid says -/
def M.ValidP (W H : Int) (nd nt ns : Nat) (dep : Nat → Int) (tide : Nat → Nat → Int) (sw : Nat → Int) (ln : Nat) (L : Nat → M.Leg) : Prop := ∃ W' H' : Nat, W = W' ∧ H = H' ∧ ns = nt ∧ M.Sea.Ok ⟨W', H', nd, nt, dep, tide, sw⟩ ∧ nd ≤ 20 ∧ nt ≤ 8 ∧ ln ≤ 5 ∧ M.legsOk ⟨W', H', nd, nt, dep, tide, sw⟩ ln L = true
set_option maxRecDepth 100000 in
set_option maxHeartbeats 3200000 in
theorem valid_cl (hnd : nd ≤ maxLen) (hnt : nt ≤ maxLen) (hns : ns ≤ maxLen) (hln : ln ≤ maxLen) (hR : RdC w B dA tA sA nd nt ns dep tide sw) (hB : B ≤ w.heap.size) (hL : RdL w B lA ln L) :
    Calls Tryd.prog 11 #[.agg #[.int .i64 W, .int .i64 H, .slice dA nd dc, .slice tA nt tc, .slice sA ns sc], .slice lA ln lc] w fun e w' => (∃ V : Bool, e = .returned (.bool V) ∧ (V = true → M.ValidP W H nd nt ns dep tide sw ln L)) ∧ Below w.heap.size w w' := by
  have HB0 := Lib.hid (belowAlloc w (.cells #[.int .i64 W, .int .i64 H, .slice dA nd dc, .slice tA nt tc, .slice sA ns sc] 25))
  have C0 := Lib.hid (Blk.new w 25 #[.int .i64 W, .int .i64 H, .slice dA nd dc, .slice tA nt tc, .slice sA ns sc])
  have HFC := Lib.hid (far_any W H dA tA sA nd dc nt tc ns sc B dep tide sw (w.alloc (.cells #[.int .i64 W, .int .i64 H, .slice dA nd dc, .slice tA nt tc, .slice sA ns sc] 25)) hnd hnt hns (hR.below (HB0.out.mono hB)) (Nat.le_trans hB HB0.out.size))
  have HFL := Lib.hid (fun V (hb : Below w.heap.size w V) => farlegs_any lA ln lc B L V (hL.below (hb.mono hB)) hln)
  have HCB := Lib.hid (fun (h : M.chkC W H nd nt ns dep tide sw = false) V (hb : Below w.heap.size w V) => rcheck_bad W H dA tA sA lA nd dc nt tc ns sc ln lc B dep tide sw V hnd hnt hns (hR.below (hb.mono hB)) (Nat.le_trans hB hb.size) h)
  cases hf : M.farC W H nd nt ns dep tide sw
  · rw [hf] at HFC
    cases hl : M.farL ln L
    · rw [hl] at HFL
      by_cases h5 : ln ≤ 5
      · have g5 : decide (ln ≤ 5) = true := decide_eq_true h5
        have i5 : decide ((ln : Int) ≤ 5) = true := decide_eq_true (by omega)
        cases hc : M.chkC W H nd nt ns dep tide sw
        · have HC := Lib.hid (HCB.out hc)
          clear hf hl h5 hc hR hL
          go_enter Tryd.func11, Tryd.ntmps11
          go_wp2_with (first
            | (go_at_call 22; go_must (refine HFC.out.mono ?_); rintro e w1 ⟨rfl, hb1⟩; have HB1 := Lib.hid (HB0.out.trans (hb1.mono HB0.out.size)); have C1 := Lib.hid (C0.out.below' hb1); have c0 := C1.out.cell 0; have c1 := C1.out.cell 1; have c2 := C1.out.cell 2; have c3 := C1.out.cell 3; have c4 := C1.out.cell 4; clear hb1)
            | (go_at_call 23; go_must (refine (HFL.out _ HB1.out).mono ?_); rintro e w2 ⟨rfl, h2⟩; rw [h2]; clear h2)
            | (go_at_call 26; go_must (refine (HC.out _ HB1.out).mono ?_); rintro e w3 ⟨rfl, hb3⟩; have HB3 := Lib.hid (HB1.out.trans (hb3.mono HB1.out.size)); clear hb3))
          go_ret
          exact ⟨⟨_, rfl, fun h => by cases h⟩, HB3.out⟩
        · obtain ⟨W', H', rfl, rfl, rfl, hs⟩ := M.chkC_ok hc
          have HC := Lib.hid (fun V (hb : Below w.heap.size w V) => (show Calls Tryd.prog 26 #[.agg #[.int .i64 (W' : Int), .int .i64 (H' : Int), .slice dA nd dc, .slice tA ns tc, .slice sA ns sc], .slice lA ln lc] V fun e w' => e = .returned (.int .i64 (M.legsE ⟨W', H', nd, ns, dep, tide, sw⟩ ln L)) ∧ Below V.heap.size V w' from rcheck_ok ⟨W', H', nd, ns, dep, tide, sw⟩ dA tA sA lA dc tc sc ln lc B L V hs (hR.below (hb.mono hB)) (Nat.le_trans hB hb.size) (hL.below (hb.mono hB)) (by omega)))
          have HBD := Lib.hid (show nd ≤ 20 ∧ ns ≤ 8 by
            unfold M.farC at hf
            rw [hc] at hf
            simp only [Bool.or_eq_false_iff, decide_eq_false_iff_not, Bool.true_and] at hf
            omega)
          cases ho : M.legsOk ⟨W', H', nd, ns, dep, tide, sw⟩ ln L
          · have HE := Lib.hid (show M.legsE ⟨W', H', nd, ns, dep, tide, sw⟩ ln L = 60 by unfold M.legsE; rw [ho]; rfl)
            rw [HE.out] at HC
            clear hf hl h5 hc hR hL ho hs
            go_enter Tryd.func11, Tryd.ntmps11
            go_wp2_with (first
              | (go_at_call 22; go_must (refine HFC.out.mono ?_); rintro e w1 ⟨rfl, hb1⟩; have HB1 := Lib.hid (HB0.out.trans (hb1.mono HB0.out.size)); have C1 := Lib.hid (C0.out.below' hb1); have c0 := C1.out.cell 0; have c1 := C1.out.cell 1; have c2 := C1.out.cell 2; have c3 := C1.out.cell 3; have c4 := C1.out.cell 4; clear hb1)
              | (go_at_call 23; go_must (refine (HFL.out _ HB1.out).mono ?_); rintro e w2 ⟨rfl, h2⟩; rw [h2]; clear h2)
              | (go_at_call 26; go_must (refine (HC.out _ HB1.out).mono ?_); rintro e w3 ⟨rfl, hb3⟩; have HB3 := Lib.hid (HB1.out.trans (hb3.mono HB1.out.size)); clear hb3))
            go_ret
            exact ⟨⟨_, rfl, fun h => by cases h⟩, HB3.out⟩
          · have HE := Lib.hid (show M.legsE ⟨W', H', nd, ns, dep, tide, sw⟩ ln L = 0 by unfold M.legsE; rw [ho]; rfl)
            rw [HE.out] at HC
            have HP := Lib.hid (show M.ValidP (W' : Int) (H' : Int) nd ns ns dep tide sw ln L from ⟨W', H', rfl, rfl, rfl, hs, HBD.out.1, HBD.out.2, h5, ho⟩)
            clear hf hl h5 hc hR hL ho hs
            go_enter Tryd.func11, Tryd.ntmps11
            go_wp2_with (first
              | (go_at_call 22; go_must (refine HFC.out.mono ?_); rintro e w1 ⟨rfl, hb1⟩; have HB1 := Lib.hid (HB0.out.trans (hb1.mono HB0.out.size)); have C1 := Lib.hid (C0.out.below' hb1); have c0 := C1.out.cell 0; have c1 := C1.out.cell 1; have c2 := C1.out.cell 2; have c3 := C1.out.cell 3; have c4 := C1.out.cell 4; clear hb1)
              | (go_at_call 23; go_must (refine (HFL.out _ HB1.out).mono ?_); rintro e w2 ⟨rfl, h2⟩; rw [h2]; clear h2)
              | (go_at_call 26; go_must (refine (HC.out _ HB1.out).mono ?_); rintro e w3 ⟨rfl, hb3⟩; have HB3 := Lib.hid (HB1.out.trans (hb3.mono HB1.out.size)); clear hb3))
            go_ret
            exact ⟨⟨_, rfl, fun _ => HP.out⟩, HB3.out⟩
      · have g5 : decide (ln ≤ 5) = false := decide_eq_false h5
        have i5 : decide ((ln : Int) ≤ 5) = false := decide_eq_false (by omega)
        clear hf hl h5 hR hL
        go_enter Tryd.func11, Tryd.ntmps11
        go_wp2_with (first
          | (go_at_call 22; go_must (refine HFC.out.mono ?_); rintro e w1 ⟨rfl, hb1⟩; have HB1 := Lib.hid (HB0.out.trans (hb1.mono HB0.out.size)); clear hb1)
          | (go_at_call 23; go_must (refine (HFL.out _ HB1.out).mono ?_); rintro e w2 ⟨rfl, h2⟩; rw [h2]; clear h2))
        go_ret
        exact ⟨⟨_, rfl, fun h => by cases h⟩, HB1.out⟩
    · rw [hl] at HFL
      clear hf hl hR hL
      go_enter Tryd.func11, Tryd.ntmps11
      go_wp2_with (first
        | (go_at_call 22; go_must (refine HFC.out.mono ?_); rintro e w1 ⟨rfl, hb1⟩; have HB1 := Lib.hid (HB0.out.trans (hb1.mono HB0.out.size)); clear hb1)
        | (go_at_call 23; go_must (refine (HFL.out _ HB1.out).mono ?_); rintro e w2 ⟨rfl, h2⟩; rw [h2]; clear h2))
      go_ret
      exact ⟨⟨_, rfl, fun h => by cases h⟩, HB1.out⟩
  · rw [hf] at HFC
    clear hf hR hL
    go_enter Tryd.func11, Tryd.ntmps11
    go_wp2_with (go_at_call 22; go_must (refine HFC.out.mono ?_); rintro e w1 ⟨rfl, hb1⟩; have HB1 := Lib.hid (HB0.out.trans (hb1.mono HB0.out.size)); clear hb1)
    go_ret
    exact ⟨⟨_, rfl, fun h => by cases h⟩, HB1.out⟩
end
end Go.Proofs.YtkdpmihdhiokkaaDoor
/- What Check answers for any chart and legs; the functions of lanes where it is an error. -/
namespace Go.Proofs.YtkdpmihdhiokkaaDoor
open Go.RowKit

/-- the answer of Check for any chart and legs -/
def M.chkE (W H : Int) (nd nt ns : Nat) (dep : Nat → Int) (tide : Nat → Nat → Int) (sw : Nat → Int) (n : Nat) (L : Nat → M.Leg) : Int :=
  if M.chkC W H nd nt ns dep tide sw then M.legsE ⟨W.toNat, H.toNat, nd, nt, dep, tide, sw⟩ n L else 10
theorem M.Sea.Ok.chkE {s : M.Sea} (h : s.Ok) (n : Nat) (L : Nat → M.Leg) : M.chkE s.W s.H s.nd s.nt s.nt s.dep s.tide s.sw n L = M.legsE s n L := by
  unfold M.chkE
  rw [h.chk]
  rfl
section
variable (W H : Int) (dA tA sA lA : Option Addr) (nd dc nt tc ns sc ln lc B : Nat) (dep : Nat → Int) (tide : Nat → Nat → Int) (sw : Nat → Int) (L : Nat → M.Leg) (w : World)
theorem lopen_err (hnd : nd ≤ maxLen) (hnt : nt ≤ maxLen) (hns : ns ≤ maxLen) (hw : Ways w) (hR : RdC w B dA tA sA nd nt ns dep tide sw) (hB : B ≤ w.heap.size) (hL : RdL w B lA ln L) (hln : ln ≤ 1048576) (hE : M.chkE W H nd nt ns dep tide sw ln L ≠ 0) :
    Calls Tryd.prog 40 #[.agg #[.int .i64 W, .int .i64 H, .slice dA nd dc, .slice tA nt tc, .slice sA ns sc], .slice lA ln lc] w fun e w' => e = .returned (.tuple #[.pointer none, .int .i64 (M.chkE W H nd nt ns dep tide sw ln L)]) ∧ Below w.heap.size w w' := by
  cases hc : M.chkC W H nd nt ns dep tide sw
  · have h : M.chkE W H nd nt ns dep tide sw ln L = 10 := by unfold M.chkE; rw [hc]; rfl
    rw [h]
    exact lopen_bad W H dA tA sA lA nd dc nt tc ns sc ln lc B dep tide sw w hnd hnt hns hR hB hc
  · obtain ⟨W', H', rfl, rfl, rfl, hs⟩ := M.chkC_ok hc
    have h := lopen_any ⟨W', H', nd, ns, dep, tide, sw⟩ dA tA sA lA dc tc sc ln lc B L w hs hw hR hB hL hln
    rw [M.Sea.Ok.chkE hs] at hE ⊢
    unfold M.legsE at hE ⊢
    by_cases ho : M.legsOk ⟨W', H', nd, ns, dep, tide, sw⟩ ln L = true
    · rw [if_pos ho] at hE; exact absurd rfl hE
    · rw [if_neg ho]
      simp only [if_neg ho] at h
      exact h
theorem lcheck_any (hnd : nd ≤ maxLen) (hnt : nt ≤ maxLen) (hns : ns ≤ maxLen) (hw : Ways w) (hR : RdC w B dA tA sA nd nt ns dep tide sw) (hB : B ≤ w.heap.size) (hL : RdL w B lA ln L) (hln : ln ≤ 1048576) :
    Calls Tryd.prog 25 #[.agg #[.int .i64 W, .int .i64 H, .slice dA nd dc, .slice tA nt tc, .slice sA ns sc], .slice lA ln lc] w fun e w' => e = .returned (.int .i64 (M.chkE W H nd nt ns dep tide sw ln L)) ∧ Below w.heap.size w w' := by
  by_cases hE : M.chkE W H nd nt ns dep tide sw ln L = 0
  · cases hc : M.chkC W H nd nt ns dep tide sw
    · unfold M.chkE at hE
      rw [hc] at hE
      exact absurd (show (10 : Int) = 0 from hE) (by decide)
    · obtain ⟨W', H', rfl, rfl, rfl, hs⟩ := M.chkC_ok hc
      rw [M.Sea.Ok.chkE hs]
      exact lchk_any ⟨W', H', nd, ns, dep, tide, sw⟩ dA tA sA lA dc tc sc ln lc B L w hs hw hR hB hL hln
  · have HB0 := Lib.hid (belowAlloc w (.cells #[.int .i64 W, .int .i64 H, .slice dA nd dc, .slice tA nt tc, .slice sA ns sc] 25))
    have HO := Lib.hid (lopen_err W H dA tA sA lA nd dc nt tc ns sc ln lc w.heap.size dep tide sw L (w.alloc (.cells #[.int .i64 W, .int .i64 H, .slice dA nd dc, .slice tA nt tc, .slice sA ns sc] 25)) hnd hnt hns (hw.below HB0.out) ((hR.below (HB0.out.mono hB)).more hB) HB0.out.size ((hL.below (HB0.out.mono hB)).more hB) hln hE)
    obtain ⟨E, hEE⟩ : ∃ E, E = M.chkE W H nd nt ns dep tide sw ln L := ⟨_, rfl⟩
    rw [← hEE] at HO
    rw [← hEE]
    clear hE hEE hw hR hL
    go_enter Tryd.func25, Tryd.ntmps25
    go_wp2_with (go_at_call 40; go_must (refine HO.out.mono ?_); rintro e w1 ⟨rfl, hb1⟩; have HB1 := Lib.hid (HB0.out.trans (hb1.mono HB0.out.size)); clear hb1)
    go_ret
    exact ⟨rfl, HB1.out⟩
theorem rcheck_any (hnd : nd ≤ maxLen) (hnt : nt ≤ maxLen) (hns : ns ≤ maxLen) (hR : RdC w B dA tA sA nd nt ns dep tide sw) (hB : B ≤ w.heap.size) (hL : RdL w B lA ln L) (hln : ln ≤ 1048576) :
    Calls Tryd.prog 26 #[.agg #[.int .i64 W, .int .i64 H, .slice dA nd dc, .slice tA nt tc, .slice sA ns sc], .slice lA ln lc] w fun e w' => e = .returned (.int .i64 (M.chkE W H nd nt ns dep tide sw ln L)) ∧ Below w.heap.size w w' := by
  cases hc : M.chkC W H nd nt ns dep tide sw
  · have h : M.chkE W H nd nt ns dep tide sw ln L = 10 := by unfold M.chkE; rw [hc]; rfl
    rw [h]
    exact rcheck_bad W H dA tA sA lA nd dc nt tc ns sc ln lc B dep tide sw w hnd hnt hns hR hB hc
  · obtain ⟨W', H', rfl, rfl, rfl, hs⟩ := M.chkC_ok hc
    rw [M.Sea.Ok.chkE hs]
    exact rcheck_ok ⟨W', H', nd, ns, dep, tide, sw⟩ dA tA sA lA dc tc sc ln lc B L w hs hR hB hL hln
end
section
variable (W H : Int) (dA tA sA lA : Option Addr) (nd dc nt tc ns sc ln lc : Nat) (E : Int) (w : World)
set_option maxRecDepth 100000 in
set_option maxHeartbeats 1600000 in
theorem Clashes_err (HO : ∀ V, Below w.heap.size w V → Calls Tryd.prog 40 #[.agg #[.int .i64 W, .int .i64 H, .slice dA nd dc, .slice tA nt tc, .slice sA ns sc], .slice lA ln lc] V fun e w' => e = .returned (.tuple #[.pointer none, .int .i64 E]) ∧ Below V.heap.size V w') (hE : E ≠ 0) :
    Calls Tryd.prog 16 #[.agg #[.int .i64 W, .int .i64 H, .slice dA nd dc, .slice tA nt tc, .slice sA ns sc], .slice lA ln lc] w fun e w' => e = .returned (.tuple #[.slice none 0 0, .int .i64 E]) ∧ Below w.heap.size w w' := by
  have HB0 := Lib.hid (belowAlloc w (.cells #[.int .i64 W, .int .i64 H, .slice dA nd dc, .slice tA nt tc, .slice sA ns sc] 25))
  have HC := Lib.hid (HO _ HB0.out)
  have e1 : (E != 0) = true := by simpa using hE
  clear HO hE
  go_enter Tryd.func16, Tryd.ntmps16
  go_wp2_with (go_at_call 40; go_must (refine HC.out.mono ?_); rintro e w1 ⟨rfl, hb1⟩; have HB1 := Lib.hid (HB0.out.trans (hb1.mono HB0.out.size)); clear hb1)
  go_ret2
  exact ⟨rfl, HB1.out⟩
set_option maxRecDepth 100000 in
set_option maxHeartbeats 1600000 in
theorem Free_err (lv c : Int) (HO : ∀ V, Below w.heap.size w V → Calls Tryd.prog 40 #[.agg #[.int .i64 W, .int .i64 H, .slice dA nd dc, .slice tA nt tc, .slice sA ns sc], .slice lA ln lc] V fun e w' => e = .returned (.tuple #[.pointer none, .int .i64 E]) ∧ Below V.heap.size V w') (hE : E ≠ 0) :
    Calls Tryd.prog 20 #[.agg #[.int .i64 W, .int .i64 H, .slice dA nd dc, .slice tA nt tc, .slice sA ns sc], .slice lA ln lc, .int .i64 lv, .int .i64 c] w fun e w' => e = .returned (.tuple #[.slice none 0 0, .int .i64 E]) ∧ Below w.heap.size w w' := by
  have HB0 := Lib.hid (belowAlloc3 w (.cells #[.int .i64 W, .int .i64 H, .slice dA nd dc, .slice tA nt tc, .slice sA ns sc] 25) (.cells #[.int .i64 lv] 3) (.cells #[.int .i64 c] 3))
  have HC := Lib.hid (HO _ HB0.out)
  have C0 := Lib.hid (((Blk.new w 25 #[.int .i64 W, .int .i64 H, .slice dA nd dc, .slice tA nt tc, .slice sA ns sc]).alloc (.cells #[.int .i64 lv] 3)).alloc (.cells #[.int .i64 c] 3))
  obtain ⟨X, hX⟩ : ∃ X, X = ((w.alloc (.cells #[.int .i64 W, .int .i64 H, .slice dA nd dc, .slice tA nt tc, .slice sA ns sc] 25)).alloc (.cells #[.int .i64 lv] 3)).alloc (.cells #[.int .i64 c] 3) := ⟨_, rfl⟩
  have HXe := Lib.hid hX
  rw [← hX] at HB0 HC C0
  clear hX
  have e1 : (E != 0) = true := by simpa using hE
  clear HO hE
  go_enter Tryd.func20, Tryd.ntmps20
  go_upto_region 1 with fail
  rw [← HXe.out]
  have c0 := C0.out.cell 0
  have c1 := C0.out.cell 1
  have c2 := C0.out.cell 2
  have c3 := C0.out.cell 3
  have c4 := C0.out.cell 4
  go_wp2_with (go_at_call 40; go_must (refine HC.out.mono ?_); rintro e w1 ⟨rfl, hb1⟩; have HB1 := Lib.hid (HB0.out.trans (hb1.mono HB0.out.size)); clear hb1)
  go_ret2
  exact ⟨rfl, HB1.out⟩
end
section
variable (W H : Int) (dA tA sA lA : Option Addr) (nd dc nt tc ns sc ln lc : Nat) (E at_ lv dr fr dst : Int) (tl : Bool) (w : World)
set_option maxRecDepth 100000 in
set_option maxHeartbeats 1600000 in
theorem ask_err (HO : ∀ V, Below w.heap.size w V → Calls Tryd.prog 40 #[.agg #[.int .i64 W, .int .i64 H, .slice dA nd dc, .slice tA nt tc, .slice sA ns sc], .slice lA ln lc] V fun e w' => e = .returned (.tuple #[.pointer none, .int .i64 E]) ∧ Below V.heap.size V w') (hE : E ≠ 0) :
    Calls Tryd.prog 37 #[.agg #[.int .i64 W, .int .i64 H, .slice dA nd dc, .slice tA nt tc, .slice sA ns sc], .slice lA ln lc, .agg #[.int .i64 at_, .int .i64 lv, .int .i64 dr, .bool tl, .int .i64 fr, .int .i64 dst]] w fun e w' => e = .returned (.tuple #[.pointer none, .int .i64 E]) ∧ Below w.heap.size w w' := by
  have HB0 := Lib.hid (belowAlloc2 w (.cells #[.int .i64 W, .int .i64 H, .slice dA nd dc, .slice tA nt tc, .slice sA ns sc] 25) (.cells #[.int .i64 at_, .int .i64 lv, .int .i64 dr, .bool tl, .int .i64 fr, .int .i64 dst] 28))
  have HC := Lib.hid (HO _ HB0.out)
  have C0 := Lib.hid ((Blk.new w 25 #[.int .i64 W, .int .i64 H, .slice dA nd dc, .slice tA nt tc, .slice sA ns sc]).alloc (.cells #[.int .i64 at_, .int .i64 lv, .int .i64 dr, .bool tl, .int .i64 fr, .int .i64 dst] 28))
  have X0 := Lib.hid (Blk.new1 w (.cells #[.int .i64 W, .int .i64 H, .slice dA nd dc, .slice tA nt tc, .slice sA ns sc] 25) 28 #[.int .i64 at_, .int .i64 lv, .int .i64 dr, .bool tl, .int .i64 fr, .int .i64 dst])
  obtain ⟨X, hX⟩ : ∃ X, X = (w.alloc (.cells #[.int .i64 W, .int .i64 H, .slice dA nd dc, .slice tA nt tc, .slice sA ns sc] 25)).alloc (.cells #[.int .i64 at_, .int .i64 lv, .int .i64 dr, .bool tl, .int .i64 fr, .int .i64 dst] 28) := ⟨_, rfl⟩
  have HXe := Lib.hid hX
  rw [← hX] at HB0 HC C0 X0
  clear hX
  have e1 : (E == 0) = false := by simpa using hE
  clear HO hE
  go_enter Tryd.func37, Tryd.ntmps37
  go_upto_region 1 with fail
  rw [← HXe.out]
  have c0 := C0.out.cell 0
  have c1 := C0.out.cell 1
  have c2 := C0.out.cell 2
  have c3 := C0.out.cell 3
  have c4 := C0.out.cell 4
  go_wp2_with (go_at_call 40; go_must (refine HC.out.mono ?_); rintro e w1 ⟨rfl, hb1⟩; have HB1 := Lib.hid (HB0.out.trans (hb1.mono HB0.out.size)); clear hb1)
  go_ret2
  exact ⟨rfl, HB1.out⟩
set_option maxRecDepth 100000 in
set_option maxHeartbeats 1600000 in
theorem Route_err (HO : ∀ V, Below w.heap.size w V → Calls Tryd.prog 40 #[.agg #[.int .i64 W, .int .i64 H, .slice dA nd dc, .slice tA nt tc, .slice sA ns sc], .slice lA ln lc] V fun e w' => e = .returned (.tuple #[.pointer none, .int .i64 E]) ∧ Below V.heap.size V w') (hE : E ≠ 0) :
    Calls Tryd.prog 14 #[.agg #[.int .i64 W, .int .i64 H, .slice dA nd dc, .slice tA nt tc, .slice sA ns sc], .slice lA ln lc, .agg #[.int .i64 at_, .int .i64 lv, .int .i64 dr, .bool tl, .int .i64 fr, .int .i64 dst]] w fun e w' => e = .returned (.tuple #[.slice none 0 0, .int .i64 E]) ∧ Below w.heap.size w w' := by
  have HB0 := Lib.hid (belowAlloc2 w (.cells #[.int .i64 W, .int .i64 H, .slice dA nd dc, .slice tA nt tc, .slice sA ns sc] 25) (.cells #[.int .i64 at_, .int .i64 lv, .int .i64 dr, .bool tl, .int .i64 fr, .int .i64 dst] 28))
  have C0 := Lib.hid ((Blk.new w 25 #[.int .i64 W, .int .i64 H, .slice dA nd dc, .slice tA nt tc, .slice sA ns sc]).alloc (.cells #[.int .i64 at_, .int .i64 lv, .int .i64 dr, .bool tl, .int .i64 fr, .int .i64 dst] 28))
  have X0 := Lib.hid (Blk.new1 w (.cells #[.int .i64 W, .int .i64 H, .slice dA nd dc, .slice tA nt tc, .slice sA ns sc] 25) 28 #[.int .i64 at_, .int .i64 lv, .int .i64 dr, .bool tl, .int .i64 fr, .int .i64 dst])
  obtain ⟨X, hX⟩ : ∃ X, X = (w.alloc (.cells #[.int .i64 W, .int .i64 H, .slice dA nd dc, .slice tA nt tc, .slice sA ns sc] 25)).alloc (.cells #[.int .i64 at_, .int .i64 lv, .int .i64 dr, .bool tl, .int .i64 fr, .int .i64 dst] 28) := ⟨_, rfl⟩
  have HXe := Lib.hid hX
  rw [← hX] at HB0 C0 X0
  clear hX
  have HC := Lib.hid (ask_err W H dA tA sA lA nd dc nt tc ns sc ln lc E at_ lv dr fr dst tl X (fun V hb => HO V (HB0.out.trans (hb.mono HB0.out.size))) hE)
  have e1 : (E != 0) = true := by simpa using hE
  clear HO hE
  go_enter Tryd.func14, Tryd.ntmps14
  go_upto_region 1 with fail
  rw [← HXe.out]
  have c0 := C0.out.cell 0
  have c1 := C0.out.cell 1
  have c2 := C0.out.cell 2
  have c3 := C0.out.cell 3
  have c4 := C0.out.cell 4
  have x0 := X0.out.cell 0
  have x1 := X0.out.cell 1
  have x2 := X0.out.cell 2
  have x3 := X0.out.cell 3
  have x4 := X0.out.cell 4
  have x5 := X0.out.cell 5
  go_wp2_with (go_at_call 37; go_must (refine HC.out.mono ?_); rintro e w1 ⟨rfl, hb1⟩; have HB1 := Lib.hid (HB0.out.trans (hb1.mono HB0.out.size)); clear hb1)
  go_ret2
  exact ⟨rfl, HB1.out⟩
set_option maxRecDepth 100000 in
set_option maxHeartbeats 1600000 in
theorem Block_err (HO : ∀ V, Below w.heap.size w V → Calls Tryd.prog 40 #[.agg #[.int .i64 W, .int .i64 H, .slice dA nd dc, .slice tA nt tc, .slice sA ns sc], .slice lA ln lc] V fun e w' => e = .returned (.tuple #[.pointer none, .int .i64 E]) ∧ Below V.heap.size V w') (hE : E ≠ 0) :
    Calls Tryd.prog 31 #[.agg #[.int .i64 W, .int .i64 H, .slice dA nd dc, .slice tA nt tc, .slice sA ns sc], .slice lA ln lc, .agg #[.int .i64 at_, .int .i64 lv, .int .i64 dr, .bool tl, .int .i64 fr, .int .i64 dst]] w fun e w' => e = .returned (.tuple #[.slice none 0 0, .int .i64 E]) ∧ Below w.heap.size w w' := by
  have HB0 := Lib.hid (belowAlloc2 w (.cells #[.int .i64 W, .int .i64 H, .slice dA nd dc, .slice tA nt tc, .slice sA ns sc] 25) (.cells #[.int .i64 at_, .int .i64 lv, .int .i64 dr, .bool tl, .int .i64 fr, .int .i64 dst] 28))
  have C0 := Lib.hid ((Blk.new w 25 #[.int .i64 W, .int .i64 H, .slice dA nd dc, .slice tA nt tc, .slice sA ns sc]).alloc (.cells #[.int .i64 at_, .int .i64 lv, .int .i64 dr, .bool tl, .int .i64 fr, .int .i64 dst] 28))
  have X0 := Lib.hid (Blk.new1 w (.cells #[.int .i64 W, .int .i64 H, .slice dA nd dc, .slice tA nt tc, .slice sA ns sc] 25) 28 #[.int .i64 at_, .int .i64 lv, .int .i64 dr, .bool tl, .int .i64 fr, .int .i64 dst])
  obtain ⟨X, hX⟩ : ∃ X, X = (w.alloc (.cells #[.int .i64 W, .int .i64 H, .slice dA nd dc, .slice tA nt tc, .slice sA ns sc] 25)).alloc (.cells #[.int .i64 at_, .int .i64 lv, .int .i64 dr, .bool tl, .int .i64 fr, .int .i64 dst] 28) := ⟨_, rfl⟩
  have HXe := Lib.hid hX
  rw [← hX] at HB0 C0 X0
  clear hX
  have HC := Lib.hid (ask_err W H dA tA sA lA nd dc nt tc ns sc ln lc E at_ lv dr fr dst tl X (fun V hb => HO V (HB0.out.trans (hb.mono HB0.out.size))) hE)
  have e1 : (E != 0) = true := by simpa using hE
  clear HO hE
  go_enter Tryd.func31, Tryd.ntmps31
  go_upto_region 1 with fail
  rw [← HXe.out]
  have c0 := C0.out.cell 0
  have c1 := C0.out.cell 1
  have c2 := C0.out.cell 2
  have c3 := C0.out.cell 3
  have c4 := C0.out.cell 4
  have x0 := X0.out.cell 0
  have x1 := X0.out.cell 1
  have x2 := X0.out.cell 2
  have x3 := X0.out.cell 3
  have x4 := X0.out.cell 4
  have x5 := X0.out.cell 5
  go_wp2_with (go_at_call 37; go_must (refine HC.out.mono ?_); rintro e w1 ⟨rfl, hb1⟩; have HB1 := Lib.hid (HB0.out.trans (hb1.mono HB0.out.size)); clear hb1)
  go_ret2
  exact ⟨rfl, HB1.out⟩
end
end Go.Proofs.YtkdpmihdhiokkaaDoor
