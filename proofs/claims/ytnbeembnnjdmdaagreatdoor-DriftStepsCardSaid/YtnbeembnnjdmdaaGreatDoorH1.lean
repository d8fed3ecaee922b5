/- DriftSteps, walked. -/
import Derived.Test.YtnbeembnnjdmdaaGreatDoorE12
namespace Go.Proofs.YtnbeembnnjdmdaaGreatDoor
open Go.RowKit Go.Maps

/-- what Step answers for any drift: the list and the error -/
def M.stpC (nd nt : Nat) (c t l : Int) : Bool := M.inB (-1) ((nd : Int) - 1) c && M.inB 0 ((nt : Int) - 2) t && M.inB 0 8 l
/-- a list of numbers that can be read -/
def Lst (V : World) (v : Value) (L : List Int) : Prop := ∃ A c, v = .slice A L.length c ∧ Rd1 V V.heap.size A L.length (fun i => L.getD i 0)
theorem Lst.nil_ (V : World) : Lst V (.slice none 0 0) [] := ⟨none, 0, rfl, .inl rfl⟩
theorem Lst.below {V V' : World} {v : Value} {L : List Int} (h : Lst V v L) (hb : Below V.heap.size V V') : Lst V' v L := by
  obtain ⟨A, c, e, hr⟩ := h
  exact ⟨A, c, e, (hr.below hb).more hb.size⟩
theorem Lst.of_il {V : World} {B : Nat} {v : Value} {L : List Int} (h : IL V B v L) : Lst V v L := by
  obtain ⟨A, c, rfl⟩ := Own.form h
  exact ⟨A, c, rfl, IL.rd h⟩
section
variable {W H : Int} {dA tA sA zA cA wA : Option Addr} {nd dc nt tc ns sc zn zc cn cc wn wc B : Nat} {dep : Nat → Int} {tide : Nat → Nat → Int} {sw z : Nat → Int} {cl : Nat → Nat} {cu : Nat → Nat → Nat → Int} {wd : Nat → Nat → Int} {w : World}
/-- Step, program and reference, for any drift -/
theorem steps_any (hnd : nd ≤ maxLen) (hnt : nt ≤ maxLen) (hns : ns ≤ maxLen) (hzn : zn ≤ maxLen) (hcn : cn ≤ maxLen) (hwn : wn ≤ maxLen) (c t l : Int) : ∃ (L : List Int) (r : Int), L.length ≤ maxLen ∧
    (∀ (B : Nat) (V : World) (dA tA sA zA cA wA : Option Addr) (dc tc sc zc cc wc : Nat), RdD V B dA tA sA zA cA wA nd nt ns zn cn wn dep tide sw z cl cu wd → B ≤ V.heap.size → Ways V → Calls Tryz.prog 15 #[.agg #[.int .i64 W, .int .i64 H, .slice dA nd dc, .slice tA nt tc, .slice sA ns sc, .slice zA zn zc, .slice cA cn cc, .slice wA wn wc], .int .i64 c, .int .i64 t, .int .i64 l] V fun e w' => (∃ v, e = .returned (.tuple #[v, .int .i64 r]) ∧ Lst w' v L) ∧ Below V.heap.size V w') ∧
    (∀ (B : Nat) (V : World) (dA tA sA zA cA wA : Option Addr) (dc tc sc zc cc wc : Nat), RdD V B dA tA sA zA cA wA nd nt ns zn cn wn dep tide sw z cl cu wd → B ≤ V.heap.size → Calls Tryz.prog 16 #[.agg #[.int .i64 W, .int .i64 H, .slice dA nd dc, .slice tA nt tc, .slice sA ns sc, .slice zA zn zc, .slice cA cn cc, .slice wA wn wc], .int .i64 c, .int .i64 t, .int .i64 l] V fun e w' => (∃ v, e = .returned (.tuple #[v, .int .i64 r]) ∧ Lst w' v L) ∧ Below V.heap.size V w') := by
  cases hE : M.chkD (M.chkC W H nd nt ns dep tide sw) nd nt zn cn wn z cl cu wd
  · refine ⟨[], 20, by unfold maxLen; decide, fun B V dA tA sA zA cA wA dc tc sc zc cc wc hR hB _ => ?_, fun B V dA tA sA zA cA wA dc tc sc zc cc wc hR hB => ?_⟩
    · exact (dStep_bad hnd hnt hns hzn hcn hwn hR hB hE c t l).mono fun e w' h => ⟨⟨_, h.1, Lst.nil_ _⟩, h.2⟩
    · exact (rstep_bad hnd hnt hns hzn hcn hwn hR hB hE c t l).mono fun e w' h => ⟨⟨_, h.1, Lst.nil_ _⟩, h.2⟩
  · obtain ⟨d, hd, rfl, rfl, rfl, rfl, rfl, rfl, rfl, rfl, rfl, rfl, rfl, rfl, rfl, rfl, hcl⟩ := M.chkD_form hE
    cases hq : M.inB (-1) ((d.s.nd : Int) - 1) c && M.inB 0 ((d.s.nt : Int) - 2) t && M.inB 0 8 l
    · refine ⟨[], 1, by unfold maxLen; decide, fun B V dA tA sA zA cA wA dc tc sc zc cc wc hR hB hW => ?_, fun B V dA tA sA zA cA wA dc tc sc zc cc wc hR hB => ?_⟩
      · exact (dStep_ok hd hcl hR hB hW c t l).mono fun e w' h => by
          rw [hq, if_neg (by simp)] at h
          exact ⟨⟨_, h.2, Lst.nil_ _⟩, h.1⟩
      · exact (rStep_ok hd hcl hR hB c t l).mono fun e w' h => by
          rw [hq, if_neg (by simp)] at h
          exact ⟨⟨_, h.2, Lst.nil_ _⟩, h.1⟩
    · refine ⟨M.stepL d t.toNat l c, 0, by have := M.listB_len d.s.nd (M.stepB d t.toNat l c); have := hd.s.nd1; show (M.listB d.s.nd (M.stepB d t.toNat l c)).length ≤ maxLen; unfold maxLen; omega, fun B V dA tA sA zA cA wA dc tc sc zc cc wc hR hB hW => ?_, fun B V dA tA sA zA cA wA dc tc sc zc cc wc hR hB => ?_⟩
      · exact (dStep_ok hd hcl hR hB hW c t l).mono fun e w' h => by
          rw [hq, if_pos rfl] at h
          obtain ⟨hb, v, e1, hi⟩ := h
          exact ⟨⟨v, e1, Lst.of_il hi⟩, hb⟩
      · exact (rStep_ok hd hcl hR hB c t l).mono fun e w' h => by
          rw [hq, if_pos rfl] at h
          obtain ⟨hb, v, e1, hi⟩ := h
          exact ⟨⟨v, e1, Lst.of_il hi⟩, hb⟩
set_option maxRecDepth 100000 in
set_option maxHeartbeats 12800000 in
theorem driftSteps_any (hnd : nd ≤ maxLen) (hnt : nt ≤ maxLen) (hns : ns ≤ maxLen) (hzn : zn ≤ maxLen) (hcn : cn ≤ maxLen) (hwn : wn ≤ maxLen) (hR : RdD w B dA tA sA zA cA wA nd nt ns zn cn wn dep tide sw z cl cu wd) (hB : B ≤ w.heap.size) (hW : Ways w) (c t l : Int) :
    Calls Tryz.prog 3 #[.agg #[.int .i64 W, .int .i64 H, .slice dA nd dc, .slice tA nt tc, .slice sA ns sc, .slice zA zn zc, .slice cA cn cc, .slice wA wn wc], .agg #[.int .i64 c, .int .i64 t, .int .i64 l]] w fun e w' => e = .returned (.bool true) ∧ Below w.heap.size w w' := by
  have HB0 := Lib.hid (belowAlloc2 w (.cells #[.int .i64 W, .int .i64 H, .slice dA nd dc, .slice tA nt tc, .slice sA ns sc, .slice zA zn zc, .slice cA cn cc, .slice wA wn wc] 29) (.cells #[.int .i64 c, .int .i64 t, .int .i64 l] 31))
  have K0 := Lib.hid ((Blk.new w 29 #[.int .i64 W, .int .i64 H, .slice dA nd dc, .slice tA nt tc, .slice sA ns sc, .slice zA zn zc, .slice cA cn cc, .slice wA wn wc]).alloc (.cells #[.int .i64 c, .int .i64 t, .int .i64 l] 31))
  have S0 := Lib.hid (Blk.new1 w (.cells #[.int .i64 W, .int .i64 H, .slice dA nd dc, .slice tA nt tc, .slice sA ns sc, .slice zA zn zc, .slice cA cn cc, .slice wA wn wc] 29) 31 #[.int .i64 c, .int .i64 t, .int .i64 l])
  obtain ⟨L, r, hL, hP, hRf⟩ := steps_any (W := W) (H := H) (dep := dep) (tide := tide) (sw := sw) (z := z) (cl := cl) (cu := cu) (wd := wd) hnd hnt hns hzn hcn hwn c t l
  have HP := Lib.hid hP
  have HRF := Lib.hid hRf
  have HRX := Lib.hid (fun (V : World) (hb : Below w.heap.size w V) => hR.below (hb.mono hB))
  have HFA := Lib.hid (fun (V : World) (hb : Below w.heap.size w V) => rfar_any (dc := dc) (tc := tc) (sc := sc) (zc := zc) (cc := cc) (wc := wc) (W := W) (H := H) hnd hnt hns hzn hcn hwn (hR.below (hb.mono hB)) (Nat.le_trans hB hb.size))
  have HCO := Lib.hid (fun (V : World) (hb : Below w.heap.size w V) (ok : Bool) (hF : FarOk nd nt ns zn cn wn cl ok) => rdcopy_any (dc := dc) (tc := tc) (sc := sc) (zc := zc) (cc := cc) (wc := wc) (W := W) (H := H) hF (hR.below (hb.mono hB)) (Nat.le_trans hB hb.size))
  obtain ⟨ro, hro⟩ : ∃ ro : Int, (if M.chkD (M.chkC W H nd nt ns dep tide sw) nd nt zn cn wn z cl cu wd = true then (0 : Int) else 20) = ro := ⟨_, rfl⟩
  have hCR := fun (V : World) (hb : Below w.heap.size w V) => rdchk_any (dc := dc) (tc := tc) (sc := sc) (zc := zc) (cc := cc) (wc := wc) (W := W) (H := H) hnd hnt hns hzn hcn hwn (hR.below (hb.mono hB)) (Nat.le_trans hB hb.size)
  have hCP := fun (B' : Nat) (V : World) (dA tA sA zA cA wA : Option Addr) (dc tc sc zc cc wc : Nat) (hR' : RdD V B' dA tA sA zA cA wA nd nt ns zn cn wn dep tide sw z cl cu wd) (hB' : B' ≤ V.heap.size) => dCheck_any (dc := dc) (tc := tc) (sc := sc) (zc := zc) (cc := cc) (wc := wc) (W := W) (H := H) hnd hnt hns hzn hcn hwn hR' hB'
  rw [hro] at hCR hCP
  have HCR := Lib.hid hCR
  have HCP := Lib.hid hCP
  have HWK := Lib.hid (fun (V : World) (hb : Below w.heap.size w V) => works_any V (hW.below hb))
  have HWY := Lib.hid (fun (V : World) (hb : Below w.heap.size w V) => hW.below hb)
  have HSI := Lib.hid (fun (V : World) (v1 v2 : Value) (h1 : Lst V v1 L) (h2 : Lst V v2 L) => (show Calls Tryz.prog 19 #[v1, v2] V fun e w' => e = .returned (.bool true) ∧ Below V.heap.size V w' from by
    obtain ⟨A, c1, rfl, r1⟩ := h1
    obtain ⟨A', c2, rfl, r2⟩ := h2
    have := sameInts_any A A' L.length L.length c1 c2 V.heap.size (fun i => L.getD i 0) (fun i => L.getD i 0) V hL hL r1 r2
    rw [same_self] at this
    exact this))
  clear hR hW hP hRf hro hCR hCP hL hnd hnt hns hzn hcn hwn
  go_enter Tryz.func3, Tryz.ntmps3
  go_upto_region 1 with fail
  generalize (w.alloc (.cells #[.int .i64 W, .int .i64 H, .slice dA nd dc, .slice tA nt tc, .slice sA ns sc, .slice zA zn zc, .slice cA cn cc, .slice wA wn wc] 29)).alloc (.cells #[.int .i64 c, .int .i64 t, .int .i64 l] 31) = X at HB0 K0 S0 ⊢
  have HFX := Lib.hid (HFA.out X HB0.out)
  have k0 := K0.out.cell 0
  have k1 := K0.out.cell 1
  have k2 := K0.out.cell 2
  have k3 := K0.out.cell 3
  have k4 := K0.out.cell 4
  have k5 := K0.out.cell 5
  have k6 := K0.out.cell 6
  have k7 := K0.out.cell 7
  go_wp2_with fail
  refine HFX.out.mono ?_
  rintro e w1 ⟨⟨q, rfl, hq⟩, hb⟩
  have HB1 := Lib.hid (HB0.out.trans (hb.mono HB0.out.size))
  have K1 := Lib.hid (K0.out.below' hb)
  have S1 := Lib.hid (S0.out.below' hb)
  have HQ := Lib.hid hq
  clear hb hq k0 k1 k2 k3 k4 k5 k6 k7 K0 S0 HB0 HFX HFA
  cases q
  rotate_left
  · have HWX := Lib.hid (HWK.out w1 HB1.out)
    go_wp2_with fail
    refine HWX.out.mono ?_
    rintro e w2 ⟨rfl, hb⟩
    have HB2 := Lib.hid (HB1.out.trans (hb.mono HB1.out.size))
    clear hb
    go_wp2_with fail
    go_ret
    exact ⟨rfl, HB2.out⟩
  · have HCX := Lib.hid (HCO.out w1 HB1.out _ (HQ.out rfl))
    have k0 := K1.out.cell 0
    have k1 := K1.out.cell 1
    have k2 := K1.out.cell 2
    have k3 := K1.out.cell 3
    have k4 := K1.out.cell 4
    have k5 := K1.out.cell 5
    have k6 := K1.out.cell 6
    have k7 := K1.out.cell 7
    go_upto_region 4 with (go_at_call 14; go_must (refine HCX.out.mono ?_); rintro e w2 ⟨⟨dA', dc', tA', tc', sA', sc', zA', zc', cA', cc', wA', wc', rfl, hrd⟩, hb⟩; have HRD := Lib.hid hrd; have HB2 := Lib.hid (HB1.out.trans (hb.mono HB1.out.size)); have K2 := Lib.hid (K1.out.below' hb); have S2 := Lib.hid (S1.out.below' hb); clear hb hrd)
    have C2 := Lib.hid (Blk.new w2 29 #[.int .i64 W, .int .i64 H, .slice dA' nd dc', .slice tA' nt tc', .slice sA' ns sc', .slice zA' zn zc', .slice cA' cn cc', .slice wA' wn wc'])
    have HA2 := Lib.hid (belowAlloc w2 (.cells #[.int .i64 W, .int .i64 H, .slice dA' nd dc', .slice tA' nt tc', .slice sA' ns sc', .slice zA' zn zc', .slice cA' cn cc', .slice wA' wn wc'] 29))
    have K3 := Lib.hid (K2.out.alloc (.cells #[.int .i64 W, .int .i64 H, .slice dA' nd dc', .slice tA' nt tc', .slice sA' ns sc', .slice zA' zn zc', .slice cA' cn cc', .slice wA' wn wc'] 29))
    have S3 := Lib.hid (S2.out.alloc (.cells #[.int .i64 W, .int .i64 H, .slice dA' nd dc', .slice tA' nt tc', .slice sA' ns sc', .slice zA' zn zc', .slice cA' cn cc', .slice wA' wn wc'] 29))
    have HB3 := Lib.hid (HB2.out.trans (HA2.out.mono HB2.out.size))
    have HR3 := Lib.hid (HRD.out.below HA2.out)
    have hz3 := HA2.out.size
    clear k0 k1 k2 k3 k4 k5 k6 k7
    generalize hg : w2.heap.size = g at C2 HR3 hz3 ⊢
    generalize w2.alloc (.cells #[.int .i64 W, .int .i64 H, .slice dA' nd dc', .slice tA' nt tc', .slice sA' ns sc', .slice zA' zn zc', .slice cA' cn cc', .slice wA' wn wc'] 29) = Y at C2 HA2 K3 S3 HB3 HR3 hz3 ⊢
    have HPX := Lib.hid (HP.out g Y dA' tA' sA' zA' cA' wA' dc' tc' sc' zc' cc' wc' HR3.out hz3 (HWY.out Y HB3.out))
    have k0 := C2.out.cell 0
    have k1 := C2.out.cell 1
    have k2 := C2.out.cell 2
    have k3 := C2.out.cell 3
    have k4 := C2.out.cell 4
    have k5 := C2.out.cell 5
    have k6 := C2.out.cell 6
    have k7 := C2.out.cell 7
    have s0 := S3.out.cell 0
    have s1 := S3.out.cell 1
    have s2 := S3.out.cell 2
    go_upto_region 5 with (go_at_call 15; go_must (refine HPX.out.mono ?_); rintro e w4 ⟨⟨v4, rfl, hl⟩, hb⟩; have HL4 := Lib.hid hl; have HB4 := Lib.hid (HB3.out.trans (hb.mono HB3.out.size)); have K4 := Lib.hid (K3.out.below' hb); have S4 := Lib.hid (S3.out.below' hb); have C4 := Lib.hid (C2.out.below' hb); have HR4 := Lib.hid ((HR3.out.below (hb.mono hz3))); have hz4 := Nat.le_trans hz3 hb.size; clear hb hl)
    clear k0 k1 k2 k3 k4 k5 k6 k7 s0 s1 s2
    have HRX4 := Lib.hid (HRF.out B w4 dA tA sA zA cA wA dc tc sc zc cc wc (HRX.out w4 HB4.out) (Nat.le_trans hB HB4.out.size))
    have k0 := K4.out.cell 0
    have k1 := K4.out.cell 1
    have k2 := K4.out.cell 2
    have k3 := K4.out.cell 3
    have k4 := K4.out.cell 4
    have k5 := K4.out.cell 5
    have k6 := K4.out.cell 6
    have k7 := K4.out.cell 7
    have s0 := S4.out.cell 0
    have s1 := S4.out.cell 1
    have s2 := S4.out.cell 2
    go_upto_region 6 with (go_at_call 16; go_must (refine HRX4.out.mono ?_); rintro e w5 ⟨⟨v5, rfl, hl⟩, hb⟩; have HL5 := Lib.hid hl; have HL6 := Lib.hid (HL4.out.below hb); have HB5 := Lib.hid (HB4.out.trans (hb.mono HB4.out.size)); have K5 := Lib.hid (K4.out.below' hb); have C5 := Lib.hid (C4.out.below' hb); have HR5 := Lib.hid ((HR4.out.below (hb.mono hz4))); have hz5 := Nat.le_trans hz4 hb.size; clear hb hl)
    clear k0 k1 k2 k3 k4 k5 k6 k7 s0 s1 s2
    refine wp_nopanic ?_
    refine wp_region_T 16 (fun w' => Below w5.heap.size w5 w') (by kernel_rfl) (Below.refl _ _).drew ?_
    intro hS
    refine wpAnyT_take (i := 0) (v := ?_) rfl (by kernel_rfl) (by kernel_rfl) (by kernel_rfl) (by kernel_rfl) (by kernel_rfl) (fun _ _ _ h => absurd rfl (h.1 _)) (.inl ⟨by kernel_rfl, ?_⟩) hS ?_
    rotate_left
    · (intro w' hw; have k0 := (C5.out.below' hw).cell 0; have k1 := (C5.out.below' hw).cell 1; have k2 := (C5.out.below' hw).cell 2; have k3 := (C5.out.below' hw).cell 3; have k4 := (C5.out.below' hw).cell 4; have k5 := (C5.out.below' hw).cell 5; have k6 := (C5.out.below' hw).cell 6; have k7 := (C5.out.below' hw).cell 7; go_simp; try with_reducible rfl)
    try simp only [put_laws]
    refine wpAnyT_take (i := 2) (v := ?_) rfl (by kernel_rfl) (by kernel_rfl) (by kernel_rfl) (by kernel_rfl) (by kernel_rfl) (fun _ _ _ h => absurd rfl (h.1 _)) (.inl ⟨by kernel_rfl, ?_⟩) hS ?_
    rotate_left
    · (intro w' hw; have k0 := (K5.out.below' hw).cell 0; have k1 := (K5.out.below' hw).cell 1; have k2 := (K5.out.below' hw).cell 2; have k3 := (K5.out.below' hw).cell 3; have k4 := (K5.out.below' hw).cell 4; have k5 := (K5.out.below' hw).cell 5; have k6 := (K5.out.below' hw).cell 6; have k7 := (K5.out.below' hw).cell 7; go_simp; try with_reducible rfl)
    try simp only [put_laws]
    refine wpAnyT_one (i := 1) (by kernel_rfl) rfl ?_
    intro K' hK'
    go_simp
    refine (HCP.out g w5.drew dA' tA' sA' zA' cA' wA' dc' tc' sc' zc' cc' wc' (HR5.out.below ((Below.refl _ _).drew)) hz5).mono ?_
    rintro e w6 ⟨rfl, hb6⟩
    have hS6 : Below w5.heap.size w5 w6 := hS.trans (hb6.mono (Nat.le_refl _))
    refine hK'.out _ _ (.inr hS6) ?_
    clear hK' K'
    try simp only [put_laws]
    refine wpAnyT_one (i := 3) (by kernel_rfl) rfl ?_
    intro K' hK'
    go_simp
    refine (HCR.out w6 (HB5.out.trans (hS6.mono HB5.out.size))).mono ?_
    rintro e w7 ⟨rfl, hb7⟩
    have hS7 : Below w5.heap.size w5 w7 := hS6.trans (hb7.mono hS6.size)
    refine hK'.out _ _ (.inr hS7) ?_
    clear hK' K'
    try simp only [put_laws]
    refine wpAnyT_one (i := 4) (by kernel_rfl) rfl ?_
    intro K' hK'
    go_simp
    refine hK'.out _ _ (.inr hS7) ?_
    clear hK' K'
    try simp only [put_laws]
    refine wpAnyT_one (i := 5) (by kernel_rfl) rfl ?_
    intro K' hK'
    go_simp
    refine hK'.out _ _ (.inr hS7) ?_
    clear hK' K'
    try simp only [put_laws]
    have hS := hS7
    refine wpAnyT_take (i := 6) (v := ?_) rfl (by kernel_rfl) (by kernel_rfl) (by kernel_rfl) (by kernel_rfl) (by kernel_rfl) (fun _ _ _ h => absurd rfl (h.1 _)) (.inl ⟨by kernel_rfl, ?_⟩) hS ?_
    rotate_left
    · (intro w' hw; go_simp; try with_reducible rfl)
    try simp only [put_laws]
    refine wpAnyT_take (i := 7) (v := ?_) rfl (by kernel_rfl) (by kernel_rfl) (by kernel_rfl) (by kernel_rfl) (by kernel_rfl) (fun _ _ _ h => absurd rfl (h.1 _)) (.inl ⟨by kernel_rfl, ?_⟩) hS ?_
    rotate_left
    · (intro w' hw; go_simp; try with_reducible rfl)
    try simp only [put_laws]
    refine wpAnyT_one (i := 8) (by kernel_rfl) rfl ?_
    intro K' hK'
    go_simp
    refine (HSI.out w7 v4 v5 (HL6.out.below hS7) (HL5.out.below hS7)).mono ?_
    rintro e w8 ⟨rfl, hb8⟩
    have hS8 : Below w5.heap.size w5 w8 := hS7.trans (hb8.mono hS7.size)
    refine hK'.out _ _ (.inr hS8) ?_
    clear hK' K'
    try simp only [put_laws]
    refine wpAnyT_one (i := 9) (by kernel_rfl) rfl ?_
    intro K' hK'
    go_simp
    refine hK'.out _ _ (.inr hS8) ?_
    clear hK' K'
    try simp only [put_laws]
    refine wpAnyT_one (i := 10) (by kernel_rfl) rfl ?_
    intro K' hK'
    go_simp
    refine hK'.out _ _ (.inr hS8) ?_
    clear hK' K'
    try simp only [put_laws]
    have hS := hS8
    refine wpAnyT_take (i := 11) (v := ?_) rfl (by kernel_rfl) (by kernel_rfl) (by kernel_rfl) (by kernel_rfl) (by kernel_rfl) (fun _ _ _ h => absurd rfl (h.1 _)) (.inl ⟨by kernel_rfl, ?_⟩) hS ?_
    rotate_left
    · (intro w' hw; go_simp; try with_reducible rfl)
    try simp only [put_laws]
    refine wpAnyT_take (i := 12) (v := ?_) rfl (by kernel_rfl) (by kernel_rfl) (by kernel_rfl) (by kernel_rfl) (by kernel_rfl) (fun _ _ _ h => absurd rfl (h.1 _)) (.inl ⟨by kernel_rfl, ?_⟩) hS ?_
    rotate_left
    · (intro w' hw; go_simp; try with_reducible rfl)
    try simp only [put_laws]
    refine wpAnyT_one (i := 13) (by kernel_rfl) rfl ?_
    intro K' hK'
    go_simp
    refine hK'.out _ _ (.inr hS8) ?_
    clear hK' K'
    try simp only [put_laws]
    refine wpAnyT_one (i := 14) (by kernel_rfl) rfl ?_
    intro K' hK'
    go_simp
    refine hK'.out _ _ (.inr hS8) ?_
    clear hK' K'
    try simp only [put_laws]
    refine wpAnyT_one (i := 15) (by kernel_rfl) rfl ?_
    intro K' hK'
    go_simp
    refine hK'.out _ _ (.inr hS8) ?_
    clear hK' K'
    try simp only [put_laws]
    refine wpAnyT_one (i := 16) (by kernel_rfl) rfl ?_
    intro K' hK'
    go_simp
    refine (HWK.out w8 (HB5.out.trans (hS8.mono HB5.out.size))).mono ?_
    rintro e w9 ⟨rfl, hb9⟩
    have hS9 : Below w5.heap.size w5 w9 := hS8.trans (hb9.mono hS8.size)
    refine hK'.out _ _ (.inl rfl) ?_
    clear hK' K'
    try simp only [put_laws]
    refine wpAnyT_one (i := 17) (by kernel_rfl) rfl ?_
    intro K' hK'
    go_simp
    refine hK'.out _ _ (.inl rfl) ?_
    clear hK' K'
    try simp only [put_laws]
    refine wpAnyT_one (i := 18) (by kernel_rfl) rfl ?_
    intro K' hK'
    go_simp
    refine hK'.out _ _ (.inl rfl) ?_
    clear hK' K'
    try simp only [put_laws]
    refine wpAnyT_done (by kernel_rfl) ?_ _
    refine ⟨fun x e => (by cases e), ?_⟩
    go_wp2_with fail
    go_ret
    exact ⟨rfl, HB5.out.trans (hS9.mono HB5.out.size)⟩
end
end Go.Proofs.YtnbeembnnjdmdaaGreatDoor
