/- The reference of layer 2: list, IsCell, Step. -/
import Derived.Test.YtnbeembnnjdmdaaGreatDoorE7
import Derived.Test.YtnbeembnnjdmdaaGreatDoorE4
import Derived.Test.YtnbeembnnjdmdaaGreatDoorD10
namespace Go.Proofs.YtnbeembnnjdmdaaGreatDoor
open Go.RowKit

namespace M
/-- the first k numbers from -1 on of which q is so -/
def listK (k : Nat) (q : Int → Bool) : List Int := ((List.range k).map fun (i : Nat) => (i : Int) - 1).filter q
theorem listK_succ (k : Nat) (q : Int → Bool) : listK (k + 1) q = listK k q ++ if q ((k : Int) - 1) then [(k : Int) - 1] else [] := by
  unfold listK
  rw [List.range_succ, List.map_append, List.filter_append]
  congr 1
  simp only [List.map_cons, List.map_nil]
  cases h : q ((k : Int) - 1) <;> simp [h]
theorem listK_len (k : Nat) (q : Int → Bool) : (listK k q).length ≤ k := by
  unfold listK
  exact Nat.le_trans (List.length_filter_le _ _) (by simp)
theorem listK_all (nd : Nat) (q : Int → Bool) : listK (nd + 1) q = listB nd q := rfl
end M
section
variable {w : World} {base g nd : Nat} {q : Int → Bool}
set_option maxRecDepth 100000 in
set_option maxHeartbeats 6400000 in
theorem rlist_any (hM : Mks w base g nd (fun i => q ((i : Int) - 1))) (hnd : nd ≤ 900000) :
    Calls Tryz.prog 51 #[.slice (some ⟨g, 0, none⟩) (nd + 1) (nd + 1)] w fun e w' => ∃ v, e = .returned v ∧ IL w' w.heap.size v (M.listB nd q) ∧ Below w.heap.size w w' := by
  have HM := Lib.hid hM
  have HB0 := Lib.hid (Below.refl w.heap.size w)
  obtain ⟨lL, hlL⟩ : ∃ f : Nat → List Int, f = fun k => M.listK k q := ⟨_, rfl⟩
  have HL := Lib.hid hlL
  have HLE := Lib.hid (show ∀ k, (lL k).length ≤ k from fun k => by rw [hlL]; exact M.listK_len k q)
  have HLS := Lib.hid (show ∀ k, lL (k + 1) = lL k ++ if q ((k : Int) - 1) then [(k : Int) - 1] else [] from fun k => by rw [hlL]; exact M.listK_succ k q)
  have HLZ := Lib.hid (show lL 0 = [] from by rw [hlL]; rfl)
  rw [← M.listK_all nd q, show M.listK (nd + 1) q = lL (nd + 1) by rw [hlL]]
  clear hM hlL
  go_enter Tryz.func51, Tryz.ntmps51
  go_wp2_with fail
  go_loopw [3, 4] (fun v i wr => ∃ k : Nat, k ≤ nd + 1 ∧ i = .int .i64 (k : Int) ∧ Hid (IL wr w.heap.size v (lL k)) ∧ Hid (Below w.heap.size w wr)) (fun _ i _ => nd + 1 - (intOf i).toNat)
  case atStart => exact ⟨0, Nat.zero_le _, rfl, Lib.hid (by rw [HLZ.out]; exact Own.nil_), HB0⟩
  case round =>
    obtain ⟨k, hk, rfl, HI, HB⟩ := hrel
    clear HB0
    have hsz := HB.out.size
    by_cases hlt : k < nd + 1
    · have kx : decide (nd + 1 ≤ k) = false := decide_eq_false (by omega)
      have m0 := (HM.out.below HB.out).cell (i := k) hlt
      have hil := HI.out
      obtain ⟨A5, c5, rfl⟩ := Own.form hil
      have HIL := Lib.hid hil
      have hle := HLE.out k
      clear hil HI
      have HS := Lib.hid (HLS.out k)
      generalize lL k = L at HIL hle HS
      obtain ⟨b, hb⟩ : ∃ b, q ((k : Int) - 1) = b := ⟨_, rfl⟩
      rw [hb] at m0 HS
      clear hb
      cases b
      · go_wp2_with fail
        go_roundw
        case rel => exact ⟨k + 1, by omega, by go_num, Lib.hid (by rw [HS.out]; simpa using HIL.out), HB⟩
        case measure => simp [intOf]; omega
      · go_wp2_with (at_builtin; go_must (refine wpList_apI _ rfl (.tmp 15) (.tmp 18) rfl (B := w.heap.size) (L := L) rfl (Own.alloc HIL.out _) rfl ((Blk.new _ _ _).cell 0) (by omega) (by simp; omega) ?_); intro g6 c6 w6 hi6 hg6 hb6; have HI6 := Lib.hid hi6; have HG6 := Lib.hid hg6; clear hi6 hg6 hb6)
        go_roundw
        case rel =>
          refine ⟨k + 1, by omega, by go_num, Lib.hid (by rw [HS.out, if_pos rfl]; simpa using HI6.out), Lib.hid ?_⟩
          exact (HB.out.trans ((belowAlloc _ _).mono (by omega))).grown HG6.out (by simp; omega) fun r e => (Own.block HIL.out e).1
        case measure => simp [intOf]; omega
    · obtain rfl : k = nd + 1 := by omega
      go_wp2_with fail
      go_ret
      exact ⟨_, rfl, HI.out, HB.out⟩
end
section
variable {W H : Int} {dA tA sA zA cA wA : Option Addr} {nd dc nt tc ns sc zn zc cn cc wn wc B : Nat} {dep : Nat → Int} {tide : Nat → Nat → Int} {sw z : Nat → Int} {cl : Nat → Nat} {cu : Nat → Nat → Nat → Int} {wd : Nat → Nat → Int} {w : World}
set_option maxRecDepth 100000 in
set_option maxHeartbeats 3200000 in
theorem riscell_any (c : Int) (hnd : nd ≤ maxLen) :
    Calls Tryz.prog 49 #[.agg #[.int .i64 W, .int .i64 H, .slice dA nd dc, .slice tA nt tc, .slice sA ns sc, .slice zA zn zc, .slice cA cn cc, .slice wA wn wc], .int .i64 c] w fun e w' => e = .returned (.bool (M.inB (-1) ((nd : Int) - 1) c)) ∧ Below w.heap.size w w' := by
  unfold maxLen at hnd
  have HB0 := Lib.hid (belowAlloc w (.cells #[.int .i64 W, .int .i64 H, .slice dA nd dc, .slice tA nt tc, .slice sA ns sc, .slice zA zn zc, .slice cA cn cc, .slice wA wn wc] 29))
  go_enter Tryz.func49, Tryz.ntmps49
  go_wp2_with (go_at_call 50; refine (rin_any _ _ _ _).mono ?_; rintro e w1 ⟨rfl, rfl⟩)
  go_ret
  exact ⟨rfl, HB0.out⟩
theorem rstep_bad (hnd : nd ≤ maxLen) (hnt : nt ≤ maxLen) (hns : ns ≤ maxLen) (hzn : zn ≤ maxLen) (hcn : cn ≤ maxLen) (hwn : wn ≤ maxLen) (hR : RdD w B dA tA sA zA cA wA nd nt ns zn cn wn dep tide sw z cl cu wd) (hB : B ≤ w.heap.size)
    (hE : M.chkD (M.chkC W H nd nt ns dep tide sw) nd nt zn cn wn z cl cu wd = false) (c t l : Int) :
    Calls Tryz.prog 16 #[.agg #[.int .i64 W, .int .i64 H, .slice dA nd dc, .slice tA nt tc, .slice sA ns sc, .slice zA zn zc, .slice cA cn cc, .slice wA wn wc], .int .i64 c, .int .i64 t, .int .i64 l] w fun e w' => e = .returned (.tuple #[.slice none 0 0, .int .i64 20]) ∧ Below w.heap.size w w' := by
  have HB0 := Lib.hid (belowAlloc w (.cells #[.int .i64 W, .int .i64 H, .slice dA nd dc, .slice tA nt tc, .slice sA ns sc, .slice zA zn zc, .slice cA cn cc, .slice wA wn wc] 29))
  have hC := rdchk_any (dc := dc) (tc := tc) (sc := sc) (zc := zc) (cc := cc) (wc := wc) (W := W) (H := H) hnd hnt hns hzn hcn hwn (hR.below (HB0.out.mono hB)) (Nat.le_trans hB HB0.out.size)
  rw [hE, if_neg (by simp)] at hC
  have HC := Lib.hid hC
  clear hC hR hE
  go_enter Tryz.func16, Tryz.ntmps16
  go_wp2_with (go_at_call 18; go_must (refine HC.out.mono ?_); rintro e w1 ⟨rfl, hb⟩; have HB1 := Lib.hid (HB0.out.trans (hb.mono HB0.out.size)); clear hb)
  go_ret2
  exact ⟨rfl, HB1.out⟩
end
section
variable {d : M.Dr} {zA cA wA dA tA sA : Option Addr} {cl : Nat → Nat} {B dc tc sc zc cc wc : Nat} {w : World}
theorem rstep_any (hd : d.Ok) (hcl : ∀ i, i < d.nz → cl i + 1 = d.s.nt) (hR : RdD w B dA tA sA zA cA wA d.s.nd d.s.nt d.s.nt d.s.nd d.nz (d.s.nt - 1) d.s.dep d.s.tide d.s.sw d.z cl d.cu d.wd) (hB : B ≤ w.heap.size) (c : Int) (t l : Nat) (hc : -1 ≤ c ∧ c < d.s.nd) (ht : t + 1 < d.s.nt) (hl : l ≤ 8) :
    Calls Tryz.prog 52 #[.agg #[.int .i64 (d.s.W : Int), .int .i64 (d.s.H : Int), .slice dA d.s.nd dc, .slice tA d.s.nt tc, .slice sA d.s.nt sc, .slice zA d.s.nd zc, .slice cA d.nz cc, .slice wA (d.s.nt - 1) wc], .int .i64 c, .int .i64 (t : Int), .int .i64 (l : Int)] w (StpR d t (l : Int) c w) := by
  by_cases h : c = -1
  · subst h; exact rstep_out t l t l (by have := hd.s.nd1; omega)
  · obtain ⟨n, rfl⟩ : ∃ n : Nat, c = (n : Int) := ⟨c.toNat, by omega⟩
    exact rstep_in hd hcl hR hB n t l (by omega) ht hl
set_option maxRecDepth 100000 in
set_option maxHeartbeats 6400000 in
theorem rStep_ok (hd : d.Ok) (hcl : ∀ i, i < d.nz → cl i + 1 = d.s.nt) (hR : RdD w B dA tA sA zA cA wA d.s.nd d.s.nt d.s.nt d.s.nd d.nz (d.s.nt - 1) d.s.dep d.s.tide d.s.sw d.z cl d.cu d.wd) (hB : B ≤ w.heap.size) (c t l : Int) :
    Calls Tryz.prog 16 #[.agg #[.int .i64 (d.s.W : Int), .int .i64 (d.s.H : Int), .slice dA d.s.nd dc, .slice tA d.s.nt tc, .slice sA d.s.nt sc, .slice zA d.s.nd zc, .slice cA d.nz cc, .slice wA (d.s.nt - 1) wc], .int .i64 c, .int .i64 t, .int .i64 l] w fun e w' =>
      Below w.heap.size w w' ∧ if M.inB (-1) ((d.s.nd : Int) - 1) c && M.inB 0 ((d.s.nt : Int) - 2) t && M.inB 0 8 l then ∃ v, e = .returned (.tuple #[v, .int .i64 0]) ∧ IL w' w.heap.size v (M.stepL d t.toNat l c) else e = .returned (.tuple #[.slice none 0 0, .int .i64 1]) := by
  have h1 := hd.s.nd1
  have h2 := hd.s.t1
  have h3 := hd.s.t2
  have hcz := hd.z4
  have hclm : ∀ i, i < d.nz → cl i ≤ maxLen := fun i hi => by have := hcl i hi; unfold maxLen; omega
  have HB0 := Lib.hid (belowAlloc w (.cells #[.int .i64 (d.s.W : Int), .int .i64 (d.s.H : Int), .slice dA d.s.nd dc, .slice tA d.s.nt tc, .slice sA d.s.nt sc, .slice zA d.s.nd zc, .slice cA d.nz cc, .slice wA (d.s.nt - 1) wc] 29))
  have K0 := Lib.hid (Blk.new w 29 #[.int .i64 (d.s.W : Int), .int .i64 (d.s.H : Int), .slice dA d.s.nd dc, .slice tA d.s.nt tc, .slice sA d.s.nt sc, .slice zA d.s.nd zc, .slice cA d.nz cc, .slice wA (d.s.nt - 1) wc])
  have hC := rdchk_any (dc := dc) (tc := tc) (sc := sc) (zc := zc) (cc := cc) (wc := wc) (W := (d.s.W : Int)) (H := (d.s.H : Int)) (by unfold maxLen; omega) (by unfold maxLen; omega) (by unfold maxLen; omega) (by unfold maxLen; omega) (by unfold maxLen; omega) (by unfold maxLen; omega) (hR.below (HB0.out.mono hB)) (Nat.le_trans hB HB0.out.size)
  rw [hd.chk hcl, if_pos rfl] at hC
  have HC := Lib.hid hC
  have HST := Lib.hid (fun (V : World) (hb : Below w.heap.size w V) (t l : Nat) (hc : -1 ≤ c ∧ c < d.s.nd) (ht : t + 1 < d.s.nt) (hl : l ≤ 8) => rstep_any (dc := dc) (tc := tc) (sc := sc) (zc := zc) (cc := cc) (wc := wc) hd hcl (hR.below (hb.mono hB)) (Nat.le_trans hB hb.size) c t l hc ht hl)
  have HSL := Lib.hid (fun (t : Nat) (l : Int) => (show M.stepL d t l c = M.listB d.s.nd (M.stepB d t l c) from rfl))
  have HIC := Lib.hid (fun (V : World) => riscell_any (W := (d.s.W : Int)) (H := (d.s.H : Int)) (dA := dA) (dc := dc) (tA := tA) (nt := d.s.nt) (tc := tc) (sA := sA) (ns := d.s.nt) (sc := sc) (zA := zA) (zn := d.s.nd) (zc := zc) (cA := cA) (cn := d.nz) (cc := cc) (wA := wA) (wn := d.s.nt - 1) (wc := wc) (nd := d.s.nd) (w := V) c (by unfold maxLen; omega))
  obtain ⟨q1, hq1⟩ : ∃ q, M.inB (-1) ((d.s.nd : Int) - 1) c = q := ⟨_, rfl⟩
  obtain ⟨q2, hq2⟩ : ∃ q, M.inB 0 ((d.s.nt : Int) - 2) t = q := ⟨_, rfl⟩
  obtain ⟨q3, hq3⟩ : ∃ q, M.inB 0 8 l = q := ⟨_, rfl⟩
  rw [hq1] at HIC
  rw [hq1, hq2, hq3]
  have HQ1 := Lib.hid hq1
  have HQ2 := Lib.hid hq2
  have HQ3 := Lib.hid hq3
  clear hC hR hd hcl hclm hq1 hq2 hq3
  cases q1
  rotate_left
  · cases q2
    rotate_left
    · cases q3
      rotate_left
      · have ht := M.inB_iff.1 HQ2.out
        have hl := M.inB_iff.1 HQ3.out
        have hc := M.inB_iff.1 HQ1.out
        obtain ⟨tn, rfl⟩ : ∃ n : Nat, t = (n : Int) := ⟨t.toNat, by omega⟩
        obtain ⟨ln, rfl⟩ : ∃ n : Nat, l = (n : Int) := ⟨l.toNat, by omega⟩
        have HTL := Lib.hid (And.intro hl (And.intro ht hc))
        rw [Int.toNat_natCast, HSL.out]
        generalize hPe : M.stepB d tn (ln : Int) c = P at HST ⊢
        have HPe := Lib.hid hPe
        clear hPe hl hc ht
        have q2 := HQ2.out
        have q3 := HQ3.out
        go_enter Tryz.func16, Tryz.ntmps16
        go_upto_region 5 with (first | (go_at_call 18; go_must (refine HC.out.mono ?_); rintro e w1 ⟨rfl, hb⟩; have HB1 := Lib.hid (HB0.out.trans (hb.mono HB0.out.size)); have K1 := Lib.hid (K0.out.below' hb); clear hb; have k0 := K1.out.cell 0; have k1 := K1.out.cell 1; have k2 := K1.out.cell 2; have k3 := K1.out.cell 3; have k4 := K1.out.cell 4; have k5 := K1.out.cell 5; have k6 := K1.out.cell 6; have k7 := K1.out.cell 7) | (go_at_call 49; go_must (refine (HIC.out _).mono ?_); rintro e w2 ⟨rfl, hb⟩; have HB2 := Lib.hid (HB1.out.trans (hb.mono HB1.out.size)); have K2 := Lib.hid (K1.out.below' hb); clear hb k0 k1 k2 k3 k4 k5 k6 k7; have k0 := K2.out.cell 0; have k1 := K2.out.cell 1; have k2 := K2.out.cell 2; have k3 := K2.out.cell 3; have k4 := K2.out.cell 4; have k5 := K2.out.cell 5; have k6 := K2.out.cell 6; have k7 := K2.out.cell 7) | (go_at_call 50; refine (rin_any _ _ _ _).mono ?_; rintro e w9 ⟨rfl, rfl⟩))
        have HS2 := Lib.hid (HST.out _ HB2.out tn ln (by have := HTL.out.2.2; omega) (by have := HTL.out.2.1; omega) (by have := HTL.out.1; omega))
        go_wp2_with (first | (go_at_call 52; go_must (refine HS2.out.mono ?_); rintro e w3 ⟨rfl, hm, hb⟩; rw [HPe.out] at hm; have HM3 := Lib.hid hm; have HB3 := Lib.hid (HB2.out.trans (hb.mono HB2.out.size)); clear hb hm) | (go_at_call 51; go_must (refine (rlist_any HM3.out (by omega)).mono ?_); rintro e w4 ⟨v, rfl, hi, hb⟩; have HI4 := Lib.hid hi; have HB4 := Lib.hid hb; clear hb hi))
        go_ret2
        exact ⟨HB3.out.trans (HB4.out.mono HB3.out.size), _, rfl, Own.less HI4.out HB3.out.size⟩
      · have q2 := HQ2.out
        have q3 := HQ3.out
        go_enter Tryz.func16, Tryz.ntmps16
        go_wp2_with (first | (go_at_call 18; go_must (refine HC.out.mono ?_); rintro e w1 ⟨rfl, hb⟩; have HB1 := Lib.hid (HB0.out.trans (hb.mono HB0.out.size)); have K1 := Lib.hid (K0.out.below' hb); clear hb; have k0 := K1.out.cell 0; have k1 := K1.out.cell 1; have k2 := K1.out.cell 2; have k3 := K1.out.cell 3; have k4 := K1.out.cell 4; have k5 := K1.out.cell 5; have k6 := K1.out.cell 6; have k7 := K1.out.cell 7) | (go_at_call 49; go_must (refine (HIC.out _).mono ?_); rintro e w2 ⟨rfl, hb⟩; have HB2 := Lib.hid (HB1.out.trans (hb.mono HB1.out.size)); have K2 := Lib.hid (K1.out.below' hb); clear hb k0 k1 k2 k3 k4 k5 k6 k7; have k3 := K2.out.cell 3) | (go_at_call 50; refine (rin_any _ _ _ _).mono ?_; rintro e w9 ⟨rfl, rfl⟩))
        go_ret2
        exact ⟨HB2.out, rfl⟩
    · have q2 := HQ2.out
      go_enter Tryz.func16, Tryz.ntmps16
      go_wp2_with (first | (go_at_call 18; go_must (refine HC.out.mono ?_); rintro e w1 ⟨rfl, hb⟩; have HB1 := Lib.hid (HB0.out.trans (hb.mono HB0.out.size)); have K1 := Lib.hid (K0.out.below' hb); clear hb; have k0 := K1.out.cell 0; have k1 := K1.out.cell 1; have k2 := K1.out.cell 2; have k3 := K1.out.cell 3; have k4 := K1.out.cell 4; have k5 := K1.out.cell 5; have k6 := K1.out.cell 6; have k7 := K1.out.cell 7) | (go_at_call 49; go_must (refine (HIC.out _).mono ?_); rintro e w2 ⟨rfl, hb⟩; have HB2 := Lib.hid (HB1.out.trans (hb.mono HB1.out.size)); have K2 := Lib.hid (K1.out.below' hb); clear hb k0 k1 k2 k3 k4 k5 k6 k7; have k3 := K2.out.cell 3) | (go_at_call 50; refine (rin_any _ _ _ _).mono ?_; rintro e w9 ⟨rfl, rfl⟩))
      go_ret2
      exact ⟨HB2.out, rfl⟩
  · skip
    go_enter Tryz.func16, Tryz.ntmps16
    go_wp2_with (first | (go_at_call 18; go_must (refine HC.out.mono ?_); rintro e w1 ⟨rfl, hb⟩; have HB1 := Lib.hid (HB0.out.trans (hb.mono HB0.out.size)); have K1 := Lib.hid (K0.out.below' hb); clear hb; have k0 := K1.out.cell 0; have k1 := K1.out.cell 1; have k2 := K1.out.cell 2; have k3 := K1.out.cell 3; have k4 := K1.out.cell 4; have k5 := K1.out.cell 5; have k6 := K1.out.cell 6; have k7 := K1.out.cell 7) | (go_at_call 49; go_must (refine (HIC.out _).mono ?_); rintro e w2 ⟨rfl, hb⟩; have HB2 := Lib.hid (HB1.out.trans (hb.mono HB1.out.size)); have K2 := Lib.hid (K1.out.below' hb); clear hb k0 k1 k2 k3 k4 k5 k6 k7; have k3 := K2.out.cell 3) | (go_at_call 50; refine (rin_any _ _ _ _).mono ?_; rintro e w9 ⟨rfl, rfl⟩))
    go_ret2
    exact ⟨HB2.out, rfl⟩
end
end Go.Proofs.YtnbeembnnjdmdaaGreatDoor
