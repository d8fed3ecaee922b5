/- The reference of layer 2: has, agrees, CheckAt. -/
import Derived.Test.YtnbeembnnjdmdaaGreatDoorG3
import Derived.Test.YtnbeembnnjdmdaaGreatDoorE8
namespace Go.Proofs.YtnbeembnnjdmdaaGreatDoor
open Go.RowKit

set_option maxRecDepth 100000 in
set_option maxHeartbeats 3200000 in
theorem rhas_any (A : Option Addr) (n c B : Nat) (f : Nat → Int) (x : Int) (w : World) (hn : n ≤ maxLen) (hR : Rd1 w B A n f) :
    Calls Tryz.prog 106 #[.slice A n c, .int .i64 x] w fun e w' => e = .returned (.bool (M.anyTo n fun i => decide (f i = x))) ∧ w' = w := by
  unfold maxLen at hn
  have HR := Lib.hid hR
  clear hR
  go_enter Tryz.func106, Tryz.ntmps106
  go_wp2_with fail
  go_loopw [5] (fun i wr => ∃ k : Nat, k ≤ n ∧ i = .int .i64 (k : Int) ∧ Hid (M.anyTo k (fun i => decide (f i = x)) = false) ∧ wr = w) (fun i _ => n - (intOf i).toNat)
  case atStart => exact ⟨0, Nat.zero_le _, rfl, Lib.hid rfl, rfl⟩
  case round =>
    obtain ⟨k, hk, rfl, HF, hwr⟩ := hrel
    obtain rfl := hwr
    by_cases hlt : k < n
    · obtain ⟨b, off, rfl, hb, c0⟩ := HR.out.at_ hlt
      have HS := Lib.hid (show M.anyTo (k + 1) (fun i => decide (f i = x)) = (M.anyTo k (fun i => decide (f i = x)) || decide (f k = x)) from rfl)
      have HY := Lib.hid (fun h : f k = x => (show M.anyTo n (fun i => decide (f i = x)) = true from M.anyTo_iff.2 ⟨k, hlt, decide_eq_true h⟩))
      generalize f k = y at c0 HS HY
      by_cases he : y = x
      · have HV := Lib.hid (HY.out he)
        have g1 : (y == x) = true := by simpa using he
        clear he
        go_wp2_with fail
        go_ret
        exact ⟨ret_bool HV.out.symm, rfl⟩
      · have HK := Lib.hid (show M.anyTo (k + 1) (fun i => decide (f i = x)) = false from by rw [HS.out, HF.out, decide_eq_false he]; rfl)
        have g1 : (y == x) = false := by simpa using he
        clear he
        go_wp2_with fail
        go_roundw
        case rel => exact ⟨k + 1, by omega, by go_num, HK, by first | rfl | trivial⟩
        case measure => simp [intOf]; omega
    · obtain rfl : k = n := by omega
      go_wp2_with fail
      go_ret
      exact ⟨ret_bool HF.out.symm, rfl⟩
section
variable {at_ lo hi : Int} {xL : List Int} {hA : Option Addr} {hn hc B : Nat} {Xs : Nat → SgV} {w : World}
set_option maxRecDepth 100000 in
set_option maxHeartbeats 3200000 in
theorem ragrees_any (hR : RdS w B hA hn Xs) (_hB : B ≤ w.heap.size) (hm : hn ≤ maxLen) (cell tick : Int) :
    Calls Tryz.prog 107 #[.slice hA hn hc, .int .i64 cell, .int .i64 tick] w fun e w' => e = .returned (.bool (M.agAll (fun i => (Xs i).sg) hn tick cell)) ∧ ∃ n, w' = w.drewN n := by
  have HR := Lib.hid hR
  have HHA := Lib.hid (fun (n : Nat) (x : SgV) (hx : Rd1 w B x.A x.L.length (fun k => x.L.getD k 0)) (hl : x.L.length ≤ maxLen) => rhas_any x.A x.L.length x.c B (fun k => x.L.getD k 0) cell (w.drewN n) hl hx)
  unfold maxLen at hm
  clear hR
  unfold M.agAll
  obtain ⟨p, hp⟩ : ∃ p : Nat → Bool, p = fun i => M.agr (Xs i).sg tick cell := ⟨_, rfl⟩
  rw [← hp]
  have HP := Lib.hid (fun i => congrFun hp i)
  clear hp
  go_enter Tryz.func107, Tryz.ntmps107
  go_wp2_with fail
  go_loopw [7] (fun i wr => ∃ k : Nat, k ≤ hn ∧ i = .int .i64 (k : Int) ∧ Hid (M.allTo k p = true) ∧ ∃ m, wr = w.drewN m) (fun i _ => hn - (intOf i).toNat)
  case atStart => exact ⟨0, Nat.zero_le _, rfl, Lib.hid rfl, 0, rfl⟩
  case round =>
    obtain ⟨k, hk, rfl, HF, m, rfl⟩ := hrel
    by_cases hlt : k < hn
    · obtain ⟨b, off, rfl, hb, c0, c1, c2, hrd, hl⟩ := HR.out.at_ hlt
      have d0 : (w.drewN m).cell? ⟨b, off + k * 3, none⟩ = _ := c0
      have d1 : (w.drewN m).cell? ⟨b, off + k * 3 + 1, none⟩ = _ := c1
      have d2 : (w.drewN m).cell? ⟨b, off + k * 3 + 2, none⟩ = _ := c2
      have HHX := Lib.hid (fun n => HHA.out n (Xs k) hrd hl)
      have HMO := Lib.hid (show ∀ q, ∃ n', (w.drewN m).drewN q = w.drewN n' from fun q => ⟨m + q, by rw [World.drewN_drewN]⟩)
      have HHN := Lib.hid (fun (W' : World) (h : ∃ n, W' = w.drewN n) => h)
      have HPK := Lib.hid (HP.out k)
      have HS := Lib.hid (show M.allTo (k + 1) p = (M.allTo k p && p k) from rfl)
      have HN := Lib.hid (fun h : p k = false => (show M.allTo hn p = false from M.allTo_no hlt h))
      generalize p k = q at HPK HS HN
      generalize Xs k = x at d0 d1 d2 HHX HPK
      clear c0 c1 c2 hrd hl
      obtain ⟨tk, A, c, L, seen⟩ := x
      unfold M.agr SgV.sg at HPK
      dsimp only at d0 d1 d2 HHX HPK
      by_cases ht : tk = tick
      · have g1 : (tk == tick) = true := by simpa using ht
        have HHY := fun n => HHX.out n
        simp only [M.anyTo_any (L := L) (p := fun y => decide (y = cell))] at HHY
        have ec : (L.any fun y => decide (y = cell)) = L.contains cell := by
          rw [Bool.eq_iff_iff, List.any_eq_true, List.contains_iff_mem]
          exact ⟨fun ⟨x, h1, h2⟩ => by rw [← of_decide_eq_true h2]; exact h1, fun h => ⟨cell, h, by simp⟩⟩
        simp only [ec] at HHY
        have HHZ := Lib.hid (fun q => (show Calls Tryz.prog 106 #[.slice A L.length c, .int .i64 cell] ((w.drewN m).drewN q) fun e w' => e = .returned (.bool (L.contains cell)) ∧ w' = (w.drewN m).drewN q from by rw [World.drewN_drewN]; exact HHY (m + q)))
        have HDN := Lib.hid (show ∀ q, ∃ n', (w.drewN m).drewN q = w.drewN n' from fun q => ⟨m + q, by rw [World.drewN_drewN]⟩)
        have HPZ := Lib.hid (show q = (L.contains cell == seen) from by rw [HPK.out, decide_eq_true ht]; rfl)
        clear HHY HHX HPK ec ht
        generalize L.contains cell = hs at HHZ HPZ
        generalize w.drewN m = Y at d0 d1 d2 HHZ HDN ⊢
        cases hs <;> cases seen
        · have HK := Lib.hid (show M.allTo (k + 1) p = true from by rw [HS.out, HF.out, HPZ.out]; rfl)
          go_upto_region 4 with fail
          go_quiet (first | (go_at_call 106; exact Calls.quiet_of_same (HHZ.out _)) | fail)
          go_wp2_with fail
          go_roundw
          case rel => exact ⟨k + 1, by omega, by go_num, HK, HDN.out _⟩
          case measure => simp [intOf]; omega
        · have HK := Lib.hid (HN.out HPZ.out)
          go_upto_region 4 with fail
          go_quiet (first | (go_at_call 106; exact Calls.quiet_of_same (HHZ.out _)) | fail)
          go_wp2_with fail
          go_ret
          exact ⟨ret_bool HK.out.symm, HDN.out _⟩
        · have HK := Lib.hid (HN.out HPZ.out)
          go_upto_region 4 with fail
          go_quiet (first | (go_at_call 106; exact Calls.quiet_of_same (HHZ.out _)) | fail)
          go_wp2_with fail
          go_ret
          exact ⟨ret_bool HK.out.symm, HDN.out _⟩
        · have HK := Lib.hid (show M.allTo (k + 1) p = true from by rw [HS.out, HF.out, HPZ.out]; rfl)
          go_upto_region 4 with fail
          go_quiet (first | (go_at_call 106; exact Calls.quiet_of_same (HHZ.out _)) | fail)
          go_wp2_with fail
          go_roundw
          case rel => exact ⟨k + 1, by omega, by go_num, HK, HDN.out _⟩
          case measure => simp [intOf]; omega
      · have g1 : (tk == tick) = false := by simpa using ht
        have HK := Lib.hid (show M.allTo (k + 1) p = true from by rw [HS.out, HF.out, HPK.out, decide_eq_false ht]; rfl)
        clear ht HHX HPK
        generalize w.drewN m = Y at d0 d1 d2 HMO ⊢
        go_upto_region 4 with fail
        go_quiet (fail)
        go_wp2_with fail
        go_roundw
        case rel => exact ⟨k + 1, by omega, by go_num, HK, HMO.out _⟩
        case measure => simp [intOf]; omega
    · obtain rfl : k = hn := by omega
      go_wp2_with fail
      go_ret
      exact ⟨ret_bool HF.out.symm, m, rfl⟩
end
theorem ask_cell (nd : Nat) (c : Int) : (decide (c = -1) || M.inB 0 ((nd : Int) - 1) c) = M.inB (-1) ((nd : Int) - 1) c := by
  unfold M.inB
  rw [Bool.eq_iff_iff]
  simp only [Bool.or_eq_true, Bool.and_eq_true, decide_eq_true_eq]
  omega
section
variable {W H : Int} {dA tA sA zA cA wA xA hA : Option Addr} {nd dc nt tc ns sc zn zc cn cc wn wc xc hn hc B : Nat} {at_ lo hi : Int} {dep : Nat → Int} {tide : Nat → Nat → Int} {sw z : Nat → Int} {cl : Nat → Nat} {cu : Nat → Nat → Nat → Int} {wd : Nat → Nat → Int} {xL : List Int} {Xs : Nat → SgV} {w : World}
set_option maxRecDepth 100000 in
set_option maxHeartbeats 6400000 in
theorem rcheckat_any (hnd : nd ≤ maxLen) (hnt : nt ≤ maxLen) (hns : ns ≤ maxLen) (hzn : zn ≤ maxLen) (hcn : cn ≤ maxLen) (hwn : wn ≤ maxLen) (hR : RdD w B dA tA sA zA cA wA nd nt ns zn cn wn dep tide sw z cl cu wd) (hB : B ≤ w.heap.size)
    (hx3 : Rd1 w B xA xL.length (fun k => xL.getD k 0)) (hx4 : xL.length ≤ maxLen) (hRS : RdS w B hA hn Xs) (hhn : hn ≤ maxLen) (c t : Int) :
    Calls Tryz.prog 28 #[.agg #[.int .i64 W, .int .i64 H, .slice dA nd dc, .slice tA nt tc, .slice sA ns sc, .slice zA zn zc, .slice cA cn cc, .slice wA wn wc], .agg #[.int .i64 at_, .slice xA xL.length xc, .int .i64 lo, .int .i64 hi], .slice hA hn hc, .int .i64 c, .int .i64 t] w fun e w' => e = .returned (.int .i64 (if begE (M.chkD (M.chkC W H nd nt ns dep tide sw) nd nt zn cn wn z cl cu wd) (chkX nd nt at_ lo hi xL) (chkS nd nt at_ hn Xs) = 0 then (if askB nd nt at_ c t = true then 0 else 1) else begE (M.chkD (M.chkC W H nd nt ns dep tide sw) nd nt zn cn wn z cl cu wd) (chkX nd nt at_ lo hi xL) (chkS nd nt at_ hn Xs))) ∧ Below w.heap.size w w' := by
  have HB0 := Lib.hid (belowAlloc2 w (.cells #[.int .i64 W, .int .i64 H, .slice dA nd dc, .slice tA nt tc, .slice sA ns sc, .slice zA zn zc, .slice cA cn cc, .slice wA wn wc] 29) (.cells #[.int .i64 at_, .slice xA xL.length xc, .int .i64 lo, .int .i64 hi] 44))
  have K0 := Lib.hid ((Blk.new w 29 #[.int .i64 W, .int .i64 H, .slice dA nd dc, .slice tA nt tc, .slice sA ns sc, .slice zA zn zc, .slice cA cn cc, .slice wA wn wc]).alloc (.cells #[.int .i64 at_, .slice xA xL.length xc, .int .i64 lo, .int .i64 hi] 44))
  have X0 := Lib.hid (Blk.new1 w (.cells #[.int .i64 W, .int .i64 H, .slice dA nd dc, .slice tA nt tc, .slice sA ns sc, .slice zA zn zc, .slice cA cn cc, .slice wA wn wc] 29) 44 #[.int .i64 at_, .slice xA xL.length xc, .int .i64 lo, .int .i64 hi])
  have hCA := rcheckall_any (dc := dc) (tc := tc) (sc := sc) (zc := zc) (cc := cc) (wc := wc) (xc := xc) (hc := hc) (W := W) (H := H) (at_ := at_) (lo := lo) (hi := hi) hnd hnt hns hzn hcn hwn (hR.below (HB0.out.mono hB)) (Nat.le_trans hB HB0.out.size) (hx3.below (HB0.out.mono hB)) hx4 (hRS.below (HB0.out.mono hB)) hhn
  obtain ⟨rv, hrv⟩ : ∃ r, r = begE (M.chkD (M.chkC W H nd nt ns dep tide sw) nd nt zn cn wn z cl cu wd) (chkX nd nt at_ lo hi xL) (chkS nd nt at_ hn Xs) := ⟨_, rfl⟩
  rw [← hrv] at hCA ⊢
  have HCA := Lib.hid hCA
  have HIC := Lib.hid (fun (V : World) => riscell_any (W := W) (H := H) (dA := dA) (dc := dc) (tA := tA) (nt := nt) (tc := tc) (sA := sA) (ns := ns) (sc := sc) (zA := zA) (zn := zn) (zc := zc) (cA := cA) (cn := cn) (cc := cc) (wA := wA) (wn := wn) (wc := wc) (nd := nd) (w := V) c hnd)
  unfold askB
  rw [ask_cell]
  obtain ⟨q1, hq1⟩ : ∃ q, M.inB (-1) ((nd : Int) - 1) c = q := ⟨_, rfl⟩
  obtain ⟨q2, hq2⟩ : ∃ q, M.inB at_ ((nt : Int) - 1) t = q := ⟨_, rfl⟩
  rw [hq1] at HIC
  rw [hq1, hq2]
  unfold maxLen at hnt
  clear hCA hrv hR hx3 hRS hnd hns hzn hcn hwn hx4 hhn hq1
  by_cases h0 : rv = 0
  rotate_left
  · rw [if_neg h0]
    have g0 : (rv != 0) = true := by simpa using h0
    clear h0
    go_enter Tryz.func28, Tryz.ntmps28
    go_wp2_with (go_at_call 58; go_must (refine HCA.out.mono ?_); rintro e w1 ⟨rfl, hb⟩; have HB1 := Lib.hid (HB0.out.trans (hb.mono HB0.out.size)); clear hb)
    go_ret
    exact ⟨rfl, HB1.out⟩
  subst h0
  rw [if_pos rfl]
  cases q1 <;> cases q2
  all_goals
    go_enter Tryz.func28, Tryz.ntmps28
    go_wp2_with (first | (go_at_call 58; go_must (refine HCA.out.mono ?_); rintro e w1 ⟨rfl, hb⟩; have HB1 := Lib.hid (HB0.out.trans (hb.mono HB0.out.size)); have K1 := Lib.hid (K0.out.below' hb); have X1 := Lib.hid (X0.out.below' hb); clear hb; have k0 := K1.out.cell 0; have k1 := K1.out.cell 1; have k2 := K1.out.cell 2; have k3 := K1.out.cell 3; have k4 := K1.out.cell 4; have k5 := K1.out.cell 5; have k6 := K1.out.cell 6; have k7 := K1.out.cell 7) | (go_at_call 49; go_must (refine (HIC.out _).mono ?_); rintro e w2 ⟨rfl, hb⟩; have HB2 := Lib.hid (HB1.out.trans (hb.mono HB1.out.size)); have K2 := Lib.hid (K1.out.below' hb); have X2 := Lib.hid (X1.out.below' hb); clear hb k0 k1 k2 k3 k4 k5 k6 k7; have k3 := K2.out.cell 3; have x0 := X2.out.cell 0) | (go_at_call 50; refine (rin_any _ _ _ _).mono ?_; rintro e w9 ⟨rfl, rfl⟩))
    go_ret
    exact ⟨rfl, HB2.out⟩
end
end Go.Proofs.YtnbeembnnjdmdaaGreatDoor
