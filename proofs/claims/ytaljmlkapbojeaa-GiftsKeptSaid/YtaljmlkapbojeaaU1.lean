/- The law's payments: are amounts payments? -/
import Derived.Test.YtaljmlkapbojeaaAMath
import Derived.Test.YtaljmlkapbojeaaW2
import Derived.Test.YtaljmlkapbojeaaG1
import Derived.StillTailTactics
namespace Go.Proofs.Ytaljmlkapbojeaa
open Go.RowKit

set_option maxRecDepth 100000 in
set_option maxHeartbeats 8000000 in
theorem payments_any (gA bA rA : Option Addr) (gn gc bn bc rn rc B : Nat) (rm : Nat → Nat) (G H R : Nat → Nat → Int) (w : World) (ok : Ok gn bn G H) (hR : BookRd w B gA gn G bA bn H) (hS : RR w B rA rn rm R) (hB : B ≤ w.heap.size) (hrn : rn ≤ maxLen) (hrm : ∀ i, i < rn → rm i ≤ maxLen) :
    Calls Try.prog 24 #[.agg #[.slice gA gn gc, .slice bA bn bc], .slice rA rn rc] w fun e w' => e = .returned (.bool (M.payB rn rm gn bn G H R)) ∧ Below w.heap.size w w' := by
  unfold maxLen at hrn hrm
  have hgn := ok.1
  have hbn := ok.2.1
  by_cases hne : ¬ rn = bn
  · go_enter Try.func24, Try.ntmps24
    go_wp2_with fail
    go_ret
    exact ⟨ret_bool (by simp [M.payB, hne]), belowAlloc _ _⟩
  obtain rfl : bn = rn := by omega
  clear hne
  obtain ⟨i0, hi, hz0, hz1, hz2⟩ := info_parts int_info
  have MI := Lib.hid (And.intro hi (And.intro hz0 (And.intro hz1 hz2)))
  clear hi hz0 hz1 hz2
  have HRM := Lib.hid hrm
  have OK := Lib.hid ok
  clear hrm ok
  go_enter Try.func24, Try.ntmps24
  go_wp2_with (at_make; refine wpList_make_full _ rfl (.tmp 19) (.tmp 19) 58 rfl (w.heap.size + 1) 3 i0 (.int .i64 0) 1 Try.underlying58 MI.out.1 MI.out.2.1 MI.out.2.2.1 .i64 .i64 gn gn gn rfl rfl rfl rfl (by rw [MI.out.2.2.2]; omega) (by unfold maxLen; omega) (by simp) ?_; intro w3 hm hg3; have HM := Lib.hid hm; have HG3 := Lib.hid hg3; clear hm hg3)
  have om := (own_made HM.out).congr (F' := ints (M.takTo 0 0 R)) fun i j _ _ => by simp [ints, M.takTo, M.sumTo]
  have hb3 := grown_below HG3.out
  have K1 := (Blk.new w 25 #[.slice gA gn gc, .slice bA bn bc]).below hb3 (by simp)
  have W1 := (belowAlloc w (.cells #[.slice gA gn gc, .slice bA bn bc] 25)).trans (hb3.mono (by simp))
  have hT : w.heap.size + 1 < w3.heap.size := by have := (om.block rfl).2; simpa using this
  simp only [size_alloc] at om ⊢
  clear HM HG3 hb3
  obtain ⟨T, hTT⟩ : ∃ T, T = w.heap.size + 1 := ⟨_, rfl⟩
  rw [← hTT] at om hT ⊢
  have hTw : w.heap.size < T := by omega
  have HTT := Lib.hid hTT
  clear hTT
  have KK := Lib.hid (And.intro K1 (And.intro om W1))
  clear K1 om W1
  go_wp2_with fail
  go_loopw [6] (fun i wr => ∃ k : Nat, k ≤ bn ∧ i = .int .i64 k ∧ M.allTo k (M.rowOk gn G H R rm) = true ∧ Blk wr w.heap.size 25 #[.slice gA gn gc, .slice bA bn bc] ∧ Own wr T 3 1 (.slice (some ⟨T, 0, none⟩) gn gn) gn (ints (M.takTo k 0 R)) ∧ Below w.heap.size w wr) (fun i _ => bn - (intOf i).toNat)
  case atStart => exact ⟨0, Nat.zero_le _, rfl, rfl, KK.out.1, KK.out.2.1, KK.out.2.2⟩
  case round =>
    clear KK
    obtain ⟨k, hk, rfl, hall, k1, ot, hW⟩ := hrel
    have q0 := k1.cell 0
    have q1 := k1.cell 1
    have HALL := Lib.hid hall
    have K1 := Lib.hid k1
    have OT := Lib.hid ot
    have HW := Lib.hid hW
    have hz := hW.size
    have hTs := (ot.block rfl).2
    clear hall k1 ot hW
    by_cases hlt : k < bn
    · obtain ⟨rb, ro, rfl, hrb, eA, ec, x0w, hE⟩ := hS.at_ hlt
      obtain ⟨bb, bo, rfl, hbb, k0w, k1w, k2w⟩ := hR.2.at3 hlt
      have hrw : rb < w.heap.size := by omega
      have hbw : bb < w.heap.size := by omega
      have hrs : rb < wr.heap.size := by omega
      have hmk := HRM.out k hlt
      have okb := OK.out.2.2.2 k hlt
      have HE := Lib.hid hE
      have HG := Lib.hid hR.1
      clear hE hR hS
      have x0 := (HW.out.cell (p := ⟨rb, ro + k, none⟩) hrw).trans x0w
      by_cases hm : ¬ rm k = gn
      · go_wp2_with fail
        go_quiet (fail)
        go_wp2_with fail
        go_ret
        exact ⟨ret_bool (M.payB_bad hlt (by simp [M.rowOk, hm])).symm, HW.out.drewN _⟩
      obtain ⟨mk, hmm⟩ : ∃ mk, mk = rm k := ⟨_, rfl⟩
      rw [← hmm] at hmk hm x0 x0w HE
      have HMM := Lib.hid hmm
      clear hmm
      obtain rfl : gn = mk := by omega
      clear hm
      go_wp2_with fail
      go_quiet (fail)
      go_wp2_with fail
      go_loopw [7, 8] (fun s i wr2 => ∃ g : Nat, g ≤ gn ∧ i = .int .i64 g ∧ s = .int .i64 (M.sumTo g (R k)) ∧ M.allTo g (M.cellOk G H R k) = true ∧ Blk wr2 w.heap.size 25 #[.slice gA gn gc, .slice (some ⟨bb, bo, none⟩) bn bc] ∧
        Own wr2 T 3 1 (.slice (some ⟨T, 0, none⟩) gn gn) gn (ints (M.takTo k g R)) ∧ Below w.heap.size w wr2) (fun _ i _ => gn - (intOf i).toNat)
      case atStart => exact ⟨0, Nat.zero_le _, rfl, rfl, rfl, K1.out, OT.out, HW.out.drewN _⟩
      case round =>
        clear q0 q1 x0 K1 OT HW hTs hrs hz
        obtain ⟨g, hg, rfl, rfl, hcells, k1, ot, hW⟩ := hrel
        have q0 := k1.cell 0
        have q1 := k1.cell 1
        have hTs := (ot.block rfl).2
        have x0 := (hW.cell (p := ⟨rb, ro + k, none⟩) hrw).trans x0w
        have hz := hW.size
        have hrs : rb < wr.heap.size := by omega
        have hbs : bb < wr.heap.size := by omega
        have HC := Lib.hid hcells
        have K1 := Lib.hid k1
        have OT := Lib.hid ot
        have HW := Lib.hid hW
        have cb := M.cell_bd hcells
        have sb := M.sumTo_bd (n := g) (f := R k) (c := 1000000) cb
        by_cases hltg : g < gn
        · obtain ⟨eb, eo, rfl, heb, y0w⟩ := HE.out.at_ hltg
          obtain ⟨gb, go, rfl, hgb, c0w, c1w, c2w⟩ := HG.out.at3 hltg
          have y0 := (hW.cell (p := ⟨eb, eo + g, none⟩) (by show eb < _; omega)).trans y0w
          have c0 := (hW.cell (p := ⟨gb, go + g * 3, none⟩) (by show gb < _; omega)).trans c0w
          have c1 := (hW.cell (p := ⟨gb, go + g * 3 + 1, none⟩) (by show gb < _; omega)).trans c1w
          have c2 := (hW.cell (p := ⟨gb, go + g * 3 + 2, none⟩) (by show gb < _; omega)).trans c2w
          have d0 := (hW.cell (p := ⟨bb, bo + k * 3, none⟩) (by show bb < _; omega)).trans k0w
          have d1 := (hW.cell (p := ⟨bb, bo + k * 3 + 1, none⟩) (by show bb < _; omega)).trans k1w
          have d2 := (hW.cell (p := ⟨bb, bo + k * 3 + 2, none⟩) (by show bb < _; omega)).trans k2w
          have hes : eb < wr.heap.size := by omega
          have hgs : gb < wr.heap.size := by omega
          have tc : wr.cell? ⟨T, g, none⟩ = some (.int .i64 (M.takTo k g R g)) := ot.cell1 hltg
          have tf := ot.frz g
          have tb := M.takTo_bd (R := R) (k := k) (g := g) (j := g) (gn := gn) (by omega) hltg (fun i hi j hj hh => by
            rcases Nat.lt_or_eq_of_le hi with h1 | h1
            · have := M.row_bd HALL.out i h1 j hj; omega
            · subst h1
              have := cb j (by omega); omega)
          have hset := M.takTo_set k g R
          have hsum : M.sumTo (g + 1) (R k) = M.sumTo g (R k) + R k g := rfl
          have hcel : M.cellOk G H R k g = (decide (0 ≤ R k g) && decide (R k g ≤ 1000000) && (decide (R k g ≤ 0) || M.srv G H g k)) := rfl
          have hall1 : M.allTo (g + 1) (M.cellOk G H R k) = (M.allTo g (M.cellOk G H R k) && M.cellOk G H R k g) := rfl
          have hsrv : (M.bt (G g 0) (H k 0).toNat && decide (G g 1 ≤ H k 1)) = M.srv G H g k := rfl
          obtain ⟨x, hx⟩ : ∃ x, x = R k g := ⟨_, rfl⟩
          obtain ⟨t, ht⟩ : ∃ t, t = M.takTo k g R g := ⟨_, rfl⟩
          obtain ⟨s, hs⟩ : ∃ s, s = M.sumTo g (R k) := ⟨_, rfl⟩
          rw [← hx] at y0 hset hsum hcel
          rw [← ht] at tc tb hset
          rw [← hs] at sb hsum ⊢
          have HSET := Lib.hid hset
          have HSUM := Lib.hid hsum
          have HCEL := Lib.hid hcel
          have HALL1 := Lib.hid hall1
          have hs0 : 0 ≤ s ∧ s ≤ 10000000 := by omega
          clear hx ht hs hset hsum hcel hall1 hcells k1 ot hW y0w c0w c1w c2w cb sb
          by_cases n0 : x < 0
          · have e0 := decide_eq_true n0
            have hbad : M.cellOk G H R k g = false := by rw [HCEL.out]; simp; omega
            have HBAD := Lib.hid hbad
            clear n0 hbad hsrv
            go_wp2_with fail
            go_quiet (fail)
            go_wp2_with fail
            go_ret
            exact ⟨ret_bool (M.payB_bad hlt (M.rowOk_bad hltg HBAD.out)).symm, HW.out.drewN _⟩
          by_cases n1 : 1000000 < x
          · have e0 := decide_eq_false n0
            have e1 := decide_eq_true n1
            have hbad : M.cellOk G H R k g = false := by rw [HCEL.out]; simp; omega
            have HBAD := Lib.hid hbad
            clear n0 n1 hbad hsrv
            go_wp2_with fail
            go_quiet (fail)
            go_wp2_with fail
            go_ret
            exact ⟨ret_bool (M.payB_bad hlt (M.rowOk_bad hltg HBAD.out)).symm, HW.out.drewN _⟩
          by_cases n2 : 0 < x
          · have e0 := decide_eq_false n0
            have e1 := decide_eq_false n1
            have e2 := decide_eq_true n2
            have H0 := okb.1
            have H7 := okb.2.1
            cases hsv : M.srv G H g k
            · rw [hsv] at hsrv
              have HSRV := Lib.hid hsrv
              have hbad : M.cellOk G H R k g = false := by rw [HCEL.out, hsv]; simp; omega
              have HBAD := Lib.hid hbad
              clear n0 n1 hbad hsrv hsv
              go_wp2_with fail
              go_still_tail 20, (by kernel_rfl)
              change wpList _ _ _ _ _ wr.drew
              go_wp2_with (go_at_call 25; refine (serves_any _ _ _ _ _ _ _ H0 H7).mono ?_; rw [HSRV.out]; rintro e w4 ⟨rfl, hb4⟩; have HB4 := Lib.hid hb4; clear hb4)
              go_ret
              exact ⟨ret_bool (M.payB_bad hlt (M.rowOk_bad hltg HBAD.out)).symm, HW.out.drew.trans (HB4.out.mono hz)⟩
            · rw [hsv] at hsrv
              have HSRV := Lib.hid hsrv
              have hgood : M.cellOk G H R k g = true := by rw [HCEL.out, hsv]; simp; omega
              have HGOOD := Lib.hid hgood
              clear n0 hgood hsrv hsv
              go_wp2_with fail
              go_still_tail 20, (by kernel_rfl)
              change wpList _ _ _ _ _ wr.drew
              go_wp2_with (go_at_call 25; refine (serves_any _ _ _ _ _ _ _ H0 H7).mono ?_; rw [HSRV.out]; rintro e w4 ⟨rfl, hb4⟩; have o4 := OT.out.drew.below hb4; have tc4 : w4.cell? ⟨T, g, none⟩ = some (.int .i64 t) := (hb4.cell (p := ⟨T, g, none⟩) (by show T < wr.heap.size; omega)).trans tc; have tf4 := o4.frz g; have O4 := Lib.hid o4; have HB4 := Lib.hid hb4; clear hb4 o4)
              go_roundw
              case rel =>
                refine ⟨g + 1, by omega, by go_num, by rw [HSUM.out], by rw [HALL1.out, HC.out, HGOOD.out]; rfl, ((K1.out.drew.below HB4.out K1.out.lt).far (p := ⟨T, g, none⟩) (by simp; omega) _), ?_, (HW.out.drew.trans (HB4.out.mono hz)).setCell (p := ⟨T, g, none⟩) (by simp; omega) _⟩
                have o5 := O4.out.set1 g (.int .i64 (t + x))
                rw [upd_ints, HSET.out] at o5
                exact o5
              case measure => simp [intOf]; omega
          · have e0 := decide_eq_false n0
            have e1 := decide_eq_false n1
            have e2 := decide_eq_false n2
            have hgood : M.cellOk G H R k g = true := by rw [HCEL.out]; simp; omega
            have HGOOD := Lib.hid hgood
            have hx0 : 0 ≤ x := by omega
            have hx1 : x ≤ 1000000 := by omega
            clear hgood hsrv n0 n1 n2
            go_wp2_with fail
            go_quiet (fail)
            go_wp2_with fail
            go_roundw
            case rel =>
              refine ⟨g + 1, by omega, by go_num, by rw [HSUM.out], by rw [HALL1.out, HC.out, HGOOD.out]; rfl, ((K1.out.drewN _).far (p := ⟨T, g, none⟩) (by simp; omega) _), ?_, (HW.out.drewN _).setCell (p := ⟨T, g, none⟩) (by simp; omega) _⟩
              have o5 := OT.out.set1 g (.int .i64 (t + x))
              rw [upd_ints, HSET.out] at o5
              exact o5
            case measure => simp [intOf]; omega
        · obtain rfl : g = gn := by omega
          have d2 := (hW.cell (p := ⟨bb, bo + k * 3 + 2, none⟩) (by show bb < _; omega)).trans k2w
          have hrow : M.rowOk g G H R rm k = (decide (rm k = g) && M.allTo g (M.cellOk G H R k) && decide (M.sumTo g (R k) = H k 2)) := rfl
          rw [HC.out, ← HMM.out] at hrow
          have hrall : M.allTo (k + 1) (M.rowOk g G H R rm) = (M.allTo k (M.rowOk g G H R rm) && M.rowOk g G H R rm k) := rfl
          rw [HALL.out] at hrall
          obtain ⟨s, hs⟩ : ∃ s, s = M.sumTo g (R k) := ⟨_, rfl⟩
          rw [← hs] at hrow ⊢
          have HROW := Lib.hid hrow
          have HRALL := Lib.hid hrall
          clear hs hrow hrall hcells k1 ot hW cb sb
          by_cases hsum : s = H k 2
          · subst hsum
            go_wp2_with fail
            go_roundw
            case rel => exact ⟨k + 1, by omega, by go_num, by rw [HRALL.out, HROW.out]; simp, K1.out, OT.out.congr fun i j hi _ => by unfold ints; rw [M.takTo_next hi], HW.out⟩
            case measure => simp [intOf]; omega
          · have hsn : (s == H k 2) = false := by simpa using hsum
            have hbad : M.rowOk g G H R rm k = false := by rw [HROW.out]; simp [hsum]
            have HBAD := Lib.hid hbad
            clear hbad
            go_wp2_with fail
            go_ret
            exact ⟨ret_bool (M.payB_bad hlt HBAD.out).symm, HW.out⟩
    · obtain rfl : k = bn := by omega
      have HG := Lib.hid hR.1
      clear hR hS
      go_wp2_with fail
      go_loopw [10] (fun i wr2 => ∃ g : Nat, g ≤ gn ∧ i = .int .i64 g ∧ (M.allTo g fun g => decide (M.sumTo k (fun i => R i g) ≤ G g 2)) = true ∧ Blk wr2 w.heap.size 25 #[.slice gA gn gc, .slice bA k bc] ∧
        Own wr2 T 3 1 (.slice (some ⟨T, 0, none⟩) gn gn) gn (ints (M.takTo k 0 R)) ∧ Below w.heap.size w wr2) (fun i _ => gn - (intOf i).toNat)
      case atStart => exact ⟨0, Nat.zero_le _, rfl, rfl, K1.out, OT.out, HW.out⟩
      case round =>
        clear q0 q1 K1 OT HW hTs hz
        obtain ⟨g, hg, rfl, htak, k1, ot, hW⟩ := hrel
        have q0 := k1.cell 0
        have HTAK := Lib.hid htak
        have K1 := Lib.hid k1
        have OT := Lib.hid ot
        have HW := Lib.hid hW
        have hz := hW.size
        have hTs := (ot.block rfl).2
        by_cases hltg : g < gn
        · obtain ⟨gb, go, rfl, hgb, c0w, c1w, c2w⟩ := HG.out.at3 hltg
          have c2 := (hW.cell (p := ⟨gb, go + g * 3 + 2, none⟩) (by show gb < _; omega)).trans c2w
          have hgs : gb < wr.heap.size := by omega
          have tc : wr.cell? ⟨T, g, none⟩ = some (.int .i64 (M.takTo k 0 R g)) := ot.cell1 hltg
          rw [show M.takTo k 0 R g = M.sumTo k (fun i => R i g) by simp [M.takTo]] at tc
          have hta : (M.allTo (g + 1) fun g => decide (M.sumTo k (fun i => R i g) ≤ G g 2)) = ((M.allTo g fun g => decide (M.sumTo k (fun i => R i g) ≤ G g 2)) && decide (M.sumTo k (fun i => R i g) ≤ G g 2)) := rfl
          rw [HTAK.out] at hta
          have hpay : decide (M.sumTo k (fun i => R i g) ≤ G g 2) = false → M.payB k rm gn k G H R = false := fun hh => by
            refine Bool.eq_false_iff.2 fun h2 => ?_
            unfold M.payB at h2
            simp only [Bool.and_eq_true] at h2
            rw [M.allTo_iff.1 h2.2 g hltg] at hh
            cases hh
          obtain ⟨t, ht⟩ : ∃ t, t = M.sumTo k (fun i => R i g) := ⟨_, rfl⟩
          rw [← ht] at tc hta hpay
          have HTA := Lib.hid hta
          have HPAY := Lib.hid hpay
          clear ht hta hpay htak k1 ot hW c0w c1w c2w
          by_cases hle : G g 2 < t
          · go_wp2_with fail
            go_quiet (fail)
            go_wp2_with fail
            go_ret
            exact ⟨ret_bool (HPAY.out (by simp; omega)).symm, HW.out.drewN _⟩
          · go_wp2_with fail
            go_quiet (fail)
            go_wp2_with fail
            go_roundw
            case rel => exact ⟨g + 1, by omega, by go_num, by rw [HTA.out]; simp; omega, K1.out, OT.out, HW.out.drewN _⟩
            case measure => simp [intOf]; omega
        · obtain rfl : g = gn := by omega
          clear htak k1 ot hW
          go_wp2_with fail
          go_ret
          exact ⟨ret_bool (by unfold M.payB; rw [HALL.out, HTAK.out]; simp), HW.out⟩
end Go.Proofs.Ytaljmlkapbojeaa
