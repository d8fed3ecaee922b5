/- The reference's CheckRows and Audit. -/
import Derived.Test.YtaljmlkapbojeaaAMath
import Derived.Test.YtaljmlkapbojeaaW2
import Derived.Test.YtaljmlkapbojeaaR1
import Derived.StillTailTactics
namespace Go.Proofs.Ytaljmlkapbojeaa
open Go.RowKit

theorem rowsIn_bad {rn gn bn k : Nat} {rm : Nat → Nat} {R : Nat → Nat → Int} (hk : k < rn) (h : (decide (rm k = gn) && M.cellsIn R k (rm k)) = false) : M.rowsIn rn rm gn bn R = false := by
  refine Bool.eq_false_iff.2 fun h2 => ?_
  unfold M.rowsIn at h2
  simp only [Bool.and_eq_true] at h2
  have h3 := M.allTo_iff.1 h2.2 k hk
  rw [h] at h3
  cases h3
theorem cellsIn_bad {k g n : Nat} {R : Nat → Nat → Int} (hg : g < n) (h : M.within (R k g) (-1000000) 1000000 = false) : M.cellsIn R k n = false := by
  refine Bool.eq_false_iff.2 fun h2 => ?_
  unfold M.cellsIn at h2
  rw [M.allTo_iff.1 h2 g hg] at h
  cases h
theorem results_tmp4 {fn : Func} {t u v x : Tmp} (h : fn.results = #[.tmp t, .tmp u, .tmp v, .tmp x]) (tmps : Array Value) (P : Program) (w : World) :
    (results fn tmps).run P w = .ok (.tuple #[tmps.getD t undef, tmps.getD u undef, tmps.getD v undef, tmps.getD x undef]) w := by
  simp [results, h]
def audV (a : Int × Int × Int) (e : Int) : Value := .tuple #[.int .i64 a.1, .int .i64 a.2.1, .int .i64 a.2.2, .int .i64 e]
theorem ret_aud {a b : Int × Int × Int} {e : Int} (h : a = b) : Ending.returned (.tuple #[.int .i64 b.1, .int .i64 b.2.1, .int .i64 b.2.2, .int .i64 e]) = .returned (audV a e) := by rw [h]; rfl
theorem aud3_err {rn gn bn : Nat} {rm : Nat → Nat} {G H R : Nat → Nat → Int} (h : M.audE rn rm gn bn G H R ≠ 0) : M.aud3 rn rm gn bn G H R = (0, 0, 0) := by
  unfold M.aud3
  rw [if_neg]
  intro h2
  simp only [Bool.and_eq_true] at h2
  exact h (by simp [M.audE, h2.1, h2.2])
theorem aud3_ok {rn gn bn : Nat} {rm : Nat → Nat} {G H R : Nat → Nat → Int} (h : M.audE rn rm gn bn G H R = 0) : M.aud3 rn rm gn bn G H R = M.aud gn bn G H R ∧ M.okF gn bn G H = true ∧ M.rowsIn rn rm gn bn R = true := by
  unfold M.audE at h
  split at h
  · rename_i h1
    split at h
    · rename_i h2
      exact ⟨by simp [M.aud3, h1, h2], h1, h2⟩
    · exact absurd h (by decide)
  · exact absurd h (by decide)
section
variable (gA bA rA : Option Addr) (gn gc bn bc rn rc B : Nat) (rm : Nat → Nat) (G H R : Nat → Nat → Int) (w : World) (hg : gn ≤ maxLen) (hb : bn ≤ maxLen) (hR : BookRd w B gA gn G bA bn H) (hS : RR w B rA rn rm R) (hB : B ≤ w.heap.size) (hrn : rn ≤ maxLen) (hrm : ∀ i, i < rn → rm i ≤ maxLen)
include hg hb hR hS hB hrn hrm

set_option maxRecDepth 100000 in
set_option maxHeartbeats 4000000 in
theorem checkRows_any :
    Calls Try.prog 53 #[.agg #[.slice gA gn gc, .slice bA bn bc], .slice rA rn rc] w fun e w' => e = .returned (.int .i64 (M.audE rn rm gn bn G H R)) ∧ Below w.heap.size w w' := by
  cases hok : M.okF gn bn G H
  · have hk : M.chkN gn bn G H = 110 := by simp [M.chkN, hok]
    have he : M.audE rn rm gn bn G H R = 110 := by simp [M.audE, hok]
    rw [he]
    have HK := Lib.hid hk
    clear hk he hok
    go_enter Try.func53, Try.ntmps53
    go_wp2_with fail
    refine (rcheck_any gA bA gn gc bn bc B G H _ hg hb (by exact hR.below ((belowAlloc _ _).mono hB)) (by simp; omega)).mono ?_
    rw [HK.out]
    rintro e w1 ⟨rfl, hb1⟩
    have HB1 := Lib.hid hb1
    clear hb1
    go_wp2_with fail
    go_ret
    exact ⟨rfl, (belowAlloc _ _).trans (HB1.out.mono (by simp))⟩
  have hk : M.chkN gn bn G H = 0 := by simp [M.chkN, hok]
  have he : M.audE rn rm gn bn G H R = if M.rowsIn rn rm gn bn R then 0 else 1 := by simp [M.audE, hok]
  have ok : Ok gn bn G H := M.okF_iff.1 hok
  have hgn := ok.1
  have hbn := ok.2.1
  have HK := Lib.hid hk
  have HE := Lib.hid he
  have HRM := Lib.hid hrm
  unfold maxLen at hrn
  clear hk he hok hrm ok
  by_cases hne : ¬ rn = bn
  · have hbad : M.rowsIn rn rm gn bn R = false := by simp [M.rowsIn, hne]
    rw [HE.out, hbad]
    clear hbad
    go_enter Try.func53, Try.ntmps53
    go_wp2_with fail
    refine (rcheck_any gA bA gn gc bn bc B G H _ hg hb (by exact hR.below ((belowAlloc _ _).mono hB)) (by simp; omega)).mono ?_
    rw [HK.out]
    rintro e w1 ⟨rfl, hb1⟩
    have q1 := ((Blk.new w 25 #[.slice gA gn gc, .slice bA bn bc]).below hb1 (by simp)).cell 1
    have HB1 := Lib.hid hb1
    clear hb1
    go_wp2_with fail
    go_ret
    exact ⟨rfl, (belowAlloc _ _).trans (HB1.out.mono (by simp))⟩
  obtain rfl : bn = rn := by omega
  clear hne
  go_enter Try.func53, Try.ntmps53
  go_wp2_with fail
  refine (rcheck_any gA bA gn gc bn bc B G H _ hg hb (by exact hR.below ((belowAlloc _ _).mono hB)) (by simp; omega)).mono ?_
  rw [HK.out]
  rintro e w1 ⟨rfl, hb1⟩
  have K1 := (Blk.new w 25 #[.slice gA gn gc, .slice bA bn bc]).below hb1 (by simp)
  have W1 := (belowAlloc w (.cells #[.slice gA gn gc, .slice bA bn bc] 25)).trans (hb1.mono (by simp))
  have q1 := K1.cell 1
  have KK := Lib.hid (And.intro K1 W1)
  clear hb1 K1 W1
  go_wp2_with fail
  go_loopw [5] (fun i wr => ∃ k : Nat, k ≤ bn ∧ i = .int .i64 k ∧ (M.allTo k fun i => decide (rm i = gn) && M.cellsIn R i (rm i)) = true ∧ Blk wr w.heap.size 25 #[.slice gA gn gc, .slice bA bn bc] ∧ Below w.heap.size w wr) (fun i _ => bn - (intOf i).toNat)
  case atStart => exact ⟨0, Nat.zero_le _, rfl, rfl, KK.out.1, KK.out.2⟩
  case round =>
    clear KK q1
    obtain ⟨k, hk, rfl, hall, k1, hW⟩ := hrel
    have q0 := k1.cell 0
    have HALL := Lib.hid hall
    have K1 := Lib.hid k1
    have HW := Lib.hid hW
    clear hall k1 hW
    by_cases hlt : k < bn
    · obtain ⟨rb, ro, rfl, hrb, eA, ec, x0w, hE⟩ := hS.at_ hlt
      have hrw : rb < w.heap.size := by omega
      have hz := HW.out.size
      have hrs : rb < wr.heap.size := by omega
      have hmk := HRM.out k hlt
      unfold maxLen at hmk
      have x0 := (HW.out.cell (p := ⟨rb, ro + k, none⟩) hrw).trans x0w
      have HEE := Lib.hid hE
      clear hE hS
      by_cases hm : ¬ rm k = gn
      · have hbad : M.rowsIn bn rm gn bn R = false := rowsIn_bad hlt (by simp [hm])
        have HBAD := Lib.hid hbad
        clear hbad
        go_wp2_with fail
        go_quiet (fail)
        go_wp2_with fail
        go_ret
        exact ⟨ret_int (by rw [HE.out, HBAD.out]; rfl), HW.out.drewN _⟩
      obtain ⟨mk, hmm⟩ : ∃ mk, mk = rm k := ⟨_, rfl⟩
      rw [← hmm] at hmk hm x0 x0w HEE
      have HMM := Lib.hid hmm
      clear hmm
      obtain rfl : gn = mk := by omega
      clear hm
      go_wp2_with fail
      go_quiet (fail)
      go_wp2_with fail
      go_loopw [6] (fun i wr2 => ∃ g : Nat, g ≤ gn ∧ i = .int .i64 g ∧ M.cellsIn R k g = true ∧ Blk wr2 w.heap.size 25 #[.slice gA gn gc, .slice bA bn bc] ∧ Below w.heap.size w wr2) (fun i _ => gn - (intOf i).toNat)
      case atStart => exact ⟨0, Nat.zero_le _, rfl, rfl, K1.out, HW.out.drewN _⟩
      case round =>
        clear q0 x0 K1 HW hrs hz
        obtain ⟨g, hg', rfl, hcells, k1, hW⟩ := hrel
        have x0 := (hW.cell (p := ⟨rb, ro + k, none⟩) hrw).trans x0w
        have hz := hW.size
        have hrs : rb < wr.heap.size := by omega
        have HC := Lib.hid hcells
        have K1 := Lib.hid k1
        have HW := Lib.hid hW
        by_cases hltg : g < gn
        · obtain ⟨eb, eo, rfl, heb, y0w⟩ := HEE.out.at_ hltg
          have y0 := (hW.cell (p := ⟨eb, eo + g, none⟩) (by show eb < _; omega)).trans y0w
          have hes : eb < wr.heap.size := by omega
          have hci : M.cellsIn R k (g + 1) = (M.cellsIn R k g && M.within (R k g) (-1000000) 1000000) := rfl
          rw [HC.out] at hci
          have hbad : M.within (R k g) (-1000000) 1000000 = false → M.rowsIn bn rm gn bn R = false := fun h => rowsIn_bad hlt (by rw [← HMM.out, cellsIn_bad hltg h]; simp)
          have HCI := Lib.hid hci
          have HBAD := Lib.hid hbad
          obtain ⟨x, hx⟩ : ∃ x, x = R k g := ⟨_, rfl⟩
          rw [← hx] at y0
          have HX := Lib.hid hx
          clear hcells k1 hW hci hbad hx y0w
          cases hwi : M.within x (-1000000) 1000000
          all_goals
            have HWI := Lib.hid hwi
            clear hwi
            go_wp2_with (go_at_call 29; refine (from_any _ _ _ _).mono ?_; rw [HWI.out]; rintro e w1 ⟨rfl, rfl⟩)
          · go_ret
            exact ⟨ret_int (by rw [HE.out, HBAD.out (by rw [← HX.out]; exact HWI.out)]; rfl), HW.out⟩
          · go_roundw
            case rel => exact ⟨g + 1, by omega, by go_num, by rw [HCI.out, ← HX.out, HWI.out]; rfl, K1.out, HW.out⟩
            case measure => simp [intOf]; omega
        · obtain rfl : g = gn := by omega
          have hall1 : (M.allTo (k + 1) fun i => decide (rm i = g) && M.cellsIn R i (rm i)) = ((M.allTo k fun i => decide (rm i = g) && M.cellsIn R i (rm i)) && (decide (rm k = g) && M.cellsIn R k (rm k))) := rfl
          rw [HALL.out, ← HMM.out, HC.out] at hall1
          have HALL1 := Lib.hid hall1
          clear hcells k1 hW hall1
          go_wp2_with fail
          go_roundw
          case rel => exact ⟨k + 1, by omega, by go_num, by rw [HALL1.out]; simp, K1.out, HW.out⟩
          case measure => simp [intOf]; omega
    · obtain rfl : k = bn := by omega
      have hgood : M.rowsIn k rm gn k R = true := by unfold M.rowsIn; rw [HALL.out]; simp
      have HGOOD := Lib.hid hgood
      clear hgood
      go_wp2_with fail
      go_ret
      exact ⟨ret_int (by rw [HE.out, HGOOD.out]; rfl), HW.out⟩
set_option maxRecDepth 100000 in
set_option maxHeartbeats 12800000 in
theorem raudit_any :
    Calls Try.prog 28 #[.agg #[.slice gA gn gc, .slice bA bn bc], .slice rA rn rc] w fun e w' => e = .returned (audV (M.aud3 rn rm gn bn G H R) (M.audE rn rm gn bn G H R)) ∧ Below w.heap.size w w' := by
  by_cases hE : ¬ M.audE rn rm gn bn G H R = 0
  · rw [aud3_err hE]
    have hcr := checkRows_any gA bA rA gn gc bn bc rn rc B rm G H R
    obtain ⟨er, her⟩ : ∃ er, er = M.audE rn rm gn bn G H R := ⟨_, rfl⟩
    rw [← her] at hE hcr ⊢
    have HCR := Lib.hid hcr
    have hE' : (er == 0) = false := by simpa using hE
    clear her hcr
    go_enter Try.func28, Try.ntmps28
    go_wp2_with fail
    refine (HCR.out _ hg hb (by exact hR.below ((belowAlloc _ _).mono hB)) (by exact hS.below ((belowAlloc _ _).mono hB)) (by simp; omega) hrn hrm).mono ?_
    rintro e w1 ⟨rfl, hb1⟩
    have HB1 := Lib.hid hb1
    clear hb1
    go_wp2_with fail
    (try simp only [Exit.inBlock, Exit.then])
    refine bodyPost_ret (results_tmp4 rfl _ _ _) rfl ?_
    exact ⟨rfl, (belowAlloc _ _).trans (HB1.out.mono (by simp))⟩
  have hE0 : M.audE rn rm gn bn G H R = 0 := by omega
  rw [(aud3_ok hE0).1, hE0]
  have hok := (aud3_ok hE0).2.1
  have hin := M.within_bd (aud3_ok hE0).2.2
  have hcr := checkRows_any gA bA rA gn gc bn bc rn rc B rm G H R
  rw [hE0] at hcr
  have HCR := Lib.hid hcr
  have ok : Ok gn bn G H := M.okF_iff.1 hok
  have hgn := ok.1
  have hbn := ok.2.1
  have OK := Lib.hid ok
  have HIN := Lib.hid hin.2
  obtain rfl : bn = rn := hin.1.symm
  have HRM := Lib.hid hrm
  clear hcr hE hE0 hok hin ok
  obtain ⟨i0, hi, hz0, hz1, hz2⟩ := info_parts int_info
  have MI := Lib.hid (And.intro hi (And.intro hz0 (And.intro hz1 hz2)))
  clear hi hz0 hz1 hz2
  go_enter Try.func28, Try.ntmps28
  go_wp2_with fail
  refine (HCR.out _ hg hb (by exact hR.below ((belowAlloc _ _).mono hB)) (by exact hS.below ((belowAlloc _ _).mono hB)) (by simp; omega) hrn hrm).mono ?_
  rintro e w1 ⟨rfl, hb1⟩
  have K1 := (Blk.new w 25 #[.slice gA gn gc, .slice bA bn bc]).below hb1 (by simp)
  have W1 := (belowAlloc w (.cells #[.slice gA gn gc, .slice bA bn bc] 25)).trans (hb1.mono (by simp))
  have q0 := K1.cell 0
  have q1 := K1.cell 1
  have hs1 := K1.lt
  have KK := Lib.hid (And.intro K1 W1)
  clear hb1 K1 W1
  go_wp2_with (at_make; refine wpList_make_full _ rfl (.tmp 21) (.tmp 21) 58 rfl w1.heap.size 3 i0 (.int .i64 0) 1 Try.underlying58 MI.out.1 MI.out.2.1 MI.out.2.2.1 .i64 .i64 gn gn gn rfl rfl rfl rfl (by rw [MI.out.2.2.2]; omega) (by unfold maxLen; omega) (Nat.le_refl _) ?_; intro w3 hm hg3; have HM := Lib.hid hm; have HG3 := Lib.hid hg3; clear hm hg3)
  have om := (own_made HM.out).congr (F' := ints (M.takTo 0 0 R)) fun i j _ _ => by simp [ints, M.takTo, M.sumTo]
  have hb3 := grown_below HG3.out
  have K3 := KK.out.1.below hb3 KK.out.1.lt
  have W3 := KK.out.2.trans (hb3.mono KK.out.2.size)
  clear HM HG3 hb3 KK q0 q1
  obtain ⟨T, hTT⟩ : ∃ T, T = w1.heap.size := ⟨_, rfl⟩
  rw [← hTT] at om hs1 ⊢
  have hTw : w.heap.size < T := hs1
  have KK := Lib.hid (And.intro K3 (And.intro om W3))
  clear K3 om W3 hs1 hTT
  go_wp2_with fail
  go_loopw [9] (fun i wr => ∃ k : Nat, k ≤ bn ∧ i = .int .i64 k ∧ M.audTo gn G H R k = none ∧ Blk wr w.heap.size 25 #[.slice gA gn gc, .slice bA bn bc] ∧ Own wr T 3 1 (.slice (some ⟨T, 0, none⟩) gn gn) gn (ints (M.takTo k 0 R)) ∧ Below w.heap.size w wr) (fun i _ => bn - (intOf i).toNat)
  case atStart => exact ⟨0, Nat.zero_le _, rfl, rfl, KK.out.1, KK.out.2.1, KK.out.2.2⟩
  case round =>
    clear KK
    obtain ⟨k, hk, rfl, hat, k1, ot, hW⟩ := hrel
    have HAT := Lib.hid hat
    have K1 := Lib.hid k1
    have OT := Lib.hid ot
    have HW := Lib.hid hW
    clear hat k1 ot hW
    by_cases hlt : k < bn
    · obtain ⟨rb, ro, rfl, hrb, eA, ec, x0w, hE⟩ := hS.at_ hlt
      obtain ⟨bb, bo, rfl, hbb, k0w, k1w, k2w⟩ := hR.2.at3 hlt
      have hrw : rb < w.heap.size := by omega
      have hbw : bb < w.heap.size := by omega
      have okb := OK.out.2.2.2 k hlt
      have hmk := (HIN.out k hlt).1
      rw [hmk] at x0w hE
      have HE := Lib.hid hE
      have HG := Lib.hid hR.1
      clear hE hR hS hmk
      go_wp2_with fail
      go_loopw [10, 11] (fun s i wr2 => ∃ g : Nat, g ≤ gn ∧ i = .int .i64 g ∧ s = .int .i64 (M.sumTo g (R k)) ∧ M.audRow G H R k g = none ∧ Blk wr2 w.heap.size 25 #[.slice gA gn gc, .slice (some ⟨bb, bo, none⟩) bn bc] ∧
        Own wr2 T 3 1 (.slice (some ⟨T, 0, none⟩) gn gn) gn (ints (M.takTo k g R)) ∧ Below w.heap.size w wr2) (fun _ i _ => gn - (intOf i).toNat)
      case atStart => exact ⟨0, Nat.zero_le _, rfl, rfl, rfl, K1.out, OT.out, HW.out⟩
      case round =>
        clear K1 OT HW
        obtain ⟨g, hg', rfl, rfl, hrow, k1, ot, hW⟩ := hrel
        have hTs := (ot.block rfl).2
        have x0 := (hW.cell (p := ⟨rb, ro + k, none⟩) hrw).trans x0w
        have hz := hW.size
        have hrs : rb < wr.heap.size := by omega
        have hbs : bb < wr.heap.size := by omega
        have HROW := Lib.hid hrow
        have K1 := Lib.hid k1
        have OT := Lib.hid ot
        have HW := Lib.hid hW
        have cb : ∀ j, j < gn → -1000000 ≤ R k j ∧ R k j ≤ 1000000 := (HIN.out k hlt).2
        have sb := M.sumTo_bd2 (n := g) (f := R k) (c := 1000000) fun j hj => cb j (by omega)
        by_cases hltg : g < gn
        · obtain ⟨eb, eo, rfl, heb, y0w⟩ := HE.out.at_ hltg
          obtain ⟨gb, go, rfl, hgb, c0w, c1w, c2w⟩ := HG.out.at3 hltg
          have y0 := (hW.cell (p := ⟨eb, eo + g, none⟩) (by show eb < _; omega)).trans y0w
          have hes : eb < wr.heap.size := by omega
          have tc : wr.cell? ⟨T, g, none⟩ = some (.int .i64 (M.takTo k g R g)) := ot.cell1 hltg
          have tf := ot.frz g
          have tb := M.takTo_bd (R := R) (k := k) (g := g) (j := g) (gn := gn) (by omega) hltg (fun i hi j hj _ => (HIN.out i (by omega)).2 j hj)
          have hset := M.takTo_set k g R
          have hsum : M.sumTo (g + 1) (R k) = M.sumTo g (R k) + R k g := rfl
          have hxb := cb g hltg
          obtain ⟨x, hx⟩ : ∃ x, x = R k g := ⟨_, rfl⟩
          obtain ⟨t, ht⟩ : ∃ t, t = M.takTo k g R g := ⟨_, rfl⟩
          obtain ⟨s, hs⟩ : ∃ s, s = M.sumTo g (R k) := ⟨_, rfl⟩
          rw [← hx] at y0 hset hsum hxb
          rw [← ht] at tc tb hset
          rw [← hs] at sb hsum ⊢
          have HSET := Lib.hid hset
          have HSUM := Lib.hid hsum
          have HXX := Lib.hid hx
          have HTX := Lib.hid ht
          have hs0 : -10000000 ≤ s ∧ s ≤ 10000000 := by omega
          have H00 := HIN.out
          clear hx ht hs hset hsum hrow k1 ot hW y0w cb sb H00
          by_cases n0 : x < 0
          · have hr : M.rsn G H R k g = 1 := M.rsn_1 (by rw [← HXX.out]; exact n0)
            have HR1 := Lib.hid (M.aud_at hlt hltg HAT.out HROW.out (by rw [hr]; decide))
            rw [hr] at HR1
            have e0 := decide_eq_true n0
            clear hr n0
            go_wp2_with fail
            (try simp only [Exit.inBlock, Exit.then])
            refine bodyPost_ret (results_tmp4 rfl _ _ _) rfl ?_
            exact ⟨ret_aud HR1.out, HW.out.setCell (p := ⟨T, g, none⟩) (by simp; omega) _⟩
          have e0 := decide_eq_false n0
          have hx0 : 0 ≤ x := by omega
          go_wp2_with fail
          have oX := OT.out.set1 g (.int .i64 (t + x))
          rw [upd_ints, HSET.out] at oX
          have kX := K1.out.far (p := ⟨T, g, none⟩) (by simp; omega) (.int .i64 (t + x))
          have bX := HW.out.setCell (p := ⟨T, g, none⟩) (by simp; omega) (.int .i64 (t + x))
          have hzX : w.heap.size ≤ (wr.setCell ⟨T, g, none⟩ (.int .i64 (t + x))).heap.size := bX.size
          generalize wr.setCell ⟨T, g, none⟩ (.int .i64 (t + x)) = X at *
          have hTX := (oX.block rfl).2
          have q0 := kX.cell 0
          have q1 := kX.cell 1
          have c0 := (bX.cell (p := ⟨gb, go + g * 3, none⟩) (by show gb < _; omega)).trans c0w
          have c1 := (bX.cell (p := ⟨gb, go + g * 3 + 1, none⟩) (by show gb < _; omega)).trans c1w
          have c2 := (bX.cell (p := ⟨gb, go + g * 3 + 2, none⟩) (by show gb < _; omega)).trans c2w
          have d0 := (bX.cell (p := ⟨bb, bo + k * 3, none⟩) (by show bb < _; omega)).trans k0w
          have d1 := (bX.cell (p := ⟨bb, bo + k * 3 + 1, none⟩) (by show bb < _; omega)).trans k1w
          have d2 := (bX.cell (p := ⟨bb, bo + k * 3 + 2, none⟩) (by show bb < _; omega)).trans k2w
          have tX : X.cell? ⟨T, g, none⟩ = some (.int .i64 (M.takTo k (g + 1) R g)) := oX.cell1 hltg
          rw [← HSET.out, show M.setI (M.takTo k g R) g (t + x) g = t + x by simp [M.setI]] at tX
          have hgs : gb < X.heap.size := by omega
          have hbs : bb < X.heap.size := by omega
          have KX := Lib.hid kX
          have OX := Lib.hid oX
          have BX := Lib.hid bX
          clear kX oX bX x0 y0 tc tf K1 OT HW hrs hes hTs hz
          by_cases n1 : 0 < x
          · have e1 := decide_eq_true n1
            have H0 := okb.1
            have H7 := okb.2.1
            cases hf : M.bt (G g 0) (H k 0).toNat
            · have hr : M.rsn G H R k g = 2 := M.rsn_2 (by rw [← HXX.out]; exact n1) hf
              have HR2 := Lib.hid (M.aud_at hlt hltg HAT.out HROW.out (by rw [hr]; decide))
              rw [hr] at HR2
              have HF := Lib.hid hf
              clear hr hf n0
              go_still_tail 13, (by kernel_rfl)
              change wpList _ _ _ _ _ X.drew
              go_wp2_with (go_at_call 46; refine (for_any _ _ _ _ _ _ _ H0 H7).mono ?_; rw [HF.out]; rintro e w4 ⟨rfl, hb4⟩; have HB4 := Lib.hid hb4; clear hb4)
              (try simp only [Exit.inBlock, Exit.then])
              refine bodyPost_ret (results_tmp4 rfl _ _ _) rfl ?_
              exact ⟨ret_aud HR2.out, BX.out.drew.trans (HB4.out.mono hzX)⟩
            · have HF := Lib.hid hf
              clear hf n0
              go_still_tail 13, (by kernel_rfl)
              change wpList _ _ _ _ _ X.drew
              go_wp2_with (go_at_call 46; refine (for_any _ _ _ _ _ _ _ H0 H7).mono ?_; rw [HF.out]; rintro e w4 ⟨rfl, hb4⟩; have HB4 := Lib.hid hb4; clear hb4)
              have KX4 := Lib.hid (KX.out.drew.below HB4.out KX.out.lt)
              have OX4 := Lib.hid (OX.out.drew.below HB4.out)
              have BX4 := Lib.hid (BX.out.drew.trans (HB4.out.mono hzX))
              have hzX4 := HB4.out.size
              have hTX4 : T < w4.heap.size := by have : X.heap.size ≤ w4.heap.size := hzX4; omega
              have q0 := KX4.out.cell 0
              have q1 := KX4.out.cell 1
              have c0 := (BX4.out.cell (p := ⟨gb, go + g * 3, none⟩) (by show gb < _; omega)).trans c0w
              have c1 := (BX4.out.cell (p := ⟨gb, go + g * 3 + 1, none⟩) (by show gb < _; omega)).trans c1w
              have c2 := (BX4.out.cell (p := ⟨gb, go + g * 3 + 2, none⟩) (by show gb < _; omega)).trans c2w
              have d0 := (BX4.out.cell (p := ⟨bb, bo + k * 3, none⟩) (by show bb < _; omega)).trans k0w
              have d1 := (BX4.out.cell (p := ⟨bb, bo + k * 3 + 1, none⟩) (by show bb < _; omega)).trans k1w
              have d2 := (BX4.out.cell (p := ⟨bb, bo + k * 3 + 2, none⟩) (by show bb < _; omega)).trans k2w
              have tX4 : w4.cell? ⟨T, g, none⟩ = some (.int .i64 (t + x)) := (HB4.out.cell (p := ⟨T, g, none⟩) (by show T < X.heap.size; omega)).trans tX
              clear KX OX BX HB4 tX
              by_cases g3 : H k 1 < G g 1
              · have hr : M.rsn G H R k g = 3 := M.rsn_3 (by rw [← HXX.out]; exact n1) HF.out g3
                have HR3 := Lib.hid (M.aud_at hlt hltg HAT.out HROW.out (by rw [hr]; decide))
                rw [hr] at HR3
                have e3 := decide_eq_true g3
                clear hr g3
                go_wp2_with fail
                go_quiet (fail)
                go_wp2_with fail
                (try simp only [Exit.inBlock, Exit.then])
                refine bodyPost_ret (results_tmp4 rfl _ _ _) rfl ?_
                exact ⟨ret_aud HR3.out, (by repeat (first | exact BX4.out | refine Below.drewN ?_ _))⟩
              have SRVH := Lib.hid (fun (_ : 0 < R k g) => And.intro HF.out (Int.not_lt.1 g3))
              have e3 := decide_eq_false g3
              clear g3
              go_wp2_with fail
              go_quiet (fail)
              go_wp2_with fail
              by_cases g4 : G g 2 < t + x
              · have hr : M.rsn G H R k g = 4 := M.rsn_4 (by rw [← HXX.out]; omega) SRVH.out (by rw [← HTX.out, ← HXX.out]; exact g4)
                have HR4 := Lib.hid (M.aud_at hlt hltg HAT.out HROW.out (by rw [hr]; decide))
                rw [hr] at HR4
                have g4' := decide_eq_true g4
                clear hr g4
                go_wp2_with fail
                go_quiet (fail)
                go_wp2_with fail
                (try simp only [Exit.inBlock, Exit.then])
                refine bodyPost_ret (results_tmp4 rfl _ _ _) rfl ?_
                exact ⟨ret_aud HR4.out, (by repeat (first | exact BX4.out | refine Below.drewN ?_ _))⟩
              · have hr : M.rsn G H R k g = 0 := M.rsn_0 (by rw [← HXX.out]; omega) SRVH.out (by rw [← HTX.out, ← HXX.out]; exact g4)
                have HR4 := Lib.hid (M.audRow_succ HROW.out hr)
                have g4' := decide_eq_false g4
                clear hr g4
                go_wp2_with fail
                go_quiet (fail)
                go_wp2_with fail
                go_roundw
                case rel => exact ⟨g + 1, by omega, by go_num, by rw [HSUM.out], HR4.out, KX4.out, OX4.out, (by repeat (first | exact BX4.out | refine Below.drewN ?_ _))⟩
                case measure => simp [intOf]; omega
          · have e1 := decide_eq_false n1
            have SRV : 0 < R k g → M.bt (G g 0) (H k 0).toNat = true ∧ G g 1 ≤ H k 1 := fun h => by rw [← HXX.out] at h; omega
            have SRVH := Lib.hid SRV
            clear SRV n0
            go_quiet (fail)
            go_wp2_with fail
            go_quiet (fail)
            go_wp2_with fail
            by_cases g4 : G g 2 < t + x
            · have hr : M.rsn G H R k g = 4 := M.rsn_4 (by rw [← HXX.out]; omega) SRVH.out (by rw [← HTX.out, ← HXX.out]; exact g4)
              have HR4 := Lib.hid (M.aud_at hlt hltg HAT.out HROW.out (by rw [hr]; decide))
              rw [hr] at HR4
              have g4' := decide_eq_true g4
              clear hr g4
              go_wp2_with fail
              go_quiet (fail)
              go_wp2_with fail
              (try simp only [Exit.inBlock, Exit.then])
              refine bodyPost_ret (results_tmp4 rfl _ _ _) rfl ?_
              exact ⟨ret_aud HR4.out, (by repeat (first | exact BX.out | refine Below.drewN ?_ _))⟩
            · have hr : M.rsn G H R k g = 0 := M.rsn_0 (by rw [← HXX.out]; omega) SRVH.out (by rw [← HTX.out, ← HXX.out]; exact g4)
              have HR4 := Lib.hid (M.audRow_succ HROW.out hr)
              have g4' := decide_eq_false g4
              clear hr g4
              go_wp2_with fail
              go_quiet (fail)
              go_wp2_with fail
              go_roundw
              case rel => exact ⟨g + 1, by omega, by go_num, by rw [HSUM.out], HR4.out, KX.out, OX.out, (by repeat (first | exact BX.out | refine Below.drewN ?_ _))⟩
              case measure => simp [intOf]; omega
        · obtain rfl : g = gn := by omega
          have q1 := k1.cell 1
          have d2 := (hW.cell (p := ⟨bb, bo + k * 3 + 2, none⟩) (by show bb < _; omega)).trans k2w
          obtain ⟨s, hs⟩ : ∃ s, s = M.sumTo g (R k) := ⟨_, rfl⟩
          rw [← hs] at sb ⊢
          have HSX := Lib.hid hs
          clear hs hrow k1 ot hW cb sb
          by_cases hsum : s = H k 2
          · have HA := Lib.hid (M.audTo_succ HAT.out HROW.out (by rw [← HSX.out]; exact hsum))
            subst hsum
            go_wp2_with fail
            go_roundw
            case rel => exact ⟨k + 1, by omega, by go_num, HA.out, K1.out, OT.out.congr fun i j hi _ => by unfold ints; rw [M.takTo_next hi], HW.out⟩
            case measure => simp [intOf]; omega
          · have hsn : (s == H k 2) = false := by simpa using hsum
            have HA := Lib.hid (M.aud_sum hlt HAT.out HROW.out (by rw [← HSX.out]; exact hsum))
            clear hsum
            go_wp2_with fail
            (try simp only [Exit.inBlock, Exit.then])
            refine bodyPost_ret (results_tmp4 rfl _ _ _) rfl ?_
            exact ⟨ret_aud HA.out, HW.out⟩
    · obtain rfl : k = bn := by omega
      have HA := Lib.hid (M.aud_none HAT.out)
      go_wp2_with fail
      (try simp only [Exit.inBlock, Exit.then])
      refine bodyPost_ret (results_tmp4 rfl _ _ _) rfl ?_
      exact ⟨ret_aud HA.out, HW.out⟩
end
end Go.Proofs.Ytaljmlkapbojeaa
