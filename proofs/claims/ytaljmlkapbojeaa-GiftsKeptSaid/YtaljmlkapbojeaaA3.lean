/- The program's Audit. -/
import Derived.Test.YtaljmlkapbojeaaA2
namespace Go.Proofs.Ytaljmlkapbojeaa
open Go.RowKit

theorem size_setCell (w : World) (p : Addr) (v : Value) : (w.setCell p v).heap.size = w.heap.size := by simp [World.setCell]
section
variable (gA bA rA : Option Addr) (gn gc bn bc rn rc B : Nat) (rm : Nat → Nat) (G H R : Nat → Nat → Int) (w : World) (hg : gn ≤ maxLen) (hb : bn ≤ maxLen) (hR : BookRd w B gA gn G bA bn H) (hS : RR w B rA rn rm R) (hB : B ≤ w.heap.size) (hrn : rn ≤ maxLen) (hrm : ∀ i, i < rn → rm i ≤ maxLen)
include hg hb hR hS hB hrn hrm

set_option maxRecDepth 100000 in
set_option maxHeartbeats 4000000 in
theorem gaudit_err (hE : M.audE rn rm gn bn G H R ≠ 0) :
    Calls Try.prog 27 #[.agg #[.slice gA gn gc, .slice bA bn bc], .slice rA rn rc] w fun e w' => e = .returned (audV (M.aud3 rn rm gn bn G H R) (M.audE rn rm gn bn G H R)) ∧ Below w.heap.size w w' := by
  rw [aud3_err hE]
  cases hok : M.okF gn bn G H
  · have hk : M.chkN gn bn G H = 110 := by simp [M.chkN, hok]
    have he : M.audE rn rm gn bn G H R = 110 := by simp [M.audE, hok]
    rw [he]
    have HK := Lib.hid hk
    clear hk he hok hE
    go_enter Try.func27, Try.ntmps27
    go_wp2_with fail
    refine (check_any gA bA gn gc bn bc B G H _ hg hb (by exact hR.below ((belowAlloc _ _).mono hB)) (by simp; omega)).mono ?_
    rw [HK.out]
    rintro e w1 ⟨rfl, hb1⟩
    have HB1 := Lib.hid hb1
    clear hb1
    go_wp2_with fail
    (try simp only [Exit.inBlock, Exit.then])
    refine bodyPost_ret (results_tmp4 rfl _ _ _) rfl ?_
    exact ⟨rfl, (belowAlloc _ _).trans (HB1.out.mono (by simp))⟩
  have hk : M.chkN gn bn G H = 0 := by simp [M.chkN, hok]
  have he : M.audE rn rm gn bn G H R = if M.rowsIn rn rm gn bn R then 0 else 1 := by simp [M.audE, hok]
  have hin : M.rowsIn rn rm gn bn R = false := by
    cases h : M.rowsIn rn rm gn bn R
    · rfl
    · rw [he, h] at hE; simp at hE
  rw [he, hin]
  have ok : Ok gn bn G H := M.okF_iff.1 hok
  have hgn := ok.1
  have hbn := ok.2.1
  have HK := Lib.hid hk
  have HIN := Lib.hid hin
  have HRM := Lib.hid hrm
  have hrn' := hrn
  unfold maxLen at hrn'
  clear hk he hok hrm ok hE hin
  by_cases hne : ¬ rn = bn
  · go_enter Try.func27, Try.ntmps27
    go_wp2_with fail
    refine (check_any gA bA gn gc bn bc B G H _ hg hb (by exact hR.below ((belowAlloc _ _).mono hB)) (by simp; omega)).mono ?_
    rw [HK.out]
    rintro e w1 ⟨rfl, hb1⟩
    have q1 := ((Blk.new w 25 #[.slice gA gn gc, .slice bA bn bc]).below hb1 (by simp)).cell 1
    have HB1 := Lib.hid hb1
    clear hb1
    go_wp2_with fail
    (try simp only [Exit.inBlock, Exit.then])
    refine bodyPost_ret (results_tmp4 rfl _ _ _) rfl ?_
    exact ⟨rfl, (belowAlloc _ _).trans (HB1.out.mono (by simp))⟩
  obtain rfl : bn = rn := by omega
  have HWR := Lib.hid (wrong_in (rn := bn) (gn := gn) (rm := rm) (R := R))
  clear hne
  go_enter Try.func27, Try.ntmps27
  go_wp2_with fail
  refine (check_any gA bA gn gc bn bc B G H _ hg hb (by exact hR.below ((belowAlloc _ _).mono hB)) (by simp; omega)).mono ?_
  rw [HK.out]
  rintro e w1 ⟨rfl, hb1⟩
  have K1 := (Blk.new w 25 #[.slice gA gn gc, .slice bA bn bc]).below hb1 (by simp)
  have q0 := Lib.hid (K1.cell 0)
  have q1 := K1.cell 1
  have hs1 := K1.lt
  have HB1 := Lib.hid ((belowAlloc w (.cells #[.slice gA gn gc, .slice bA bn bc] 25)).trans (hb1.mono (by simp)))
  clear hb1 K1
  go_wp2_with fail
  clear q1
  refine (conr_any rA gA bn rc gn gc w.heap.size B rm R _ hrn HRM.out hg (by exact hS.below (HB1.out.mono hB)) (by have := HB1.out.size; omega) q0.out hs1).mono ?_
  rw [HWR.out, HIN.out]
  rintro e w2 ⟨rfl, hb2⟩
  have HB2 := Lib.hid hb2
  clear hb2
  go_wp2_with fail
  (try simp only [Exit.inBlock, Exit.then])
  refine bodyPost_ret (results_tmp4 rfl _ _ _) rfl ?_
  exact ⟨rfl, HB1.out.trans (HB2.out.mono HB1.out.size)⟩

set_option maxRecDepth 100000 in
set_option maxHeartbeats 12800000 in
theorem gaudit_ok (hE0 : M.audE rn rm gn bn G H R = 0) :
    Calls Try.prog 27 #[.agg #[.slice gA gn gc, .slice bA bn bc], .slice rA rn rc] w fun e w' => e = .returned (audV (M.aud3 rn rm gn bn G H R) (M.audE rn rm gn bn G H R)) ∧ Below w.heap.size w w' := by
  rw [(aud3_ok hE0).1, hE0]
  have hok := (aud3_ok hE0).2.1
  have hin := M.within_bd (aud3_ok hE0).2.2
  have hin2 := (aud3_ok hE0).2.2
  have hk : M.chkN gn bn G H = 0 := by simp [M.chkN, hok]
  have HK := Lib.hid hk
  have ok : Ok gn bn G H := M.okF_iff.1 hok
  have hgn := ok.1
  have hbn := ok.2.1
  have OK := Lib.hid ok
  have HIN := Lib.hid hin.2
  obtain rfl : bn = rn := hin.1.symm
  have HIN2 := Lib.hid hin2
  have HWR := Lib.hid (wrong_in (rn := bn) (gn := gn) (rm := rm) (R := R))
  have HRM := Lib.hid hrm
  have hbt := toNat_i64_and_one
  clear hk hE0 hok hin ok hin2
  obtain ⟨i0, hi, hz0, hz1, hz2⟩ := info_parts int_info
  have MI := Lib.hid (And.intro hi (And.intro hz0 (And.intro hz1 hz2)))
  clear hi hz0 hz1 hz2
  go_enter Try.func27, Try.ntmps27
  go_wp2_with fail
  refine (check_any gA bA gn gc bn bc B G H _ hg hb (by exact hR.below ((belowAlloc _ _).mono hB)) (by simp; omega)).mono ?_
  rw [HK.out]
  rintro e w1 ⟨rfl, hb1⟩
  have K1 := (Blk.new w 25 #[.slice gA gn gc, .slice bA bn bc]).below hb1 (by simp)
  have q0 := Lib.hid (K1.cell 0)
  have q1 := K1.cell 1
  have hs1 := K1.lt
  have HK1 := Lib.hid K1
  have HB1 := Lib.hid ((belowAlloc w (.cells #[.slice gA gn gc, .slice bA bn bc] 25)).trans (hb1.mono (by simp)))
  clear hb1 K1
  go_wp2_with fail
  clear q1
  refine (conr_any rA gA bn rc gn gc w.heap.size B rm R _ hrn HRM.out hg (by exact hS.below (HB1.out.mono hB)) (by have := HB1.out.size; omega) q0.out hs1).mono ?_
  rw [HWR.out, HIN2.out]
  rintro e w2 ⟨rfl, hb2⟩
  have K2 := HK1.out.below hb2 HK1.out.lt
  have W2 := HB1.out.trans (hb2.mono HB1.out.size)
  have q0 := K2.cell 0
  have hs2 := K2.lt
  have KK := Lib.hid (And.intro K2 W2)
  clear hb2 K2 W2 HK1 HB1 hs1
  go_wp2_with (at_make; refine wpList_make_full _ rfl (.tmp 38) (.tmp 38) 58 rfl w2.heap.size 3 i0 (.int .i64 0) 1 Try.underlying58 MI.out.1 MI.out.2.1 MI.out.2.2.1 .i64 .i64 gn gn gn rfl rfl rfl rfl (by rw [MI.out.2.2.2]; omega) (by unfold maxLen; omega) (Nat.le_refl _) ?_; intro w3 hm hg3; have HM := Lib.hid hm; have HG3 := Lib.hid hg3; clear hm hg3)
  have om := (own_made HM.out).congr (F' := ints (M.takTo 0 0 R)) fun i j _ _ => by simp [ints, M.takTo, M.sumTo]
  have hb3 := grown_below HG3.out
  have K3 := KK.out.1.below hb3 KK.out.1.lt
  have W3 := KK.out.2.trans (hb3.mono KK.out.2.size)
  clear HM HG3 hb3 KK q0
  obtain ⟨T, hTT⟩ : ∃ T, T = w2.heap.size := ⟨_, rfl⟩
  rw [← hTT] at om hs2 ⊢
  have hTw : w.heap.size < T := hs2
  have KK := Lib.hid (And.intro K3 (And.intro om W3))
  clear K3 om W3 hs2 hTT
  go_wp2_with fail
  go_loopw [42] (fun i wr => ∃ k : Nat, k ≤ bn ∧ i = .int .i64 k ∧ M.audTo gn G H R k = none ∧ Blk wr w.heap.size 25 #[.slice gA gn gc, .slice bA bn bc] ∧ Own wr T 3 1 (.slice (some ⟨T, 0, none⟩) gn gn) gn (ints (M.takTo k 0 R)) ∧ Below w.heap.size w wr) (fun i _ => bn - (intOf i).toNat)
  case atStart => exact ⟨0, Nat.zero_le _, rfl, rfl, KK.out.1, KK.out.2.1, KK.out.2.2⟩
  case round =>
    clear KK
    obtain ⟨k, hk, rfl, hat, k1, ot, hW⟩ := hrel
    have HAT := Lib.hid hat
    have q1 := k1.cell 1
    have hTs0 := (ot.block rfl).2
    have hz0 := hW.size
    by_cases hlt : k < bn
    · obtain ⟨rb, ro, rfl, hrb, eA, ec, x0w, hE⟩ := hS.at_ hlt
      obtain ⟨bb, bo, rfl, hbb, k0w, k1w, k2w⟩ := hR.2.at3 hlt
      have hrw : rb < w.heap.size := by omega
      have hbw : bb < w.heap.size := by omega
      have okb := OK.out.2.2.2 k hlt
      have hmk := (HIN.out k hlt).1
      obtain ⟨p, hp⟩ := Int.eq_ofNat_of_zero_le okb.1
      have hp7 : p ≤ 7 := by have := okb.2.1; omega
      have hpn : (H k 0).toNat = p := by rw [hp]; rfl
      have HPN := Lib.hid hpn
      rw [hmk] at x0w hE
      rw [hp] at k0w
      have HE := Lib.hid hE
      have HG := Lib.hid hR.1
      have x0 := (hW.cell (p := ⟨rb, ro + k, none⟩) hrw).trans x0w
      have d0 := (hW.cell (p := ⟨bb, bo + k * 3, none⟩) (by show bb < _; omega)).trans k0w
      have d1 := (hW.cell (p := ⟨bb, bo + k * 3 + 1, none⟩) (by show bb < _; omega)).trans k1w
      have d2 := (hW.cell (p := ⟨bb, bo + k * 3 + 2, none⟩) (by show bb < _; omega)).trans k2w
      have hrs0 : rb < wr.heap.size := by omega
      have hbs0 : bb < wr.heap.size := by omega
      have L0 := Lib.hid (Blk.new wr 32 #[.int .i64 (p : Int), .int .i64 (H k 1), .int .i64 (H k 2)])
      have K0 := Lib.hid (k1.alloc (.cells #[.int .i64 (p : Int), .int .i64 (H k 1), .int .i64 (H k 2)] 32))
      have O0 := Lib.hid (ot.alloc (.cells #[.int .i64 (p : Int), .int .i64 (H k 1), .int .i64 (H k 2)] 32))
      have W0 := Lib.hid (hW.alloc (by omega) (.cells #[.int .i64 (p : Int), .int .i64 (H k 1), .int .i64 (H k 2)] 32))
      clear hE hR hS hmk hp hpn hat k1 ot hW
      go_wp2_with fail
      obtain ⟨S, hSS⟩ : ∃ S, S = wr.heap.size := ⟨_, rfl⟩
      rw [← hSS] at hTs0 L0 ⊢
      have hTS : T < S := hTs0
      have hSw : w.heap.size < S := by omega
      clear hSS hTs0 x0 d0 d1 d2 hrs0 hbs0 hz0 q1
      go_loopw [14, 54] (fun s i wr2 => ∃ g : Nat, g ≤ gn ∧ i = .int .i64 g ∧ s = .int .i64 (M.sumTo g (R k)) ∧ M.audRow G H R k g = none ∧ Blk wr2 w.heap.size 25 #[.slice gA gn gc, .slice (some ⟨bb, bo, none⟩) bn bc] ∧
        Blk wr2 S 32 #[.int .i64 (p : Int), .int .i64 (H k 1), .int .i64 (H k 2)] ∧ Own wr2 T 3 1 (.slice (some ⟨T, 0, none⟩) gn gn) gn (ints (M.takTo k g R)) ∧ Below w.heap.size w wr2) (fun _ i _ => gn - (intOf i).toNat)
      case atStart => exact ⟨0, Nat.zero_le _, rfl, rfl, rfl, K0.out, L0.out, O0.out, W0.out⟩
      case round =>
        clear K0 L0 O0 W0
        obtain ⟨g, hg', rfl, rfl, hrow, k1, l1, ot, hW⟩ := hrel
        have hSr := l1.lt
        have hz := hW.size
        have s2 := l1.cell 2
        have HROW := Lib.hid hrow
        have K1 := Lib.hid k1
        have L1 := Lib.hid l1
        have OT := Lib.hid ot
        have HW := Lib.hid hW
        have cb : ∀ j, j < gn → -1000000 ≤ R k j ∧ R k j ≤ 1000000 := (HIN.out k hlt).2
        have sb := M.sumTo_bd2 (n := g) (f := R k) (c := 1000000) fun j hj => cb j (by omega)
        by_cases hltg : g < gn
        · have q0 := k1.cell 0
          have s0 := l1.cell 0
          have s1 := l1.cell 1
          obtain ⟨eb, eo, rfl, heb, y0w⟩ := HE.out.at_ hltg
          obtain ⟨gb, go, rfl, hgb, c0w, c1w, c2w⟩ := HG.out.at3 hltg
          have y0 := (hW.cell (p := ⟨eb, eo + g, none⟩) (by show eb < _; omega)).trans y0w
          have c0 := (hW.cell (p := ⟨gb, go + g * 3, none⟩) (by show gb < _; omega)).trans c0w
          have c1 := (hW.cell (p := ⟨gb, go + g * 3 + 1, none⟩) (by show gb < _; omega)).trans c1w
          have c2 := (hW.cell (p := ⟨gb, go + g * 3 + 2, none⟩) (by show gb < _; omega)).trans c2w
          have hes : eb < wr.heap.size := by omega
          have hgs : gb < wr.heap.size := by omega
          have hTs : T < wr.heap.size := by omega
          have tc : wr.cell? ⟨T, g, none⟩ = some (.int .i64 (M.takTo k g R g)) := ot.cell1 hltg
          have tf := ot.frz g
          have tb := M.takTo_bd (R := R) (k := k) (g := g) (j := g) (gn := gn) (by omega) hltg (fun i hi j hj _ => (HIN.out i (by omega)).2 j hj)
          have okg := OK.out.2.2.1 g hltg
          have hset := M.takTo_set k g R
          have hsum : M.sumTo (g + 1) (R k) = M.sumTo g (R k) + R k g := rfl
          have hxb := cb g hltg
          obtain ⟨x, hx⟩ : ∃ x, x = R k g := ⟨_, rfl⟩
          obtain ⟨t, ht⟩ : ∃ t, t = M.takTo k g R g := ⟨_, rfl⟩
          obtain ⟨s, hs⟩ : ∃ s, s = M.sumTo g (R k) := ⟨_, rfl⟩
          rw [← hx] at y0 hset hsum hxb
          rw [← ht] at tc tb hset
          rw [← hs] at sb hsum ⊢
          have HSET := Lib.hid hset
          have HSUM := Lib.hid hsum
          have HXX := Lib.hid hx
          have HTX := Lib.hid ht
          have hss0 : -10000000 ≤ s ∧ s ≤ 10000000 := by omega
          clear hx ht hs hset hsum hrow k1 l1 ot hW y0w c0w c1w c2w cb sb s2
          by_cases n0 : x < 0
          · have e0 := decide_eq_true n0
            have hr : M.rsn G H R k g = 1 := M.rsn_1 (by rw [← HXX.out]; exact n0)
            have HR1 := Lib.hid (M.aud_at hlt hltg HAT.out HROW.out (by rw [hr]; decide))
            rw [hr] at HR1
            clear hr
            go_wp2_with fail
            (try simp only [Exit.inBlock, Exit.then])
            refine bodyPost_ret (results_tmp4 rfl _ _ _) rfl ?_
            exact ⟨ret_aud HR1.out, (HW.out.setCell (p := ⟨T, g, none⟩) (by simp; omega) _).alloc (by rw [size_setCell]; omega) _⟩
          have hx0 : 0 ≤ x := by omega
          by_cases n1 : 0 < x
          · have e1 := decide_eq_true n1
            cases hf : M.bt (G g 0) (H k 0).toNat
            · have hz0 : G g 0 / 2 ^ p % 2 = 0 := by
                have hf' := hf
                unfold M.bt at hf'
                rw [HPN.out] at hf'
                have h2 : ¬ G g 0 / 2 ^ p % 2 = 1 := by simpa using hf'
                omega
              have hr : M.rsn G H R k g = 2 := M.rsn_2 (by rw [← HXX.out]; exact n1) hf
              have HR1 := Lib.hid (M.aud_at hlt hltg HAT.out HROW.out (by rw [hr]; decide))
              rw [hr] at HR1
              clear hr hf n0
              go_wp2_with fail
              (try simp only [Exit.inBlock, Exit.then])
              refine bodyPost_ret (results_tmp4 rfl _ _ _) rfl ?_
              exact ⟨ret_aud HR1.out, (HW.out.setCell (p := ⟨T, g, none⟩) (by simp; omega) _).alloc (by rw [size_setCell]; omega) _⟩
            · have hz1 : G g 0 / 2 ^ p % 2 = 1 := by
                unfold M.bt at hf
                rw [HPN.out] at hf
                simpa using hf
              have HF := Lib.hid hf
              clear hf
              by_cases g3 : H k 1 < G g 1
              · have e3 := decide_eq_true g3
                have hr : M.rsn G H R k g = 3 := M.rsn_3 (by rw [← HXX.out]; exact n1) HF.out g3
                have HR1 := Lib.hid (M.aud_at hlt hltg HAT.out HROW.out (by rw [hr]; decide))
                rw [hr] at HR1
                clear hr g3 n0
                go_wp2_with fail
                (try simp only [Exit.inBlock, Exit.then])
                refine bodyPost_ret (results_tmp4 rfl _ _ _) rfl ?_
                exact ⟨ret_aud HR1.out, (HW.out.setCell (p := ⟨T, g, none⟩) (by simp; omega) _).alloc (by rw [size_setCell]; omega) _⟩
              have e3 := decide_eq_false g3
              have SRVH := Lib.hid (fun (_ : 0 < R k g) => And.intro HF.out (Int.not_lt.1 g3))
              clear g3 n0
              go_wp2_with fail
              clear hz1 s0 s1 y0 tc tf
              have oY := OT.out.set1 g (.int .i64 (t + x))
              rw [upd_ints, HSET.out] at oY
              have oX := oY.alloc (.cells #[.int .i64 (G g 0), .int .i64 (G g 1), .int .i64 (G g 2)] 36)
              have kX := (K1.out.far (p := ⟨T, g, none⟩) (by simp; omega) (.int .i64 (t + x))).alloc (.cells #[.int .i64 (G g 0), .int .i64 (G g 1), .int .i64 (G g 2)] 36)
              have lX := (L1.out.far (p := ⟨T, g, none⟩) (by simp; omega) (.int .i64 (t + x))).alloc (.cells #[.int .i64 (G g 0), .int .i64 (G g 1), .int .i64 (G g 2)] 36)
              have gX := Blk.new (wr.setCell ⟨T, g, none⟩ (.int .i64 (t + x))) 36 #[.int .i64 (G g 0), .int .i64 (G g 1), .int .i64 (G g 2)]
              rw [size_setCell] at gX
              have bX := (HW.out.setCell (p := ⟨T, g, none⟩) (by simp; omega) (.int .i64 (t + x))).alloc (by rw [size_setCell]; omega) (.cells #[.int .i64 (G g 0), .int .i64 (G g 1), .int .i64 (G g 2)] 36)
              clear oY
              generalize (wr.setCell ⟨T, g, none⟩ (.int .i64 (t + x))).alloc (.cells #[.int .i64 (G g 0), .int .i64 (G g 1), .int .i64 (G g 2)] 36) = X at *
              have tX : X.cell? ⟨T, g, none⟩ = some (.int .i64 (M.takTo k (g + 1) R g)) := oX.cell1 hltg
              rw [← HSET.out, show M.setI (M.takTo k g R) g (t + x) g = t + x by simp [M.setI]] at tX
              have hTX := (oX.block rfl).2
              have z2 := gX.cell 2
              have hgX := gX.lt
              have KX := Lib.hid kX
              have LX := Lib.hid lX
              have OX := Lib.hid oX
              have BX := Lib.hid bX
              clear kX lX oX bX gX
              by_cases g4 : G g 2 < t + x
              · have hr : M.rsn G H R k g = 4 := M.rsn_4 (by rw [← HXX.out]; omega) SRVH.out (by rw [← HTX.out, ← HXX.out]; exact g4)
                have HR4 := Lib.hid (M.aud_at hlt hltg HAT.out HROW.out (by rw [hr]; decide))
                rw [hr] at HR4
                have g4' := decide_eq_true g4
                clear hr g4
                go_quiet (fail)
                go_wp2_with fail
                (try simp only [Exit.inBlock, Exit.then])
                refine bodyPost_ret (results_tmp4 rfl _ _ _) rfl ?_
                exact ⟨ret_aud HR4.out, (by repeat (first | exact BX.out | refine Below.drewN ?_ _))⟩
              · have hr : M.rsn G H R k g = 0 := M.rsn_0 (by rw [← HXX.out]; omega) SRVH.out (by rw [← HTX.out, ← HXX.out]; exact g4)
                have HR4 := Lib.hid (M.audRow_succ HROW.out hr)
                have g4' := decide_eq_false g4
                clear hr g4
                go_quiet (fail)
                go_wp2_with fail
                go_roundw
                case rel => exact ⟨g + 1, by omega, by go_num, by rw [HSUM.out], HR4.out, KX.out, LX.out, OX.out, (by repeat (first | exact BX.out | refine Below.drewN ?_ _))⟩
                case measure => simp [intOf]; omega
          · have e1 := decide_eq_false n1
            have SRV : 0 < R k g → M.bt (G g 0) (H k 0).toNat = true ∧ G g 1 ≤ H k 1 := fun h => by rw [← HXX.out] at h; omega
            have SRVH := Lib.hid SRV
            clear SRV
            go_wp2_with fail
            clear s0 s1 y0 tc tf
            have oY := OT.out.set1 g (.int .i64 (t + x))
            rw [upd_ints, HSET.out] at oY
            have oX := oY.alloc (.cells #[.int .i64 (G g 0), .int .i64 (G g 1), .int .i64 (G g 2)] 36)
            have kX := (K1.out.far (p := ⟨T, g, none⟩) (by simp; omega) (.int .i64 (t + x))).alloc (.cells #[.int .i64 (G g 0), .int .i64 (G g 1), .int .i64 (G g 2)] 36)
            have lX := (L1.out.far (p := ⟨T, g, none⟩) (by simp; omega) (.int .i64 (t + x))).alloc (.cells #[.int .i64 (G g 0), .int .i64 (G g 1), .int .i64 (G g 2)] 36)
            have gX := Blk.new (wr.setCell ⟨T, g, none⟩ (.int .i64 (t + x))) 36 #[.int .i64 (G g 0), .int .i64 (G g 1), .int .i64 (G g 2)]
            rw [size_setCell] at gX
            have bX := (HW.out.setCell (p := ⟨T, g, none⟩) (by simp; omega) (.int .i64 (t + x))).alloc (by rw [size_setCell]; omega) (.cells #[.int .i64 (G g 0), .int .i64 (G g 1), .int .i64 (G g 2)] 36)
            clear oY
            generalize (wr.setCell ⟨T, g, none⟩ (.int .i64 (t + x))).alloc (.cells #[.int .i64 (G g 0), .int .i64 (G g 1), .int .i64 (G g 2)] 36) = X at *
            have tX : X.cell? ⟨T, g, none⟩ = some (.int .i64 (M.takTo k (g + 1) R g)) := oX.cell1 hltg
            rw [← HSET.out, show M.setI (M.takTo k g R) g (t + x) g = t + x by simp [M.setI]] at tX
            have hTX := (oX.block rfl).2
            have z2 := gX.cell 2
            have hgX := gX.lt
            have KX := Lib.hid kX
            have LX := Lib.hid lX
            have OX := Lib.hid oX
            have BX := Lib.hid bX
            clear kX lX oX bX gX
            by_cases g4 : G g 2 < t + x
            · have hr : M.rsn G H R k g = 4 := M.rsn_4 (by rw [← HXX.out]; omega) SRVH.out (by rw [← HTX.out, ← HXX.out]; exact g4)
              have HR4 := Lib.hid (M.aud_at hlt hltg HAT.out HROW.out (by rw [hr]; decide))
              rw [hr] at HR4
              have g4' := decide_eq_true g4
              clear hr g4
              go_quiet (fail)
              go_wp2_with fail
              (try simp only [Exit.inBlock, Exit.then])
              refine bodyPost_ret (results_tmp4 rfl _ _ _) rfl ?_
              exact ⟨ret_aud HR4.out, (by repeat (first | exact BX.out | refine Below.drewN ?_ _))⟩
            · have hr : M.rsn G H R k g = 0 := M.rsn_0 (by rw [← HXX.out]; omega) SRVH.out (by rw [← HTX.out, ← HXX.out]; exact g4)
              have HR4 := Lib.hid (M.audRow_succ HROW.out hr)
              have g4' := decide_eq_false g4
              clear hr g4
              go_quiet (fail)
              go_wp2_with fail
              go_roundw
              case rel => exact ⟨g + 1, by omega, by go_num, by rw [HSUM.out], HR4.out, KX.out, LX.out, OX.out, (by repeat (first | exact BX.out | refine Below.drewN ?_ _))⟩
              case measure => simp [intOf]; omega
        · obtain rfl : g = gn := by omega
          obtain ⟨s, hs⟩ : ∃ s, s = M.sumTo g (R k) := ⟨_, rfl⟩
          rw [← hs] at sb ⊢
          have HSX := Lib.hid hs
          clear hs hrow k1 l1 ot hW cb sb
          by_cases hsum : s = H k 2
          · have HA := Lib.hid (M.audTo_succ HAT.out HROW.out (by rw [← HSX.out]; exact hsum))
            subst hsum
            go_wp2_with fail
            go_roundw
            case rel => exact ⟨k + 1, by omega, by go_num, HA.out, K1.out, OT.out.congr fun i j hi _ => by unfold ints; rw [M.takTo_next hi], HW.out⟩
            case measure => simp [intOf]; omega
          · have hsn : (s == H k 2) = false := by simpa using hsum
            have HA := Lib.hid (M.aud_sum hlt HAT.out HROW.out (by rw [← HSX.out]; exact hsum))
            clear hsum
            go_wp2_with fail
            (try simp only [Exit.inBlock, Exit.then])
            refine bodyPost_ret (results_tmp4 rfl _ _ _) rfl ?_
            exact ⟨ret_aud HA.out, HW.out⟩
    · obtain rfl : k = bn := by omega
      have HA := Lib.hid (M.aud_none HAT.out)
      have HW := Lib.hid hW
      clear k1 ot hW hat
      go_wp2_with fail
      (try simp only [Exit.inBlock, Exit.then])
      refine bodyPost_ret (results_tmp4 rfl _ _ _) rfl ?_
      exact ⟨ret_aud HA.out, HW.out⟩
theorem gaudit_any :
    Calls Try.prog 27 #[.agg #[.slice gA gn gc, .slice bA bn bc], .slice rA rn rc] w fun e w' => e = .returned (audV (M.aud3 rn rm gn bn G H R) (M.audE rn rm gn bn G H R)) ∧ Below w.heap.size w w' := by
  by_cases hE : M.audE rn rm gn bn G H R = 0
  · exact gaudit_ok gA bA rA gn gc bn bc rn rc B rm G H R w hg hb hR hS hB hrn hrm hE
  · exact gaudit_err gA bA rA gn gc bn bc rn rc B rm G H R w hg hb hR hS hB hrn hrm hE
end
end Go.Proofs.Ytaljmlkapbojeaa
