/- The reference's Pay. -/
import Derived.Test.YtaljmlkapbojeaaDoorQ1
import Derived.Test.YtaljmlkapbojeaaDoorR1
import Derived.Test.YtaljmlkapbojeaaDoorR2
import Derived.Test.YtaljmlkapbojeaaDoorE1
import Derived.Deep.DeepCutAuto
namespace Go.Proofs.YtaljmlkapbojeaaDoor
open Go.RowKit

theorem okAm {gn bn : Nat} {G H : Nat → Nat → Int} {u : M.St} (ok : Ok gn bn G H) (h : M.Inv gn bn u) : Ok gn bn (gAm G u.L) (gAm H u.N) := by
  refine ⟨ok.1, ok.2.1, fun g hg => ?_, fun i hi => ?_⟩
  · have h1 := ok.2.2.1 g hg
    have h2 := h.1 g hg
    exact ⟨h1.1, h1.2.1, h1.2.2.1, h1.2.2.2.1, h2.1, h2.2⟩
  · have h1 := ok.2.2.2 i hi
    have h2 := h.2.1 i hi
    exact ⟨h1.1, h1.2.1, h1.2.2.1, h1.2.2.2.1, h2.1, h2.2⟩

theorem gAm_set (G : Nat → Nat → Int) (L : Nat → Int) (k : Nat) (x : Int) : set2 (gAm G L) k 2 x = gAm G (M.setI L k x) := by
  funext a c
  unfold set2 gAm M.setI
  by_cases h1 : c = 2
  · by_cases h2 : a = k <;> simp [h1, h2]
  · simp [h1]
theorem RowsOk.grownRow {w w' : World} {lo hi n m : Nat} {v : Value} {F : Nat → Nat → Value} {f : Nat → Nat → Int} (h : RowsOk w lo hi v n m F f) {row : Option Nat} (hg : w.grownBy w' row) (hr : ∀ q, row = some q → hi ≤ q) : RowsOk w' lo hi v n m F f := by
  have ne : ∀ {u : Value}, (∀ g, u.ownBlock = some g → g < hi) → u.ownBlock = none ∨ u.ownBlock ≠ row := fun {u} hu => by
    cases e : u.ownBlock with
    | none => exact .inl rfl
    | some q => exact .inr fun e2 => by have := hu q e; have := hr q e2.symm; omega
  exact ⟨h.1.grown hg (ne h.2.1), h.2.1, fun i hi => by obtain ⟨A, c, h1, h2, h3⟩ := h.2.2 i hi; exact ⟨A, c, h1, h2.grown hg (ne h3), h3⟩⟩
set_option maxRecDepth 100000 in
set_option maxHeartbeats 2000000 in
theorem rpay_bad (gA bA : Option Addr) (gn gc bn bc B : Nat) (G H : Nat → Nat → Int) (w : World) (hg : gn ≤ maxLen) (hb : bn ≤ maxLen) (hR : BookRd w B gA gn G bA bn H) (hB : B ≤ w.heap.size) (hok : M.okF gn bn G H = false) :
    Calls Tryd.prog 11 #[.agg #[.slice gA gn gc, .slice bA bn bc]] w fun e w' => e = .returned (.tuple #[.slice none 0 0, .int .i64 110]) ∧ Below w.heap.size w w' := by
  have hk : M.chkN gn bn G H = 110 := by simp [M.chkN, hok]
  go_enter Tryd.func11, Tryd.ntmps11
  go_wp2_with (go_at_call 15; refine (rcheck_any _ _ _ _ _ _ B _ _ _ hg hb (by exact hR.below ((belowAlloc _ _).mono hB)) (by simp; omega)).mono ?_; rw [hk]; rintro e w1 ⟨rfl, hb1⟩; have HB1 := Lib.hid hb1; clear hb1)
  go_ret2
  exact ⟨rfl, (belowAlloc _ _).trans (HB1.out.mono (by simp))⟩

set_option maxRecDepth 100000 in
set_option maxHeartbeats 2000000 in
theorem rpay_none (gA bA : Option Addr) (gn gc bn bc B : Nat) (G H : Nat → Nat → Int) (w : World) (hR : BookRd w B gA gn G bA bn H) (hB : B ≤ w.heap.size) (hok : M.okF gn bn G H = true) (hp : lpd gn bn G H = false) :
    Calls Tryd.prog 11 #[.agg #[.slice gA gn gc, .slice bA bn bc]] w fun e w' => e = .returned (.tuple #[.slice none 0 0, .int .i64 3]) ∧ Below w.heap.size w w' := by
  have hk : M.chkN gn bn G H = 0 := by simp [M.chkN, hok]
  have ok : Ok gn bn G H := M.okF_iff.1 hok
  have hg := ok.1
  have hb := ok.2.1
  rw [lpd_paid] at hp
  go_enter Tryd.func11, Tryd.ntmps11
  go_wp2_with fail
  refine (rcheck_any gA bA gn gc bn bc B G H _ (by unfold maxLen; omega) (by unfold maxLen; omega) (by exact hR.below ((belowAlloc _ _).mono hB)) (by simp; omega)).mono ?_
  rw [hk]
  rintro e w1 ⟨rfl, hb1⟩
  have HB1 := Lib.hid hb1
  clear hb1
  have K1 := (Blk.new w 25 #[.slice gA gn gc, .slice bA bn bc]).below HB1.out (by simp)
  have W1 := (belowAlloc _ _).trans (HB1.out.mono (by simp))
  have q0 := K1.cell 0
  have q1 := K1.cell 1
  clear HB1 K1
  have HW1 := Lib.hid W1
  clear W1
  go_wp2_with fail
  refine (paid_any gA bA gn gc bn bc B G H _ ok (by exact hR.below (HW1.out.mono hB)) (by have := HW1.out.size; omega)).mono ?_
  rw [hp]
  rintro e w2 ⟨rfl, hb2⟩
  have HB2 := Lib.hid hb2
  clear hb2
  go_wp2_with fail
  go_ret2
  exact ⟨rfl, HW1.out.trans (HB2.out.mono HW1.out.size)⟩

set_option maxRecDepth 100000 in
set_option maxHeartbeats 8000000 in
theorem rpay_ok (gA bA : Option Addr) (gn gc bn bc B : Nat) (G H : Nat → Nat → Int) (w : World) (hR : BookRd w B gA gn G bA bn H) (hB : B ≤ w.heap.size) (hok : M.okF gn bn G H = true) (hp : lpd gn bn G H = true) :
    Calls Tryd.prog 11 #[.agg #[.slice gA gn gc, .slice bA bn bc]] w (Paid w gn bn G H) := by
  have hk : M.chkN gn bn G H = 0 := by simp [M.chkN, hok]
  have ok : Ok gn bn G H := M.okF_iff.1 hok
  have hI := inv_of ok hp
  have hgn := ok.1
  have hbn := ok.2.1
  have RM := Lib.hid (fun (b : Nat) (hb : b < bn) (g : Nat) (hg : g < gn) => rmost_pay ok hp hb hg)
  have HI := Lib.hid hI
  have OK := Lib.hid ok
  rw [lpd_paid] at hp
  obtain ⟨i0, hi, hz0, hz1, hz2⟩ := info_parts int_info
  have MI := Lib.hid (And.intro hi (And.intro hz0 (And.intro hz1 hz2)))
  clear hi hz0 hz1 hz2
  obtain ⟨i1, hi, hz0, hz1, hz2⟩ := info_parts rows_info
  have RI := Lib.hid (And.intro hi (And.intro hz0 (And.intro hz1 hz2)))
  clear hi hz0 hz1 hz2 hI
  go_enter Tryd.func11, Tryd.ntmps11
  go_wp2_with fail
  refine (rcheck_any gA bA gn gc bn bc B G H _ (by unfold maxLen; omega) (by unfold maxLen; omega) (by exact hR.below ((belowAlloc _ _).mono hB)) (by simp; omega)).mono ?_
  rw [hk]
  rintro e w1 ⟨rfl, hb1⟩
  have HB1 := Lib.hid hb1
  clear hb1
  have K1 := (Blk.new w 25 #[.slice gA gn gc, .slice bA bn bc]).below HB1.out (by simp)
  have W1 := (belowAlloc _ _).trans (HB1.out.mono (by simp))
  have q0 := K1.cell 0
  have q1 := K1.cell 1
  have HK1 := Lib.hid K1
  have HW1 := Lib.hid W1
  clear HB1 K1 W1
  go_wp2_with fail
  refine (paid_any gA bA gn gc bn bc B G H _ OK.out (by exact hR.below (HW1.out.mono hB)) (by have := HW1.out.size; omega)).mono ?_
  rw [hp]
  rintro e w2 ⟨rfl, hb2⟩
  have K2 := Lib.hid (HK1.out.below hb2 HK1.out.lt)
  have W2 := Lib.hid (HW1.out.trans (hb2.mono HW1.out.size))
  have q0 := K2.out.cell 0
  have q1 := K2.out.cell 1
  clear hb2 HK1 HW1
  go_wp2_with fail
  refine (copy_any gA bA gn gc bn bc B G H _ (by omega) (by omega) (by exact hR.below (W2.out.mono hB)) (by have := W2.out.size; omega)).mono ?_
  rintro e w3 ⟨v1, v2, rfl, ho1, ho2, hb3⟩
  obtain ⟨A1, c1, rfl⟩ := ho1.form
  obtain ⟨A2, c2, rfl⟩ := ho2.form
  have hk2 := K2.out.lt
  have hz3 := hb3.size
  obtain ⟨D, hD⟩ : ∃ D, D = w3.heap.size := ⟨_, rfl⟩
  have K3 := Lib.hid ((K2.out.below hb3 hk2).alloc (.cells #[.slice A1 gn c1, .slice A2 bn c2] 25))
  have L3 := Lib.hid (blk_at w3 (t := 25) (cs := #[.slice A1 gn c1, .slice A2 bn c2]) hD)
  have O1 := Lib.hid ((ho1.alloc (.cells #[.slice A1 gn c1, .slice A2 bn c2] 25)).less (base' := w.heap.size + 1) (by omega))
  have O2 := Lib.hid ((ho2.alloc (.cells #[.slice A1 gn c1, .slice A2 bn c2] 25)).less (base' := w.heap.size + 1) (by omega))
  have W3 := Lib.hid ((W2.out.trans (hb3.mono (by omega))).alloc (by omega) (.cells #[.slice A1 gn c1, .slice A2 bn c2] 25))
  have hDz : D + 1 ≤ (w3.alloc (.cells #[.slice A1 gn c1, .slice A2 bn c2] 25)).heap.size := by simp; omega
  have hDS : w.heap.size + 1 ≤ D := by omega
  have hbk1 : ∀ g, Value.ownBlock (.slice A1 gn c1) = some g → g < D := fun g hg => by rw [hD]; exact (ho1.block hg).2
  have hbk2 : ∀ g, Value.ownBlock (.slice A2 bn c2) = some g → g < D := fun g hg => by rw [hD]; exact (ho2.block hg).2
  have HBK1 := Lib.hid hbk1
  have HBK2 := Lib.hid hbk2
  clear ho1 ho2 hb3 hbk1 hbk2 q0 q1 K2 W2 hz3 hk2
  obtain ⟨s, hs⟩ : ∃ s, s = s0 G H gn := ⟨_, rfl⟩
  have HS := Lib.hid hs
  have O1' := Lib.hid (O1.out.congr (F' := ints2 (gAm G s.L)) fun i j _ _ => by rw [hs]; unfold gAm; by_cases e : j = 2 <;> simp [e, ints2, s0])
  have O2' := Lib.hid (O2.out.congr (F' := ints2 (gAm H s.N)) fun i j _ _ => by rw [hs]; unfold gAm; by_cases e : j = 2 <;> simp [e, ints2, s0])
  clear hs O1 O2
  go_wp2_with fail
  rw [← hD]
  clear hD
  go_loopw [5, 6] (fun v i wr => ∃ b : Nat, b ≤ bn ∧ i = .int .i64 b ∧ ∃ F, RowsOk wr (D + 1) wr.heap.size v b gn F (M.payAt gn bn s) ∧ Blk wr w.heap.size 25 #[.slice gA gn gc, .slice bA bn bc] ∧ Blk wr D 25 #[.slice A1 gn c1, .slice A2 bn c2] ∧
      Own wr (w.heap.size + 1) 44 3 (.slice A1 gn c1) gn (ints2 (gAm G (M.paySt gn bn s b).L)) ∧ Own wr (w.heap.size + 1) 41 3 (.slice A2 bn c2) bn (ints2 (gAm H (M.paySt gn bn s b).N)) ∧ Below w.heap.size w wr ∧ D + 1 ≤ wr.heap.size) (fun _ i _ => bn - (intOf i).toNat)
  case atStart => exact ⟨0, Nat.zero_le _, rfl, fun _ _ => undef, ⟨Own.nil_, fun g hg => by simp [Value.ownBlock] at hg, fun i hi => absurd hi (by omega)⟩, K3.out, L3.out, O1'.out, O2'.out, W3.out, hDz⟩
  case round =>
    clear K3 L3 O1' O2' W3 hDz
    obtain ⟨b, hb, rfl, F, hrows, k3, l3, o1, o2, hW, hDz⟩ := hrel
    obtain ⟨vA, vc, rfl⟩ := hrows.1.form
    have q0 := k3.cell 0
    have q1 := k3.cell 1
    by_cases hlt : b < bn
    · obtain ⟨t, ht⟩ : ∃ t, t = M.paySt gn bn s b := ⟨_, rfl⟩
      rw [← ht] at o1 o2
      have HT := Lib.hid ht
      have KS := Lib.hid k3
      have LS := Lib.hid l3
      have OO1 := Lib.hid o1
      have OO2 := Lib.hid o2
      have HW := Lib.hid hW
      have HRW := Lib.hid hrows
      clear hrows k3 l3 o1 o2 hW ht
      obtain ⟨T, hT⟩ : ∃ T, T = wr.heap.size := ⟨_, rfl⟩
      have hrT : RowsOk wr (D + 1) T (.slice vA b vc) b gn F (M.payAt gn bn s) := by rw [hT]; exact HRW.out
      have HRT := Lib.hid hrT
      have hTz : T ≤ wr.heap.size := by omega
      have hDT : D + 1 ≤ T := by omega
      clear hrT HRW
      go_wp2_with fail
      go_loopw [7, 8] (fun v i wr => ∃ g : Nat, g ≤ gn ∧ i = .int .i64 g ∧ Own wr T 3 1 v g (ints (M.rowAt gn bn t b)) ∧ RowsOk wr (D + 1) T (.slice vA b vc) b gn F (M.payAt gn bn s) ∧ Blk wr w.heap.size 25 #[.slice gA gn gc, .slice bA bn bc] ∧ Blk wr D 25 #[.slice A1 gn c1, .slice A2 bn c2] ∧
        Own wr (w.heap.size + 1) 44 3 (.slice A1 gn c1) gn (ints2 (gAm G (M.rowSt gn bn t b g).L)) ∧ Own wr (w.heap.size + 1) 41 3 (.slice A2 bn c2) bn (ints2 (gAm H (M.rowSt gn bn t b g).N)) ∧ Below w.heap.size w wr ∧ T ≤ wr.heap.size) (fun _ i _ => gn - (intOf i).toNat)
      case atStart => exact ⟨0, Nat.zero_le _, rfl, Own.nil_, HRT.out, KS.out, LS.out, OO1.out, OO2.out, HW.out, hTz⟩
      case round =>
        clear hT HRT KS LS OO1 OO2 HW hTz q0 q1 hDz
        obtain ⟨g, hg, rfl, om, hrw, k3, l3, o1, o2, hW, hTz⟩ := hrel
        obtain ⟨mA, mc, rfl⟩ := om.form
        have q0 := k3.cell 0
        have q1 := k3.cell 1
        have OM := Lib.hid om
        have HRT := Lib.hid hrw
        have KS := Lib.hid k3
        have HW := Lib.hid hW
        have hSz := k3.lt
        have hDz := l3.lt
        by_cases hlg : g < gn
        · have hIg := (HI.out.pay b hb).row hlt g hg
          have hIg' : M.Inv gn bn (M.rowSt gn bn t b g) := by rw [HT.out, HS.out]; exact hIg
          have hrm := RM.out b hlt g hlg
          have hpay : M.payAt gn bn s b g = M.rowAt gn bn t b g := by rw [HT.out]; rfl
          have hst : stAt gn bn G H b g = M.rowSt gn bn t b g := by rw [HT.out, HS.out]
          have hss : M.payAt gn bn (s0 G H gn) b g = M.payAt gn bn s b g := by rw [HS.out]
          rw [hst, hss, hpay] at hrm
          obtain ⟨g1, c1', e1⟩ := o1.nz (by omega)
          obtain ⟨rfl, rfl⟩ : A1 = some ⟨g1, 0, none⟩ ∧ c1 = c1' := by injection e1 with h1 h2 h3; exact ⟨h1, h3⟩
          obtain ⟨g2, c2', e2⟩ := o2.nz (by omega)
          obtain ⟨rfl, rfl⟩ : A2 = some ⟨g2, 0, none⟩ ∧ c2 = c2' := by injection e2 with h1 h2 h3; exact ⟨h1, h3⟩
          clear e1 e2
          have n12 : g1 ≠ g2 := fun e => o1.apart_type o2 (by decide) g1 rfl (by rw [e]; rfl)
          have q2 : g1 < D := HBK1.out g1 rfl
          have q3 : g2 < D := HBK2.out g2 rfl
          have r1 : w.heap.size + 1 ≤ g1 := (o1.block rfl).1
          have r2 : w.heap.size + 1 ≤ g2 := (o2.block rfl).1
          obtain ⟨u, hu⟩ : ∃ u, u = M.rowSt gn bn t b g := ⟨_, rfl⟩
          rw [← hu] at hIg' hrm o1 o2
          have HU := Lib.hid hu
          obtain ⟨n, hn⟩ : ∃ n, n = M.rowAt gn bn t b g := ⟨_, rfl⟩
          have hbd : 0 ≤ n ∧ n ≤ u.L g ∧ n ≤ u.N b := by rw [hn, hu]; exact M.most_bd (by rw [← hu]; exact hIg') hlt hlg
          rw [← hn] at hrm
          have hLg := hIg'.1 g hlg
          have hNb := hIg'.2.1 b hlt
          have HN := Lib.hid hn
          have HRM := Lib.hid hrm
          obtain ⟨cA, cc, ce, hr1⟩ := o1.rd
          injection ce with ce _ ce3
          subst ce ce3
          obtain ⟨dA, dc, de, hr2⟩ := o2.rd
          injection de with de _ de3
          subst de de3
          have HRD := Lib.hid (And.intro hr1 hr2 : BookRd _ _ _ _ _ _ _ _)
          have OKN := Lib.hid (okAm OK.out hIg')
          have j0 := l3.cell 0
          have j1 := l3.cell 1
          have LS := Lib.hid l3
          have OO1 := Lib.hid o1
          have OO2 := Lib.hid o2
          clear hr1 hr2 o1 o2 l3 k3 hW hrw om hn hu hrm hIg hIg' hpay hst hss
          go_wp2_with fail
          refine (rmost_any (some ⟨g1, 0, none⟩) (some ⟨g2, 0, none⟩) gn _ bn _ wr.heap.size (gAm G u.L) (gAm H u.N) b g _ OKN.out HRD.out (Nat.le_refl _) hlt hlg).mono ?_
          rw [HRM.out]
          rintro e w5 ⟨rfl, hb5⟩
          have l5 := LS.out.below hb5 LS.out.lt
          have o5 := OO1.out.below hb5
          have p5 := OO2.out.below hb5
          have j0 := l5.cell 0
          have j1 := l5.cell 1
          have s1 : w5.cell? ⟨g1, g * 3 + 2, none⟩ = some (.int .i64 (u.L g)) := o5.cell hlg (by omega)
          have s2 : w5.cell? ⟨g2, b * 3 + 2, none⟩ = some (.int .i64 (u.N b)) := p5.cell hlt (by omega)
          have z1 := o5.frz (g * 3 + 2)
          have z2 := p5.frz (b * 3 + 2)
          have m5 := OM.out.below hb5
          have rw5 := HRT.out.below hb5
          have k5 := KS.out.below hb5 hSz
          have W5 := HW.out.trans (hb5.mono (by omega))
          have hz5 := hb5.size
          have L5 := Lib.hid l5
          have O5 := Lib.hid o5
          have P5 := Lib.hid p5
          have M5 := Lib.hid m5
          have R5 := Lib.hid rw5
          have K5 := Lib.hid k5
          have HW5 := Lib.hid W5
          have hD1 : D ≠ g1 := by omega
          have hD2 : D ≠ g2 := by omega
          have n21 : g2 ≠ g1 := fun e => n12 e.symm
          have hg1z : g1 < w5.heap.size := by omega
          have hg2z : g2 < w5.heap.size := by omega
          have hDz5 : D < w5.heap.size := by omega
          have ng : decide (gn ≤ g) = false := decide_eq_false (by omega)
          have nb : decide (bn ≤ b) = false := decide_eq_false (by omega)
          clear q0 q1 l5 o5 p5 m5 rw5 k5 W5 hb5 LS OO1 OO2 OM HRT KS HW HRD OKN HRM
          go_upto_region 17 with fail
          have oX := (O5.out.setCell (p := ⟨g2, b * 3 + 2, none⟩) (off_ne n12) (.int .i64 (u.N b - n))).setm (k := g) (j := 2) (by omega) (.int .i64 (u.L g - n))
          have pX := (P5.out.setm (k := b) (j := 2) (by omega) (.int .i64 (u.N b - n))).setCell (p := ⟨g1, g * 3 + 2, none⟩) (off_ne n21) (.int .i64 (u.L g - n))
          rw [upd2_ints, gAm_set] at oX pX
          have mX := (M5.out.setCell (p := ⟨g2, b * 3 + 2, none⟩) (fun e => by have h := (M5.out.block e).1; dsimp only at h; omega) (.int .i64 (u.N b - n))).setCell (p := ⟨g1, g * 3 + 2, none⟩) (fun e => by have h := (M5.out.block e).1; dsimp only at h; omega) (.int .i64 (u.L g - n))
          have rX := (R5.out.setCell (p := ⟨g2, b * 3 + 2, none⟩) (.inl (by simp; omega)) (.int .i64 (u.N b - n))).setCell (p := ⟨g1, g * 3 + 2, none⟩) (.inl (by simp; omega)) (.int .i64 (u.L g - n))
          have lX := (L5.out.far (p := ⟨g2, b * 3 + 2, none⟩) hD2 (.int .i64 (u.N b - n))).far (p := ⟨g1, g * 3 + 2, none⟩) hD1 (.int .i64 (u.L g - n))
          have kX := (K5.out.far (p := ⟨g2, b * 3 + 2, none⟩) (by simp; omega) (.int .i64 (u.N b - n))).far (p := ⟨g1, g * 3 + 2, none⟩) (by simp; omega) (.int .i64 (u.L g - n))
          have bX := (HW5.out.setCell (p := ⟨g2, b * 3 + 2, none⟩) (by simp; omega) (.int .i64 (u.N b - n))).setCell (p := ⟨g1, g * 3 + 2, none⟩) (by simp; omega) (.int .i64 (u.L g - n))
          have sX : T ≤ ((w5.setCell ⟨g2, b * 3 + 2, none⟩ (.int .i64 (u.N b - n))).setCell ⟨g1, g * 3 + 2, none⟩ (.int .i64 (u.L g - n))).heap.size := by simp; omega
          generalize (w5.setCell ⟨g2, b * 3 + 2, none⟩ (.int .i64 (u.N b - n))).setCell ⟨g1, g * 3 + 2, none⟩ (.int .i64 (u.L g - n)) = X at *
          have OX := Lib.hid oX
          have PX := Lib.hid pX
          have MX := Lib.hid mX
          have RX := Lib.hid rX
          have LX := Lib.hid lX
          have KX := Lib.hid kX
          have BX := Lib.hid bX
          clear oX pX mX rX lX kX bX L5 O5 P5 M5 R5 K5 HW5 s1 s2 z1 z2 j0 j1 ng nb hg1z hg2z hDz5 hz5
          go_wp2_with (at_builtin; refine wpList_app rfl (.tmp 56) (.tmp 58) 33 rfl T 3 1 8 Tryd.underlying33 MI.out.1 MI.out.2.1 MI.out.2.2.1 MI.out.2.2.2 rfl (by decide) (by decide) (MX.out.alloc _) rfl (by omega) (by simp; omega) X.heap.size 1 (fun _ => .int .i64 n) rfl (cell_last rfl) (fun _ _ => rfl) ?_; intro v6 w6 o6 hg6 hat6; obtain ⟨A6, z6, rfl⟩ := o6.form; have HO6 := Lib.hid o6; have HG6 := Lib.hid hg6; clear o6 hg6 hat6)
          go_roundw
          case rel =>
            have hb6 : ∀ q, Value.ownBlock (.slice mA g mc) = some q → T ≤ q := fun q hq => (MX.out.block hq).1
            have hne : ∀ q, q < T → some q ≠ Value.ownBlock (.slice mA g mc) := fun q hq e => by have := hb6 q e.symm; omega
            have far : ∀ {v : Value}, (∀ q, v.ownBlock = some q → q < D) → Apart (.slice mA g mc) v := fun hq q h1 h2 => by have := hq q h2; have := hb6 q h1; omega
            have e : M.rowSt gn bn t b (g + 1) = ⟨M.setI u.L g (u.L g - n), M.setI u.N b (u.N b - n), M.setN u.U b (M.clrN (u.U b) g)⟩ := by
              show M.step gn bn (M.rowSt gn bn t b g) b g = _
              have hm : M.mostS gn bn u b g = n := by rw [HN.out, HU.out]; rfl
              rw [← HU.out]
              unfold M.step
              rw [hm]
            refine ⟨g + 1, by omega, by go_num, ?_, ?_, (KX.out.alloc _).grown HG6.out (hne _ (by omega)), (LX.out.alloc _).grown HG6.out (hne _ (by omega)), by rw [e]; exact (OX.out.alloc _).apart_grown (far HBK1.out) HG6.out, by rw [e]; exact (PX.out.alloc _).apart_grown (far HBK2.out) HG6.out, (BX.out.alloc (by have := BX.out.size; omega) _).grown HG6.out (by have := BX.out.size; simp; omega) (fun q hq => by have := hb6 q hq; omega), by have := HG6.out.size; simp at this; omega⟩
            · refine HO6.out.congr fun i j hi _ => ?_
              unfold upd ints
              by_cases hig : i = g
              · subst hig; simp [HN.out]
              · simp [hig]
            · exact (RX.out.alloc _).grownRow HG6.out (fun q hq => hb6 q hq)
          case measure => simp [intOf]; omega
        · obtain rfl : g = gn := by omega
          have OO1 := Lib.hid o1
          have OO2 := Lib.hid o2
          have LS := Lib.hid l3
          clear om hrw k3 hW o1 o2 l3
          go_wp2_with (at_builtin; refine wpList_app rfl (.tmp 60) (.tmp 62) 29 rfl (D + 1) 33 1 24 Tryd.underlying29 RI.out.1 RI.out.2.1 RI.out.2.2.1 RI.out.2.2.2 rfl (by decide) (by decide) (HRT.out.1.alloc _) rfl (by omega) (by simp; omega) wr.heap.size 1 (fun _ => .slice mA g mc) rfl (cell_last rfl) (fun _ _ => rfl) ?_; intro v6 w6 p6 hg6 hat6; obtain ⟨A6, z6, rfl⟩ := p6.form; have HP6 := Lib.hid p6; have HG6 := Lib.hid hg6; clear p6 hg6 hat6)
          go_roundw
          case rel =>
            have hbound : ∀ q, Value.ownBlock (.slice vA b vc) = some q → D + 1 ≤ q := fun q hq => (HRT.out.1.block hq).1
            have hne : ∀ q, q < D + 1 → some q ≠ Value.ownBlock (.slice vA b vc) := fun q hq e => by have := hbound q e.symm; omega
            have far : ∀ {v : Value}, (∀ q, v.ownBlock = some q → q < D) → Apart (.slice vA b vc) v := fun hq q h1 h2 => by have := hq q h2; have := hbound q h1; omega
            have e : M.paySt g bn s (b + 1) = M.rowSt g bn t b g := by rw [HT.out]; rfl
            refine ⟨b + 1, by omega, by go_num, upd F b fun _ => .slice mA g mc, ?_, (KS.out.alloc _).grown HG6.out (hne _ (by omega)), (LS.out.alloc _).grown HG6.out (hne _ (by omega)), by rw [e]; exact (OO1.out.alloc _).apart_grown (far HBK1.out) HG6.out, by rw [e]; exact (OO2.out.alloc _).apart_grown (far HBK2.out) HG6.out, (HW.out.alloc (by have := HW.out.size; omega) _).grown HG6.out (by have := HW.out.size; simp; omega) (fun q hq => by have := hbound q hq; omega), by have := HG6.out.size; simp at this; omega⟩
            refine ((HRT.out.alloc (.cells #[.slice mA g mc] 33)).app HP6.out HG6.out (((OM.out.less (base' := D + 1) (by omega)).alloc _).congr fun i j hi _ => ?_))
            simp [M.payAt, HT.out, ints]
          case measure => simp [intOf]; omega
    · obtain rfl : b = bn := by omega
      have HR3 := Lib.hid hrows
      have HW := Lib.hid hW
      clear hrows k3 l3 o1 o2 hW
      go_wp2_with fail
      go_ret2
      exact ⟨_, F, rfl, by rw [HS.out] at HR3; exact ⟨HR3.out.1.less (by omega), HR3.out.2.1, fun i hi => by obtain ⟨A, c, h1, h2, h3⟩ := HR3.out.2.2 i hi; exact ⟨A, c, h1, h2.less (by omega), h3⟩⟩, HW.out⟩
end Go.Proofs.YtaljmlkapbojeaaDoor
