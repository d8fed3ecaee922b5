/- The contract of Pay where there are payments. -/
import Derived.Test.YtaljmlkapbojeaaDoorG9
namespace Go.Proofs.YtaljmlkapbojeaaDoor
open Go.RowKit

def Paid (w : World) (gn bn : Nat) (G H : Nat → Nat → Int) (e : Ending) (w' : World) : Prop :=
  ∃ v F, e = .returned (.tuple #[v, .int .i64 0]) ∧ RowsOk w' w.heap.size w'.heap.size v bn gn F (M.payAt gn bn (s0 G H gn)) ∧ Below w.heap.size w w'

theorem inv_of {gn bn : Nat} {G H : Nat → Nat → Int} (ok : Ok gn bn G H) (hp : lpd gn bn G H = true) : M.Inv gn bn (s0 G H gn) :=
  ⟨fun g hg => (ok.2.2.1 g hg).2.2.2.2, fun i hi => (ok.2.2.2 i hi).2.2.2.2, fun _ _ => M.useTo_lt (n := 10) ok.1, M.feas_iff.1 hp⟩
theorem LOk.of_inv {gn bn : Nat} {s : M.St} (h : M.Inv gn bn s) (hg : gn ≤ 10) (hb : bn ≤ 8) : LOk gn bn s.L s.N s.U := ⟨hg, hb, h.1, h.2.1, h.2.2.1⟩

set_option maxRecDepth 100000 in
set_option maxHeartbeats 4000000 in
theorem pay_ok (gA bA : Option Addr) (gn gc bn bc B : Nat) (G H : Nat → Nat → Int) (w : World) (hR : BookRd w B gA gn G bA bn H) (hB : B ≤ w.heap.size) (hok : M.okF gn bn G H = true) (hp : lpd gn bn G H = true) :
    Calls Tryd.prog 10 #[.agg #[.slice gA gn gc, .slice bA bn bc]] w (Paid w gn bn G H) := by
  have ok : Ok gn bn G H := M.okF_iff.1 hok
  have hI := inv_of ok hp
  have hgn := ok.1
  have hbn := ok.2.1
  have HP := Lib.hid hp
  obtain ⟨i0, hi, hz0, hz1, hz2⟩ := info_parts int_info
  have HI := Lib.hid hi
  have HZ0 := Lib.hid hz0
  have HZ1 := Lib.hid hz1
  have HZ2 := Lib.hid hz2
  clear hi hz0 hz1 hz2
  obtain ⟨i1, hi, hz0, hz1, hz2⟩ := info_parts rows_info
  have RI := Lib.hid hi
  have RZ0 := Lib.hid hz0
  have RZ1 := Lib.hid hz1
  have RZ2 := Lib.hid hz2
  clear hi hz0 hz1 hz2 hp
  go_enter Tryd.func10, Tryd.ntmps10
  go_wp2_with (go_at_call 25; go_must (refine (open_ok _ _ _ _ _ _ B _ _ _ hok (by exact hR.below ((belowAlloc _ _).mono hB)) (by simp; omega)).mono ?_); rintro e w1 ⟨v1, v2, v3, rfl, hl, hb1⟩; obtain ⟨A1, c1, A2, c2, A3, c3, rfl, rfl, rfl, hrd⟩ := hl.rd; have HB1 := Lib.hid hb1; have HRD := Lib.hid hrd; clear hb1 hrd)
  have hs1 : w.heap.size + 1 ≤ w1.heap.size := by have := HB1.out.size; simpa using this
  go_wp2_with (go_at_call 26; go_must (refine (lpaid_any _ _ _ _ _ _ _ _ w1.heap.size _ _ _ _ (lok_of ok) (by exact HRD.out.below (belowAlloc _ _)) (by simp)).mono ?_); rw [show M.lpaidF gn bn (s0 G H gn).L (s0 G H gn).N (s0 G H gn).U = true from HP.out]; rintro e w2 ⟨rfl, hb2⟩; obtain ⟨hc, hf⟩ := bcell hb2; have HB2 := Lib.hid hb2; clear hb2)
  have K4 := (Blk.new w1 64 #[.slice A1 gn c1, .slice A2 bn c2, .slice A3 bn c3]).below HB2.out (by simp)
  have L4 := (hl.below (belowAlloc w1 (.cells #[.slice A1 gn c1, .slice A2 bn c2, .slice A3 bn c3] 64))).below HB2.out
  have W4 : Below w.heap.size w w2 := ((((belowAlloc _ _).trans (HB1.out.mono (by simp))).alloc (by omega) _).trans (HB2.out.mono (by simp; omega)))
  have z2 : w1.heap.size + 1 ≤ w2.heap.size := by have := HB2.out.size; simpa using this
  have b1 : ∀ g, Value.ownBlock (.slice A1 gn c1) = some g → g < w1.heap.size := fun g hg => (hl.1.block hg).2
  have b2 : ∀ g, Value.ownBlock (.slice A2 bn c2) = some g → g < w1.heap.size := fun g hg => (hl.2.1.block hg).2
  have b3 : ∀ g, Value.ownBlock (.slice A3 bn c3) = some g → g < w1.heap.size := fun g hg => (hl.2.2.1.block hg).2
  clear hc hf HB2 HB1 HRD hl
  obtain ⟨S, hS⟩ : ∃ S, S = w1.heap.size := ⟨_, rfl⟩
  simp only [← hS] at K4 L4 W4 z2 b1 b2 b3 hs1 ⊢
  clear hS
  obtain ⟨s, hs⟩ : ∃ s, s = s0 G H gn := ⟨_, rfl⟩
  have L4' : Ledger w2 (w.heap.size + 1) (.slice A1 gn c1) (.slice A2 bn c2) (.slice A3 bn c3) gn bn s.L s.N s.U := by rw [hs]; simpa [s0] using L4
  rw [← hs] at hI
  have HS := Lib.hid hs
  have HB1 := Lib.hid b1
  have HB2 := Lib.hid b2
  have HB3 := Lib.hid b3
  clear hs L4 b1 b2 b3
  have k1 := K4.cell 1
  go_wp2_with fail
  go_loopw [6, 29] (fun v i wr => ∃ b : Nat, b ≤ bn ∧ i = .int .i64 b ∧ ∃ F, RowsOk wr (S + 1) wr.heap.size v b gn F (M.payAt gn bn s) ∧ Blk wr S 64 #[.slice A1 gn c1, .slice A2 bn c2, .slice A3 bn c3] ∧
      Ledger wr (w.heap.size + 1) (.slice A1 gn c1) (.slice A2 bn c2) (.slice A3 bn c3) gn bn (M.paySt gn bn s b).L (M.paySt gn bn s b).N (M.paySt gn bn s b).U ∧ Below w.heap.size w wr) (fun _ i _ => bn - (intOf i).toNat)
  case atStart => exact ⟨0, Nat.zero_le _, rfl, fun _ _ => undef, ⟨Own.nil_, fun g hg => by simp [Value.ownBlock] at hg, fun i hi => absurd hi (by omega)⟩, K4, L4', W4⟩
  case round =>
    clear k1 K4 L4' W4 z2
    obtain ⟨b, hb, rfl, F, hrows, k4, l4, hW⟩ := hrel
    obtain ⟨vA, vc, rfl⟩ := hrows.1.form
    by_cases hlt : b < bn
    · have k0 := k4.cell 0
      have K4 := Lib.hid k4
      have HW := Lib.hid hW
      have hSw := k4.lt
      clear k4 hW
      go_wp2_with (at_make; refine wpList_make_full _ rfl (.tmp 34) (.tmp 34) 33 rfl wr.heap.size 3 i0 (.int .i64 0) 1 Tryd.underlying33 HI.out HZ0.out HZ1.out .i64 .i64 gn gn gn rfl rfl rfl rfl (by rw [HZ2.out]; omega) (by unfold maxLen; omega) (Nat.le_refl _) ?_; intro w3 hm hg3; have HM := Lib.hid hm; have HG3 := Lib.hid hg3; clear hm hg3)
      have hb3 := grown_below HG3.out
      have om := own_made HM.out
      have r3 := hrows.below hb3
      have l3 := l4.below hb3
      have k3 := K4.out.below hb3 hSw
      have W3 := HW.out.trans (hb3.mono (by have := HW.out.size; omega))
      have hRlt : wr.heap.size < w3.heap.size := (om.block rfl).2
      have hSR : S + 1 ≤ wr.heap.size := by omega
      have hIb := hI.pay b (by omega)
      clear HG3 HM hb3 hrows l4 K4 HW k0 hSw
      obtain ⟨R, hRR⟩ : ∃ R, R = wr.heap.size := ⟨_, rfl⟩
      rw [← hRR] at om r3 hRlt hSR ⊢
      clear hRR
      obtain ⟨t, ht⟩ : ∃ t, t = M.paySt gn bn s b := ⟨_, rfl⟩
      rw [← ht] at l3 hIb
      have HT := Lib.hid ht
      clear ht
      go_loopw [38] (fun i wr => ∃ g : Nat, g ≤ gn ∧ i = .int .i64 g ∧ RowsOk wr (S + 1) R (.slice vA b vc) b gn F (M.payAt gn bn s) ∧ Blk wr S 64 #[.slice A1 gn c1, .slice A2 bn c2, .slice A3 bn c3] ∧
        Ledger wr (w.heap.size + 1) (.slice A1 gn c1) (.slice A2 bn c2) (.slice A3 bn c3) gn bn (M.rowSt gn bn t b g).L (M.rowSt gn bn t b g).N (M.rowSt gn bn t b g).U ∧
        Own wr R 3 1 (.slice (some ⟨R, 0, none⟩) gn gn) gn (ints fun k => if k < g then M.rowAt gn bn t b k else 0) ∧ Below w.heap.size w wr ∧ R < wr.heap.size) (fun i _ => gn - (intOf i).toNat)
      case atStart => exact ⟨0, Nat.zero_le _, rfl, r3, k3, l3, by simpa [ints] using om, W3, hRlt⟩
      case round =>
        clear om r3 k3 l3 W3 hRlt
        obtain ⟨g, hg, rfl, r3, k3, l3, om, W3, hRlt⟩ := hrel
        by_cases hlg : g < gn
        · have hIg := hIb.row hlt g hg
          obtain ⟨g1, c1', e1⟩ := l3.1.nz (by omega)
          obtain ⟨rfl, rfl⟩ : A1 = some ⟨g1, 0, none⟩ ∧ c1 = c1' := by injection e1 with h1 h2 h3; exact ⟨h1, h3⟩
          obtain ⟨g2, c2', e2⟩ := l3.2.1.nz (by omega)
          obtain ⟨rfl, rfl⟩ : A2 = some ⟨g2, 0, none⟩ ∧ c2 = c2' := by injection e2 with h1 h2 h3; exact ⟨h1, h3⟩
          obtain ⟨g3, c3', e3⟩ := l3.2.2.1.nz (by omega)
          obtain ⟨rfl, rfl⟩ : A3 = some ⟨g3, 0, none⟩ ∧ c3 = c3' := by injection e3 with h1 h2 h3; exact ⟨h1, h3⟩
          have q1 : g1 < S := HB1.out g1 rfl
          have q2 : g2 < S := HB2.out g2 rfl
          have q3 : g3 < S := HB3.out g3 rfl
          have n12 : g1 ≠ g2 := fun e => l3.2.2.2.1 g1 rfl (by rw [e]; rfl)
          have n13 : g1 ≠ g3 := fun e => l3.2.2.2.2.1 g1 rfl (by rw [e]; rfl)
          have n23 : g2 ≠ g3 := fun e => l3.2.2.2.2.2 g2 rfl (by rw [e]; rfl)
          clear e1 e2 e3
          obtain ⟨u, hu⟩ : ∃ u, u = M.rowSt gn bn t b g := ⟨_, rfl⟩
          rw [← hu] at hIg l3
          have HU := Lib.hid hu
          obtain ⟨n, hn⟩ : ∃ n, n = M.mostF gn bn u.L u.N u.U b g := ⟨_, rfl⟩
          have hbd : 0 ≤ n ∧ n ≤ u.L g ∧ n ≤ u.N b := by rw [hn]; exact M.most_bd hIg hlt hlg
          have hLg := hIg.1 g hlg
          have hNb := hIg.2.1 b hlt
          have HN := Lib.hid hn
          have k0 := k3.cell 0
          have k1 := k3.cell 1
          have k2 := k3.cell 2
          obtain ⟨A1', d1, A2', d2, A3', d3, f1, f2, f3, hrd⟩ := l3.rd
          obtain ⟨rfl, rfl⟩ : some ⟨g1, 0, none⟩ = A1' ∧ c1 = d1 := by injection f1 with h1 h2 h3; exact ⟨h1, h3⟩
          obtain ⟨rfl, rfl⟩ : some ⟨g2, 0, none⟩ = A2' ∧ c2 = d2 := by injection f2 with h1 h2 h3; exact ⟨h1, h3⟩
          obtain ⟨rfl, rfl⟩ : some ⟨g3, 0, none⟩ = A3' ∧ c3 = d3 := by injection f3 with h1 h2 h3; exact ⟨h1, h3⟩
          have HRD := Lib.hid hrd
          have LK := Lib.hid (LOk.of_inv hIg hgn hbn)
          have K3 := Lib.hid k3
          have HL3 := Lib.hid l3
          have HR3 := Lib.hid r3
          have HOM := Lib.hid om
          have HW3 := Lib.hid W3
          clear f1 f2 f3 hrd hu hn k3 l3 r3 om W3 hIg hIb hI ok hok hR
          go_wp2_with (go_at_call 27; go_must (refine (lmost_any _ _ _ _ _ _ _ _ _ _ _ _ _ _ _ LK.out HRD.out (Nat.le_refl _) hlt hlg).mono ?_); rw [← HN.out]; rintro e w5 ⟨rfl, hb5⟩; have l5 := HL3.out.below hb5; have o5 := HOM.out.below hb5; have k5 := K3.out.below hb5 K3.out.lt; have s1 : w5.cell? ⟨R, g, none⟩ = some _ := o5.cell1 hlg; have s2 : w5.cell? ⟨g2, b, none⟩ = some (.int .i64 (u.N b)) := l5.2.1.cell1 hlt; have s3 : w5.cell? ⟨g1, g, none⟩ = some (.int .i64 (u.L g)) := l5.1.cell1 hlg; have s4 : w5.cell? ⟨g3, b, none⟩ = some (.int .i64 (u.U b : Int)) := l5.2.2.1.cell1 hlt; have j0 := k5.cell 0; have j1 := k5.cell 1; have j2 := k5.cell 2; have z1 : w5.frozen? ⟨R, g, none⟩ = false := o5.frz g; have z2 : w5.frozen? ⟨g2, b, none⟩ = false := l5.2.1.frz b; have z3 : w5.frozen? ⟨g1, g, none⟩ = false := l5.1.frz g; have z4 : w5.frozen? ⟨g3, b, none⟩ = false := l5.2.2.1.frz b; have HB5 := Lib.hid hb5; have L5 := Lib.hid l5; have O5 := Lib.hid o5; have K5 := Lib.hid k5; clear hb5 l5 o5 k5)
          have m1 : wrap64 (2 ^ g) = ((M.bit g : Nat) : Int) := (pow_wrap (by omega)).1
          have m3 : IntKind.i64.wrap (2 ^ g) = ((M.bit g : Nat) : Int) := (pow_wrap (by omega)).2
          have m2 := i64_andNot_nat (u.U b) g (by have := LK.out.2.2.2.2 b hlt; omega) (by omega)
          obtain ⟨cv, hcv⟩ : ∃ cv, cv = M.clrN (u.U b) g := ⟨_, rfl⟩
          rw [← hcv] at m2
          have HCV := Lib.hid hcv
          clear hcv
          have lX := ((L5.out.far (p := ⟨R, g, none⟩) (off_ne (by omega)) (off_ne (by omega)) (off_ne (by omega)) (.int .i64 n)).setN b (u.N b - n)).setL g (u.L g - n)
          have oX := ((O5.out.set1 g (.int .i64 n)).setCell (p := ⟨g2, b, none⟩) (off_ne (by omega)) (.int .i64 (u.N b - n))).setCell (p := ⟨g1, g, none⟩) (off_ne (by omega)) (.int .i64 (u.L g - n))
          have kX := ((K5.out.far (p := ⟨R, g, none⟩) (by simp; omega) (.int .i64 n)).far (p := ⟨g2, b, none⟩) (by simp; omega) (.int .i64 (u.N b - n))).far (p := ⟨g1, g, none⟩) (by simp; omega) (.int .i64 (u.L g - n))
          have rX := (((HR3.out.below HB5.out).setCell (p := ⟨R, g, none⟩) (.inr (by simp)) (.int .i64 n)).setCell (p := ⟨g2, b, none⟩) (.inl (by simp; omega)) (.int .i64 (u.N b - n))).setCell (p := ⟨g1, g, none⟩) (.inl (by simp; omega)) (.int .i64 (u.L g - n))
          have r1 : w.heap.size + 1 ≤ g1 := (HL3.out.1.block rfl).1
          have r2 : w.heap.size + 1 ≤ g2 := (HL3.out.2.1.block rfl).1
          have r3 : w.heap.size + 1 ≤ g3 := (HL3.out.2.2.1.block rfl).1
          have bX := (((HW3.out.trans (HB5.out.mono (by have := HW3.out.size; omega))).setCell (p := ⟨R, g, none⟩) (by simp; omega) (.int .i64 n)).setCell (p := ⟨g2, b, none⟩) (by simp; omega) (.int .i64 (u.N b - n))).setCell (p := ⟨g1, g, none⟩) (by simp; omega) (.int .i64 (u.L g - n))
          have sX : R < (((w5.setCell ⟨R, g, none⟩ (.int .i64 n)).setCell ⟨g2, b, none⟩ (.int .i64 (u.N b - n))).setCell ⟨g1, g, none⟩ (.int .i64 (u.L g - n))).heap.size := by have := HB5.out.size; simp; omega
          generalize ((w5.setCell ⟨R, g, none⟩ (.int .i64 n)).setCell ⟨g2, b, none⟩ (.int .i64 (u.N b - n))).setCell ⟨g1, g, none⟩ (.int .i64 (u.L g - n)) = X at *
          have x2 := kX.cell 2
          have xU : X.cell? ⟨g3, b, none⟩ = some (.int .i64 (u.U b : Int)) := lX.2.2.1.cell1 hlt
          have xF : X.frozen? ⟨g3, b, none⟩ = false := lX.2.2.1.frz b
          have LX := Lib.hid lX
          have OX := Lib.hid oX
          have KX := Lib.hid kX
          have RX := Lib.hid rX
          have BX := Lib.hid bX
          clear lX oX kX rX bX L5 O5 K5 HL3 HOM K3 HR3 HRD LK HW3 HB5 j0 j1 j2 k0 k1 k2 s1 s2 s3 s4 z1 z2 z3 z4
          go_still_tail 9, (by kernel_rfl)
          change wpList _ _ _ _ _ X.drew
          go_wp2_with fail
          go_roundw
          case rel =>
            refine ⟨g + 1, by omega, by go_num, ?_, ?_, ?_, ?_, ?_, ?_⟩
            · exact (RX.out.setCell (p := ⟨g3, b, none⟩) (.inl (by simp; omega)) (.int .i64 (cv : Int))).drew
            · exact (KX.out.far (p := ⟨g3, b, none⟩) (by simp; omega) (.int .i64 (cv : Int)))
            · have h := (LX.out.setU b cv).drew
              have e : M.rowSt gn bn t b (g + 1) = ⟨M.setI u.L g (u.L g - n), M.setI u.N b (u.N b - n), M.setN u.U b cv⟩ := by
                show M.step gn bn (M.rowSt gn bn t b g) b g = _
                rw [← HU.out, HCV.out]
                unfold M.step M.mostS
                rw [← HN.out]
              rw [e]
              exact h
            · have h := (OX.out.setCell (p := ⟨g3, b, none⟩) (off_ne (by omega)) (.int .i64 (cv : Int))).drew
              refine h.congr fun i j hi hj => ?_
              unfold upd ints
              by_cases hig : i = g
              · subst hig
                have e : M.rowAt gn bn t b i = n := by unfold M.rowAt M.mostS; rw [← HU.out, ← HN.out]
                simp [e]
              · by_cases h2 : i < g
                · simp [hig, h2, show i < g + 1 by omega]
                · simp [hig, h2, show ¬ i < g + 1 by omega]
            · exact (BX.out.setCell (p := ⟨g3, b, none⟩) (by simp; omega) (.int .i64 (cv : Int))).drew
            · simpa using sX
          case measure => simp [intOf]; omega
        · obtain rfl : g = gn := by omega
          have k1 := k3.cell 1
          have hRl2 : R + 1 ≤ wr.heap.size := by omega
          have HL3 := Lib.hid l3
          have HR3 := Lib.hid r3
          have HOM := Lib.hid om
          have HW3 := Lib.hid W3
          have K3 := Lib.hid k3
          have hzb := k3.lt
          clear l3 r3 om W3 k3
          go_wp2_with (at_builtin; refine wpList_app rfl (.tmp 75) (.tmp 77) 29 rfl (S + 1) 33 1 24 Tryd.underlying29 RI.out RZ0.out RZ1.out RZ2.out rfl (by decide) (by decide) (HR3.out.1.alloc _) rfl (by omega) (by simp; omega) wr.heap.size 1 (fun _ => .slice (some ⟨R, 0, none⟩) g g) rfl (cell_last rfl) (fun _ _ => rfl) ?_; intro v6 w6 p6 hg6 hat6; obtain ⟨A6, z6, rfl⟩ := p6.form; have HG6 := Lib.hid hg6; clear hg6 hat6)
          go_roundw
          case rel =>
            have hbound : ∀ q, Value.ownBlock (.slice vA b vc) = some q → S + 1 ≤ q := fun q hq => (HR3.out.1.block hq).1
            have hne : ∀ q, q < S + 1 → some q ≠ Value.ownBlock (.slice vA b vc) := fun q hq e => by have := hbound q e.symm; omega
            refine ⟨b + 1, by omega, by go_num, upd F b fun _ => .slice (some ⟨R, 0, none⟩) g g, ?_, ?_, ?_, ?_⟩
            · refine ((HR3.out.alloc (.cells #[.slice (some ⟨R, 0, none⟩) g g] 33)).app p6 HG6.out (((HOM.out.less (base' := S + 1) (by omega)).alloc _).congr fun i j hi _ => ?_))
              simp [M.payAt, HT.out, ints, hi]
            · exact (K3.out.alloc _).grown HG6.out (hne _ (by omega))
            · have e : M.paySt g bn s (b + 1) = M.rowSt g bn t b g := by rw [HT.out]; rfl
              rw [e]
              have l6 := HL3.out.below (belowAlloc wr (.cells #[.slice (some ⟨R, 0, none⟩) g g] 33))
              have far : ∀ {v : Value}, (∀ q, v.ownBlock = some q → q < S) → Apart (.slice vA b vc) v := fun hq q h1 h2 => by have := hq q h2; have := hbound q h1; omega
              exact ⟨l6.1.apart_grown (far HB1.out) HG6.out, l6.2.1.apart_grown (far HB2.out) HG6.out, l6.2.2.1.apart_grown (far HB3.out) HG6.out, l6.2.2.2⟩
            · exact (HW3.out.alloc (by have := HW3.out.size; omega) _).grown HG6.out (by have := HW3.out.size; simp; omega) (fun q hq => by have := hbound q hq; omega)
          case measure => simp [intOf]; omega
    · obtain rfl : b = bn := by omega
      have HR3 := Lib.hid hrows
      have HW := Lib.hid hW
      clear hrows k4 l4 hW
      go_wp2_with fail
      go_ret2
      exact ⟨_, F, rfl, by rw [HS.out] at HR3; exact ⟨HR3.out.1.less (by omega), HR3.out.2.1, fun i hi => by obtain ⟨A, c, h1, h2, h3⟩ := HR3.out.2.2 i hi; exact ⟨A, c, h1, h2.less (by omega), h3⟩⟩, HW.out⟩
end Go.Proofs.YtaljmlkapbojeaaDoor
