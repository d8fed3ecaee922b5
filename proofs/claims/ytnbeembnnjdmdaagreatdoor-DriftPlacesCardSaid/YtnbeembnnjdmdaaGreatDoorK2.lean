/- chart.Check. -/
import Derived.Test.YtnbeembnnjdmdaaGreatDoorK1
namespace Go.Proofs.YtnbeembnnjdmdaaGreatDoor
open Go.RowKit

/-- what a chart reads as -/
structure RdC (w : World) (B : Nat) (dA tA sA : Option Addr) (nd nt ns : Nat) (dep : Nat → Int) (tide : Nat → Nat → Int) (sw : Nat → Int) : Prop where
  d : Rd1 w B dA nd dep
  t : Rd w B tA 2 nt tide
  s : Rd1 w B sA ns sw
theorem RdC.below {w w' : World} {B : Nat} {dA tA sA : Option Addr} {nd nt ns : Nat} {dep : Nat → Int} {tide : Nat → Nat → Int} {sw : Nat → Int} (h : RdC w B dA tA sA nd nt ns dep tide sw) (hb : Below B w w') : RdC w' B dA tA sA nd nt ns dep tide sw := ⟨h.d.below hb, h.t.below hb, h.s.below hb⟩
theorem RdC.more {w : World} {B B' : Nat} {dA tA sA : Option Addr} {nd nt ns : Nat} {dep : Nat → Int} {tide : Nat → Nat → Int} {sw : Nat → Int} (h : RdC w B dA tA sA nd nt ns dep tide sw) (hb : B ≤ B') : RdC w B' dA tA sA nd nt ns dep tide sw := ⟨h.d.more hb, h.t.more hb, h.s.more hb⟩
theorem wrap_mul {W H : Int} (h1 : M.inB 1 12 W = true) (h2 : M.inB 1 12 H = true) : wrap64 (W * H) = W * H ∧ IntKind.i64.wrap (W * H) = W * H := by
  obtain ⟨a1, a2⟩ := M.inB_iff.1 h1
  obtain ⟨b1, b2⟩ := M.inB_iff.1 h2
  have h3 : 0 ≤ W * H := Int.mul_nonneg (by omega) (by omega)
  have h4 : W * H ≤ 12 * 12 := Int.mul_le_mul a2 b2 (by omega) (by omega)
  generalize W * H = q at *
  refine ⟨IntWalk.wrap64_in _ (by omega), ?_⟩
  rw [IntKind.wrap_i64]
  omega
section
variable (W H : Int) (dA tA sA : Option Addr) (nd dc nt tc ns sc B : Nat) (dep : Nat → Int) (tide : Nat → Nat → Int) (sw : Nat → Int) (w : World)
set_option maxRecDepth 100000 in
set_option maxHeartbeats 3200000 in
theorem cchk_any (hnd : nd ≤ maxLen) (hnt : nt ≤ maxLen) (hns : ns ≤ maxLen) (hR : RdC w B dA tA sA nd nt ns dep tide sw) (hB : B ≤ w.heap.size) :
    Calls Tryz.prog 83 #[.agg #[.int .i64 W, .int .i64 H, .slice dA nd dc, .slice tA nt tc, .slice sA ns sc]] w fun e w' => e = .returned (.int .i64 (if M.chkC W H nd nt ns dep tide sw then 0 else 10)) ∧ Below w.heap.size w w' := by
  obtain ⟨E, hE⟩ : ∃ E, E = M.chkC W H nd nt ns dep tide sw := ⟨_, rfl⟩
  rw [← hE]
  unfold M.chkC at hE
  obtain ⟨R, hRE⟩ : ∃ R : Int, R = if E then 0 else 10 := ⟨_, rfl⟩
  rw [← hRE]
  have HRE := Lib.hid hRE
  clear hRE
  have HB0 := Lib.hid (belowAlloc w (.cells #[.int .i64 W, .int .i64 H, .slice dA nd dc, .slice tA nt tc, .slice sA ns sc] 25))
  have D0 := Lib.hid (Blk.new w 25 #[.int .i64 W, .int .i64 H, .slice dA nd dc, .slice tA nt tc, .slice sA ns sc])
  by_cases hp : M.inB 1 12 W = true ∧ M.inB 1 12 H = true ∧ (nd : Int) = W * H ∧ M.inB 1 60 nt = true ∧ ns = nt
  · obtain ⟨h1, h2, h3, h4, rfl⟩ := hp
    obtain ⟨m1, m2⟩ := wrap_mul h1 h2
    have g1 : ((nd : Int) != W * H) = false := by rw [h3]; simp
    have g2 : ((ns : Int) != (ns : Int)) = false := by simp
    have HE := Lib.hid hE
    have H0 := Lib.hid (And.intro h1 (And.intro h2 (And.intro h3 h4)))
    have HR := Lib.hid (hR.below (HB0.out.mono hB))
    clear hE h3 hR
    go_enter Tryz.func83, Tryz.ntmps83
    go_upto_region 6 with (go_at_call 110; refine (within_any _ _ _ _).mono ?_; rintro e w1 ⟨rfl, rfl⟩)
    obtain ⟨X, hX⟩ : ∃ X, X = w.alloc (.cells #[.int .i64 W, .int .i64 H, .slice dA nd dc, .slice tA ns tc, .slice sA ns sc] 25) := ⟨_, rfl⟩
    rw [← hX] at HB0 D0 HR
    rw [← hX]
    clear hX
    have hBX : B ≤ X.heap.size := Nat.le_trans hB HB0.out.size
    have HC1 := Lib.hid (fun W (hb : Below X.heap.size X W) => con_int dA nd dc B dep 111 #[] (fun x => !M.inB (-1000) 1000 x) W hnd (HR.out.d.below (hb.mono hBX)) (Nat.le_trans hBX hb.size) (.inl rfl) fun W' x _ => deep_any x W')
    have HC2 := Lib.hid (fun W (hb : Below X.heap.size X W) => con_span tA ns tc B tide W hns (HR.out.t.below (hb.mono hBX)) (Nat.le_trans hBX hb.size))
    have HC3 := Lib.hid (fun W (hb : Below X.heap.size X W) => con_int sA ns sc B sw 113 #[] (fun x => !M.inB 0 100 x) W hns (HR.out.s.below (hb.mono hBX)) (Nat.le_trans hBX hb.size) (.inr (.inl rfl)) fun W' x _ => swell_any x W')
    have d2 := D0.out.cell 2
    have d3 := D0.out.cell 3
    have d4 := D0.out.cell 4
    clear h1 h2 h4 m1 m2 g1 g2
    have e1 : M.anyTo nd (fun i => !M.inB (-1000) 1000 (dep i)) = !M.allTo nd (fun i => M.inB (-1000) 1000 (dep i)) := M.any_all
    have e2 : M.anyTo ns (fun i => !tideOk (tide i 0) (tide i 1)) = !M.allTo ns (fun i => tideOk (tide i 0) (tide i 1)) := M.any_all
    have e3 : M.anyTo ns (fun i => !M.inB 0 100 (sw i)) = !M.allTo ns (fun i => M.inB 0 100 (sw i)) := M.any_all
    rw [e1] at HC1
    rw [e2] at HC2
    rw [e3] at HC3
    cases q1 : M.allTo nd (fun i => M.inB (-1000) 1000 (dep i))
    · have HQ := Lib.hid q1
      rw [q1] at HC1
      clear q1 e1 e2 e3
      go_wp2_with (go_at_call 114; go_must (refine (HC1.out _ (Below.refl _ _)).mono ?_); rintro e w1 ⟨rfl, hb1⟩; have HB1 := Lib.hid hb1; clear hb1)
      go_ret
      refine ⟨?_, HB0.out.trans (HB1.out.mono HB0.out.size)⟩
      have : E = false := by rw [HE.out, HQ.out]; simp
      rw [HRE.out, this]; rfl
    · have HQ := Lib.hid q1
      rw [q1] at HC1
      clear q1 e1
      cases q2 : M.allTo ns (fun i => tideOk (tide i 0) (tide i 1))
      · have HQ2 := Lib.hid q2
        rw [q2] at HC2
        clear q2 e2 e3
        go_wp2_with (first
          | (go_at_call 114; go_must (refine (HC1.out _ (Below.refl _ _)).mono ?_); rintro e w1 ⟨rfl, hb1⟩; have HB1 := Lib.hid hb1; have d3 := (D0.out.below' hb1).cell 3; clear hb1)
          | (go_at_call 115; go_must (refine (HC2.out _ HB1.out).mono ?_); rintro e w2 ⟨rfl, hb1⟩; have HB2 := Lib.hid (HB1.out.trans (hb1.mono HB1.out.size)); clear hb1))
        go_ret
        refine ⟨?_, HB0.out.trans (HB2.out.mono HB0.out.size)⟩
        have : E = false := by
          have h2 := HQ2.out
          unfold tideOk at h2
          rw [HE.out, h2]; simp
        rw [HRE.out, this]; rfl
      · have HQ2 := Lib.hid q2
        rw [q2] at HC2
        clear q2 e2 e3
        cases q3 : M.allTo ns (fun i => M.inB 0 100 (sw i))
        all_goals
          have HQ3 := Lib.hid q3
          rw [q3] at HC3
          clear q3
          go_wp2_with (first
            | (go_at_call 114; refine (HC1.out _ (Below.refl _ _)).mono ?_; rintro e w1 ⟨rfl, hb1⟩; have HB1 := Lib.hid hb1; have d3 := (D0.out.below' hb1).cell 3; clear hb1)
            | (go_at_call 115; refine (HC2.out _ HB1.out).mono ?_; rintro e w2 ⟨rfl, hb1⟩; have HB2 := Lib.hid (HB1.out.trans (hb1.mono HB1.out.size)); have d4 := (D0.out.below' HB2.out).cell 4; clear hb1)
            | (go_at_call 114; refine (HC3.out _ HB2.out).mono ?_; rintro e w3 ⟨rfl, hb1⟩; have HB3 := Lib.hid (HB2.out.trans (hb1.mono HB2.out.size)); clear hb1))
          go_ret
          refine ⟨?_, HB0.out.trans (HB3.out.mono HB0.out.size)⟩
          have h1 := H0.out
          have h2 := HQ2.out
          unfold tideOk at h2
          rw [HRE.out, HE.out, HQ.out, h2, HQ3.out, h1.1, h1.2.1, h1.2.2.2, decide_eq_true h1.2.2.1]
          simp
  · have HEf : E = false := by
      cases hE' : E
      · rfl
      · rw [hE'] at hE
        have hE := hE.symm
        simp only [Bool.and_eq_true, decide_eq_true_eq] at hE
        exact absurd ⟨hE.1.1.1.1.1.1.1, hE.1.1.1.1.1.1.2, hE.1.1.1.1.1.2, hE.1.1.1.1.2, hE.1.1.1.2⟩ hp
    have hR10 : R = 10 := by rw [HRE.out, HEf]; rfl
    rw [hR10]
    clear hE hR hR10 HEf
    have k1 : M.inB 1 12 W = false ∨ (M.inB 1 12 W = true ∧ M.inB 1 12 H = false) ∨ (M.inB 1 12 W = true ∧ M.inB 1 12 H = true ∧ (nd : Int) ≠ W * H) ∨ (M.inB 1 12 W = true ∧ M.inB 1 12 H = true ∧ (nd : Int) = W * H ∧ M.inB 1 60 nt = false) ∨ (M.inB 1 12 W = true ∧ M.inB 1 12 H = true ∧ (nd : Int) = W * H ∧ M.inB 1 60 nt = true ∧ ns ≠ nt) := by
      cases h1 : M.inB 1 12 W
      · exact .inl rfl
      · cases h2 : M.inB 1 12 H
        · exact .inr (.inl ⟨rfl, rfl⟩)
        · by_cases h3 : (nd : Int) = W * H
          · cases h4 : M.inB 1 60 nt
            · exact .inr (.inr (.inr (.inl ⟨rfl, rfl, h3, rfl⟩)))
            · refine .inr (.inr (.inr (.inr ⟨rfl, rfl, h3, rfl, fun e => hp ⟨h1, h2, h3, h4, e⟩⟩)))
          · exact .inr (.inr (.inl ⟨rfl, rfl, h3⟩))
    clear hp
    rcases k1 with h1 | ⟨h1, h2⟩ | ⟨h1, h2, h3⟩ | ⟨h1, h2, h3, h4⟩ | ⟨h1, h2, h3, h4, h5⟩
    · go_enter Tryz.func83, Tryz.ntmps83
      go_wp2_with (go_at_call 110; refine (within_any _ _ _ _).mono ?_; rintro e w1 ⟨rfl, rfl⟩)
      go_ret
      exact ⟨rfl, HB0.out⟩
    · go_enter Tryz.func83, Tryz.ntmps83
      go_wp2_with (go_at_call 110; refine (within_any _ _ _ _).mono ?_; rintro e w1 ⟨rfl, rfl⟩)
      go_ret
      exact ⟨rfl, HB0.out⟩
    · obtain ⟨m1, m2⟩ := wrap_mul h1 h2
      have g1 : ((nd : Int) != W * H) = true := by rw [bne_iff_ne]; exact h3
      clear h3
      go_enter Tryz.func83, Tryz.ntmps83
      go_wp2_with (go_at_call 110; refine (within_any _ _ _ _).mono ?_; rintro e w1 ⟨rfl, rfl⟩)
      go_ret
      exact ⟨rfl, HB0.out⟩
    · obtain ⟨m1, m2⟩ := wrap_mul h1 h2
      have g1 : ((nd : Int) != W * H) = false := by rw [h3]; simp
      clear h3
      go_enter Tryz.func83, Tryz.ntmps83
      go_wp2_with (go_at_call 110; refine (within_any _ _ _ _).mono ?_; rintro e w1 ⟨rfl, rfl⟩)
      go_ret
      exact ⟨rfl, HB0.out⟩
    · obtain ⟨m1, m2⟩ := wrap_mul h1 h2
      have g1 : ((nd : Int) != W * H) = false := by rw [h3]; simp
      have g2 : ((ns : Int) != (nt : Int)) = true := by rw [bne_iff_ne]; omega
      clear h3 h5
      go_enter Tryz.func83, Tryz.ntmps83
      go_wp2_with (go_at_call 110; refine (within_any _ _ _ _).mono ?_; rintro e w1 ⟨rfl, rfl⟩)
      go_ret
      exact ⟨rfl, HB0.out⟩
end
end Go.Proofs.YtnbeembnnjdmdaaGreatDoor
