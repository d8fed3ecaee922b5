/- RelayLosses, walked. -/
import Derived.Test.YtjdkcfnipkdmgaaDoorH7a
namespace Go.Proofs.YtjdkcfnipkdmgaaDoor
open Go.RowKit

section
variable (A : Option Addr) (en ec B : Nat) (E : Nat → Nat → Int) (w : World) (hR : Rd w B A 3 en E) (hB : B ≤ w.heap.size)
set_option maxRecDepth 100000 in
set_option maxHeartbeats 3200000 in
theorem losses_far (n o a b c : Int) (h : farE en = true ∨ (farE en = false ∧ 200 ≤ en) ∨ (farE en = false ∧ en ≤ 60 ∧ chkE n o en ≠ 0) ∨ (farE en = false ∧ en ≤ 60 ∧ chkE n o en = 0 ∧ a ≠ 3 ∧ a ≠ 4)) :
    Calls Tryd.prog 9 #[.agg #[.int .i64 n, .int .i64 o], .slice A en ec, .agg #[.int .i64 a, .int .i64 b, .int .i64 c]] w fun e w' => e = .returned (.bool true) ∧ Below w.heap.size w w' := by
  have HB0 := Lib.hid (belowAlloc2 w (.cells #[.int .i64 n, .int .i64 o] 61) (.cells #[.int .i64 a, .int .i64 b, .int .i64 c] 54))
  rcases h with h1 | ⟨h1, h2⟩ | ⟨h1, h3, h2⟩ | ⟨h1, h3, h2, h4, h5⟩
  · have H1 := Lib.hid h1
    clear h1
    go_enter Tryd.func9, Tryd.ntmps9
    go_wp2_with fail
    go_quiet (fail)
    go_wp2_with (first
      | (go_at_call 28; refine (far_any _ _ _ _).mono ?_; rw [H1.out]; rintro e w1 ⟨rfl, rfl⟩)
      | (go_at_call 15; refine (works_any _).mono ?_; rintro en w9 ⟨rfl, hb9⟩; have HB9 := Lib.hid hb9; clear hb9))
    go_ret
    exact ⟨rfl, (HB0.out.drewN nq).trans (HB9.out.mono (HB0.out.drewN nq).size)⟩
  · have H1 := Lib.hid h1
    have g1 : decide ((200 : Int) ≤ (en : Int)) = true := decide_eq_true (by omega)
    clear h1
    go_enter Tryd.func9, Tryd.ntmps9
    go_wp2_with fail
    go_quiet (fail)
    go_wp2_with (first
      | (go_at_call 28; refine (far_any _ _ _ _).mono ?_; rw [H1.out]; rintro e w1 ⟨rfl, rfl⟩)
      | (go_at_call 15; refine (works_any _).mono ?_; rintro en w9 ⟨rfl, hb9⟩; have HB9 := Lib.hid hb9; clear hb9))
    go_ret
    exact ⟨rfl, (HB0.out.drewN nq).trans (HB9.out.mono (HB0.out.drewN nq).size)⟩
  · have H1 := Lib.hid h1
    obtain ⟨E0, hE0⟩ : ∃ E0, E0 = chkE n o en := ⟨_, rfl⟩
    rw [← hE0] at h2
    have H2 := Lib.hid hE0
    have g1 : (E0 != 0) = true := by rw [bne_iff_ne]; exact h2
    have g2 : decide ((200 : Int) ≤ (en : Int)) = false := decide_eq_false (by omega)
    clear h1 hE0 h2
    go_enter Tryd.func9, Tryd.ntmps9
    go_wp2_with fail
    go_quiet (fail)
    go_wp2_with (first
      | (go_at_call 28; refine (far_any _ _ _ _).mono ?_; rw [H1.out]; rintro e w1 ⟨rfl, rfl⟩)
      | (go_at_call 34; refine (check_any _ _ _ _ _ _).mono ?_; rw [← H2.out]; rintro e w1 ⟨rfl, rfl⟩)
      | (go_at_call 15; refine (works_any _).mono ?_; rintro en w9 ⟨rfl, hb9⟩; have HB9 := Lib.hid hb9; clear hb9))
    go_ret
    exact ⟨rfl, (HB0.out.drewN nq).trans (HB9.out.mono (HB0.out.drewN nq).size)⟩
  · have H1 := Lib.hid h1
    have H2 := Lib.hid h2
    have g1 : (a != 3) = true := by rw [bne_iff_ne]; exact h4
    have g3 : (a != 4) = true := by rw [bne_iff_ne]; exact h5
    have g2 : decide ((200 : Int) ≤ (en : Int)) = false := decide_eq_false (by omega)
    clear h1 h2
    go_enter Tryd.func9, Tryd.ntmps9
    go_wp2_with fail
    go_quiet (fail)
    go_wp2_with (first
      | (go_at_call 28; refine (far_any _ _ _ _).mono ?_; rw [H1.out]; rintro e w1 ⟨rfl, rfl⟩)
      | (go_at_call 34; refine (check_any _ _ _ _ _ _).mono ?_; rw [H2.out]; rintro e w1 ⟨rfl, rfl⟩)
      | (go_at_call 15; refine (works_any _).mono ?_; rintro en w9 ⟨rfl, hb9⟩; have HB9 := Lib.hid hb9; clear hb9))
    go_ret
    exact ⟨rfl, (HB0.out.drewN nq).trans (HB9.out.mono (HB0.out.drewN nq).size)⟩
include hR hB
set_option maxRecDepth 100000 in
set_option maxHeartbeats 12800000 in
theorem losses_near (n o : Nat) (a b c : Int) (hn : 2 ≤ n ∧ n ≤ 4) (ho : o < n) (hen : en ≤ 60) (hk : a = 3 ∨ a = 4) (h1 : farE en = false) (h2 : chkE n o en = 0) :
    Calls Tryd.prog 9 #[.agg #[.int .i64 (n : Int), .int .i64 (o : Int)], .slice A en ec, .agg #[.int .i64 a, .int .i64 b, .int .i64 c]] w fun e w' => e = .returned (.bool true) ∧ Below w.heap.size w w' := by
  have hof : (0 : Int) ≤ o ∧ (o : Int) < n := by omega
  have HRun := fun W (hb : Below w.heap.size w W) c => Run_ok n o A en c B E W hn ho (by omega) (hR.below (hb.mono hB)) (Nat.le_trans hB hb.size)
  have HRunG := fun W A' k c E' (hk : k ≤ 200) (hr : Rd W W.heap.size A' 3 k E') => Run_ok n o A' k c W.heap.size E' W hn ho hk hr (Nat.le_refl _)
  unfold RunT at HRun HRunG
  obtain ⟨hr1, hr2⟩ := one_run (n := n) (first := (o : Int)) (E := E) en a b c
  have hls := M.loss_go n (M.runF n o E en) a b c hk
  rw [← hr1, ← hr2] at hls
  have hEV : ∀ W A' c', Rd W W.heap.size A' 3 (en + 1) (catE en E (oneG a b c)) → Calls Tryd.prog 29 #[.int .i64 (n : Int), .int .i64 (o : Int), .slice A' (en + 1) c'] W _ := fun W A' c' hr => HRunG W A' (en + 1) c' (catE en E (oneG a b c)) (by omega) hr
  obtain ⟨s, hs⟩ : ∃ s, s = M.runF n o E en := ⟨_, rfl⟩
  obtain ⟨s', hs'⟩ : ∃ s', s' = M.runF n o (catE en E (oneG a b c)) (en + 1) := ⟨_, rfl⟩
  obtain ⟨dn, hdn⟩ : ∃ dn, dn = M.done n o (catE en E (oneG a b c)) en := ⟨_, rfl⟩
  rw [← hs, ← hs', ← hdn] at hls
  rw [← hs] at HRun
  rw [← hs'] at hEV
  have HEV := Lib.hid hEV
  have HRun := Lib.hid HRun
  have HDN := Lib.hid hdn
  have hk6 : s.k ≤ 6 := by rw [hs]; exact (M.Wf.run (n := n) hof E en).k6
  have hk6' : s'.k ≤ 6 := by rw [hs']; exact (M.Wf.run (n := n) hof (catE en E (oneG a b c)) (en + 1)).k6
  have HLS := Lib.hid hls
  have HR := Lib.hid hR
  have H1 := Lib.hid h1
  have H2 := Lib.hid h2
  have hn4 := hn.2
  have hn2 := hn.1
  have g2 : decide ((200 : Int) ≤ (en : Int)) = false := decide_eq_false (by omega)
  have HB0 := Lib.hid (belowAlloc2 w (.cells #[.int .i64 (n : Int), .int .i64 (o : Int)] 61) (.cells #[.int .i64 a, .int .i64 b, .int .i64 c] 54))
  have EB0 := Lib.hid (Blk.new1 w (.cells #[.int .i64 (n : Int), .int .i64 (o : Int)] 61) 54 #[.int .i64 a, .int .i64 b, .int .i64 c])
  obtain ⟨si, hi, hz0, hz1, hz2⟩ := info_parts evt_info
  have SI := Lib.hid (And.intro hi (And.intro hz0 (And.intro hz1 hz2)))
  have HK := Lib.hid hk
  have kk : (a != 3) = true ∧ (a != 4) = false ∨ (a != 3) = false := by
    rcases hk with e | e
    · exact .inr (by rw [e]; rfl)
    · exact .inl ⟨by rw [e]; rfl, by rw [e]; rfl⟩
  clear hi hz0 hz1 hz2 hs hs' hdn hR h1 h2 hn ho hof hls hr1 hr2 HRunG hEV hk
  go_enter Tryd.func9, Tryd.ntmps9
  go_wp2_with fail
  go_quiet (fail)
  have HB1 := Lib.hid (HB0.out.drewN nq)
  rcases kk with ⟨k1, k2⟩ | k1
  all_goals
    go_upto_region 5 with (first
      | (go_at_call 28; refine (far_any _ _ _ _).mono ?_; rw [H1.out]; rintro e w1 ⟨rfl, rfl⟩)
      | (go_at_call 34; refine (check_any _ _ _ _ _ _).mono ?_; rw [H2.out]; rintro e w1 ⟨rfl, rfl⟩)
      | (go_at_call 29; go_must (refine (HRun.out _ HB1.out _).mono ?_); rintro e w1 ⟨⟨v, bv, rfl, ⟨A1, c1, A2, c2, rfl, o1, o2⟩, o3⟩, hb1⟩; have O1 := Lib.hid o1; have EB1 := Lib.hid ((EB0.out.drewN nq).below' hb1); have HB2 := Lib.hid (HB1.out.trans (hb1.mono HB1.out.size)); clear o1 o2 o3 hb1))
    have HB3 := Lib.hid (HB2.out.alloc HB2.out.size (.cells #[.slice A1 n c1, .slice A2 s.k c2] 48))
    have D2 := Lib.hid (Blk.new w1 48 #[.slice A1 n c1, .slice A2 s.k c2])
    have R2 := Lib.hid (O1.out.rdI.below (belowAlloc w1 (.cells #[.slice A1 n c1, .slice A2 s.k c2] 48)))
    have EB2 := Lib.hid (EB1.out.alloc (.cells #[.slice A1 n c1, .slice A2 s.k c2] 48))
    generalize w1.alloc (.cells #[.slice A1 n c1, .slice A2 s.k c2] 48) = Y at HB3 D2 R2 EB2 ⊢
    have HRY := Lib.hid (fun W (hb : Below Y.heap.size Y W) => HR.out.below ((HB3.out.trans (hb.mono HB3.out.size)).mono hB))
    have hg9 : w1.heap.size < Y.heap.size := D2.out.lt
    clear HB0 EB0 HB1 EB1 HB2 O1
    refine losses_seg A en ec B n o a b c E s' w Y _ _ hen EB2.out HRY.out HEV.out ?_
    intro g12 A5 c5 A6 c6 bA bc wx x53 x54 x55 x56 x57 x58 x59 x60 x61 x62 x63 x64 x65 b12 rC oB hbY
    apply_assumption
    have HBx := Lib.hid (HB3.out.trans (hbY.mono HB3.out.size))
    have D3 := Lib.hid (D2.out.below' hbY)
    have R3 := Lib.hid ((R2.out.below (hbY.mono (by omega))).more (Nat.le_trans (by omega) hbY.size))
    have EB3 := Lib.hid (EB2.out.below' hbY)
    have B12 := Lib.hid b12
    have RC := Lib.hid (by have h := rC; rw [HLS.out.1] at h; exact h)
    have OB := Lib.hid oB
    have d0 := D3.out.cell 0
    have d1 := D3.out.cell 1
    have e0 := b12.cell 0
    have e1 := b12.cell 1
    clear hbY b12 rC oB
    go_wp2_with fail
    refine (samecen_eq _ _ n _ _ wx.heap.size _ _ s.c wx hn4 R3.out RC.out (Nat.le_refl _)).mono ?_
    rintro e w6 ⟨rfl, hb6⟩
    have HB6 := Lib.hid (HBx.out.trans (hb6.mono HBx.out.size))
    have d0 := (D3.out.below' hb6).cell 0
    have d1 := (D3.out.below' hb6).cell 1
    have e0 := (B12.out.below' hb6).cell 0
    have e1 := (B12.out.below' hb6).cell 1
    have v0 := (EB3.out.below' hb6).cell 0
    have oB6 := OB.out.below hb6
    obtain ⟨bg, bc', be⟩ := oB6.nz (by omega)
    injection be with be1 _ be3
    subst be1; subst be3
    have y0 : w6.cell? ⟨bg, en, none⟩ = some (.bool dn) := by have h := oB6.cell1 (i := en) (by omega); exact h.trans (congrArg (fun b => some (Value.bool b)) HDN.out.symm)
    clear hb6 oB6
    have HSF := HLS.out.2.1
    have HST := HLS.out.2.2
    have HK' := HK.out
    clear HLS HK
    cases dn
    · have hch := HSF rfl
      have f1 : (((s'.k : Int) - (s.k : Int)) == 0) = true := by rw [beq_iff_eq]; omega
      clear HSF HST HK' hch
      go_wp2_with (go_at_call 15; refine (works_any _).mono ?_; rintro en w9 ⟨rfl, hb9⟩; have HB9 := Lib.hid hb9; clear hb9)
      go_ret
      exact ⟨rfl, HB6.out.trans (HB9.out.mono HB6.out.size)⟩
    · obtain ⟨h3, h4⟩ := HST rfl
      rcases HK' with ea | ea
      · have hch := h3 ea
        have f1 : (((s'.k : Int) - (s.k : Int)) == -1) = true := by rw [beq_iff_eq]; omega
        have f2 : (a == 3) = true := by rw [ea]; rfl
        clear HSF HST h3 h4 hch ea
        go_wp2_with (go_at_call 15; refine (works_any _).mono ?_; rintro en w9 ⟨rfl, hb9⟩; have HB9 := Lib.hid hb9; clear hb9)
        go_ret
        exact ⟨rfl, HB6.out.trans (HB9.out.mono HB6.out.size)⟩
      · have hch := h4 ea
        have f1 : (((s'.k : Int) - (s.k : Int)) == 1) = true := by rw [beq_iff_eq]; omega
        have f2 : (a == 3) = false := by rw [ea]; rfl
        have f3 : (a == 4) = true := by rw [ea]; rfl
        clear HSF HST h3 h4 hch ea
        go_wp2_with (go_at_call 15; refine (works_any _).mono ?_; rintro en w9 ⟨rfl, hb9⟩; have HB9 := Lib.hid hb9; clear hb9)
        go_ret
        exact ⟨rfl, HB6.out.trans (HB9.out.mono HB6.out.size)⟩
theorem relayLosses_any (n o a b c : Int) :
    Calls Tryd.prog 9 #[.agg #[.int .i64 n, .int .i64 o], .slice A en ec, .agg #[.int .i64 a, .int .i64 b, .int .i64 c]] w fun e w' => e = .returned (.bool true) ∧ Below w.heap.size w w' := by
  cases h1 : farE en
  · by_cases h3 : en ≤ 60
    · by_cases h2 : chkE n o en = 0
      · by_cases h4 : a = 3 ∨ a = 4
        · obtain ⟨n', o', rfl, rfl, q1, q2, q3, q4⟩ := fit_of_chk h1 h2
          exact losses_near A en ec B E w hR hB n' o' a b c ⟨q1, q2⟩ q3 h3 h4 h1 h2
        · exact losses_far A en ec w n o a b c (.inr (.inr (.inr ⟨h1, h3, h2, fun e => h4 (.inl e), fun e => h4 (.inr e)⟩)))
      · exact losses_far A en ec w n o a b c (.inr (.inr (.inl ⟨h1, h3, h2⟩)))
    · refine losses_far A en ec w n o a b c (.inr (.inl ⟨h1, ?_⟩))
      unfold farE at h1
      simp at h1
      omega
  · exact losses_far A en ec w n o a b c (.inl h1)
end
end Go.Proofs.YtjdkcfnipkdmgaaDoor
