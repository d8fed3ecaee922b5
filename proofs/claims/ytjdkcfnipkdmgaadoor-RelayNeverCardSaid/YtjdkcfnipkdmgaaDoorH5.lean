/- RelayNever, walked. -/
import Derived.Test.YtjdkcfnipkdmgaaDoorT13
import Derived.Test.YtjdkcfnipkdmgaaDoorNMath
import Derived.Test.YtjdkcfnipkdmgaaDoorHB
namespace Go.Proofs.YtjdkcfnipkdmgaaDoor
open Go.RowKit

section
variable (A : Option Addr) (en ec B : Nat) (E : Nat → Nat → Int) (w : World) (hR : Rd w B A 3 en E) (hB : B ≤ w.heap.size)
set_option maxRecDepth 100000 in
set_option maxHeartbeats 3200000 in
theorem never_far (n o : Int) (h : farE en = true ∨ farE en = false ∧ chkE n o en ≠ 0) :
    Calls Tryd.prog 8 #[.int .i64 n, .int .i64 o, .slice A en ec] w fun e w' => e = .returned (.bool true) ∧ Below w.heap.size w w' := by
  rcases h with h1 | ⟨h1, h2⟩
  · have H1 := Lib.hid h1
    clear h1
    go_enter Tryd.func8, Tryd.ntmps8
    go_wp2_with (first
      | (go_at_call 28; refine (far_any _ _ _ _).mono ?_; rw [H1.out]; rintro e w1 ⟨rfl, rfl⟩)
      | (go_at_call 15; refine (works_any _).mono ?_; rintro en w9 ⟨rfl, hb9⟩; have HB9 := Lib.hid hb9; clear hb9))
    go_ret
    exact ⟨rfl, HB9.out⟩
  · have H1 := Lib.hid h1
    obtain ⟨E0, hE0⟩ : ∃ E0, E0 = chkE n o en := ⟨_, rfl⟩
    rw [← hE0] at h2
    have H2 := Lib.hid hE0
    have g1 : (E0 != 0) = true := by rw [bne_iff_ne]; exact h2
    clear h1 hE0 h2
    go_enter Tryd.func8, Tryd.ntmps8
    go_wp2_with (first
      | (go_at_call 28; refine (far_any _ _ _ _).mono ?_; rw [H1.out]; rintro e w1 ⟨rfl, rfl⟩)
      | (go_at_call 34; refine (check_any _ _ _ _ _ _).mono ?_; rw [← H2.out]; rintro e w1 ⟨rfl, rfl⟩)
      | (go_at_call 15; refine (works_any _).mono ?_; rintro en w9 ⟨rfl, hb9⟩; have HB9 := Lib.hid hb9; clear hb9))
    go_ret
    exact ⟨rfl, HB9.out⟩
include hR hB
set_option maxRecDepth 100000 in
set_option maxHeartbeats 6400000 in
theorem never_near (n o : Nat) (hn : 2 ≤ n ∧ n ≤ 4) (ho : o < n) (hen : en ≤ 60) (h1 : farE en = false) (h2 : chkE n o en = 0) :
    Calls Tryd.prog 8 #[.int .i64 (n : Int), .int .i64 (o : Int), .slice A en ec] w fun e w' => e = .returned (.bool true) ∧ Below w.heap.size w w' := by
  have hwf := M.Wf.run (n := n) (first := (o : Int)) (by omega) E en
  have hinv := M.Inv.run (n := n) (first := (o : Int)) (by omega) E en
  have hsil := M.Sil.run (n := n) (first := (o : Int)) (by omega) E en
  have hnv := M.never hinv hsil hn.2
  have hk6 := hwf.k6
  have HRun := fun W (hb : Below w.heap.size w W) => Run_ok n o A en ec B E W hn ho (by omega) (hR.below (hb.mono hB)) (Nat.le_trans hB hb.size)
  have HResp := fun W (hb : Below w.heap.size w W) => resp_ok n o A en ec B E W hn ho (by omega) (hR.below (hb.mono hB)) (Nat.le_trans hB hb.size)
  unfold RunT at HRun
  unfold RespV at HResp
  obtain ⟨s, hs⟩ : ∃ s, s = M.runF n o E en := ⟨_, rfl⟩
  rw [← hs] at hk6 hnv HRun HResp
  obtain ⟨L, hL⟩ : ∃ L, L = M.resp s := ⟨_, rfl⟩
  unfold M.Never at hnv
  rw [← hL] at hnv HResp
  have HRun := Lib.hid HRun
  have HResp := Lib.hid HResp
  have HCEN := Lib.hid hwf.cen
  have HNV := Lib.hid hnv
  have H1 := Lib.hid h1
  have H2 := Lib.hid h2
  have hn2 := hn.1
  have hn4 := hn.2
  clear hs hL hwf hinv hsil hnv hR h1 h2 hn
  go_enter Tryd.func8, Tryd.ntmps8
  go_upto_region 4 with (first
      | (go_at_call 28; refine (far_any _ _ _ _).mono ?_; rw [H1.out]; rintro e w1 ⟨rfl, rfl⟩)
      | (go_at_call 34; refine (check_any _ _ _ _ _ _).mono ?_; rw [H2.out]; rintro e w1 ⟨rfl, rfl⟩)
      | (go_at_call 29; go_must (refine (HRun.out w (Below.refl _ _)).mono ?_); rintro e w1 ⟨⟨v, bv, rfl, ⟨A1, c1, A2, c2, rfl, o1, o2⟩, o3⟩, hb1⟩; have O1 := Lib.hid o1; have HB1 := Lib.hid hb1; clear o1 o2 o3 hb1))
  have HB2 := Lib.hid (HB1.out.alloc HB1.out.size (.cells #[.slice A1 n c1, .slice A2 s.k c2] 48))
  have D2 := Lib.hid (Blk.new w1 48 #[.slice A1 n c1, .slice A2 s.k c2])
  have R1 := O1.out.rdI
  have R2 := Lib.hid (R1.below (belowAlloc w1 (.cells #[.slice A1 n c1, .slice A2 s.k c2] 48)))
  clear R1
  have hlen : 1 ≤ L.length ∧ L.length ≤ 2 := by
    rcases HNV.out.2 with ⟨a, -, e⟩ | ⟨a, b, -, -, -, e, -⟩
    · rw [e]; exact ⟨Nat.le_refl _, by simp⟩
    · rw [e]; exact ⟨by simp, Nat.le_refl _⟩
  have k1 : decide ((L.length : Int) < 1) = false := decide_eq_false (by omega)
  have k2 : decide ((2 : Int) < (L.length : Int)) = false := decide_eq_false (by omega)
  have k3 : ((n : Int) != (n : Int)) = false := by simp
  go_upto_region 5 with (go_at_call 32; go_must (refine (HResp.out _ HB2.out).mono ?_); rintro e w3 ⟨⟨v, rfl, ho⟩, hb3⟩; obtain ⟨lA, lc, rfl, hl⟩ := ho.rd1; have HL := Lib.hid hl; have HB3 := Lib.hid (HB2.out.trans (hb3.mono HB2.out.size)); have D3 := Lib.hid (D2.out.below hb3 (by simp)); have R3 := Lib.hid (R2.out.below (hb3.mono (by simp))); clear hl ho hb3)
  have d0 := D3.out.cell 0
  obtain ⟨cb, co, rfl, hcb, -⟩ := R3.out.at3 (show 0 < n by omega)
  go_wp2_with fail
  go_loop [12, 13] (fun v i => ∃ k : Nat, k ≤ n ∧ i = .int .i64 k ∧ v = .int .i64 ((M.elP k (M.own s)).length : Nat)) (fun _ i => n - (intOf i).toNat)
  case atStart => exact ⟨0, Nat.zero_le _, rfl, rfl⟩
  case round =>
    obtain ⟨k, hk, rfl, rfl⟩ := hrel
    have hl := M.elP_len k (M.own s)
    by_cases hlt : k < n
    · have HE := Lib.hid (M.elP_succ k (M.own s))
      obtain ⟨b', o', ee, -, c0, -, -⟩ := R3.out.at3 hlt
      injection ee with ee
      injection ee with e1 e2 _
      subst e1; subst e2
      generalize hN : (M.elP k (M.own s)).length = N at hl ⊢
      have HN := Lib.hid hN
      clear hN
      by_cases q1 : s.c k 0 = 1
      · have f1 : (s.c k 0 == 1) = true := by rw [q1]; rfl
        have HM := Lib.hid (show M.own s k = true from M.own_iff.2 (.inl q1))
        clear q1
        go_wp2_with fail
        go_round
        case rel => exact ⟨k + 1, by omega, by go_num, by rw [HE.out, HM.out, List.length_append, HN.out]; rfl⟩
        case measure => simp [intOf]; omega
      · have f1 : (s.c k 0 == 1) = false := by rw [beq_eq_false_iff_ne]; exact q1
        by_cases q2 : s.c k 0 = 2
        · have f2 : (s.c k 0 == 2) = true := by rw [q2]; rfl
          have HM := Lib.hid (show M.own s k = true from M.own_iff.2 (.inr q2))
          clear q1 q2
          go_wp2_with fail
          go_round
          case rel => exact ⟨k + 1, by omega, by go_num, by rw [HE.out, HM.out, List.length_append, HN.out]; rfl⟩
          case measure => simp [intOf]; omega
        · have f2 : (s.c k 0 == 2) = false := by rw [beq_eq_false_iff_ne]; exact q2
          have HM := Lib.hid (show M.own s k = false from Bool.eq_false_iff.2 fun h => by rcases M.own_iff.1 h with h | h; exact q1 h; exact q2 h)
          clear q1 q2
          go_wp2_with fail
          go_round
          case rel => exact ⟨k + 1, by omega, by go_num, by rw [HE.out, HM.out, List.length_append, HN.out]; rfl⟩
          case measure => simp [intOf]; omega
    · obtain rfl : k = n := by omega
      have k4 : decide ((1 : Int) < ((M.elP k (M.own s)).length : Nat)) = false := decide_eq_false (by have := HNV.out.1; omega)
      generalize (M.elP k (M.own s)).length = N at hl k4 ⊢
      obtain ⟨-, hcase⟩ := HNV.out
      rcases hcase with ⟨a, ha, eL⟩ | ⟨a, b, ha, hb, hab, eL, hp⟩
      · subst eL
        obtain ⟨lb, lo, rfl, hlb, l0⟩ := HL.out.at0 (show 0 < 1 by omega)
        have l0 : w3.cell? ⟨lb, lo, none⟩ = some (.int .i64 (a : Int)) := l0
        have k5 : decide ((a : Int) < 0) = false := decide_eq_false (by omega)
        have k6 : decide ((k : Int) ≤ (a : Int)) = false := decide_eq_false (by omega)
        have k7 : decide (k ≤ a) = false := decide_eq_false (by omega)
        go_wp2_with (go_at_call 15; refine (works_any _).mono ?_; rintro en w9 ⟨rfl, hb9⟩; have HB9 := Lib.hid hb9; clear hb9)
        go_ret
        exact ⟨rfl, HB3.out.trans (HB9.out.mono HB3.out.size)⟩
      · subst eL
        obtain ⟨lb, lo, rfl, hlb, l0⟩ := HL.out.at0 (show 0 < 2 by omega)
        have l0 : w3.cell? ⟨lb, lo, none⟩ = some (.int .i64 (a : Int)) := l0
        have l1 : w3.cell? ⟨lb, lo + 1, none⟩ = some (.int .i64 (b : Int)) := by
          obtain ⟨b', o', ee, -, c1⟩ := HL.out.at_ (show 1 < 2 by omega)
          injection ee with ee
          injection ee with e1 e2 _
          subst e1; subst e2
          exact c1
        have k5 : decide ((a : Int) < 0) = false := decide_eq_false (by omega)
        have k6 : decide ((k : Int) ≤ (b : Int)) = false := decide_eq_false (by omega)
        have k7 : decide (k ≤ b) = false := decide_eq_false (by omega)
        have k8 : decide (k ≤ a) = false := decide_eq_false (by omega)
        go_wp2_with fail
        go_quiet (fail)
        have D4 : Blk (w3.drewN nq) w1.heap.size 48 #[.slice (some ⟨cb, co, none⟩) k c1, .slice A2 s.k c2] := D3.out
        have R4 : Rd (w3.drewN nq) _ _ 3 k s.c := R3.out
        have HB4 := Lib.hid (HB3.out.drewN nq)
        clear d0 l0 l1
        generalize w3.drewN nq = w4 at D4 R4 HB4 ⊢
        have d4 := D4.cell 0
        have hs4 := D4.lt
        have hcb4 : cb < w4.heap.size := by omega
        obtain ⟨b', o', ee, -, a0, a1, a2⟩ := R4.at3 ha
        injection ee with ee
        injection ee with e1 e2 _
        subst e1; subst e2
        obtain ⟨b', o', ee, -, b0, b1, b2⟩ := R4.at3 hb
        injection ee with ee
        injection ee with e1 e2 _
        subst e1; subst e2
        rcases hp with ⟨p1, p2, p3, p4, p5⟩ | ⟨p0, p1, p2, p3, p4, p5⟩
        · have f1 : (s.c a 0 != 2) = false := by rw [p1]; rfl
          go_wp2_with fail
          go_region
          all_goals
            go_wp2_with (go_at_call 15; refine (works_any _).mono ?_; rintro en w9 ⟨rfl, hb9⟩; have HB9 := Lib.hid hb9; clear hb9)
            go_ret
            refine ⟨rfl, Below.trans ?_ (HB9.out.mono ?_)⟩
            · exact HB4.out.trans ((belowAlloc2 w4 _ _).drew.mono HB4.out.size)
            · have h := HB4.out.size; simp; omega
        · have f1 : (s.c a 0 != 2) = true := by rw [bne_iff_ne]; exact p0
          go_wp2_with fail
          go_region
          all_goals
            go_wp2_with (go_at_call 15; refine (works_any _).mono ?_; rintro en w9 ⟨rfl, hb9⟩; have HB9 := Lib.hid hb9; clear hb9)
            go_ret
            refine ⟨rfl, Below.trans ?_ (HB9.out.mono ?_)⟩
            · exact HB4.out.trans ((belowAlloc2 w4 _ _).drew.mono HB4.out.size)
            · have h := HB4.out.size; simp; omega
theorem relayNever_any (n o : Int) :
    Calls Tryd.prog 8 #[.int .i64 n, .int .i64 o, .slice A en ec] w fun e w' => e = .returned (.bool true) ∧ Below w.heap.size w w' := by
  cases h1 : farE en
  · by_cases h2 : chkE n o en = 0
    · obtain ⟨n', o', rfl, rfl, a, b, c, d⟩ := fit_of_chk h1 h2
      exact never_near A en ec B E w hR hB n' o' ⟨a, b⟩ c d h1 h2
    · exact never_far A en ec w n o (.inr ⟨h1, h2⟩)
  · exact never_far A en ec w n o (.inl h1)
end
end Go.Proofs.YtjdkcfnipkdmgaaDoor
