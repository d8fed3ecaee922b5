/- vocabulary, IsVocabulary. -/
import Derived.Test.YtbjggnecfppjgaaDoorS2
import Derived.BigQuiet
import Derived.Deep.RegionHeld3
namespace Go.Proofs.YtbjggnecfppjgaaDoor
open Go.RowKit

theorem RdS.less {w : World} {B n k : Nat} {A : Option Addr} {f : Nat → ByteArray} (h : RdS w B A n f) (hk : k ≤ n) : RdS w B A k f := by
  rcases h with h | ⟨b, off, hA, hb, hc⟩
  · exact .inl (by omega)
  · exact .inr ⟨b, off, hA, hb, fun i hi => hc i (by omega)⟩
theorem vocF {n k : Nat} {f : Nat → ByteArray} (hk : k < n) (h : M.vocAt f k = false) : M.isV n f = false := by
  refine Bool.eq_false_iff.2 fun h1 => ?_
  unfold M.isV at h1
  simp only [Bool.and_eq_true] at h1
  have := M.allTo_iff.1 h1.2 k hk
  rw [h] at this; cases this
set_option maxHeartbeats 3200000 in
theorem vocabulary_any (A : Option Addr) (n c B : Nat) (f : Nat → ByteArray) (w : World) (hn : n ≤ 1048576) (hnc : n ≤ c) (hc : c ≤ 9223372036854775807) (hR : RdS w B A n f) (hB : B ≤ w.heap.size) (hS : ∀ i, i < n → (f i).size ≤ 1048576) :
    Calls Tryd.prog 31 #[.slice A n c] w fun e w' => e = .returned (.bool (M.isV n f)) ∧ Below w.heap.size w w' := by
  by_cases h20 : 20 < n
  · have g1 : decide ((20 : Int) < (n : Int)) = true := decide_eq_true (by omega)
    go_enter Tryd.func31, Tryd.ntmps31
    go_wp2_with fail
    go_ret
    exact ⟨ret_bool (by unfold M.isV; rw [decide_eq_false (by omega : ¬ n ≤ 20)]; rfl), Below.refl _ _⟩
  · have g1 : decide ((20 : Int) < (n : Int)) = false := decide_eq_false (by omega)
    have HS := Lib.hid hS
    have HR := Lib.hid hR
    clear hS hR
    go_enter Tryd.func31, Tryd.ntmps31
    go_wp2_with fail
    go_loopw [3, 4, 10] (fun _ _ i wr => ∃ k : Nat, k ≤ n ∧ i = .int .i64 k ∧ M.allTo k (M.vocAt f) = true ∧ Below w.heap.size w wr) (fun _ _ i _ => n - (intOf i).toNat)
    case atStart => exact ⟨0, Nat.zero_le _, rfl, rfl, Below.refl _ _⟩
    case round =>
      obtain ⟨k, hk, rfl, hf, hbw⟩ := hrel
      have HF := Lib.hid hf
      have HB := Lib.hid hbw
      have hz := hbw.size
      clear hf hbw
      by_cases hlt : k < n
      · have hr := HR.out.below (HB.out.mono hB)
        have hs0 := HS.out k hlt
        have hs1 := HS.out 0 (by omega)
        have HRK := Lib.hid (hr.less (Nat.le_of_lt hlt))
        obtain ⟨b, off, rfl, hb, c0, c1⟩ := hr.at0 hlt
        clear hr
        have hbs : b < wr.heap.size := by omega
        cases hw : M.isW (f k)
        · have HX := Lib.hid (vocF hlt (show M.vocAt f k = false by unfold M.vocAt; rw [hw]; rfl))
          have HW := Lib.hid hw
          clear hw
          go_wp2_with (go_at_call 48; refine (word_any _ _ (by omega)).mono ?_; rw [HW.out]; rintro e w1 ⟨rfl, hb1⟩; have HB1 := Lib.hid hb1; clear hb1)
          go_ret
          exact ⟨ret_bool HX.out.symm, HB.out.trans (HB1.out.mono hz)⟩
        · have HW := Lib.hid hw
          clear hw
          by_cases hsz : (f k).size = (f 0).size
          · have g2 : (((f k).size : Int) == ((f 0).size : Int)) = true := by rw [hsz]; simp
            have g3 : (((f k).size : Int) != ((f 0).size : Int)) = false := by rw [hsz]; simp
            cases hcn : M.anyTo k fun j => decide (f j = f k)
            · have HX := Lib.hid (show M.allTo (k + 1) (M.vocAt f) = true by simp only [M.allTo, HF.out, Bool.true_and]; unfold M.vocAt; rw [HW.out, hcn, decide_eq_true hsz]; rfl)
              have HC := Lib.hid hcn
              clear hcn hsz
              go_wp2_with (first | (go_at_call 48; refine (word_any _ _ (by omega)).mono ?_; rw [HW.out]; rintro e w1 ⟨rfl, hb1⟩; have HB1 := Lib.hid hb1; have c1 := (hb1.cell (p := ⟨b, off, none⟩) (by exact hbs)).trans c1; clear hb1) | (go_at_call 49; refine (contains_any _ _ _ B _ _ _ (by unfold maxLen; omega) (HRK.out.below (HB1.out.mono (by omega)))).mono ?_; rw [HC.out]; rintro e w2 ⟨rfl, rfl⟩))
              go_roundw
              case rel => exact ⟨k + 1, by omega, by go_num, HX.out, HB.out.trans (HB1.out.mono hz)⟩
              case measure => simp [intOf]; omega
            · have HX := Lib.hid (vocF hlt (show M.vocAt f k = false by unfold M.vocAt; rw [hcn]; simp))
              have HC := Lib.hid hcn
              clear hcn hsz
              go_wp2_with (first | (go_at_call 48; refine (word_any _ _ (by omega)).mono ?_; rw [HW.out]; rintro e w1 ⟨rfl, hb1⟩; have HB1 := Lib.hid hb1; have c1 := (hb1.cell (p := ⟨b, off, none⟩) (by exact hbs)).trans c1; clear hb1) | (go_at_call 49; refine (contains_any _ _ _ B _ _ _ (by unfold maxLen; omega) (HRK.out.below (HB1.out.mono (by omega)))).mono ?_; rw [HC.out]; rintro e w2 ⟨rfl, rfl⟩))
              go_ret
              exact ⟨ret_bool HX.out.symm, HB.out.trans (HB1.out.mono hz)⟩
          · have HX := Lib.hid (vocF hlt (show M.vocAt f k = false by unfold M.vocAt; rw [decide_eq_false hsz]; simp))
            have g2 : (((f k).size : Int) == ((f 0).size : Int)) = false := by rw [beq_eq_false_iff_ne]; omega
            have g3 : (((f k).size : Int) != ((f 0).size : Int)) = true := by rw [bne_iff_ne]; omega
            clear hsz
            go_wp2_with (go_at_call 48; refine (word_any _ _ (by omega)).mono ?_; rw [HW.out]; rintro e w1 ⟨rfl, hb1⟩; have HB1 := Lib.hid hb1; have c1 := (hb1.cell (p := ⟨b, off, none⟩) (by exact hbs)).trans c1; clear hb1)
            go_ret
            exact ⟨ret_bool HX.out.symm, HB.out.trans (HB1.out.mono hz)⟩
      · obtain rfl : k = n := by omega
        go_wp2_with fail
        go_ret
        exact ⟨ret_bool (by unfold M.isV; rw [HF.out, decide_eq_true (by omega : k ≤ 20)]; rfl), HB.out⟩
set_option maxHeartbeats 3200000 in
theorem isvoc_any (A : Option Addr) (n c B : Nat) (f : Nat → ByteArray) (w : World) (hn : n ≤ maxLen) (hR : RdS w B A n f) (hS : ∀ i, i < n → (f i).size ≤ 1048576) :
    Calls Tryd.prog 9 #[.slice A n c] w fun e w' => e = .returned (.bool (M.isV n f)) ∧ ∃ m, w' = w.drewN m := by
  unfold maxLen at hn
  by_cases h20 : 20 < n
  · have g1 : decide ((20 : Int) < (n : Int)) = true := decide_eq_true (by omega)
    go_enter Tryd.func9, Tryd.ntmps9
    go_wp2_with fail
    go_ret
    exact ⟨ret_bool (by unfold M.isV; rw [decide_eq_false (by omega : ¬ n ≤ 20)]; rfl), 0, rfl⟩
  · have g1 : decide ((20 : Int) < (n : Int)) = false := decide_eq_false (by omega)
    have HS := Lib.hid hS
    have HR := Lib.hid hR
    clear hS hR
    go_enter Tryd.func9, Tryd.ntmps9
    go_wp2_with fail
    go_loopw [3, 4] (fun i _ wr => ∃ k : Nat, k ≤ n ∧ i = .int .i64 k ∧ M.allTo k (M.vocAt f) = true ∧ ∃ m, wr = w.drewN m) (fun i _ _ => n - (intOf i).toNat)
    case atStart => exact ⟨0, Nat.zero_le _, rfl, rfl, 0, rfl⟩
    case round =>
      obtain ⟨k, hk, rfl, hf, hm⟩ := hrel
      have HF := Lib.hid hf
      have hr : RdS wr B A n f := by obtain ⟨m, e⟩ := hm; rw [e]; exact HR.out
      have HM := Lib.hid hm
      clear hf hm
      by_cases hlt : k < n
      · have hs0 := HS.out k hlt
        have hs1 := HS.out 0 (by omega)
        obtain ⟨b, off, rfl, hb, c0, c1⟩ := hr.at0 hlt
        clear hr
        have k1 : decide (n ≤ k) = false := decide_eq_false (by omega)
        have k2 : decide (n ≤ 0) = false := decide_eq_false (by omega)
        cases hw : M.isW (f k)
        · have HX := Lib.hid (vocF hlt (show M.vocAt f k = false by unfold M.vocAt; rw [hw]; rfl))
          have HC : ∀ (m : Nat) (W : World), Calls Tryd.prog 28 #[.string (f k)] (W.drewN m) fun e w'' => e = .returned (.bool false) ∧ w'' = W.drewN m := fun m W => (isword_any _ _ (by omega)).mono fun e w' h => ⟨by rw [h.1, hw], h.2.symm⟩
          have HC := Lib.hid HC
          clear hw
          go_wp2_with fail
          go_quiet (exact Calls.quiet_of_same (HC.out _ _))
          go_wp2_with fail
          go_ret
          exact ⟨ret_bool HX.out.symm, by obtain ⟨m, e⟩ := HM.out; exact ⟨m + nq, by rw [e, World.drewN_drewN]⟩⟩
        · have HC : ∀ (m : Nat) (W : World), Calls Tryd.prog 28 #[.string (f k)] (W.drewN m) fun e w'' => e = .returned (.bool true) ∧ w'' = W.drewN m := fun m W => (isword_any _ _ (by omega)).mono fun e w' h => ⟨by rw [h.1, hw], h.2.symm⟩
          have HC := Lib.hid HC
          have HW := Lib.hid hw
          clear hw
          by_cases hsz : (f k).size = (f 0).size
          · have g2 : (((f k).size : Int) == ((f 0).size : Int)) = true := by rw [hsz]; simp
            have g3 : (((f k).size : Int) != ((f 0).size : Int)) = false := by rw [hsz]; simp
            have HZ := Lib.hid hsz
            clear hsz
            go_wp2_with fail
            go_quiet (exact Calls.quiet_of_same (HC.out _ _))
            go_wp2_with fail
            clear g2 g3 hs1 c1 k2
            go_loopw [4] (fun i wr => ∃ j : Nat, j ≤ k ∧ i = .int .i64 j ∧ M.anyTo j (fun j => decide (f j = f k)) = false ∧ ∃ m, wr = w.drewN m) (fun i _ => k - (intOf i).toNat)
            case atStart => exact ⟨0, Nat.zero_le _, rfl, rfl, by obtain ⟨m, e⟩ := HM.out; exact ⟨m + nq, by rw [e, World.drewN_drewN]⟩⟩
            case round =>
              obtain ⟨j, hj, rfl, hf2, hm2⟩ := hrel
              have HF2 := Lib.hid hf2
              have hr2 : RdS wr B (some ⟨b, off, none⟩) n f := by obtain ⟨m, e⟩ := hm2; rw [e]; exact HR.out
              have ck : wr.cell? ⟨b, off + k, none⟩ = some (.string (f k)) := by
                obtain ⟨b', off', ee, _, c2⟩ := hr2.at_ hlt
                injection ee with ee
                injection ee with e1 e2 _
                rw [e1, e2]; exact c2
              have HM2 := Lib.hid hm2
              clear hf2 hm2
              by_cases hlt2 : j < k
              · obtain ⟨b', off', ee, _, c2⟩ := hr2.at_ (show j < n by omega)
                clear hr2
                injection ee with ee
                injection ee with e1 e2 _
                subst e1; subst e2
                have k3 : decide (n ≤ j) = false := decide_eq_false (by omega)
                have he := str_eq (a := f j) (b := f k)
                by_cases h1 : f j = f k
                · rw [decide_eq_true h1] at he
                  have HX := Lib.hid (vocF hlt (show M.vocAt f k = false by unfold M.vocAt; rw [M.anyTo_iff.2 ⟨j, hlt2, decide_eq_true h1⟩]; simp))
                  clear h1
                  go_wp2_with fail
                  go_quiet (fail)
                  go_wp2_with fail
                  go_ret
                  exact ⟨ret_bool HX.out.symm, by obtain ⟨m, e⟩ := HM2.out; exact ⟨m + nq, by rw [e, World.drewN_drewN]⟩⟩
                · rw [decide_eq_false h1] at he
                  have HX := Lib.hid h1
                  clear h1
                  go_wp2_with fail
                  go_quiet (fail)
                  go_wp2_with fail
                  go_roundw
                  case rel => exact ⟨j + 1, by omega, by go_num, by simp only [M.anyTo, HF2.out, Bool.false_or]; exact decide_eq_false HX.out, by obtain ⟨m, e⟩ := HM2.out; exact ⟨m + nq, by rw [e, World.drewN_drewN]⟩⟩
                  case measure => simp [intOf]; omega
              · obtain rfl : j = k := by omega
                go_wp2_with fail
                go_roundw
                case rel => exact ⟨j + 1, by omega, by go_num, by simp only [M.allTo, HF.out, Bool.true_and]; unfold M.vocAt; rw [HW.out, HF2.out, decide_eq_true HZ.out]; rfl, HM2.out⟩
                case measure => simp [intOf]; omega
          · have HX := Lib.hid (vocF hlt (show M.vocAt f k = false by unfold M.vocAt; rw [decide_eq_false hsz]; simp))
            have g2 : (((f k).size : Int) == ((f 0).size : Int)) = false := by rw [beq_eq_false_iff_ne]; omega
            have g3 : (((f k).size : Int) != ((f 0).size : Int)) = true := by rw [bne_iff_ne]; omega
            clear hsz
            go_wp2_with fail
            go_quiet (exact Calls.quiet_of_same (HC.out _ _))
            go_wp2_with fail
            go_ret
            exact ⟨ret_bool HX.out.symm, by obtain ⟨m, e⟩ := HM.out; exact ⟨m + nq, by rw [e, World.drewN_drewN]⟩⟩
      · obtain rfl : k = n := by omega
        go_wp2_with fail
        go_ret
        exact ⟨ret_bool (by unfold M.isV; rw [HF.out, decide_eq_true (by omega : k ≤ 20)]; rfl), HM.out⟩
end Go.Proofs.YtbjggnecfppjgaaDoor
