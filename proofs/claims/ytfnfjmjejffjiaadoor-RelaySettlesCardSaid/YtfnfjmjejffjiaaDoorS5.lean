/- heard, with its closure. -/
import Derived.Test.YtfnfjmjejffjiaaDoorS1
namespace Go.Proofs.YtfnfjmjejffjiaaDoor
open Go.RowKit

def okH (long : Int) (s : ByteArray) : Bool := M.isW s && decide ((s.size : Int) = long)
set_option maxHeartbeats 1600000 in
theorem chkH (s : ByteArray) (long : Int) (L : Nat) (w : World) (hc : w.cell? ⟨L, 0, none⟩ = some (.int .i64 long)) (hL : L < w.heap.size) (hs : s.size ≤ 1048576) :
    Calls Tryd.prog 45 #[.string s, .pointer (some ⟨L, 0, none⟩)] w fun e w' => e = .returned (.bool (!okH long s)) ∧ Below w.heap.size w w' := by
  cases hw : M.isW s
  · have HX := Lib.hid (show okH long s = false by unfold okH; rw [hw]; rfl)
    have HW := Lib.hid hw
    clear hw
    go_enter Tryd.func45, Tryd.ntmps45
    go_wp2_with (go_at_call 43; refine (word_any _ _ (by omega)).mono ?_; rw [HW.out]; rintro e w1 ⟨rfl, hb1⟩; have HB1 := Lib.hid hb1; clear hb1)
    go_ret
    exact ⟨ret_bool (by rw [HX.out]; rfl), HB1.out⟩
  · have HW := Lib.hid hw
    by_cases hsz : (s.size : Int) = long
    · have HX := Lib.hid (show okH long s = true by unfold okH; rw [hw, decide_eq_true hsz]; rfl)
      have g1 : ((s.size : Int) != long) = false := by rw [hsz]; simp
      clear hw hsz
      go_enter Tryd.func45, Tryd.ntmps45
      go_wp2_with (go_at_call 43; refine (word_any _ _ (by omega)).mono ?_; rw [HW.out]; rintro e w1 ⟨rfl, hb1⟩; have HB1 := Lib.hid hb1; have c1 := (hb1.cell (p := ⟨L, 0, none⟩) (by exact hL)).trans hc; clear hb1)
      go_ret
      exact ⟨ret_bool (by rw [HX.out]; rfl), HB1.out⟩
    · have HX := Lib.hid (show okH long s = false by unfold okH; rw [decide_eq_false hsz]; simp)
      have g1 : ((s.size : Int) != long) = true := by rw [bne_iff_ne]; exact hsz
      clear hw hsz
      go_enter Tryd.func45, Tryd.ntmps45
      go_wp2_with (go_at_call 43; refine (word_any _ _ (by omega)).mono ?_; rw [HW.out]; rintro e w1 ⟨rfl, hb1⟩; have HB1 := Lib.hid hb1; have c1 := (hb1.cell (p := ⟨L, 0, none⟩) (by exact hL)).trans hc; clear hb1)
      go_ret
      exact ⟨ret_bool (by rw [HX.out]; rfl), HB1.out⟩
def Idx (n : Nat) (p : Nat → Bool) (w : World) (e : Ending) (w' : World) : Prop := ∃ r : Int, e = .returned (.int .i64 r) ∧ decide (0 ≤ r) = M.anyTo n p ∧ Below w.heap.size w w'
set_option maxHeartbeats 1600000 in
theorem idxH (A : Option Addr) (n c B : Nat) (g : Nat → ByteArray) (long : Int) (L : Nat) (w : World) (hn : n ≤ maxLen) (hR : RdS w B A n g) (hB : B ≤ w.heap.size) (hS : ∀ i, i < n → (g i).size ≤ 1048576) (hc : w.cell? ⟨L, 0, none⟩ = some (.int .i64 long)) (hL : L < w.heap.size) :
    Calls Tryd.prog 46 #[.slice A n c, .func (.func 45) #[] #[.pointer (some ⟨L, 0, none⟩)]] w (Idx n (fun i => !okH long (g i)) w) := by
  unfold maxLen at hn
  have HC := Lib.hid hc
  have HS := Lib.hid hS
  clear hc hS
  go_enter Tryd.func46, Tryd.ntmps46
  go_wp2_with fail
  go_loopw [5, 8] (fun _ i wr => ∃ k : Nat, k ≤ n ∧ i = .int .i64 k ∧ M.anyTo k (fun i => !okH long (g i)) = false ∧ Below w.heap.size w wr) (fun _ i _ => n - (intOf i).toNat)
  case atStart => exact ⟨0, Nat.zero_le _, rfl, rfl, Below.refl _ _⟩
  case round =>
    obtain ⟨k, hk, rfl, hf, hbw⟩ := hrel
    have HF := Lib.hid hf
    clear hf
    have HW := Lib.hid hbw
    have hz := hbw.size
    by_cases hlt : k < n
    · obtain ⟨b, off, rfl, hb, c0⟩ := (hR.below (hbw.mono hB)).at_ hlt
      have HCW := Lib.hid ((hbw.cell (p := ⟨L, 0, none⟩) hL).trans HC.out)
      have hs0 := HS.out k hlt
      clear hbw hR
      cases hok : okH long (g k)
      all_goals
        have HO := Lib.hid hok
        clear hok
        go_wp2_with (go_at_call 45; refine (chkH _ long L _ HCW.out (by omega) hs0).mono ?_; rw [HO.out]; rintro e w1 ⟨rfl, hb1⟩; have HB1 := Lib.hid hb1; clear hb1)
      · go_ret
        refine ⟨_, rfl, ?_, HW.out.trans (HB1.out.mono hz)⟩
        rw [show M.anyTo n (fun i => !okH long (g i)) = true from M.anyTo_iff.2 ⟨k, hlt, by rw [HO.out]; rfl⟩]
        simp
      · go_roundw
        case rel => exact ⟨k + 1, by omega, by go_num, by simp only [M.anyTo, HF.out]; rw [HO.out]; rfl, HW.out.trans (HB1.out.mono hz)⟩
        case measure => simp [intOf]; omega
    · obtain rfl : k = n := by omega
      clear hbw
      go_wp2_with fail
      go_ret
      exact ⟨_, rfl, by rw [HF.out]; rfl, HW.out⟩
theorem conH (A : Option Addr) (n c B : Nat) (g : Nat → ByteArray) (long : Int) (L : Nat) (w : World) (hn : n ≤ maxLen) (hR : RdS w B A n g) (hB : B ≤ w.heap.size) (hS : ∀ i, i < n → (g i).size ≤ 1048576) (hc : w.cell? ⟨L, 0, none⟩ = some (.int .i64 long)) (hL : L < w.heap.size) :
    Calls Tryd.prog 34 #[.slice A n c, .func (.func 45) #[] #[.pointer (some ⟨L, 0, none⟩)]] w fun e w' => e = .returned (.bool (!M.allTo n fun i => okH long (g i))) ∧ Below w.heap.size w w' := by
  go_enter Tryd.func34, Tryd.ntmps34
  go_wp2_with (go_at_call 46; refine (idxH _ _ _ _ _ long L _ hn hR hB hS hc hL).mono ?_; rintro e w1 ⟨r, rfl, hr, hb⟩; have HR := Lib.hid hr; clear hr)
  go_ret
  exact ⟨ret_bool (by rw [HR.out, M.any_all]), hb⟩
theorem rad_long {wn n : Nat} {f g : Nat → ByteArray} (hn : 1 ≤ n) : M.allTo n (M.radAt wn f g) = M.allTo n fun i => okH (if wn = 0 then ((g 0).size : Int) else ((f 0).size : Int)) (g i) := by
  rw [Bool.eq_iff_iff, M.allTo_iff, M.allTo_iff]
  constructor
  · intro h i hi
    have h1 := h i hi
    unfold M.radAt at h1
    simp only [Bool.and_eq_true, Bool.or_eq_true, decide_eq_true_eq] at h1
    unfold okH
    rw [h1.1.1, Bool.true_and, decide_eq_true_eq]
    split
    · have := h1.1.2; omega
    · have := h1.2; omega
  · intro h i hi
    have h1 := h i hi
    have h0 := h 0 (by omega)
    unfold okH at h1 h0
    simp only [Bool.and_eq_true, decide_eq_true_eq] at h1 h0
    unfold M.radAt
    rw [h1.1]
    simp only [Bool.true_and, Bool.and_eq_true, Bool.or_eq_true, decide_eq_true_eq]
    have a := h1.2
    have b := h0.2
    split at a
    · rename_i hz
      rw [if_pos hz] at b
      exact ⟨by omega, .inl hz⟩
    · rename_i hz
      rw [if_neg hz] at b
      exact ⟨by omega, .inr (by omega)⟩
section
variable (wA gA : Option Addr) (wn wc gn gc B : Nat) (f g : Nat → ByteArray) (e : Int) (w : World) (hwn : wn ≤ 1048576) (hgn : gn ≤ 1048576) (hW : RdS w B wA wn f) (hG : RdS w B gA gn g) (hB : B ≤ w.heap.size) (hSf : ∀ i, i < wn → (f i).size ≤ 1048576) (hSg : ∀ i, i < gn → (g i).size ≤ 1048576)
include hwn hgn hW hG hB hSf hSg
set_option maxRecDepth 100000 in
set_option maxHeartbeats 3200000 in
theorem heard_any :
    Calls Tryd.prog 33 #[.slice wA wn wc, .agg #[.slice gA gn gc, .int .i64 e]] w fun en w' => en = .returned (.bool (M.isR wn f gn g e)) ∧ Below w.heap.size w w' := by
  rcases rad_dec gn e with hgood | ⟨hbad, hcs⟩
  · have HI := Lib.hid ((radGood (wn := wn) (f := f) (g := g) hgood).trans (rad_long hgood.1))
    obtain ⟨h1, h2, h3, h4⟩ := hgood
    have g1 : decide ((gn : Int) < 1) = false := decide_eq_false (by omega)
    have g2 : decide ((8 : Int) < (gn : Int)) = false := decide_eq_false (by omega)
    have g3 : decide (e < 0) = false := decide_eq_false (by omega)
    have g4 : decide (12 < e) = false := decide_eq_false (by omega)
    have g5 : decide (gn ≤ 0) = false := decide_eq_false (by omega)
    have HSg := Lib.hid hSg
    have HG := Lib.hid hG
    have hs1 := HSg.out 0 (by omega)
    obtain ⟨b, off, rfl, hb, _, c1⟩ := hG.at0 (show 0 < gn by omega)
    have hbs : b < w.heap.size := by omega
    clear hG hSg
    by_cases hwz : wn = 0
    · rw [if_pos hwz] at HI
      have g6 : decide ((0 : Int) < (wn : Int)) = false := decide_eq_false (by omega)
      have g6n : decide (0 < wn) = false := decide_eq_false (by omega)
      clear hW hSf
      go_enter Tryd.func33, Tryd.ntmps33
      go_wp2_with fail
      refine (conH _ gn gc B g ((g 0).size : Int) (w.heap.size + 1) _ (by unfold maxLen; omega) (HG.out.below ((belowAlloc2 w _ _).mono hB)) (by simp; omega) HSg.out ((Blk.new1 w _ _ _).cell 0) (by simp)).mono ?_
      rintro en w1 ⟨rfl, hb1⟩
      have HB1 := Lib.hid hb1
      clear hb1
      go_wp2_with fail
      go_ret
      exact ⟨ret_bool HI.out.symm, (belowAlloc2 w _ _).trans (HB1.out.mono (by simp; omega))⟩
    · rw [if_neg hwz] at HI
      have g6 : decide ((0 : Int) < (wn : Int)) = true := decide_eq_true (by omega)
      have g6n : decide (0 < wn) = true := decide_eq_true (by omega)
      have g7 : decide (wn ≤ 0) = false := decide_eq_false (by omega)
      have hs2 := hSf 0 (by omega)
      obtain ⟨wb, wo, rfl, hwb, _, d0⟩ := hW.at0 (show 0 < wn by omega)
      have hwbs : wb < w.heap.size := by omega
      clear hW hSf
      go_enter Tryd.func33, Tryd.ntmps33
      go_wp2_with fail
      refine (conH _ gn gc B g ((f 0).size : Int) (w.heap.size + 1) _ (by unfold maxLen; omega) (HG.out.below ((belowAlloc2 w _ _).mono hB)) (by simp; omega) HSg.out ((Blk.new1 w _ _ _).cell 0) (by simp)).mono ?_
      rintro en w1 ⟨rfl, hb1⟩
      have HB1 := Lib.hid hb1
      clear hb1
      go_wp2_with fail
      go_ret
      exact ⟨ret_bool HI.out.symm, (belowAlloc2 w _ _).trans (HB1.out.mono (by simp; omega))⟩
  · have hx := radBad (wn := wn) (f := f) (g := g) hbad
    have HX := Lib.hid hx
    clear hx hbad hW hG hSf hSg
    rcases hcs with h | ⟨h, h2⟩ | ⟨h, h2, h3⟩ | ⟨h, h2, h3, h4⟩
    · have g1 : decide ((gn : Int) < 1) = true := decide_eq_true (by omega)
      go_enter Tryd.func33, Tryd.ntmps33
      go_wp2_with fail
      go_ret
      exact ⟨ret_bool HX.out.symm, belowAlloc _ _⟩
    · have g1 : decide ((gn : Int) < 1) = false := decide_eq_false (by omega)
      have g2 : decide ((8 : Int) < (gn : Int)) = true := decide_eq_true (by omega)
      go_enter Tryd.func33, Tryd.ntmps33
      go_wp2_with fail
      go_ret
      exact ⟨ret_bool HX.out.symm, belowAlloc _ _⟩
    · have g1 : decide ((gn : Int) < 1) = false := decide_eq_false (by omega)
      have g2 : decide ((8 : Int) < (gn : Int)) = false := decide_eq_false (by omega)
      have g3 : decide (e < 0) = true := decide_eq_true (by omega)
      go_enter Tryd.func33, Tryd.ntmps33
      go_wp2_with fail
      go_ret
      exact ⟨ret_bool HX.out.symm, belowAlloc _ _⟩
    · have g1 : decide ((gn : Int) < 1) = false := decide_eq_false (by omega)
      have g2 : decide ((8 : Int) < (gn : Int)) = false := decide_eq_false (by omega)
      have g3 : decide (e < 0) = false := decide_eq_false (by omega)
      have g4 : decide (12 < e) = true := decide_eq_true (by omega)
      go_enter Tryd.func33, Tryd.ntmps33
      go_wp2_with fail
      go_ret
      exact ⟨ret_bool HX.out.symm, belowAlloc _ _⟩
end
end Go.Proofs.YtfnfjmjejffjiaaDoor
