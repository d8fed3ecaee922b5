/- The reference's IsWord and Distance; FarWords. -/
import Derived.Test.YtfnfjmjejffjiaaDoorStr
import Derived.Test.YtfnfjmjejffjiaaDoorTrim
import Derived.Laws.RangeString
import Derived.Laws.RangeAny
import Derived.Lib.OthersKept
import Derived.Deep.RegionHeld
import Derived.BigQuiet
import Derived.Deep.RegionHeld3
namespace Go.Proofs.YtfnfjmjejffjiaaDoor
open Go.RowKit

def farF (n : Nat) (f : Nat → ByteArray) : Bool := M.anyTo n (fun i => decide (60 < (f i).size)) || decide (60 < n)
end Go.Proofs.YtfnfjmjejffjiaaDoor
/- The program's apart, Contains of a slice of strings, vocabulary; the reference's vocabulary. -/
namespace Go.Proofs.YtfnfjmjejffjiaaDoor
open Go.RowKit

theorem pos_of {w : World} {k pos : Nat} {s : ByteArray} (h : w.heap[k]? = some (.stringIter s pos)) : w.iterPos k = pos := by
  unfold World.iterPos; rw [h]
set_option maxHeartbeats 1600000 in
theorem apart_any (a b : ByteArray) (w : World) (hs : a.size ≤ 1048576) (hb : a.size ≤ b.size) (hl : M.low a = true) :
    Calls Tryd.prog 36 #[.string a, .string b] w fun e w' => e = .returned (.int .i64 (M.dst a b)) ∧ Below w.heap.size w w' := by
  have HL := Lib.hid (M.allTo_iff.1 hl)
  clear hl
  go_enter Tryd.func36, Tryd.ntmps36
  go_wp2_with fail
  go_loopw [5, 6] (fun n _ wr => ∃ k : Nat, k ≤ a.size ∧ wr.heap[w.heap.size]? = some (.stringIter a k) ∧ n = .int .i64 (M.dstTo k a b) ∧ Below w.heap.size w wr) (fun _ _ wr => a.size - wr.iterPos w.heap.size)
  case atStart => exact ⟨0, Nat.zero_le _, World.iter_heap w a 0, rfl, (Below.refl _ _).alloc (Nat.le_refl _) _⟩
  case round =>
    obtain ⟨k, hk, hit, rfl, hbw⟩ := hrel
    have hpos := pos_of hit
    have HP := Lib.hid hpos
    clear hpos
    have HB := Lib.hid hbw
    have hbd := M.dstTo_bd k a b
    by_cases hlt : k < a.size
    · have hc := M.chr_at a k hlt
      have hd := M.chr_at b k (by omega)
      have hlt2 : k < b.size := by omega
      have hlow := HL.out k hlt
      simp only [Bool.and_eq_true, decide_eq_true_eq] at hlow
      have hnx : ∀ ty, (Instr.next (.pointer (some ⟨w.heap.size, 0, none⟩)) true ty).run Tryd.prog wr = _ := fun ty => Lib.run_next_ascii_at wr w.heap.size a k ty hit hlt (by omega)
      have hit2 := Lib.iterAt_heap wr w.heap.size a k (k + 1) hit
      have hbw2 := Lib.below_iterAt hbw (k := w.heap.size) (Nat.le_refl _) a (k + 1)
      obtain ⟨W1, hW1⟩ : ∃ W1, W1 = wr.iterAt w.heap.size a (k + 1) := ⟨_, rfl⟩
      rw [← hW1] at hnx hit2 hbw2
      have HI := Lib.hid hit2
      have HB2 := Lib.hid hbw2
      have hx : M.dstTo (k + 1) a b = M.dstTo k a b + (if M.chr a k = M.chr b k then 0 else 1) := rfl
      clear hit2 hbw2 hW1 hit hbw hlow
      by_cases h1 : M.chr a k = M.chr b k
      · rw [if_pos h1] at hx
        have HX := Lib.hid hx
        have g1 : ((M.chr a k : Int) == (M.chr b k : Int)) = true := by rw [h1]; simp
        clear hx
        go_wp2_with fail
        go_quiet (fail)
        go_wp2_with fail
        go_roundw
        case rel => exact ⟨k + 1, by omega, HI.out, by rw [HX.out, Int.add_zero], HB2.out.drewN _⟩
        case measure =>
          have hq := pos_of HI.out
          show a.size - W1.iterPos w.heap.size < _
          rw [hq, HP.out]; omega
      · rw [if_neg h1] at hx
        have HX := Lib.hid hx
        have g1 : ((M.chr a k : Int) == (M.chr b k : Int)) = false := by rw [beq_eq_false_iff_ne]; omega
        clear hx
        go_wp2_with fail
        go_quiet (fail)
        go_wp2_with fail
        go_roundw
        case rel => exact ⟨k + 1, by omega, HI.out, by rw [HX.out], HB2.out.drewN _⟩
        case measure =>
          have hq := pos_of HI.out
          show a.size - W1.iterPos w.heap.size < _
          rw [hq, HP.out]; omega
    · obtain rfl : k = a.size := by omega
      have hnx : ∀ ty, (Instr.next (.pointer (some ⟨w.heap.size, 0, none⟩)) true ty).run Tryd.prog wr = _ := fun ty => Lib.run_next_end_at wr w.heap.size a a.size ty hit hlt
      clear hit hbw
      go_wp2_with fail
      go_ret
      exact ⟨rfl, HB.out⟩
set_option maxHeartbeats 1600000 in
theorem index_any (A : Option Addr) (n c B : Nat) (f : Nat → ByteArray) (v : ByteArray) (w : World) (hn : n ≤ maxLen) (hR : RdS w B A n f) :
    Calls Tryd.prog 49 #[.slice A n c, .string v] w fun e w' => (∃ r : Int, e = .returned (.int .i64 r) ∧ decide (0 ≤ r) = M.anyTo n fun k => decide (f k = v)) ∧ w = w' := by
  unfold maxLen at hn
  go_enter Tryd.func49, Tryd.ntmps49
  go_wp2_with fail
  go_loop [5, 8] (fun _ i => ∃ k : Nat, k ≤ n ∧ i = .int .i64 k ∧ (M.anyTo k fun k => decide (f k = v)) = false) (fun _ i => n - (intOf i).toNat)
  case atStart => exact ⟨0, Nat.zero_le _, rfl, rfl⟩
  case round =>
    obtain ⟨k, hk, rfl, hf⟩ := hrel
    have HF := Lib.hid hf
    clear hf
    by_cases hlt : k < n
    · obtain ⟨b, off, rfl, hb, c0⟩ := hR.at_ hlt
      clear hR
      have he := str_eq (a := v) (b := f k)
      by_cases h1 : f k = v
      · rw [decide_eq_true h1.symm] at he
        have HX := Lib.hid h1
        clear h1
        go_wp2_with fail
        go_ret
        refine ⟨⟨_, rfl, ?_⟩, rfl⟩
        rw [M.anyTo_iff.2 ⟨k, hlt, decide_eq_true HX.out⟩]
        simp
      · rw [decide_eq_false fun e => h1 e.symm] at he
        have HX := Lib.hid h1
        clear h1
        go_wp2_with fail
        go_round
        case rel => exact ⟨k + 1, by omega, by go_num, by simp only [M.anyTo, HF.out, Bool.false_or]; exact decide_eq_false HX.out⟩
        case measure => simp [intOf]; omega
    · obtain rfl : k = n := by omega
      go_wp2_with fail
      go_ret
      exact ⟨⟨_, rfl, by rw [HF.out]; rfl⟩, rfl⟩
theorem contains_any (A : Option Addr) (n c B : Nat) (f : Nat → ByteArray) (v : ByteArray) (w : World) (hn : n ≤ maxLen) (hR : RdS w B A n f) :
    Calls Tryd.prog 44 #[.slice A n c, .string v] w fun e w' => e = .returned (.bool (M.anyTo n fun k => decide (f k = v))) ∧ w = w' := by
  go_enter Tryd.func44, Tryd.ntmps44
  go_wp2_with (go_at_call 49; refine (index_any _ _ _ _ _ _ _ hn hR).mono ?_; rintro e w1 ⟨⟨r, rfl, hr⟩, rfl⟩; have HR := Lib.hid hr; clear hr)
  go_ret
  exact ⟨ret_bool HR.out, rfl⟩
end Go.Proofs.YtfnfjmjejffjiaaDoor
/- vocabulary, IsVocabulary. -/
namespace Go.Proofs.YtfnfjmjejffjiaaDoor
open Go.RowKit

theorem RdS.less {w : World} {B n k : Nat} {A : Option Addr} {f : Nat → ByteArray} (h : RdS w B A n f) (hk : k ≤ n) : RdS w B A k f := by
  rcases h with h | ⟨b, off, hA, hb, hc⟩
  · exact .inl (by omega)
  · exact .inr ⟨b, off, hA, hb, fun i hi => hc i (by omega)⟩
theorem vocF {n k : Nat} {f : Nat → ByteArray} (hk : k < n) (h : M.vocAt f k = false) : M.isV n f = false := by
  refine Bool.eq_false_iff.2 fun h1 => ?_
  unfold M.isV at h1
  simp only [Bool.and_eq_true] at h1
  have := M.allTo_iff.1 h1.2 k hk
  rw [h] at this; cases this
set_option maxHeartbeats 3200000 in
theorem vocabulary_any (A : Option Addr) (n c B : Nat) (f : Nat → ByteArray) (w : World) (hn : n ≤ 1048576) (hnc : n ≤ c) (hc : c ≤ 9223372036854775807) (hR : RdS w B A n f) (hB : B ≤ w.heap.size) (hS : ∀ i, i < n → (f i).size ≤ 1048576) :
    Calls Tryd.prog 32 #[.slice A n c] w fun e w' => e = .returned (.bool (M.isV n f)) ∧ Below w.heap.size w w' := by
  by_cases h20 : 20 < n
  · have g1 : decide ((20 : Int) < (n : Int)) = true := decide_eq_true (by omega)
    go_enter Tryd.func32, Tryd.ntmps32
    go_wp2_with fail
    go_ret
    exact ⟨ret_bool (by unfold M.isV; rw [decide_eq_false (by omega : ¬ n ≤ 20)]; rfl), Below.refl _ _⟩
  · have g1 : decide ((20 : Int) < (n : Int)) = false := decide_eq_false (by omega)
    have HS := Lib.hid hS
    have HR := Lib.hid hR
    clear hS hR
    go_enter Tryd.func32, Tryd.ntmps32
    go_wp2_with fail
    go_loopw [3, 4, 10] (fun _ _ i wr => ∃ k : Nat, k ≤ n ∧ i = .int .i64 k ∧ M.allTo k (M.vocAt f) = true ∧ Below w.heap.size w wr) (fun _ _ i _ => n - (intOf i).toNat)
    case atStart => exact ⟨0, Nat.zero_le _, rfl, rfl, Below.refl _ _⟩
    case round =>
      obtain ⟨k, hk, rfl, hf, hbw⟩ := hrel
      have HF := Lib.hid hf
      have HB := Lib.hid hbw
      have hz := hbw.size
      clear hf hbw
      by_cases hlt : k < n
      · have hr := HR.out.below (HB.out.mono hB)
        have hs0 := HS.out k hlt
        have hs1 := HS.out 0 (by omega)
        have HRK := Lib.hid (hr.less (Nat.le_of_lt hlt))
        obtain ⟨b, off, rfl, hb, c0, c1⟩ := hr.at0 hlt
        clear hr
        have hbs : b < wr.heap.size := by omega
        cases hw : M.isW (f k)
        · have HX := Lib.hid (vocF hlt (show M.vocAt f k = false by unfold M.vocAt; rw [hw]; rfl))
          have HW := Lib.hid hw
          clear hw
          go_wp2_with (go_at_call 43; refine (word_any _ _ (by omega)).mono ?_; rw [HW.out]; rintro e w1 ⟨rfl, hb1⟩; have HB1 := Lib.hid hb1; clear hb1)
          go_ret
          exact ⟨ret_bool HX.out.symm, HB.out.trans (HB1.out.mono hz)⟩
        · have HW := Lib.hid hw
          clear hw
          by_cases hsz : (f k).size = (f 0).size
          · have g2 : (((f k).size : Int) == ((f 0).size : Int)) = true := by rw [hsz]; simp
            have g3 : (((f k).size : Int) != ((f 0).size : Int)) = false := by rw [hsz]; simp
            cases hcn : M.anyTo k fun j => decide (f j = f k)
            · have HX := Lib.hid (show M.allTo (k + 1) (M.vocAt f) = true by simp only [M.allTo, HF.out, Bool.true_and]; unfold M.vocAt; rw [HW.out, hcn, decide_eq_true hsz]; rfl)
              have HC := Lib.hid hcn
              clear hcn hsz
              go_wp2_with (first | (go_at_call 43; refine (word_any _ _ (by omega)).mono ?_; rw [HW.out]; rintro e w1 ⟨rfl, hb1⟩; have HB1 := Lib.hid hb1; have c1 := (hb1.cell (p := ⟨b, off, none⟩) (by exact hbs)).trans c1; clear hb1) | (go_at_call 44; refine (contains_any _ _ _ B _ _ _ (by unfold maxLen; omega) (HRK.out.below (HB1.out.mono (by omega)))).mono ?_; rw [HC.out]; rintro e w2 ⟨rfl, rfl⟩))
              go_roundw
              case rel => exact ⟨k + 1, by omega, by go_num, HX.out, HB.out.trans (HB1.out.mono hz)⟩
              case measure => simp [intOf]; omega
            · have HX := Lib.hid (vocF hlt (show M.vocAt f k = false by unfold M.vocAt; rw [hcn]; simp))
              have HC := Lib.hid hcn
              clear hcn hsz
              go_wp2_with (first | (go_at_call 43; refine (word_any _ _ (by omega)).mono ?_; rw [HW.out]; rintro e w1 ⟨rfl, hb1⟩; have HB1 := Lib.hid hb1; have c1 := (hb1.cell (p := ⟨b, off, none⟩) (by exact hbs)).trans c1; clear hb1) | (go_at_call 44; refine (contains_any _ _ _ B _ _ _ (by unfold maxLen; omega) (HRK.out.below (HB1.out.mono (by omega)))).mono ?_; rw [HC.out]; rintro e w2 ⟨rfl, rfl⟩))
              go_ret
              exact ⟨ret_bool HX.out.symm, HB.out.trans (HB1.out.mono hz)⟩
          · have HX := Lib.hid (vocF hlt (show M.vocAt f k = false by unfold M.vocAt; rw [decide_eq_false hsz]; simp))
            have g2 : (((f k).size : Int) == ((f 0).size : Int)) = false := by rw [beq_eq_false_iff_ne]; omega
            have g3 : (((f k).size : Int) != ((f 0).size : Int)) = true := by rw [bne_iff_ne]; omega
            clear hsz
            go_wp2_with (go_at_call 43; refine (word_any _ _ (by omega)).mono ?_; rw [HW.out]; rintro e w1 ⟨rfl, hb1⟩; have HB1 := Lib.hid hb1; have c1 := (hb1.cell (p := ⟨b, off, none⟩) (by exact hbs)).trans c1; clear hb1)
            go_ret
            exact ⟨ret_bool HX.out.symm, HB.out.trans (HB1.out.mono hz)⟩
      · obtain rfl : k = n := by omega
        go_wp2_with fail
        go_ret
        exact ⟨ret_bool (by unfold M.isV; rw [HF.out, decide_eq_true (by omega : k ≤ 20)]; rfl), HB.out⟩
end Go.Proofs.YtfnfjmjejffjiaaDoor
/- heard, IsRadio. -/
namespace Go.Proofs.YtfnfjmjejffjiaaDoor
open Go.RowKit

theorem radF {wn n k : Nat} {f g : Nat → ByteArray} {e : Int} (hk : k < n) (h : M.radAt wn f g k = false) : M.isR wn f n g e = false := by
  refine Bool.eq_false_iff.2 fun h1 => ?_
  unfold M.isR at h1
  simp only [Bool.and_eq_true] at h1
  have := M.allTo_iff.1 h1.2 k hk
  rw [h] at this; cases this
theorem radBad {wn n : Nat} {f g : Nat → ByteArray} {e : Int} (h : ¬ (1 ≤ n ∧ n ≤ 8 ∧ 0 ≤ e ∧ e ≤ 12)) : M.isR wn f n g e = false := by
  refine Bool.eq_false_iff.2 fun h1 => h ?_
  unfold M.isR at h1
  simp only [Bool.and_eq_true, decide_eq_true_eq] at h1
  exact ⟨h1.1.1.1.1, h1.1.1.1.2, h1.1.1.2, h1.1.2⟩
theorem radGood {wn n : Nat} {f g : Nat → ByteArray} {e : Int} (h : 1 ≤ n ∧ n ≤ 8 ∧ 0 ≤ e ∧ e ≤ 12) : M.isR wn f n g e = M.allTo n (M.radAt wn f g) := by
  unfold M.isR
  rw [decide_eq_true h.1, decide_eq_true h.2.1, decide_eq_true h.2.2.1, decide_eq_true h.2.2.2]; rfl
/-- the bounds of a radio, decided -/
theorem rad_dec (n : Nat) (e : Int) : (1 ≤ n ∧ n ≤ 8 ∧ 0 ≤ e ∧ e ≤ 12) ∨ (¬ (1 ≤ n ∧ n ≤ 8 ∧ 0 ≤ e ∧ e ≤ 12) ∧ ((n < 1) ∨ (1 ≤ n ∧ 8 < n) ∨ (1 ≤ n ∧ n ≤ 8 ∧ e < 0) ∨ (1 ≤ n ∧ n ≤ 8 ∧ 0 ≤ e ∧ 12 < e))) := by omega
section
variable (wA gA : Option Addr) (wn wc gn gc B : Nat) (f g : Nat → ByteArray) (e : Int) (w : World) (hwn : wn ≤ 1048576) (hgn : gn ≤ 1048576) (hW : RdS w B wA wn f) (hG : RdS w B gA gn g) (hB : B ≤ w.heap.size) (hSf : ∀ i, i < wn → (f i).size ≤ 1048576) (hSg : ∀ i, i < gn → (g i).size ≤ 1048576)
include hwn hgn hW hG hB hSf hSg
end
end Go.Proofs.YtfnfjmjejffjiaaDoor
