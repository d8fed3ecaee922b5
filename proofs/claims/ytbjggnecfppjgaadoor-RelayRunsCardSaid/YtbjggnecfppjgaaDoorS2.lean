/- The program's apart, Contains of a slice of strings, vocabulary; the reference's vocabulary. -/
import Derived.Test.YtbjggnecfppjgaaDoorS1
import Derived.Test.YtbjggnecfppjgaaDoorTrim
import Derived.Laws.RangeString
import Derived.Laws.RangeAny
import Derived.Lib.OthersKept
import Derived.Deep.RegionHeld
namespace Go.Proofs.YtbjggnecfppjgaaDoor
open Go.RowKit

theorem pos_of {w : World} {k pos : Nat} {s : ByteArray} (h : w.heap[k]? = some (.stringIter s pos)) : w.iterPos k = pos := by
  unfold World.iterPos; rw [h]
set_option maxHeartbeats 1600000 in
theorem apart_any (a b : ByteArray) (w : World) (hs : a.size ≤ 1048576) (hb : a.size ≤ b.size) (hl : M.low a = true) :
    Calls Tryd.prog 35 #[.string a, .string b] w fun e w' => e = .returned (.int .i64 (M.dst a b)) ∧ Below w.heap.size w w' := by
  have HL := Lib.hid (M.allTo_iff.1 hl)
  clear hl
  go_enter Tryd.func35, Tryd.ntmps35
  go_wp2_with fail
  go_loopw [5, 6] (fun n _ wr => ∃ k : Nat, k ≤ a.size ∧ wr.heap[w.heap.size]? = some (.stringIter a k) ∧ n = .int .i64 (M.dstTo k a b) ∧ Below w.heap.size w wr) (fun _ _ wr => a.size - wr.iterPos w.heap.size)
  case atStart => exact ⟨0, Nat.zero_le _, World.iter_heap w a 0, rfl, (Below.refl _ _).alloc (Nat.le_refl _) _⟩
  case round =>
    obtain ⟨k, hk, hit, rfl, hbw⟩ := hrel
    have hpos := pos_of hit
    have HP := Lib.hid hpos
    clear hpos
    have HB := Lib.hid hbw
    have hbd := M.dstTo_bd k a b
    by_cases hlt : k < a.size
    · have hc := M.chr_at a k hlt
      have hd := M.chr_at b k (by omega)
      have hlt2 : k < b.size := by omega
      have hlow := HL.out k hlt
      simp only [Bool.and_eq_true, decide_eq_true_eq] at hlow
      have hnx : ∀ ty, (Instr.next (.pointer (some ⟨w.heap.size, 0, none⟩)) true ty).run Tryd.prog wr = _ := fun ty => Lib.run_next_ascii_at wr w.heap.size a k ty hit hlt (by omega)
      have hit2 := Lib.iterAt_heap wr w.heap.size a k (k + 1) hit
      have hbw2 := Lib.below_iterAt hbw (k := w.heap.size) (Nat.le_refl _) a (k + 1)
      obtain ⟨W1, hW1⟩ : ∃ W1, W1 = wr.iterAt w.heap.size a (k + 1) := ⟨_, rfl⟩
      rw [← hW1] at hnx hit2 hbw2
      have HI := Lib.hid hit2
      have HB2 := Lib.hid hbw2
      have hx : M.dstTo (k + 1) a b = M.dstTo k a b + (if M.chr a k = M.chr b k then 0 else 1) := rfl
      clear hit2 hbw2 hW1 hit hbw hlow
      by_cases h1 : M.chr a k = M.chr b k
      · rw [if_pos h1] at hx
        have HX := Lib.hid hx
        have g1 : ((M.chr a k : Int) == (M.chr b k : Int)) = true := by rw [h1]; simp
        clear hx
        go_wp2_with fail
        go_quiet (fail)
        go_wp2_with fail
        go_roundw
        case rel => exact ⟨k + 1, by omega, HI.out, by rw [HX.out, Int.add_zero], HB2.out.drewN _⟩
        case measure =>
          have hq := pos_of HI.out
          show a.size - W1.iterPos w.heap.size < _
          rw [hq, HP.out]; omega
      · rw [if_neg h1] at hx
        have HX := Lib.hid hx
        have g1 : ((M.chr a k : Int) == (M.chr b k : Int)) = false := by rw [beq_eq_false_iff_ne]; omega
        clear hx
        go_wp2_with fail
        go_quiet (fail)
        go_wp2_with fail
        go_roundw
        case rel => exact ⟨k + 1, by omega, HI.out, by rw [HX.out], HB2.out.drewN _⟩
        case measure =>
          have hq := pos_of HI.out
          show a.size - W1.iterPos w.heap.size < _
          rw [hq, HP.out]; omega
    · obtain rfl : k = a.size := by omega
      have hnx : ∀ ty, (Instr.next (.pointer (some ⟨w.heap.size, 0, none⟩)) true ty).run Tryd.prog wr = _ := fun ty => Lib.run_next_end_at wr w.heap.size a a.size ty hit hlt
      clear hit hbw
      go_wp2_with fail
      go_ret
      exact ⟨rfl, HB.out⟩
set_option maxHeartbeats 1600000 in
theorem index_any (A : Option Addr) (n c B : Nat) (f : Nat → ByteArray) (v : ByteArray) (w : World) (hn : n ≤ maxLen) (hR : RdS w B A n f) :
    Calls Tryd.prog 60 #[.slice A n c, .string v] w fun e w' => (∃ r : Int, e = .returned (.int .i64 r) ∧ decide (0 ≤ r) = M.anyTo n fun k => decide (f k = v)) ∧ w = w' := by
  unfold maxLen at hn
  go_enter Tryd.func60, Tryd.ntmps60
  go_wp2_with fail
  go_loop [5, 8] (fun _ i => ∃ k : Nat, k ≤ n ∧ i = .int .i64 k ∧ (M.anyTo k fun k => decide (f k = v)) = false) (fun _ i => n - (intOf i).toNat)
  case atStart => exact ⟨0, Nat.zero_le _, rfl, rfl⟩
  case round =>
    obtain ⟨k, hk, rfl, hf⟩ := hrel
    have HF := Lib.hid hf
    clear hf
    by_cases hlt : k < n
    · obtain ⟨b, off, rfl, hb, c0⟩ := hR.at_ hlt
      clear hR
      have he := str_eq (a := v) (b := f k)
      by_cases h1 : f k = v
      · rw [decide_eq_true h1.symm] at he
        have HX := Lib.hid h1
        clear h1
        go_wp2_with fail
        go_ret
        refine ⟨⟨_, rfl, ?_⟩, rfl⟩
        rw [M.anyTo_iff.2 ⟨k, hlt, decide_eq_true HX.out⟩]
        simp
      · rw [decide_eq_false fun e => h1 e.symm] at he
        have HX := Lib.hid h1
        clear h1
        go_wp2_with fail
        go_round
        case rel => exact ⟨k + 1, by omega, by go_num, by simp only [M.anyTo, HF.out, Bool.false_or]; exact decide_eq_false HX.out⟩
        case measure => simp [intOf]; omega
    · obtain rfl : k = n := by omega
      go_wp2_with fail
      go_ret
      exact ⟨⟨_, rfl, by rw [HF.out]; rfl⟩, rfl⟩
theorem contains_any (A : Option Addr) (n c B : Nat) (f : Nat → ByteArray) (v : ByteArray) (w : World) (hn : n ≤ maxLen) (hR : RdS w B A n f) :
    Calls Tryd.prog 49 #[.slice A n c, .string v] w fun e w' => e = .returned (.bool (M.anyTo n fun k => decide (f k = v))) ∧ w = w' := by
  go_enter Tryd.func49, Tryd.ntmps49
  go_wp2_with (go_at_call 60; refine (index_any _ _ _ _ _ _ _ hn hR).mono ?_; rintro e w1 ⟨⟨r, rfl, hr⟩, rfl⟩; have HR := Lib.hid hr; clear hr)
  go_ret
  exact ⟨ret_bool HR.out, rfl⟩
end Go.Proofs.YtbjggnecfppjgaaDoor
