/- The program: whether a call is settled. -/
import Derived.Test.YtfnfjmjejffjiaaDoorG1
import Derived.Test.YtfnfjmjejffjiaaDoorT12
import Derived.Test.YtfnfjmjejffjiaaDoorT8
import Derived.Test.YtfnfjmjejffjiaaDoorMp
import Derived.DeepKeys4
namespace Go.Proofs.YtfnfjmjejffjiaaDoor
open Go.RowKit

theorem settled1_any (a b c : Int) (w : World) : Calls Tryd.prog 30 #[.agg #[.int .i64 a, .int .i64 b, .int .i64 c]] w fun e w' => e = .returned (.bool (decide (a = 2) || decide (a = 3))) ∧ Below w.heap.size w w' := by
  have D0 := Lib.hid (Blk.new w 51 #[.int .i64 a, .int .i64 b, .int .i64 c])
  have B0 := Lib.hid (belowAlloc w (.cells #[.int .i64 a, .int .i64 b, .int .i64 c] 51))
  by_cases h2 : a = 2
  · have e2 : (a == 2) = true := by rw [h2]; rfl
    have HR := Lib.hid (show (decide (a = 2) || decide (a = 3)) = true by simp [h2])
    rw [HR.out]
    clear h2
    go_enter Tryd.func30, Tryd.ntmps30
    go_wp2_with fail
    go_ret
    exact ⟨rfl, B0.out⟩
  · have e2 : (a == 2) = false := by rw [beq_eq_false_iff_ne]; exact h2
    by_cases h3 : a = 3
    · have e3 : (a == 3) = true := by rw [h3]; rfl
      have HR := Lib.hid (show (decide (a = 2) || decide (a = 3)) = true by simp [h3])
      rw [HR.out]
      clear h2 h3
      go_enter Tryd.func30, Tryd.ntmps30
      go_wp2_with fail
      go_ret
      exact ⟨rfl, B0.out⟩
    · have e3 : (a == 3) = false := by rw [beq_eq_false_iff_ne]; exact h3
      have HR := Lib.hid (show (decide (a = 2) || decide (a = 3)) = false by simp [h2, h3])
      rw [HR.out]
      clear h2 h3
      go_enter Tryd.func30, Tryd.ntmps30
      go_wp2_with fail
      go_ret
      exact ⟨rfl, B0.out⟩
theorem idx_set (A : Option Addr) (c B : Nat) (s : M.St) (w : World) (hR : Rd w B A 3 4 s.c) (hB : B ≤ w.heap.size) :
    Calls Tryd.prog 42 #[.slice A 4 c, .func (.func 30) #[] #[]] w fun e w' => (∃ r : Int, e = .returned (.int .i64 r) ∧ decide (0 ≤ r) = !M.setN s 4) ∧ Below w.heap.size w w' := by
  have HR := Lib.hid hR
  clear hR
  go_enter Tryd.func42, Tryd.ntmps42
  go_wp2_with fail
  go_loopw [5, 8] (fun _ i wr => ∃ k : Nat, k ≤ 4 ∧ i = .int .i64 (k : Int) ∧ Hid (M.setN s k = true) ∧ Hid (Below w.heap.size w wr)) (fun _ i _ => 4 - (intOf i).toNat)
  case atStart => exact ⟨0, Nat.zero_le _, rfl, Lib.hid rfl, Lib.hid (Below.refl _ _)⟩
  case round =>
    obtain ⟨k, hk, rfl, HK, HI⟩ := hrel
    by_cases hlt : k < 4
    · have g1 : decide (k < 4) = true := decide_eq_true hlt
      obtain ⟨b, off, rfl, hb, c0, c1, c2⟩ := (HR.out.below (HI.out.mono hB)).at3 hlt
      have HC := Lib.hid (settled1_any (s.c k 0) (s.c k 1) (s.c k 2) wr)
      obtain ⟨q, hq⟩ : ∃ q, q = (decide (s.c k 0 = 2) || decide (s.c k 0 = 3)) := ⟨_, rfl⟩
      rw [← hq] at HC
      have HQ := Lib.hid hq
      clear hq
      cases q
      · have HN := Lib.hid (show M.setN s (k + 1) = true from by unfold M.setN; rw [HK.out, ← HQ.out]; rfl)
        go_wp2_with (go_at_call 30; refine HC.out.mono ?_; rintro e w1 ⟨rfl, hb1⟩; have HB1 := Lib.hid (HI.out.trans (hb1.mono HI.out.size)); clear hb1)
        go_roundw
        case rel => exact ⟨k + 1, by omega, by go_num, HN, HB1⟩
        case measure => simp [intOf]; omega
      · have HN := Lib.hid (show M.setN s 4 = false from M.setN_no hlt (by
          have := HQ.out.symm
          simpa using this))
        go_wp2_with (go_at_call 30; refine HC.out.mono ?_; rintro e w1 ⟨rfl, hb1⟩; have HB1 := Lib.hid (HI.out.trans (hb1.mono HI.out.size)); clear hb1)
        go_ret
        exact ⟨⟨_, rfl, by rw [HN.out]; exact decide_eq_true (by omega)⟩, HB1.out⟩
    · obtain rfl : k = 4 := by omega
      go_wp2_with fail
      go_ret
      exact ⟨⟨_, rfl, by rw [HK.out]; rfl⟩, HI.out⟩
theorem con_set (A : Option Addr) (c B : Nat) (s : M.St) (w : World) (hR : Rd w B A 3 4 s.c) (hB : B ≤ w.heap.size) :
    Calls Tryd.prog 29 #[.slice A 4 c, .func (.func 30) #[] #[]] w fun e w' => e = .returned (.bool (!M.setN s 4)) ∧ Below w.heap.size w w' := by
  have HI := Lib.hid (idx_set A c B s w hR hB)
  clear hR hB
  go_enter Tryd.func29, Tryd.ntmps29
  go_wp2_with (go_at_call 42; refine HI.out.mono ?_; rintro e w1 ⟨⟨r, rfl, hr⟩, hb⟩; have HB := Lib.hid hb; clear hb)
  go_ret
  exact ⟨by rw [← hr]; rfl, HB.out⟩
theorem slice_all (g : Nat) (W : World) : (Instr.sliceAt 52 (.pointer (some ⟨g, 1, none⟩)) none none none).run Tryd.prog W = .ok (.slice (some ⟨g, 1, none⟩) 4 4) W := by
  rw [run_sliceAt_array_all (P := Tryd.prog) W 52 ⟨g, 1, none⟩ (by kernel_rfl)]
  rw [show Tryd.prog.arrayLen 52 = 4 by kernel_rfl, show Tryd.prog.elem 52 = 51 by kernel_rfl, Tryd.sizeOf51]
  simp [Result.andThen, slicedAt, Addr.add]
theorem settled_any (n g : Nat) (s : M.St) (w : World) (hs : Sf w g (stF n s)) :
    Calls Tryd.prog 16 #[.pointer (some ⟨g, 0, none⟩)] w fun e w' => e = .returned (.bool (M.setN s 4)) ∧ Below w.heap.size w w' := by
  have hsl := fun W => slice_all g W
  have HC := Lib.hid (con_set (some ⟨g, 1, none⟩) 4 (g + 1) s w (hs.rdC (k := 4) (Nat.le_refl _)) hs.lt)
  have c0 := hs.cn
  clear hs
  go_enter Tryd.func16, Tryd.ntmps16
  go_wp2_with (go_at_call 29; refine HC.out.mono ?_; rintro e w1 ⟨rfl, hb⟩; have HB := Lib.hid hb; clear hb)
  go_ret
  exact ⟨by simp, HB.out⟩
theorem M.set_four {n : Nat} {s : M.St} (hc : M.Cn n s) (hn : n ≤ 4) : M.setN s 4 = true ↔ M.Setd n s := by
  rw [M.setN_iff]
  constructor
  · exact fun h i hi => h i (by omega)
  · intro h i _
    by_cases hi : i < n
    · exact h i hi
    · rw [hc.out i (by omega)]; decide
end Go.Proofs.YtfnfjmjejffjiaaDoor
/- The program: next, the events that may settle a call; states as keys of a map. -/
namespace Go.Proofs.YtfnfjmjejffjiaaDoor
open Go.RowKit Go.Maps

/-- a state's numbers -/
def stV (n : Nat) (s : M.St) : Array Value := ((List.range 38).map fun i => Value.int .i64 (stF n s i)).toArray
theorem stV_sv (n : Nat) (s : M.St) : Sv (stV n s) (stF n s) := by
  refine ⟨by simp [stV], fun i hi => ?_⟩
  unfold stV
  simp [hi]
theorem Sv.eq {cs : Array Value} {n : Nat} {s : M.St} (h : Sv cs (stF n s)) : cs = stV n s := by
  apply Array.ext
  · rw [h.1, (stV_sv n s).1]
  · intro i h1 h2
    have h3 : i < 38 := by rw [h.1] at h1; exact h1
    have a := h.2 i h3
    have b := (stV_sv n s).2 i h3
    rw [Array.getElem?_eq_getElem h1] at a
    rw [Array.getElem?_eq_getElem h2] at b
    exact Option.some.inj (a.trans b.symm)
/-- states with the same numbers are the same -/
theorem stV_inj {n : Nat} {s t : M.St} (hn : n ≤ 4) (hs : M.Okk n s) (ht : M.Okk n t) (h : stV n s = stV n t) : s = t := by
  have hF : ∀ i, i < 38 → stF n s i = stF n t i := fun i hi => by
    have a := (stV_sv n s).2 i hi
    have b := (stV_sv n t).2 i hi
    rw [h, b] at a
    injection a with a
    injection a with _ a
    exact a.symm
  have hk : s.k = t.k := by
    have := hF 37 (by decide)
    rw [stF_37, stF_37] at this
    omega
  refine hs.cn.ext_ ht.cn hk (fun i j hi hj => ?_) fun a j ha hj => ?_
  · have := hF (1 + i * 3 + j) (by omega)
    rw [stF_c n s (show i < 4 by omega) hj, stF_c n t (show i < 4 by omega) hj] at this
    exact this
  · have hk6 := hs.wf.k6
    have := hF (13 + a * 4 + j) (by omega)
    rw [stF_m n s (show a < 6 by omega) hj, stF_m n t (show a < 6 by omega) hj] at this
    exact this
set_option maxRecDepth 100000 in
theorem next_any (cs : Array Value) (w : World) : Calls Tryd.prog 17 #[.agg cs] w fun e w' => e = .returned (.func (.func 31) #[] #[.pointer (some ⟨w.heap.size, 0, none⟩)]) ∧ w' = w.alloc (.cells cs 57) := by
  go_enter Tryd.func17, Tryd.ntmps17
  go_wp2_with fail
  go_ret
  exact ⟨rfl, rfl⟩
theorem laid_out : laidOutB Tryd.prog = true := by kernel_rfl
theorem stateK : Keyed Tryd.prog 57 := Keyed.of_law (deep_law_laid laid_out (m := 5) (by omega) (of_decide_eq_true (by kernel_rfl)) (by kernel_rfl) (by kernel_rfl))
end Go.Proofs.YtfnfjmjejffjiaaDoor
