/- What a person loses in a cell; a body's test; the last tick of a strength: the program's helpers of Alive. -/
import Derived.Test.YtnbeembnnjdmdaaGreatDoorD11
import Derived.Test.YtnbeembnnjdmdaaGreatDoorLaL
namespace Go.Proofs.YtnbeembnnjdmdaaGreatDoor
open Go.RowKit

namespace M
def spanOk (hi : Int) (s : Nat → Int) : Bool := decide (0 ≤ s 0) && decide (s 0 ≤ s 1) && decide (s 1 ≤ hi)
/-- a body's test -/
def bodB (cn bn : Nat) (cs : Nat → Nat → Int) (s0 s1 : Int) : Bool := decide (bn = cn) && allTo bn (fun i => spanOk 100 (cs i)) && spanOk 100000 (fun j => if j = 0 then s0 else s1)
/-- what is lost in a cell -/
def costF (z : Nat → Int) (cs : Nat → Nat → Int) (c : Int) (j : Nat) : Int := if c < 0 then 0 else cs (z c.toNat).toNat j
end M
theorem dallspan_any (A : Option Addr) (n c B : Nat) (f : Nat → Nat → Int) (w : World) (hm : n ≤ maxLen) (hR : Rd w B A 2 n f) (hB : B ≤ w.heap.size) :
    Calls Tryz.prog 75 #[.slice A n c, .func (.func 76) #[.agg #[.int .i64 0, .int .i64 100]] #[]] w fun e w' => e = .returned (.bool (M.allTo n fun i => M.spanOk 100 (f i))) ∧ Below w.heap.size w w' := by
  unfold maxLen at hm
  have HR := Lib.hid hR
  clear hR
  go_enter Tryz.func75, Tryz.ntmps75
  go_wp2_with fail
  go_loopw [9] (fun i wr => ∃ k : Nat, k ≤ n ∧ i = .int .i64 k ∧ M.allTo k (fun i => M.spanOk 100 (f i)) = true ∧ Hid (Below w.heap.size w wr)) (fun i _ => n - (intOf i).toNat)
  case atStart => exact ⟨0, Nat.zero_le _, rfl, rfl, Lib.hid (Below.refl _ _)⟩
  case round =>
    obtain ⟨k, hk, rfl, hf, HB⟩ := hrel
    have HF := Lib.hid hf
    clear hf
    by_cases hlt : k < n
    · obtain ⟨b, off, rfl, hb, c0, c1⟩ := (HR.out.below (HB.out.mono hB)).at2 hlt
      obtain ⟨q, hq⟩ : ∃ q, M.spanOk 100 (f k) = q := ⟨_, rfl⟩
      have HV := Lib.hid (fun W => dhas_any 0 100 (f k 0) (f k 1) W)
      rw [show (decide (0 ≤ f k 0) && decide (f k 0 ≤ f k 1) && decide (f k 1 ≤ 100)) = q from hq] at HV
      have HQ := Lib.hid hq
      clear hq
      cases q
      · go_wp2_with (go_at_call 76; refine (HV.out _).mono ?_; rintro e w1 ⟨rfl, hb1⟩; have HB1 := Lib.hid hb1; clear hb1)
        go_ret
        refine ⟨ret_bool ?_, ?_⟩
        · cases ha : M.allTo n (fun i => M.spanOk 100 (f i))
          · rfl
          · have := M.allTo_iff.1 ha k hlt
            rw [HQ.out] at this; cases this
        · exact (HB.out.trans ((belowAlloc _ _).mono HB.out.size)).trans (HB1.out.mono (Nat.le_trans HB.out.size (by simp)))
      · go_wp2_with (go_at_call 76; refine (HV.out _).mono ?_; rintro e w1 ⟨rfl, hb1⟩; have HB1 := Lib.hid hb1; clear hb1)
        go_roundw
        case rel => exact ⟨k + 1, by omega, by go_num, by simp [M.allTo, HF.out, HQ.out], Lib.hid ((HB.out.trans ((belowAlloc _ _).mono HB.out.size)).trans (HB1.out.mono (Nat.le_trans HB.out.size (by simp))))⟩
        case measure => simp [intOf]; omega
    · obtain rfl : k = n := by omega
      go_wp2_with fail
      go_ret
      exact ⟨ret_bool HF.out.symm, HB.out⟩
set_option maxRecDepth 100000 in
set_option maxHeartbeats 3200000 in
theorem dlosses_any {P nd zc bn bc B B' : Nat} {zA bA : Option Addr} {z : Nat → Int} {cs : Nat → Nat → Int} {s0 s1 c : Int} {x1 x2 x3 x4 x5 : Value} (w : World) (h5 : w.cell? ⟨P, 5, none⟩ = some (.slice zA nd zc)) (hz : Rd1 w B zA nd z) (hB : B ≤ w.heap.size) (hb : Rd w B' bA 2 bn cs) (hB' : B' ≤ w.heap.size) (hP : P < w.heap.size) (hnd : nd ≤ 1000) (hbn : bn ≤ 100) (hc : -1 ≤ c ∧ c < nd) (hzb : ∀ k, k < nd → 0 ≤ z k ∧ z k < bn) :
    Calls Tryz.prog 77 #[.agg #[.pointer (some ⟨P, 0, none⟩), x1, x2, x3, x4, x5], .agg #[.slice bA bn bc, .int .i64 s0, .int .i64 s1], .int .i64 c] w fun e w' => e = .returned (.agg #[.int .i64 (M.costF z cs c 0), .int .i64 (M.costF z cs c 1)]) ∧ Below w.heap.size w w' := by
  have HB0 := Lib.hid (belowAlloc3 w (.cells #[.pointer (some ⟨P, 0, none⟩), x1, x2, x3, x4, x5] 105) (.cells #[.slice bA bn bc, .int .i64 s0, .int .i64 s1] 73) (.cells #[.int .i64 0, .int .i64 0] 42))
  have K0 := Lib.hid (((Blk.new w 105 #[.pointer (some ⟨P, 0, none⟩), x1, x2, x3, x4, x5]).alloc (.cells #[.slice bA bn bc, .int .i64 s0, .int .i64 s1] 73)).alloc (.cells #[.int .i64 0, .int .i64 0] 42))
  have Z0 := Lib.hid (Blk.new2 w (.cells #[.pointer (some ⟨P, 0, none⟩), x1, x2, x3, x4, x5] 105) (.cells #[.slice bA bn bc, .int .i64 s0, .int .i64 s1] 73) 42 #[.int .i64 0, .int .i64 0])
  have Y0 := Lib.hid ((Blk.new1 w (.cells #[.pointer (some ⟨P, 0, none⟩), x1, x2, x3, x4, x5] 105) 73 #[.slice bA bn bc, .int .i64 s0, .int .i64 s1]).alloc (.cells #[.int .i64 0, .int .i64 0] 42))
  have HZ := Lib.hid (hz.below (HB0.out.mono hB))
  have HBB := Lib.hid (hb.below (HB0.out.mono hB'))
  have p5 := (HB0.out.cell (p := ⟨P, 5, none⟩) hP).trans h5
  by_cases h0 : c < 0
  · obtain rfl : c = -1 := by omega
    clear hz hb h5 hB hB' HZ HBB p5
    go_enter Tryz.func77, Tryz.ntmps77
    go_upto_region 1 with fail
    generalize ((w.alloc (.cells #[.pointer (some ⟨P, 0, none⟩), x1, x2, x3, x4, x5] 105)).alloc (.cells #[.slice bA bn bc, .int .i64 s0, .int .i64 s1] 73)).alloc (.cells #[.int .i64 0, .int .i64 0] 42) = X at HB0 K0 Z0 Y0 ⊢
    simp only [Nat.add_assoc, Nat.reduceAdd] at Z0 ⊢
    have z0 := Z0.out.cell 0
    have z1 := Z0.out.cell 1
    have f0 := Z0.out.frz 0
    have f1 := Z0.out.frz 1
    have hl := Z0.out.lt
    go_wp2_with fail
    have Z1 := (Z0.out.set_ 0 (.int .i64 0)).set_ 1 (.int .i64 0)
    have hb1 := (HB0.out.setCell (p := ⟨w.heap.size + 2, 0, none⟩) (by show w.heap.size ≤ w.heap.size + 2; omega) (.int .i64 0)).setCell (p := ⟨w.heap.size + 2, 1, none⟩) (by show w.heap.size ≤ w.heap.size + 2; omega) (.int .i64 0)
    refine bodyPost_ret (results_cell_row rfl _ _ (w.heap.size + 2) 42 #[.int .i64 0, .int .i64 0] (0, 0) _ rfl Z1 Tryz.underlying42 rfl span_size) rfl ⟨rfl, hb1⟩
  · obtain ⟨k, rfl⟩ : ∃ k : Nat, c = (k : Int) := ⟨c.toNat, by omega⟩
    have hk : k < nd := by omega
    obtain ⟨gz, oz, rfl, hgz, c0⟩ := HZ.out.at_ hk
    have hzk := hzb k hk
    obtain ⟨q, hq⟩ : ∃ q : Nat, z k = (q : Int) := ⟨(z k).toNat, by omega⟩
    rw [hq] at c0
    have hqn : q < bn := by omega
    obtain ⟨gb, ob, rfl, hgb, d0, d1⟩ := HBB.out.at2 hqn
    have HCO := Lib.hid (show ∀ j, cs q j = M.costF z cs (k : Int) j from fun j => by unfold M.costF; rw [if_neg (by omega), Int.toNat_natCast, hq, Int.toNat_natCast])
    clear hz hb h5 hB hB' HZ HBB hq hzb hzk
    go_enter Tryz.func77, Tryz.ntmps77
    go_upto_region 1 with fail
    generalize ((w.alloc (.cells #[.pointer (some ⟨P, 0, none⟩), x1, x2, x3, x4, x5] 105)).alloc (.cells #[.slice (some ⟨gb, ob, none⟩) bn bc, .int .i64 s0, .int .i64 s1] 73)).alloc (.cells #[.int .i64 0, .int .i64 0] 42) = X at HB0 K0 Z0 Y0 p5 c0 d0 d1 ⊢
    simp only [Nat.add_assoc, Nat.reduceAdd] at Z0 ⊢
    have k0 := K0.out.cell 0
    have y0 := Y0.out.cell 0
    have z0 := Z0.out.cell 0
    have z1 := Z0.out.cell 1
    have f0 := Z0.out.frz 0
    have f1 := Z0.out.frz 1
    have hl := Z0.out.lt
    go_upto_region 3 with fail
    go_still_tail 13, (by kernel_rfl)
    change wpList _ _ _ _ _ X.drew
    go_wp2_with fail
    rw [← HCO.out 0, ← HCO.out 1]
    have Z1 := ((Z0.out.set_ 0 (.int .i64 (cs q 0))).set_ 1 (.int .i64 (cs q 1))).below' (Below.refl _ _).drew
    have hb1 := ((HB0.out.setCell (p := ⟨w.heap.size + 2, 0, none⟩) (by show w.heap.size ≤ w.heap.size + 2; omega) (.int .i64 (cs q 0))).setCell (p := ⟨w.heap.size + 2, 1, none⟩) (by show w.heap.size ≤ w.heap.size + 2; omega) (.int .i64 (cs q 1))).drew
    refine bodyPost_ret (results_cell_row rfl _ _ (w.heap.size + 2) 42 #[.int .i64 (cs q 0), .int .i64 (cs q 1)] (0, 0) _ rfl Z1 Tryz.underlying42 rfl span_size) rfl ⟨rfl, hb1⟩
/-- where a strength is reached: the first place of it, or -1 -/
def FstR (n : Nat) (p : Nat → Bool) (w : World) (e : Ending) (w' : World) : Prop := ∃ r : Int, e = .returned (.int .i64 r) ∧ (M.fstB p n < n → r = (M.fstB p n : Nat)) ∧ (M.fstB p n = n → r = -1) ∧ Below w.heap.size w w'
theorem alive11_any (x s : Int) (g : Nat) (w : World) (hg : Blk w g 3 #[.int .i64 s]) : Calls Tryz.prog 79 #[.int .i64 x, .pointer (some ⟨g, 0, none⟩)] w fun e w' => e = .returned (.bool (decide (s ≤ x))) ∧ w = w' := by
  have g0 := hg.cell 0
  go_enter Tryz.func79, Tryz.ntmps79
  go_wp2_with fail
  go_ret
  exact ⟨rfl, rfl⟩
set_option maxHeartbeats 1600000 in
/-- the first number that is at least a strength -/
theorem idx_str (A : Option Addr) (n c B : Nat) (f : Nat → Int) (g : Nat) (s : Int) (w : World) (hn : n ≤ maxLen) (hR : Rd1 w B A n f) (hB : B ≤ w.heap.size) (hg : Blk w g 3 #[.int .i64 s]) :
    Calls Tryz.prog 65 #[.slice A n c, .func (.func 79) #[] #[.pointer (some ⟨g, 0, none⟩)]] w (FstR n (fun i => decide (s ≤ f i)) w) := by
  unfold maxLen at hn
  have HR := Lib.hid hR
  have HG := Lib.hid hg
  clear hR hg
  go_enter Tryz.func65, Tryz.ntmps65
  go_wp2_with fail
  go_loopw [5, 8] (fun _ i wr => ∃ k : Nat, k ≤ n ∧ i = .int .i64 k ∧ Hid ((∀ i, i < k → s ≤ f i → False) ∧ Below w.heap.size w wr)) (fun _ i _ => n - (intOf i).toNat)
  case atStart => exact ⟨0, Nat.zero_le _, rfl, Lib.hid ⟨fun i hi => absurd hi (Nat.not_lt_zero _), Below.refl _ _⟩⟩
  case round =>
    obtain ⟨k, hk, rfl, HI⟩ := hrel
    by_cases hlt : k < n
    · obtain ⟨b, off, rfl, hb, c0⟩ := (HR.out.below (HI.out.2.mono hB)).at_ hlt
      have g0 := (HG.out.below' HI.out.2).cell 0
      by_cases hp : s ≤ f k
      · have HP := Lib.hid hp
        have hd : decide (s ≤ f k) = true := decide_eq_true hp
        clear hp
        have HC := Lib.hid (alive11_any (f k) s g wr (HG.out.below' HI.out.2))
        rw [hd] at HC
        go_wp2_with (go_at_call 79; refine HC.out.mono ?_; rintro e w1 ⟨rfl, rfl⟩)
        go_ret
        have hf := M.fstB_eq (p := fun i => decide (s ≤ f i)) (m := n) (Nat.le_of_lt hlt) (fun i hi => decide_eq_false (HI.out.1 i hi)) (fun _ => decide_eq_true HP.out)
        exact ⟨_, rfl, fun _ => by rw [hf], fun h => by rw [hf] at h; omega, HI.out.2⟩
      · have HP := Lib.hid hp
        have hd : decide (s ≤ f k) = false := decide_eq_false hp
        clear hp
        have HC := Lib.hid (alive11_any (f k) s g wr (HG.out.below' HI.out.2))
        rw [hd] at HC
        go_wp2_with (go_at_call 79; refine HC.out.mono ?_; rintro e w1 ⟨rfl, rfl⟩)
        go_roundw
        case rel => exact ⟨k + 1, by omega, by go_num, Lib.hid ⟨fun i hi h => by
          by_cases e : i = k
          · subst e; exact absurd h (Int.not_le.2 HP.out)
          · exact HI.out.1 i (by omega) h, HI.out.2⟩⟩
        case measure => simp [intOf]; omega
    · obtain rfl : k = n := by omega
      go_wp2_with fail
      go_ret
      have hf := M.fstB_eq (p := fun i => decide (s ≤ f i)) (m := k) (Nat.le_refl _) (fun i hi => decide_eq_false (HI.out.1 i hi)) (fun h => absurd h (Nat.lt_irrefl _))
      exact ⟨_, rfl, fun h => by rw [hf] at h; omega, fun _ => rfl, HI.out.2⟩
section
variable {A tA : Option Addr} {n c B b11 P nt tc ta : Nat} {f : Nat → Int} {s : Int} {x2 x3 x4 x5 : Value}
set_option maxRecDepth 100000 in
/-- the last tick before a strength is lost -/
theorem alive1_any (w : World) (hn : n ≤ maxLen) (hR : Rd1 w B A n f) (hB : B ≤ w.heap.size) (hc : Blk w b11 105 #[.pointer (some ⟨P, 0, none⟩), .int .i64 (ta : Int), x2, x3, x4, x5]) (h3 : w.cell? ⟨P, 3, none⟩ = some (.slice tA nt tc)) (hP : P < w.heap.size) (hnt : nt ≤ 60) (hta : ta + n = nt) :
    Calls Tryz.prog 78 #[.slice A n c, .int .i64 s, .pointer (some ⟨b11, 0, none⟩)] w fun e w' => e = .returned (.int .i64 ((ta : Int) + (M.fstB (fun i => decide (s ≤ f i)) n : Nat) - 1)) ∧ Below w.heap.size w w' := by
  have HB0 := Lib.hid (belowAlloc w (.cells #[.int .i64 s] 3))
  have S0 := Lib.hid (Blk.new w 3 #[.int .i64 s])
  have HI := Lib.hid (idx_str A n c B f w.heap.size s (w.alloc (.cells #[.int .i64 s] 3)) hn (hR.below (HB0.out.mono hB)) (Nat.le_trans hB HB0.out.size) S0.out)
  have HC := Lib.hid hc
  have H3 := Lib.hid (And.intro h3 hP)
  obtain ⟨fs, hfs⟩ : ∃ k, k = M.fstB (fun i => decide (s ≤ f i)) n := ⟨_, rfl⟩
  have HFL := Lib.hid (show fs ≤ n from by rw [hfs]; exact (M.fstB_spec n).1)
  unfold FstR at HI
  rw [← hfs] at HI ⊢
  have HTA := Lib.hid hta
  clear hR hc h3 hP hfs hta
  go_enter Tryz.func78, Tryz.ntmps78
  go_upto_region 2 with (go_at_call 65; go_must (refine HI.out.mono ?_); rintro e w1 ⟨r, rfl, hr1, hr2, hb⟩; have HB1 := Lib.hid (HB0.out.trans (hb.mono HB0.out.size)); have HR1 := Lib.hid hr1; have HR2 := Lib.hid hr2; clear hb hr1 hr2)
  have C1 := Lib.hid (HC.out.below' HB1.out)
  by_cases hlt : fs < n
  · obtain rfl := HR1.out hlt
    have c1 := C1.out.cell 1
    have hfn : fs ≤ 60 := by have := HTA.out; omega
    have htn : ta ≤ 60 := by have := HTA.out; omega
    clear HR1 HR2
    go_wp2_with fail
    go_ret
    exact ⟨rfl, HB1.out⟩
  · have hfe : fs = n := by have := HFL.out; omega
    obtain rfl := HR2.out hfe
    have c0 := C1.out.cell 0
    have p3 := (HB1.out.cell (p := ⟨P, 3, none⟩) H3.out.2).trans H3.out.1
    have HL := Lib.hid (dlast_any P nt tc tA w1 p3 (by unfold maxLen; omega))
    have HE := Lib.hid (show (nt : Int) - 1 = (ta : Int) + (fs : Nat) - 1 from by have := HTA.out; omega)
    clear hfe hlt
    rw [HE.out] at HL
    clear HR1 HR2 p3
    go_wp2_with (go_at_call 46; go_must (refine HL.out.mono ?_); rintro e w2 ⟨rfl, hw⟩; cases hw)
    go_ret
    exact ⟨rfl, HB1.out⟩
end
end Go.Proofs.YtnbeembnnjdmdaaGreatDoor
