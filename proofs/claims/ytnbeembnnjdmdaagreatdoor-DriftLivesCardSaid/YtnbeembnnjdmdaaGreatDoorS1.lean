/- What a person loses in a cell; a body's test; the last tick of a strength: the program's helpers of Alive. -/
import Derived.Test.YtnbeembnnjdmdaaGreatDoorD11
import Derived.Test.YtnbeembnnjdmdaaGreatDoorLaL
import Derived.Test.YtnbeembnnjdmdaaGreatDoorD0
import Derived.Sort.MapsRangeIn
namespace Go.Proofs.YtnbeembnnjdmdaaGreatDoor
open Go.RowKit

namespace M
def spanOk (hi : Int) (s : Nat → Int) : Bool := decide (0 ≤ s 0) && decide (s 0 ≤ s 1) && decide (s 1 ≤ hi)
def bodB (cn bn : Nat) (cs : Nat → Nat → Int) (s0 s1 : Int) : Bool := decide (bn = cn) && allTo bn (fun i => spanOk 100 (cs i)) && spanOk 100000 (fun j => if j = 0 then s0 else s1)
def costF (z : Nat → Int) (cs : Nat → Nat → Int) (c : Int) (j : Nat) : Int := if c < 0 then 0 else cs (z c.toNat).toNat j
def costN (nd : Nat) (z : Nat → Int) (cs : Nat → Nat → Int) (c : Int) (j : Nat) : Int := if c < 0 ∨ (nd : Int) ≤ c then 0 else cs (z c.toNat).toNat j
theorem costN_in {nd : Nat} {z : Nat → Int} {cs : Nat → Nat → Int} {c : Int} {j : Nat} (h : c < nd) : costF z cs c j = costN nd z cs c j := by
 unfold costF costN
 by_cases h0 : c < 0
 · rw [if_pos h0, if_pos (.inl h0)]
 · rw [if_neg h0, if_neg (by omega)]
end M
theorem dallspan_any (A : Option Addr) (n c B : Nat) (f : Nat → Nat → Int) (w : World) (hm : n ≤ maxLen) (hR : Rd w B A 2 n f) (hB : B ≤ w.heap.size) :
  Calls Tryz.prog 75 #[.slice A n c, .func (.func 76) #[.agg #[.int .i64 0, .int .i64 100]] #[]] w fun e w' => e = .returned (.bool (M.allTo n fun i => M.spanOk 100 (f i))) ∧ Below w.heap.size w w' := by
 unfold maxLen at hm
 have HR := Lib.hid hR
 clear hR
 go_enter Tryz.func75, Tryz.ntmps75
 go_wp2_with fail
 go_loopw [9] (fun i wr => ∃ k : Nat, k ≤ n ∧ i = .int .i64 k ∧ M.allTo k (fun i => M.spanOk 100 (f i)) = true ∧ Hid (Below w.heap.size w wr)) (fun i _ => n - (intOf i).toNat)
 case atStart => exact ⟨0, Nat.zero_le _, rfl, rfl, Lib.hid (Below.refl _ _)⟩
 case round =>
  obtain ⟨k, hk, rfl, hf, HB⟩ := hrel
  have HF := Lib.hid hf
  clear hf
  by_cases hlt : k < n
  ·
   obtain ⟨b, off, rfl, hb, c0, c1⟩ := (HR.out.below (HB.out.mono hB)).at2 hlt
   obtain ⟨q, hq⟩ : ∃ q, M.spanOk 100 (f k) = q := ⟨_, rfl⟩
   have HV := Lib.hid (fun W => dhas_any 0 100 (f k 0) (f k 1) W)
   rw [show (decide (0 ≤ f k 0) && decide (f k 0 ≤ f k 1) && decide (f k 1 ≤ 100)) = q from hq] at HV
   have HQ := Lib.hid hq
   clear hq
   cases q
   ·
    go_wp2_with (go_at_call 76; refine (HV.out _).mono ?_; rintro e w1 ⟨rfl, hb1⟩; have HB1 := Lib.hid hb1; clear hb1)
    go_ret
    refine ⟨ret_bool ?_, ?_⟩
    ·
     cases ha : M.allTo n (fun i => M.spanOk 100 (f i))
     · rfl
     ·
      have := M.allTo_iff.1 ha k hlt
      rw [HQ.out] at this; cases this
    · exact (HB.out.trans ((belowAlloc _ _).mono HB.out.size)).trans (HB1.out.mono (Nat.le_trans HB.out.size (by simp)))
   ·
    go_wp2_with (go_at_call 76; refine (HV.out _).mono ?_; rintro e w1 ⟨rfl, hb1⟩; have HB1 := Lib.hid hb1; clear hb1)
    go_roundw
    case rel => exact ⟨k + 1, by omega, by go_num, by simp [M.allTo, HF.out, HQ.out], Lib.hid ((HB.out.trans ((belowAlloc _ _).mono HB.out.size)).trans (HB1.out.mono (Nat.le_trans HB.out.size (by simp))))⟩
    case measure => simp [intOf]; omega
  ·
   obtain rfl : k = n := by omega
   go_wp2_with fail
   go_ret
   exact ⟨ret_bool HF.out.symm, HB.out⟩
set_option maxRecDepth 100000 in
set_option maxHeartbeats 3200000 in
theorem dlosses_any {P nd zc bn bc B B' : Nat} {zA bA : Option Addr} {z : Nat → Int} {cs : Nat → Nat → Int} {s0 s1 c : Int} {x1 x2 x3 x4 x5 : Value} (w : World) (h5 : w.cell? ⟨P, 5, none⟩ = some (.slice zA nd zc)) (hz : Rd1 w B zA nd z) (hB : B ≤ w.heap.size) (hb : Rd w B' bA 2 bn cs) (hB' : B' ≤ w.heap.size) (hP : P < w.heap.size) (hnd : nd ≤ 1000) (hbn : bn ≤ 100) (hc : -1 ≤ c ∧ c < nd) (hzb : ∀ k, k < nd → 0 ≤ z k ∧ z k < bn) :
  Calls Tryz.prog 77 #[.agg #[.pointer (some ⟨P, 0, none⟩), x1, x2, x3, x4, x5], .agg #[.slice bA bn bc, .int .i64 s0, .int .i64 s1], .int .i64 c] w fun e w' => e = .returned (.agg #[.int .i64 (M.costF z cs c 0), .int .i64 (M.costF z cs c 1)]) ∧ Below w.heap.size w w' := by
 have HB0 := Lib.hid (belowAlloc3 w (.cells #[.pointer (some ⟨P, 0, none⟩), x1, x2, x3, x4, x5] 105) (.cells #[.slice bA bn bc, .int .i64 s0, .int .i64 s1] 73) (.cells #[.int .i64 0, .int .i64 0] 42))
 have K0 := Lib.hid (((Blk.new w 105 #[.pointer (some ⟨P, 0, none⟩), x1, x2, x3, x4, x5]).alloc (.cells #[.slice bA bn bc, .int .i64 s0, .int .i64 s1] 73)).alloc (.cells #[.int .i64 0, .int .i64 0] 42))
 have Z0 := Lib.hid (Blk.new2 w (.cells #[.pointer (some ⟨P, 0, none⟩), x1, x2, x3, x4, x5] 105) (.cells #[.slice bA bn bc, .int .i64 s0, .int .i64 s1] 73) 42 #[.int .i64 0, .int .i64 0])
 have Y0 := Lib.hid ((Blk.new1 w (.cells #[.pointer (some ⟨P, 0, none⟩), x1, x2, x3, x4, x5] 105) 73 #[.slice bA bn bc, .int .i64 s0, .int .i64 s1]).alloc (.cells #[.int .i64 0, .int .i64 0] 42))
 have HZ := Lib.hid (hz.below (HB0.out.mono hB))
 have HBB := Lib.hid (hb.below (HB0.out.mono hB'))
 have p5 := (HB0.out.cell (p := ⟨P, 5, none⟩) hP).trans h5
 by_cases h0 : c < 0
 ·
  obtain rfl : c = -1 := by omega
  clear hz hb h5 hB hB' HZ HBB p5
  go_enter Tryz.func77, Tryz.ntmps77
  go_upto_region 1 with fail
  generalize ((w.alloc (.cells #[.pointer (some ⟨P, 0, none⟩), x1, x2, x3, x4, x5] 105)).alloc (.cells #[.slice bA bn bc, .int .i64 s0, .int .i64 s1] 73)).alloc (.cells #[.int .i64 0, .int .i64 0] 42) = X at HB0 K0 Z0 Y0 ⊢
  simp only [Nat.add_assoc, Nat.reduceAdd] at Z0 ⊢
  obtain ⟨z0, z1⟩ := Z0.out.c2
  have f0 := Z0.out.frz 0
  have f1 := Z0.out.frz 1
  have hl := Z0.out.lt
  go_wp2_with fail
  have Z1 := (Z0.out.set_ 0 (.int .i64 0)).set_ 1 (.int .i64 0)
  have hb1 := (HB0.out.setCell (p := ⟨w.heap.size + 2, 0, none⟩) (by show w.heap.size ≤ w.heap.size + 2; omega) (.int .i64 0)).setCell (p := ⟨w.heap.size + 2, 1, none⟩) (by show w.heap.size ≤ w.heap.size + 2; omega) (.int .i64 0)
  refine bodyPost_ret (results_cell_row rfl _ _ (w.heap.size + 2) 42 #[.int .i64 0, .int .i64 0] (0, 0) _ rfl Z1 Tryz.underlying42 rfl span_size) rfl ⟨rfl, hb1⟩
 ·
  obtain ⟨k, rfl⟩ : ∃ k : Nat, c = (k : Int) := ⟨c.toNat, by omega⟩
  have hk : k < nd := by omega
  obtain ⟨gz, oz, rfl, hgz, c0⟩ := HZ.out.at_ hk
  have hzk := hzb k hk
  obtain ⟨q, hq⟩ : ∃ q : Nat, z k = (q : Int) := ⟨(z k).toNat, by omega⟩
  rw [hq] at c0
  have hqn : q < bn := by omega
  obtain ⟨gb, ob, rfl, hgb, d0, d1⟩ := HBB.out.at2 hqn
  have HCO := Lib.hid (show ∀ j, cs q j = M.costF z cs (k : Int) j from fun j => by unfold M.costF; rw [if_neg (by omega), Int.toNat_natCast, hq, Int.toNat_natCast])
  clear hz hb h5 hB hB' HZ HBB hq hzb hzk
  go_enter Tryz.func77, Tryz.ntmps77
  go_upto_region 1 with fail
  generalize ((w.alloc (.cells #[.pointer (some ⟨P, 0, none⟩), x1, x2, x3, x4, x5] 105)).alloc (.cells #[.slice (some ⟨gb, ob, none⟩) bn bc, .int .i64 s0, .int .i64 s1] 73)).alloc (.cells #[.int .i64 0, .int .i64 0] 42) = X at HB0 K0 Z0 Y0 p5 c0 d0 d1 ⊢
  simp only [Nat.add_assoc, Nat.reduceAdd] at Z0 ⊢
  have k0 := K0.out.cell 0
  have y0 := Y0.out.cell 0
  obtain ⟨z0, z1⟩ := Z0.out.c2
  have f0 := Z0.out.frz 0
  have f1 := Z0.out.frz 1
  have hl := Z0.out.lt
  go_upto_region 3 with fail
  go_still_tail 13, (by kernel_rfl)
  change wpList _ _ _ _ _ X.drew
  go_wp2_with fail
  rw [← HCO.out 0, ← HCO.out 1]
  have Z1 := ((Z0.out.set_ 0 (.int .i64 (cs q 0))).set_ 1 (.int .i64 (cs q 1))).below' (Below.refl _ _).drew
  have hb1 := ((HB0.out.setCell (p := ⟨w.heap.size + 2, 0, none⟩) (by show w.heap.size ≤ w.heap.size + 2; omega) (.int .i64 (cs q 0))).setCell (p := ⟨w.heap.size + 2, 1, none⟩) (by show w.heap.size ≤ w.heap.size + 2; omega) (.int .i64 (cs q 1))).drew
  refine bodyPost_ret (results_cell_row rfl _ _ (w.heap.size + 2) 42 #[.int .i64 (cs q 0), .int .i64 (cs q 1)] (0, 0) _ rfl Z1 Tryz.underlying42 rfl span_size) rfl ⟨rfl, hb1⟩
def FstR (n : Nat) (p : Nat → Bool) (w : World) (e : Ending) (w' : World) : Prop := ∃ r : Int, e = .returned (.int .i64 r) ∧ (M.fstB p n < n → r = (M.fstB p n : Nat)) ∧ (M.fstB p n = n → r = -1) ∧ Below w.heap.size w w'
theorem alive11_any (x s : Int) (g : Nat) (w : World) (hg : Blk w g 3 #[.int .i64 s]) : Calls Tryz.prog 79 #[.int .i64 x, .pointer (some ⟨g, 0, none⟩)] w fun e w' => e = .returned (.bool (decide (s ≤ x))) ∧ w = w' := by
 have g0 := hg.cell 0
 go_enter Tryz.func79, Tryz.ntmps79
 go_wp2_with fail
 go_ret
 exact ⟨rfl, rfl⟩
set_option maxHeartbeats 1600000 in
theorem idx_str (A : Option Addr) (n c B : Nat) (f : Nat → Int) (g : Nat) (s : Int) (w : World) (hn : n ≤ maxLen) (hR : Rd1 w B A n f) (hB : B ≤ w.heap.size) (hg : Blk w g 3 #[.int .i64 s]) :
  Calls Tryz.prog 65 #[.slice A n c, .func (.func 79) #[] #[.pointer (some ⟨g, 0, none⟩)]] w (FstR n (fun i => decide (s ≤ f i)) w) := by
 unfold maxLen at hn
 have HR := Lib.hid hR
 have HG := Lib.hid hg
 clear hR hg
 go_enter Tryz.func65, Tryz.ntmps65
 go_wp2_with fail
 go_loopw [5, 8] (fun _ i wr => ∃ k : Nat, k ≤ n ∧ i = .int .i64 k ∧ Hid ((∀ i, i < k → s ≤ f i → False) ∧ Below w.heap.size w wr)) (fun _ i _ => n - (intOf i).toNat)
 case atStart => exact ⟨0, Nat.zero_le _, rfl, Lib.hid ⟨fun i hi => absurd hi (Nat.not_lt_zero _), Below.refl _ _⟩⟩
 case round =>
  obtain ⟨k, hk, rfl, HI⟩ := hrel
  by_cases hlt : k < n
  ·
   obtain ⟨b, off, rfl, hb, c0⟩ := (HR.out.below (HI.out.2.mono hB)).at_ hlt
   have g0 := (HG.out.below' HI.out.2).cell 0
   by_cases hp : s ≤ f k
   ·
    have HP := Lib.hid hp
    have hd : decide (s ≤ f k) = true := decide_eq_true hp
    clear hp
    have HC := Lib.hid (alive11_any (f k) s g wr (HG.out.below' HI.out.2))
    rw [hd] at HC
    go_wp2_with (go_at_call 79; refine HC.out.mono ?_; rintro e w1 ⟨rfl, rfl⟩)
    go_ret
    have hf := M.fstB_eq (p := fun i => decide (s ≤ f i)) (m := n) (Nat.le_of_lt hlt) (fun i hi => decide_eq_false (HI.out.1 i hi)) (fun _ => decide_eq_true HP.out)
    exact ⟨_, rfl, fun _ => by rw [hf], fun h => by rw [hf] at h; omega, HI.out.2⟩
   ·
    have HP := Lib.hid hp
    have hd : decide (s ≤ f k) = false := decide_eq_false hp
    clear hp
    have HC := Lib.hid (alive11_any (f k) s g wr (HG.out.below' HI.out.2))
    rw [hd] at HC
    go_wp2_with (go_at_call 79; refine HC.out.mono ?_; rintro e w1 ⟨rfl, rfl⟩)
    go_roundw
    case rel => exact ⟨k + 1, by omega, by go_num, Lib.hid ⟨fun i hi h => by
     by_cases e : i = k
     · subst e; exact absurd h (Int.not_le.2 HP.out)
     · exact HI.out.1 i (by omega) h, HI.out.2⟩⟩
    case measure => simp [intOf]; omega
  ·
   obtain rfl : k = n := by omega
   go_wp2_with fail
   go_ret
   have hf := M.fstB_eq (p := fun i => decide (s ≤ f i)) (m := k) (Nat.le_refl _) (fun i hi => decide_eq_false (HI.out.1 i hi)) (fun h => absurd h (Nat.lt_irrefl _))
   exact ⟨_, rfl, fun h => by rw [hf] at h; omega, fun _ => rfl, HI.out.2⟩
section
variable {A tA : Option Addr} {n c B b11 P nt tc ta : Nat} {f : Nat → Int} {s : Int} {x2 x3 x4 x5 : Value}
set_option maxRecDepth 100000 in
theorem alive1_any (w : World) (hn : n ≤ maxLen) (hR : Rd1 w B A n f) (hB : B ≤ w.heap.size) (hc : Blk w b11 105 #[.pointer (some ⟨P, 0, none⟩), .int .i64 (ta : Int), x2, x3, x4, x5]) (h3 : w.cell? ⟨P, 3, none⟩ = some (.slice tA nt tc)) (hP : P < w.heap.size) (hnt : nt ≤ 60) (hta : ta + n = nt) :
  Calls Tryz.prog 78 #[.slice A n c, .int .i64 s, .pointer (some ⟨b11, 0, none⟩)] w fun e w' => e = .returned (.int .i64 ((ta : Int) + (M.fstB (fun i => decide (s ≤ f i)) n : Nat) - 1)) ∧ Below w.heap.size w w' := by
 have HB0 := Lib.hid (belowAlloc w (.cells #[.int .i64 s] 3))
 have S0 := Lib.hid (Blk.new w 3 #[.int .i64 s])
 have HI := Lib.hid (idx_str A n c B f w.heap.size s (w.alloc (.cells #[.int .i64 s] 3)) hn (hR.below (HB0.out.mono hB)) (Nat.le_trans hB HB0.out.size) S0.out)
 have HC := Lib.hid hc
 have H3 := Lib.hid (And.intro h3 hP)
 obtain ⟨fs, hfs⟩ : ∃ k, k = M.fstB (fun i => decide (s ≤ f i)) n := ⟨_, rfl⟩
 have HFL := Lib.hid (show fs ≤ n from by rw [hfs]; exact (M.fstB_spec n).1)
 unfold FstR at HI
 rw [← hfs] at HI ⊢
 have HTA := Lib.hid hta
 clear hR hc h3 hP hfs hta
 go_enter Tryz.func78, Tryz.ntmps78
 go_upto_region 2 with (go_at_call 65; go_must (refine HI.out.mono ?_); rintro e w1 ⟨r, rfl, hr1, hr2, hb⟩; have HB1 := Lib.hid (HB0.out.trans (hb.mono HB0.out.size)); have HR1 := Lib.hid hr1; have HR2 := Lib.hid hr2; clear hb hr1 hr2)
 have C1 := Lib.hid (HC.out.below' HB1.out)
 by_cases hlt : fs < n
 ·
  obtain rfl := HR1.out hlt
  have c1 := C1.out.cell 1
  have hfn : fs ≤ 60 := by have := HTA.out; omega
  have htn : ta ≤ 60 := by have := HTA.out; omega
  clear HR1 HR2
  go_wp2_with fail
  go_ret
  exact ⟨rfl, HB1.out⟩
 ·
  have hfe : fs = n := by have := HFL.out; omega
  obtain rfl := HR2.out hfe
  have c0 := C1.out.cell 0
  have p3 := (HB1.out.cell (p := ⟨P, 3, none⟩) H3.out.2).trans H3.out.1
  have HL := Lib.hid (dlast_any P nt tc tA w1 p3 (by unfold maxLen; omega))
  have HE := Lib.hid (show (nt : Int) - 1 = (ta : Int) + (fs : Nat) - 1 from by have := HTA.out; omega)
  clear hfe hlt
  rw [HE.out] at HL
  clear HR1 HR2 p3
  go_wp2_with (go_at_call 46; go_must (refine HL.out.mono ?_); rintro e w2 ⟨rfl, hw⟩; cases hw)
  go_ret
  exact ⟨rfl, HB1.out⟩
end
end Go.Proofs.YtnbeembnnjdmdaaGreatDoor
/- A map from cells to spans, as memory; a range over it. -/
namespace Go.Proofs.YtnbeembnnjdmdaaGreatDoor
open Go.RowKit Go.Maps

def encP (y : Int × Int) : DataW Unit := .agg [.lit (.int .i64 y.1), .lit (.int .i64 y.2)]
def spanR (x : Value) : Option (DataW Unit × List MemPlace) :=
 match x with
 | .agg cs => match cs.toList with
  | [.int .i64 a, .int .i64 b] => some (.agg [.lit (.int .i64 a), .lit (.int .i64 b)], [])
  | _ => none
 | _ => none
def spV (y : Int × Int) : Value := .agg #[.int .i64 y.1, .int .i64 y.2]
theorem spanR_mk (y : Int × Int) : spanR (spV y) = some (encP y, []) := rfl
theorem spanR_inv {x : Value} {y : DataW Unit × List MemPlace} (h : spanR x = some y) : ∃ p, x = spV p ∧ y = (encP p, []) := by
 unfold spanR at h
 split at h
 ·
  rename_i cs
  split at h
  ·
   rename_i a b e
   refine ⟨(a, b), ?_, (Option.some.inj h).symm⟩
   have e2 : cs = #[.int .i64 a, .int .i64 b] := Array.ext' e
   rw [e2]; rfl
  · cases h
 · cases h
theorem encP_inj {p q : Int × Int} (h : encP p = encP q) : p = q := by
 unfold encP at h
 simp only [DataW.agg.injEq, List.cons.injEq, DataW.lit.injEq, Lit.int.injEq, true_and, and_true] at h
 exact Prod.ext h.1 h.2
theorem int_law : Keyed Tryz.prog 3 := int_keyed Tryz.underlying3
theorem spanZ (w : World) : (zeroValue 42).run Tryz.prog w = .ok (spV (0, 0)) w := by kernel_rfl
def small (c : Int) : Prop := -1 ≤ c ∧ c < 1000
theorem small_wf {c : Int} (h : small c) : (Lit.int .i64 c).wf = true := WalkArith.wf_i64 (by unfold small at h; omega)
theorem key_int {c : Int} (h : small c) : keyOf Tryz.prog 3 (.int .i64 c) = some (.int .i64 c) := keyOf_int_mk Tryz.underlying3 (small_wf h)
structure SpD (D : DataW Unit) (v : Int → Option (Int × Int)) : Prop where
 at_ : ∀ c, small c → Maps.has D (.int .i64 c) = (v c).isSome ∧ ∀ y, v c = some y → ∀ zd, D.atKey (.int .i64 c) zd = encP y
 sm : ∀ c y, v c = some y → small c
 key : ∀ kl, Maps.has D kl = true → ∃ c, small c ∧ kl = .int .i64 c
def SpM (W : World) (b n : Nat) (v : Int → Option (Int × Int)) : Prop := ∃ D, W.ownsMap Tryz.prog 3 spanR b n D ∧ SpD D v
section
variable {W W' : World} {b n : Nat} {v v' : Int → Option (Int × Int)}
theorem SpM.congr (h : SpM W b n v) (hv : ∀ c, v c = v' c) : SpM W b n v' := by rw [← show v = v' from funext hv]; exact h
theorem SpM.made (W : World) : SpM (W.alloc (.map #[] 0)) W.heap.size 0 (fun _ => none) := ⟨.map [], World.ownsMap_made W Tryz.prog 3 spanR, ⟨fun c _ => ⟨rfl, fun y h => (by cases h)⟩, fun c y h => (by cases h), fun kl h => (by cases h)⟩⟩
theorem SpM.kept {row : Option Nat} (h : SpM W b n v) (hg : W.grownBy W' row) (hne : some b ≠ row) : SpM W' b n v := by
 obtain ⟨D, h1, h2⟩ := h
 exact ⟨D, h1.kept hg hne, h2⟩
theorem SpM.same (h : SpM W b n v) (he : W'.heap[b]? = W.heap[b]?) : SpM W' b n v := by
 obtain ⟨D, ⟨es, clock, h1, h2⟩, h3⟩ := h
 exact ⟨D, ⟨es, clock, he.trans h1, h2⟩, h3⟩
theorem SpM.lt (h : SpM W b n v) : b < W.heap.size := by
 obtain ⟨D, h1, _⟩ := h
 exact h1.lt
theorem SpM.map (h : SpM W b n v) : ∃ es clock, W.heap[b]? = some (.map es clock) := by
 obtain ⟨D, ⟨es, clock, hb, _⟩, _⟩ := h
 exact ⟨es, clock, hb⟩
theorem SpM.look (h : SpM W b n v) {c : Int} (hc : small c) : (Instr.lookup 134 (.map (some b)) (.int .i64 c) true).run Tryz.prog W = .ok (.tuple #[spV ((v c).getD (0, 0)), .bool (v c).isSome]) W := by
 obtain ⟨D, h1, h2⟩ := h
 obtain ⟨x, ps, hrun, hx⟩ := h1.look_ok int_law Tryz.underlying134 (spanZ W) (spanR_mk (0, 0)) (key_int hc)
 obtain ⟨h4, h5⟩ := h2.at_ c hc
 rw [h4] at hrun
 obtain ⟨p, rfl, e⟩ := spanR_inv hx
 have e1 := congrArg Prod.fst e
 simp only at e1
 rw [hrun]
 cases hv : v c with
 | some y =>
  rw [h5 y hv] at e1
  rw [← encP_inj e1]; rfl
 | none =>
  rw [hv] at h4
  rw [Maps.atKey_of_not_has h4] at e1
  rw [← encP_inj e1]; rfl
theorem SpM.store (h : SpM W b n v) (hn : n < maxLen) {c : Int} (hc : small c) (y : Int × Int) :
  ∃ W', (Instr.mapUpdate 134 (.map (some b)) (.int .i64 c) (spV y)).run Tryz.prog W = .ok () W' ∧ SpM W' b (n + 1) (fun x => if x = c then some y else v x) ∧ W.grownBy W' (some b) := by
 obtain ⟨D, h1, h2⟩ := h
 obtain ⟨W', hrun, h4, h5⟩ := h1.update int_law Tryz.underlying134 hn (key_int hc) (spanR_mk y)
 refine ⟨W', hrun, ⟨_, h4, fun x hx => ?_, fun x y' hy' => ?_, fun kl hk => ?_⟩, h5⟩
 rotate_left
 ·
  by_cases e : x = c
  · rw [e]; exact hc
  · simp only [if_neg e] at hy'; exact h2.sm x y' hy'
 ·
  by_cases e : kl = .int .i64 c
  · exact ⟨c, hc, e⟩
  · rw [Maps.has_put_other e] at hk; exact h2.key kl hk
 by_cases e : x = c
 ·
  subst e
  simp only [if_true, Option.isSome_some]
  refine ⟨Maps.has_put_same h1.isMap (int_law.key (key_int hc)) _, fun y' hy' zd => ?_⟩
  cases hy'
  exact Maps.atKey_put_same h1.isMap (int_law.key (key_int hc)) _ zd
 ·
  simp only [if_neg e]
  have hne : (Lit.int .i64 x) ≠ Lit.int .i64 c := fun e2 => e (by injection e2)
  obtain ⟨h6, h7⟩ := h2.at_ x hx
  refine ⟨by rw [Maps.has_put_other hne]; exact h6, fun y' hy' zd => ?_⟩
  rw [Maps.atKey_put_other hne]; exact h7 y' hy' zd
end
theorem left_has {P : Program} {k : TypeId} {R : Value → Option (DataW Unit × List MemPlace)} {w : World} {b r n : Nat} {D : DataW Unit} {left : Lit → Bool} {cnt : Nat} (h : w.ranges P k R b r n D left cnt) (K : Keyed P k) {kl : Lit} (hl : left kl = true) : Maps.has D kl = true := by
 obtain ⟨es, clock, since, seen, c0, _, F, _, hD, _, _, _, _, h2, _⟩ := h
 obtain ⟨x, hx, rfl⟩ := h2 kl hl
 obtain ⟨y, hy⟩ := F.reads x hx
 rw [hD]
 exact List.any_eq_true.2 ⟨WideElems.rg P k R x, mem_sorted.2 (List.mem_map.2 ⟨x, hx, rfl⟩), WideAt.sameKey_self (by rw [WideElems.rg_of hy]; exact K.key (WideElems.rd_key hy))⟩
def RgM (W : World) (b r n : Nat) (v : Int → Option (Int × Int)) (vis : List Int) : Prop :=
 ∃ D left cnt, W.ranges Tryz.prog 3 spanR b r n D left cnt ∧ SpD D v ∧ (∀ c, small c → (left (.int .i64 c) = true ↔ (v c).isSome = true ∧ c ∉ vis)) ∧ ∀ c, c ∈ vis → (v c).isSome = true
section
variable {W W' : World} {b r n : Nat} {v : Int → Option (Int × Int)} {vis : List Int}
theorem RgM.owns (h : RgM W b r n v vis) : SpM W b n v := by
 obtain ⟨D, left, cnt, h1, h2, _⟩ := h
 exact ⟨D, h1.owns, h2⟩
theorem RgM.lt (h : RgM W b r n v vis) : r < W.heap.size := by
 obtain ⟨D, left, cnt, h1, _⟩ := h
 exact h1.lt
theorem RgM.iter (h : RgM W b r n v vis) : ∃ m s q c, W.heap[r]? = some (.mapIter m s q c) := by
 obtain ⟨D, left, cnt, ⟨es, clock, since, seen, c0, _, _, _, _, hr, _⟩, _⟩ := h
 exact ⟨_, _, _, _, hr⟩
theorem RgM.same (h : RgM W b r n v vis) (he : W'.heap[b]? = W.heap[b]?) (hr : W'.heap[r]? = W.heap[r]?) : RgM W' b r n v vis := by
 obtain ⟨D, left, cnt, ⟨es, clock, since, seen, c0, h1, h2, h3, h4, h5, h6⟩, h7⟩ := h
 exact ⟨D, left, cnt, ⟨es, clock, since, seen, c0, he.trans h1, h2, h3, h4, hr.trans h5, h6⟩, h7⟩
theorem RgM.left_same (he : W'.heap[b]? = W.heap[b]?) (hr : W'.heap[r]? = W.heap[r]?) : W'.rangeLeft b r = W.rangeLeft b r := by
 unfold World.rangeLeft
 rw [he, hr]
end
section
variable {F : Fence} {n : Nat} (w : World) {ops : Array Oper} {rest : List Oper} {o : Oper} {a : Act} {Q : Exit → Act → World → Prop}
theorem wpListIn_range_sp (hg : o.guard = none) (m : Operand) (hop : o.op = Op.range 134 m) (b nn : Nat) (v : Int → Option (Int × Int)) (hm : a.eval m = .map (some b)) (hown : SpM w b nn v)
  (hK : ∀ w', RgM w' b w.heap.size nn v [] → w.grownBy w' none → w'.heap.size = w.heap.size + 1 → wpListIn F n Tryz.prog ops Q rest (a.put o.dst (.pointer (some ⟨w.heap.size, 0, none⟩))) w') :
  wpListIn F n Tryz.prog ops Q (o :: rest) a w := by
 obtain ⟨D, h1, h2⟩ := hown
 refine wpListIn_range_own w hg m 134 hop 3 42 int_law Tryz.underlying134 spanR b nn D hm h1 fun w' r1 r2 r3 => hK w' ⟨D, _, _, r1, h2, fun c hc => ?_, fun c hc => by cases hc⟩ r2 r3
 rw [(h2.at_ c hc).1]
 simp
theorem wpListIn_next_sp (hg : o.guard = none) (it : Operand) (hop : o.op = Op.next it false) (b r nn : Nat) (v : Int → Option (Int × Int)) (vis : List Int) (hit : a.eval it = .pointer (some ⟨r, 0, none⟩)) (h : RgM w b r nn v vis)
  (hDone : (∀ c, c ∈ vis ↔ (v c).isSome = true) → wpListIn F n Tryz.prog ops Q rest (a.put o.dst (.tuple #[.bool false])) w)
  (hMore : ∀ (c x y : Int) (w' : World), small c → c ∉ vis → v c = some (x, y) → RgM w' b r nn v (vis ++ [c]) → w'.rangeLeft b r < w.rangeLeft b r → w.grownBy w' (some r) → w'.heap.size = w.heap.size → (Instr.entry (.pointer (some ⟨r, 0, none⟩))).run Tryz.prog w' = .ok (.tuple #[.int .i64 c, .agg #[.int .i64 x, .int .i64 y]]) w' → wpListIn F n Tryz.prog ops Q rest (a.put o.dst (.tuple #[.bool true, .int .i64 c, .agg #[.int .i64 x, .int .i64 y]])) w') :
  wpListIn F n Tryz.prog ops Q (o :: rest) a w := by
 obtain ⟨D, left, cnt, h1, h2, h3, hv⟩ := h
 refine wpListIn_next_ranges w hg it hop 3 int_law spanR (fun c : Int => .int .i64 c) spV (fun key kl hk => ?_) (fun u y hu => ?_) b r nn D left cnt hit h1 (fun _ hl => ?_) (fun x c kl y w' cnt' hk hl hR hat hrg hlt hgr hsz hen => ?_)
 ·
  obtain ⟨x, rfl, _⟩ := Maps.keyOf_int_inv Tryz.underlying3 hk
  exact ⟨x, rfl⟩
 ·
  obtain ⟨p, rfl, _⟩ := spanR_inv hu
  exact ⟨p, rfl⟩
 ·
  refine hDone fun c => ⟨hv c, fun hs => ?_⟩
  obtain ⟨y, hy⟩ := Option.isSome_iff_exists.1 hs
  by_cases hm : c ∈ vis
  · exact hm
  ·
   have := (h3 c (h2.sm c y hy)).2 ⟨hs, hm⟩
   rw [hl] at this; cases this
 ·
  obtain ⟨c2, hc2, e⟩ := h2.key kl (left_has h1 int_law hl)
  obtain ⟨x', ex, ek, hw⟩ := Maps.keyOf_int_inv Tryz.underlying3 hk
  have ex' : x = x' := by injection ex
  subst ex'
  have e3 : x = c2 := by rw [ek] at e; injection e
  subst e3
  obtain ⟨hs, hm⟩ := (h3 x hc2).1 (by rw [← ek]; exact hl)
  obtain ⟨y0, hy0⟩ := Option.isSome_iff_exists.1 hs
  obtain ⟨p, ep, eq⟩ := spanR_inv hR
  have e5 : c = p := by
   unfold spV at ep
   simp only [Value.agg.injEq, Array.mk.injEq, List.cons.injEq, Value.int.injEq, true_and, and_true] at ep
   exact Prod.ext ep.1 ep.2
  have e4 : y0 = c := by
   have h5 := (h2.at_ x hc2).2 y0 hy0 .nil
   rw [← ek, hat .nil, eq] at h5
   rw [e5]
   exact (encP_inj h5).symm
  subst e4
  refine hMore x y0.1 y0.2 w' hc2 hm hy0 ⟨D, _, cnt', hrg, h2, fun c hc => ?_, fun c hc => ?_⟩ (by rw [hrg.left_eq, h1.left_eq]; exact hlt) hgr hsz hen
  rotate_left
  ·
   rcases List.mem_append.1 hc with hc | hc
   · exact hv c hc
   · rw [List.mem_singleton.1 hc, hy0]; rfl
  simp only [Bool.and_eq_true, Bool.not_eq_true', h3 c hc, List.mem_append, List.mem_singleton, not_or, ek]
  constructor
  ·
   rintro ⟨⟨g1, g2⟩, g3⟩
   refine ⟨g1, g2, fun e => ?_⟩
   subst e
   rw [WideAt.sameKey_self (by exact int_law.key (key_int hc))] at g3
   cases g3
  ·
   rintro ⟨g1, g2, g3⟩
   exact ⟨⟨g1, g2⟩, Maps.sameKey_ne fun e => g3 (by injection e)⟩
end
end Go.Proofs.YtnbeembnnjdmdaaGreatDoor
