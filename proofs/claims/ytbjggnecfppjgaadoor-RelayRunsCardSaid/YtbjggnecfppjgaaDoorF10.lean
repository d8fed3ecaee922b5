/- RelayRuns, walked. -/
import Derived.Test.YtbjggnecfppjgaaDoorF8
import Derived.Test.YtbjggnecfppjgaaDoorH8
namespace Go.Proofs.YtbjggnecfppjgaaDoor
open Go.RowKit

theorem neq_msg (a b c d : Int) (W : World) : (binOp .neq 72 (.agg #[.int .i64 a, .int .i64 b, .int .i64 c, .int .i64 d]) (.agg #[.int .i64 a, .int .i64 b, .int .i64 c, .int .i64 d])).run Tryd.prog W = .ok (.bool false) W := by
  rw [run_neq_struct, run_equalIn_struct W 9999 72 _ _ (by kernel_rfl) (by kernel_rfl)]
  simp [Program.fieldsOf, Tryd.underlying72, Op.eqFields, part, go_sem, Tryd.underlying3]
theorem neq_evt (a b c : Int) (W : World) : (binOp .neq 48 (.agg #[.int .i64 a, .int .i64 b, .int .i64 c]) (.agg #[.int .i64 a, .int .i64 b, .int .i64 c])).run Tryd.prog W = .ok (.bool false) W := by
  rw [run_neq_struct, run_equalIn_struct W 9999 48 _ _ (by kernel_rfl) (by kernel_rfl)]
  simp [Program.fieldsOf, Tryd.underlying48, Op.eqFields, part, go_sem, Tryd.underlying3]
set_option maxRecDepth 100000 in
set_option maxHeartbeats 1600000 in
/-- equal calls -/
theorem samecalls_eq (A A' C C' : Option Addr) (n k c c' d d' B : Nat) (f g : Nat → Nat → Int) (w : World) (hn : n ≤ 4) (hk : k ≤ 6) (hR : Rd w B A 3 n f) (hR' : Rd w B A' 3 n f) (hM : Rd w B C 4 k g) (hM' : Rd w B C' 4 k g) (hB : B ≤ w.heap.size) :
    Calls Tryd.prog 18 #[.agg #[.slice A n c, .slice C k d], .agg #[.slice A' n c', .slice C' k d']] w fun e w' => e = .returned (.bool true) ∧ Below w.heap.size w w' := by
  have g1 : ((k : Int) != (k : Int)) = false := by simp
  have HB := Lib.hid (belowAlloc2 w (.cells #[.slice A n c, .slice C k d] 42) (.cells #[.slice A' n c', .slice C' k d'] 42))
  have HR := Lib.hid (hR.below (HB.out.mono hB))
  have HR' := Lib.hid (hR'.below (HB.out.mono hB))
  have HM := Lib.hid (hM.below (HB.out.mono hB))
  have HM' := Lib.hid (hM'.below (HB.out.mono hB))
  have D0 := Lib.hid ((Blk.new w 42 #[.slice A n c, .slice C k d]).alloc (.cells #[.slice A' n c', .slice C' k d'] 42))
  have D5 := Lib.hid (Blk.new1 w (.cells #[.slice A n c, .slice C k d] 42) 42 #[.slice A' n c', .slice C' k d'])
  clear hR hR' hM hM'
  go_enter Tryd.func18, Tryd.ntmps18
  go_upto_region 1 with fail
  obtain ⟨X, hX⟩ : ∃ X, X = (w.alloc (.cells #[.slice A n c, .slice C k d] 42)).alloc (.cells #[.slice A' n c', .slice C' k d'] 42) := ⟨_, rfl⟩
  rw [← hX] at HB HR HR' HM HM' D0 D5
  rw [← hX]
  clear hX
  have hBX : B ≤ X.heap.size := Nat.le_trans hB HB.out.size
  have d0 := D0.out.cell 0
  have d1 := D0.out.cell 1
  have e0 := D5.out.cell 0
  have e1 := D5.out.cell 1
  go_upto_region 2 with (go_at_call 23; go_must (refine (samecen_eq _ _ n _ _ B _ _ f X hn HR.out HR'.out hBX).mono ?_); rintro e w1 ⟨rfl, hb1⟩; have d1' := (D0.out.below' hb1).cell 1; have e1' := (D5.out.below' hb1).cell 1; have HB1 := Lib.hid hb1; clear hb1)
  have d1' := (D0.out.below' HB1.out).cell 1
  have e1' := (D5.out.below' HB1.out).cell 1
  go_wp2_with fail
  clear d0 d1 e0 e1 d1' e1'
  go_loopw [5] (fun i wr => ∃ j : Nat, j ≤ k ∧ i = .int .i64 j ∧ Below X.heap.size X wr) (fun i _ => k - (intOf i).toNat)
  case atStart => exact ⟨0, Nat.zero_le _, rfl, HB1.out⟩
  case round =>
    obtain ⟨j, hj, rfl, hbw⟩ := hrel
    have HBW := Lib.hid hbw
    have d1 := (D0.out.below' hbw).cell 1
    have e1 := (D5.out.below' hbw).cell 1
    by_cases hlt : j < k
    · obtain ⟨ab, ao, rfl, hab, a0, a1, a2, a3⟩ := (HM.out.below (hbw.mono hBX)).at4 hlt
      obtain ⟨bb, bo, rfl, hbb, b0, b1, b2, b3⟩ := (HM'.out.below (hbw.mono hBX)).at4 hlt
      have k4 : decide (k ≤ j) = false := decide_eq_false (by omega)
      have hn := neq_msg (g j 0) (g j 1) (g j 2) (g j 3)
      clear hbw
      go_wp2_with fail
      go_quiet (fail)
      go_wp2_with fail
      go_roundw
      case rel => exact ⟨j + 1, by omega, by go_num, HBW.out.drewN nq⟩
      case measure => simp [intOf]; omega
    · obtain rfl : j = k := by omega
      clear hbw
      go_wp2_with fail
      go_ret
      exact ⟨rfl, HB.out.trans (HBW.out.mono HB.out.size)⟩
/-- what both runs leave, whatever the arguments -/
def RunG (nn k dn : Nat) (fc fm : Nat → Nat → Int) (fd : Nat → Bool) (e0 : Int) (w : World) (e : Ending) (w' : World) : Prop :=
  ∃ A1 c1 A2 c2 bA bc, e = .returned (.tuple #[.agg #[.slice A1 nn c1, .slice A2 k c2], .slice bA dn bc, .int .i64 e0]) ∧ (Rd w' w'.heap.size A1 3 nn fc ∧ Rd w' w'.heap.size A2 4 k fm ∧ RdV w' w'.heap.size bA 1 dn (bools fd)) ∧ Below w.heap.size w w'
def RspG (l : Nat) (fr : Nat → Int) (e0 : Int) (w : World) (e : Ending) (w' : World) : Prop :=
  ∃ A c, e = .returned (.tuple #[.slice A l c, .int .i64 e0]) ∧ Rd1 w' w'.heap.size A l fr ∧ Below w.heap.size w w'
section
variable (A : Option Addr) (en ec B : Nat) (E : Nat → Nat → Int) (w : World) (hR : Rd w B A 3 en E) (hB : B ≤ w.heap.size)
theorem runs_far (n o : Int) (h1 : farE en = true) :
    Calls Tryd.prog 4 #[.int .i64 n, .int .i64 o, .slice A en ec] w fun e w' => e = .returned (.bool true) ∧ Below w.heap.size w w' := by
  have H1 := Lib.hid h1
  clear h1
  go_enter Tryd.func4, Tryd.ntmps4
  go_wp2_with (first
      | (go_at_call 15; refine (far_any _ _ _ _).mono ?_; rw [H1.out]; rintro e w1 ⟨rfl, rfl⟩)
      | (go_at_call 11; refine (works_any _).mono ?_; rintro en w9 ⟨rfl, hb9⟩; have HB9 := Lib.hid hb9; clear hb9))
  go_ret
  exact ⟨rfl, HB9.out⟩
include hR hB
set_option maxRecDepth 100000 in
set_option maxHeartbeats 6400000 in
theorem runs_walk (n o e0 : Int) (nn k dn l : Nat) (fc fm : Nat → Nat → Int) (fd : Nat → Bool) (fr : Nat → Int) (hen : en ≤ 300) (hdn : dn ≤ en) (hnn : nn ≤ 4) (hk : k ≤ 6) (hl : l ≤ 4) (h1 : farE en = false)
    (hrun : ∀ W A' c', Rd W W.heap.size A' 3 en E → Calls Tryd.prog 16 #[.int .i64 n, .int .i64 o, .slice A' en c'] W (RunG nn k dn fc fm fd e0 W))
    (hrrun : ∀ W A' c', Rd W W.heap.size A' 3 en E → Calls Tryd.prog 17 #[.int .i64 n, .int .i64 o, .slice A' en c'] W (RunG nn k dn fc fm fd e0 W))
    (hresp : ∀ W A' c', Rd W W.heap.size A' 3 en E → Calls Tryd.prog 19 #[.int .i64 n, .int .i64 o, .slice A' en c'] W (RspG l fr e0 W))
    (hrresp : ∀ W A' c', Rd W W.heap.size A' 3 en E → Calls Tryd.prog 20 #[.int .i64 n, .int .i64 o, .slice A' en c'] W (RspG l fr e0 W)) :
    Calls Tryd.prog 4 #[.int .i64 n, .int .i64 o, .slice A en ec] w fun e w' => e = .returned (.bool true) ∧ Below w.heap.size w w' := by
  have HRun := Lib.hid hrun
  have HRRun := Lib.hid hrrun
  have HResp := Lib.hid hresp
  have HRResp := Lib.hid hrresp
  have HR := Lib.hid hR
  have H1 := Lib.hid h1
  obtain ⟨si, hi, hz0, hz1, hz2⟩ := info_parts evt_info
  have SI := Lib.hid (And.intro hi (And.intro hz0 (And.intro hz1 hz2)))
  have f1 : (e0 != e0) = false := by simp
  have f2 : ((dn : Int) != (dn : Int)) = false := by simp
  have f3 : (e0 == e0) = true := by simp
  clear hi hz0 hz1 hz2 hrun hrrun hresp hrresp hR h1
  go_enter Tryd.func4, Tryd.ntmps4
  go_upto_region 4 with (first
    | (go_at_call 15; refine (far_any _ _ _ _).mono ?_; rw [H1.out]; rintro e w1 ⟨rfl, rfl⟩)
    | (at_builtin; refine wpList_copy rfl (.tmp 22) (.tmp 23) 37 rfl 48 si _ 3 24 Tryd.underlying37 SI.out.1 SI.out.2.1 SI.out.2.2.1 SI.out.2.2.2 rfl (by omega) (by omega) rfl (by exact Blk.new _ _ _) (F := ints2 E) (fun _ _ => rfl) rfl (HR.out.below ((belowAlloc w _).mono hB)).v (by omega) ?_; intro A3 d1 w1 ho1 hb1; have HO1 := Lib.hid ho1; have HB1 := Lib.hid ((belowAlloc w (.cells #[] 48)).trans (hb1.mono (by simp))); clear ho1 hb1))
  have HRd1 := Lib.hid HO1.out.rdI
  go_upto_region 5 with (go_at_call 16; go_must (refine (HRun.out _ _ _ HRd1.out).mono ?_); rintro e w2 ⟨A1, c1, A2, c2, bA, bc, rfl, hrr, hb2⟩; have RR2 := Lib.hid hrr; have HB2 := Lib.hid hb2; clear hrr hb2)
  have HBa := Lib.hid (show Below w1.heap.size w1 (w2.alloc (.cells #[.slice A1 nn c1, .slice A2 k c2] 42)) from HB2.out.alloc HB2.out.size _)
  have D2 := Lib.hid (Blk.new w2 42 #[.slice A1 nn c1, .slice A2 k c2])
  have RR3 := Lib.hid (show Rd _ w2.heap.size A1 3 nn fc ∧ Rd _ w2.heap.size A2 4 k fm ∧ RdV _ w2.heap.size bA 1 dn (bools fd) from (fun b => ⟨RR2.out.1.below b, RR2.out.2.1.below b, RR2.out.2.2.below b⟩) (belowAlloc w2 (.cells #[.slice A1 nn c1, .slice A2 k c2] 42)))
  have hg2 : w2.heap.size < (w2.alloc (.cells #[.slice A1 nn c1, .slice A2 k c2] 42)).heap.size := D2.out.lt
  obtain ⟨G2, hG2⟩ : ∃ G, G = w2.heap.size := ⟨_, rfl⟩
  rw [← hG2] at D2 RR3 hg2
  generalize w2.alloc (.cells #[.slice A1 nn c1, .slice A2 k c2] 42) = X at HBa D2 RR3 hg2 ⊢
  rw [← hG2]
  clear hG2 RR2 HB2
  have HRX := Lib.hid (show Rd X X.heap.size A 3 en E from (HR.out.below ((HB1.out.trans (HBa.out.mono HB1.out.size)).mono hB)).more (Nat.le_trans hB (Nat.le_trans HB1.out.size HBa.out.size)))
  go_upto_region 6 with (go_at_call 17; go_must (refine (HRRun.out _ _ _ HRX.out).mono ?_); rintro e w3 ⟨A4, c4, A5, c5, bA', bc', rfl, hrr, hb3⟩; have RR4 := Lib.hid hrr; have HB3 := Lib.hid hb3; clear hrr hb3)
  have HBb := Lib.hid (show Below X.heap.size X (w3.alloc (.cells #[.slice A4 nn c4, .slice A5 k c5] 42)) from HB3.out.alloc HB3.out.size _)
  have D4 := Lib.hid (Blk.new w3 42 #[.slice A4 nn c4, .slice A5 k c5])
  have RR5 := Lib.hid (show Rd _ w3.heap.size A4 3 nn fc ∧ Rd _ w3.heap.size A5 4 k fm ∧ RdV _ w3.heap.size bA' 1 dn (bools fd) from (fun b => ⟨RR4.out.1.below b, RR4.out.2.1.below b, RR4.out.2.2.below b⟩) (belowAlloc w3 (.cells #[.slice A4 nn c4, .slice A5 k c5] 42)))
  have hg3 : w3.heap.size < (w3.alloc (.cells #[.slice A4 nn c4, .slice A5 k c5] 42)).heap.size := D4.out.lt
  have hxz : X.heap.size ≤ w3.heap.size := HB3.out.size
  obtain ⟨G3, hG3⟩ : ∃ G, G = w3.heap.size := ⟨_, rfl⟩
  rw [← hG3] at D4 RR5 hg3 hxz
  generalize w3.alloc (.cells #[.slice A4 nn c4, .slice A5 k c5] 42) = Y at HBb D4 RR5 hg3 ⊢
  rw [← hG3]
  clear hG3 RR4 HB3
  have D2Y := Lib.hid (D2.out.below' HBb.out)
  have RRY := Lib.hid ((fun b => ⟨(RR3.out.1.below b).more (by omega), (RR3.out.2.1.below b).more (by omega), (RR3.out.2.2.below b).more (by omega)⟩ : Below G2 X Y → Rd Y Y.heap.size A1 3 nn fc ∧ Rd Y Y.heap.size A2 4 k fm ∧ RdV Y Y.heap.size bA 1 dn (bools fd)) (HBb.out.mono (by omega)))
  have RRZ := Lib.hid (show Rd Y Y.heap.size A4 3 nn fc ∧ Rd Y Y.heap.size A5 4 k fm ∧ RdV Y Y.heap.size bA' 1 dn (bools fd) from ⟨RR5.out.1.more (by omega), RR5.out.2.1.more (by omega), RR5.out.2.2.more (by omega)⟩)
  have HB1Y := Lib.hid (HBa.out.trans (HBb.out.mono HBa.out.size))
  have HOY := Lib.hid (show Rd Y Y.heap.size A3 3 en E from (HRd1.out.below HB1Y.out).more HB1Y.out.size)
  have HWY := Lib.hid (HB1.out.trans (HB1Y.out.mono HB1.out.size))
  have HRY := Lib.hid (show Rd Y Y.heap.size A 3 en E from (HR.out.below (HWY.out.mono hB)).more (Nat.le_trans hB HWY.out.size))
  have d0 := D2Y.out.cell 0
  have d1 := D2Y.out.cell 1
  have e0' := D4.out.cell 0
  have e1' := D4.out.cell 1
  clear HO1 HRd1 HBa D2 RR3 HRX HBb RR5 HB1 HB1Y
  go_wp2_with (go_at_call 18; go_must (refine (samecalls_eq _ _ _ _ nn k _ _ _ _ Y.heap.size fc fm Y hnn hk RRY.out.1 RRZ.out.1 RRY.out.2.1 RRZ.out.2.1 (Nat.le_refl _)).mono ?_); rintro e w4 ⟨rfl, hb4⟩; have HB4 := Lib.hid hb4; clear hb4)
  clear d0 d1 e0' e1'
  go_loopw [14] (fun i wr => ∃ j : Nat, j ≤ dn ∧ i = .int .i64 j ∧ Below Y.heap.size Y wr) (fun i _ => dn - (intOf i).toNat)
  case atStart => exact ⟨0, Nat.zero_le _, rfl, HB4.out⟩
  case round =>
    obtain ⟨j, hj, rfl, hbw⟩ := hrel
    have HBW := Lib.hid hbw
    by_cases hlt : j < dn
    · obtain ⟨ab, ao, rfl, hab, ac⟩ := (RRY.out.2.2.below hbw).resolve_left (by omega)
      obtain ⟨bb, bo, rfl, hbb, bc2⟩ := (RRZ.out.2.2.below hbw).resolve_left (by omega)
      have a0 : wr.cell? ⟨ab, ao + j, none⟩ = some (.bool (fd j)) := by have h := ac j 0 hlt (by omega); simpa using h
      have b0 : wr.cell? ⟨bb, bo + j, none⟩ = some (.bool (fd j)) := by have h := bc2 j 0 hlt (by omega); simpa using h
      obtain ⟨xb, xo, rfl, hxb, x0, x1, x2⟩ := (HOY.out.below hbw).at3 (show j < en by omega)
      obtain ⟨yb, yo, rfl, hyb, y0, y1, y2⟩ := (HRY.out.below hbw).at3 (show j < en by omega)
      have q1 : (fd j != fd j) = false := by simp
      have k4 : decide (dn ≤ j) = false := decide_eq_false (by omega)
      have k5 : decide (en ≤ j) = false := decide_eq_false (by omega)
      have hn := neq_evt (E j 0) (E j 1) (E j 2)
      clear hbw ac bc2
      go_wp2_with fail
      go_quiet (fail)
      go_wp2_with fail
      go_roundw
      case rel => exact ⟨j + 1, by omega, by go_num, HBW.out.drewN nq⟩
      case measure => simp [intOf]; omega
    · obtain rfl : j = dn := by omega
      have HO3 := Lib.hid ((HOY.out.below hbw).more hbw.size)
      have HR3 := Lib.hid ((HRY.out.below hbw).more hbw.size)
      clear hbw
      go_upto_region 14 with (go_at_call 19; go_must (refine (HResp.out _ _ _ HO3.out).mono ?_); rintro e w5 ⟨Ax, cx, rfl, hrx, hb5⟩; have RX := Lib.hid hrx; have HB5 := Lib.hid hb5; clear hrx hb5)
      have HR5 := Lib.hid ((HR3.out.below HB5.out).more HB5.out.size)
      go_upto_region 15 with (go_at_call 20; go_must (refine (HRResp.out _ _ _ HR5.out).mono ?_); rintro e w6 ⟨Ay, cy, rfl, hry, hb6⟩; have RY := Lib.hid hry; have HB6 := Lib.hid hb6; clear hry hb6)
      have RX6 := Lib.hid ((RX.out.below HB6.out).more HB6.out.size)
      go_wp2_with (first
        | (go_at_call 21; go_must (refine (sameInts_any _ _ l l _ _ w6.heap.size fr fr w6 (by unfold maxLen; omega) (by unfold maxLen; omega) RX6.out RY.out).mono ?_); rw [same_self]; rintro e w7 ⟨rfl, hb7⟩; have HB7 := Lib.hid hb7; clear hb7)
        | (go_at_call 11; refine (works_any _).mono ?_; rintro en w10 ⟨rfl, hb9⟩; have HB9 := Lib.hid hb9; clear hb9))
      go_ret
      refine ⟨rfl, ?_⟩
      have h1 := HWY.out.trans (HBW.out.mono HWY.out.size)
      have h2 := h1.trans (HB5.out.mono h1.size)
      have h3 := h2.trans (HB6.out.mono h2.size)
      have h4 := h3.trans (HB7.out.mono h3.size)
      exact h4.trans (HB9.out.mono h4.size)
end
end Go.Proofs.YtbjggnecfppjgaaDoor
/- RelayRuns at all arguments. -/
namespace Go.Proofs.YtbjggnecfppjgaaDoor
open Go.RowKit

theorem runG_ok {n o : Nat} {E : Nat → Nat → Int} {en : Nat} {w : World} {e : Ending} {w' : World} (h : RunT n o E en w e w' ∧ Below w.heap.size w w') :
    RunG n (M.runF n o E en).k en (M.runF n o E en).c (M.runF n o E en).m (M.done n o E) 0 w e w' := by
  obtain ⟨⟨v, bv, rfl, ⟨A1, c1, A2, c2, rfl, o1, o2⟩, o3⟩, hb⟩ := h
  obtain ⟨bA, bc, rfl⟩ := o3.form
  exact ⟨A1, c1, A2, c2, bA, bc, rfl, ⟨o1.rdI, o2.rdI, o3.rdV⟩, hb⟩
theorem runG_bad {E : Nat → Nat → Int} {e0 : Int} {w : World} {e : Ending} {w' : World} (h : BadV e0 w e w') : RunG 0 0 0 (fun _ _ => 0) (fun _ _ => 0) (fun _ => false) e0 w e w' := by
  obtain ⟨rfl, hb⟩ := h
  exact ⟨none, 0, none, 0, none, 0, rfl, ⟨.inl rfl, .inl rfl, .inl rfl⟩, hb⟩
theorem rspG_ok {s : M.St} {w : World} {e : Ending} {w' : World} (h : RespV w s e w' ∧ Below w.heap.size w w') : RspG (M.resp s).length (nats (M.resp s)) 0 w e w' := by
  obtain ⟨⟨v, rfl, o1⟩, hb⟩ := h
  obtain ⟨A, c, rfl, hr⟩ := o1.rd1
  exact ⟨A, c, rfl, hr, hb⟩
section
variable (A : Option Addr) (en ec B : Nat) (E : Nat → Nat → Int) (w : World) (hR : Rd w B A 3 en E) (hB : B ≤ w.heap.size)
include hR hB
theorem relayRuns_any (n o : Int) :
    Calls Tryd.prog 4 #[.int .i64 n, .int .i64 o, .slice A en ec] w fun e w' => e = .returned (.bool true) ∧ Below w.heap.size w w' := by
  cases h1 : farE en
  · have hen : en ≤ 300 := by
      unfold farE at h1
      simp at h1
      omega
    by_cases h2 : chkE n o en = 0
    · obtain ⟨n', o', rfl, rfl, a, b, c, d⟩ := fit_of_chk h1 h2
      refine runs_walk A en ec B E w hR hB n' o' 0 n' (M.runF n' o' E en).k en (M.resp (M.runF n' o' E en)).length (M.runF n' o' E en).c (M.runF n' o' E en).m (M.done n' o' E) (nats (M.resp (M.runF n' o' E en))) hen (Nat.le_refl _) b (M.Wf.run (n := n') (first := (o' : Int)) (by omega) E en).k6 (M.elP_len 4 _) h1 ?_ ?_ ?_ ?_
      · exact fun W A' c' hr => (Run_ok n' o' A' en c' W.heap.size E W ⟨a, b⟩ c (by omega) hr (Nat.le_refl _)).mono fun _ _ h => runG_ok h
      · exact fun W A' c' hr => (rRun_ok n' o' A' en c' W.heap.size E W ⟨a, b⟩ c (by omega) hr (Nat.le_refl _)).mono fun _ _ h => runG_ok h
      · exact fun W A' c' hr => (resp_ok n' o' A' en c' W.heap.size E W ⟨a, b⟩ c (by omega) hr (Nat.le_refl _)).mono fun _ _ h => rspG_ok h
      · exact fun W A' c' hr => (rResp_ok n' o' A' en c' W.heap.size E W ⟨a, b⟩ c (by omega) hr (Nat.le_refl _)).mono fun _ _ h => rspG_ok h
    · refine runs_walk A en ec B E w hR hB n o (chkE n o en) 0 0 0 0 (fun _ _ => 0) (fun _ _ => 0) (fun _ => false) (nats []) hen (Nat.zero_le _) (by omega) (by omega) (by omega) h1 ?_ ?_ ?_ ?_
      · exact fun W A' c' _ => (Run_bad n o A' en c' W h2).mono fun _ _ h => runG_bad (E := E) h
      · exact fun W A' c' _ => (rRun_bad n o A' en c' W h2).mono fun _ _ h => runG_bad (E := E) h
      · refine fun W A' c' _ => (resp_bad n o A' en c' W h2).mono fun e w' h => ?_
        obtain ⟨⟨v, rfl, o1⟩, hb⟩ := h
        obtain ⟨A, c, rfl, hr⟩ := o1.rd1
        exact ⟨A, c, rfl, hr, hb⟩
      · refine fun W A' c' _ => (rResp_bad n o A' en c' W h2).mono fun e w' h => ?_
        obtain ⟨rfl, hb⟩ := h
        exact ⟨none, 0, rfl, .inl rfl, hb⟩
  · exact runs_far A en ec w n o h1
end
end Go.Proofs.YtbjggnecfppjgaaDoor
