/- The contract of the program's open. -/
import Derived.Test.YtaljmlkapbojeaaDoorG5
import Derived.Test.YtaljmlkapbojeaaDoorG6
import Derived.Test.YtaljmlkapbojeaaDoorOwn
namespace Go.Proofs.YtaljmlkapbojeaaDoor
open Go.RowKit

theorem int_info : (Tryd.prog.info? 3).map (fun i => (i.zero, i.size, i.bytes)) = some (some (.int .i64 0), 1, 8) := by kernel_rfl

abbrev ints (f : Nat → Int) : Nat → Nat → Value := fun i _ => .int .i64 (f i)

set_option maxHeartbeats 1000000 in
theorem open_bad (gA bA : Option Addr) (gn gc bn bc B : Nat) (G H : Nat → Nat → Int) (w : World) (hg : gn ≤ maxLen) (hb : bn ≤ maxLen) (hR : BookRd w B gA gn G bA bn H) (hB : B ≤ w.heap.size) (hok : M.okF gn bn G H = false) :
    Calls Tryd.prog 25 #[.agg #[.slice gA gn gc, .slice bA bn bc]] w fun e w' =>
      e = .returned (.tuple #[.agg #[.slice none 0 0, .slice none 0 0, .slice none 0 0], .int .i64 110]) ∧ Below w.heap.size w w' := by
  have hk : M.chkN gn bn G H = 110 := by simp [M.chkN, hok]
  go_enter Tryd.func25, Tryd.ntmps25
  go_wp2_with (go_at_call 14; go_must (refine (check_any _ _ _ _ _ _ B _ _ _ hg hb (by exact hR.below ((belowAlloc3 _ _ _ _).mono hB)) (by simp; omega)).mono ?_); rw [hk]; rintro e w1 ⟨rfl, hb1⟩; have HB1 := Lib.hid hb1; obtain ⟨hc, hf⟩ := bcell hb1; clear hb1)
  refine bodyPost_ret (v := .tuple #[.agg #[.slice none 0 0, .slice none 0 0, .slice none 0 0], .int .i64 110]) ?_ rfl ⟨rfl, ?_⟩
  · simp [results, Tryd.results25, go_sem, hc]
  · exact (((((((belowAlloc3 _ _ _ _).trans (HB1.out.mono (by simp; omega))).setCell (by simp) _).setCell (by simp) _).setCell (by simp) _)))

/-- A ledger of the call's own. -/
def Ledger (w : World) (base : Nat) (v1 v2 v3 : Value) (gn bn : Nat) (L Nd : Nat → Int) (U : Nat → Nat) : Prop :=
  Own w base 3 1 v1 gn (ints L) ∧ Own w base 3 1 v2 bn (ints Nd) ∧ Own w base 3 1 v3 bn (ints fun i => (U i : Int)) ∧ Apart v1 v2 ∧ Apart v1 v3 ∧ Apart v2 v3
theorem Ledger.below {w w' : World} {base gn bn : Nat} {v1 v2 v3 : Value} {L Nd : Nat → Int} {U : Nat → Nat} (h : Ledger w base v1 v2 v3 gn bn L Nd U) (hb : Below w.heap.size w w') : Ledger w' base v1 v2 v3 gn bn L Nd U :=
  ⟨h.1.below hb, h.2.1.below hb, h.2.2.1.below hb, h.2.2.2⟩
def Opened (w : World) (gn bn : Nat) (G H : Nat → Nat → Int) (e : Ending) (w' : World) : Prop :=
  ∃ v1 v2 v3, e = .returned (.tuple #[.agg #[v1, v2, v3], .int .i64 0]) ∧ Ledger w' w.heap.size v1 v2 v3 gn bn (fun g => G g 2) (fun i => H i 2) (fun i => M.useTo G H i gn) ∧ Below w.heap.size w w'

set_option maxRecDepth 100000 in
set_option maxHeartbeats 4000000 in
theorem open_ok (gA bA : Option Addr) (gn gc bn bc B : Nat) (G H : Nat → Nat → Int) (w : World) (hok : M.okF gn bn G H = true) (hR : BookRd w B gA gn G bA bn H) (hB : B ≤ w.heap.size) :
    Calls Tryd.prog 25 #[.agg #[.slice gA gn gc, .slice bA bn bc]] w (Opened w gn bn G H) := by
  have hk : M.chkN gn bn G H = 0 := by simp [M.chkN, hok]
  have ok : Ok gn bn G H := M.okF_iff.1 hok
  have hgn := ok.1
  have hbn := ok.2.1
  have hbt := toNat_i64_and_one
  obtain ⟨i0, hi, hz0, hz1, hz2⟩ := info_parts int_info
  have HI := Lib.hid hi
  have HZ0 := Lib.hid hz0
  have HZ1 := Lib.hid hz1
  have HZ2 := Lib.hid hz2
  clear hi hz0 hz1 hz2
  obtain ⟨S, hS⟩ : ∃ S, S = w.heap.size := ⟨_, rfl⟩
  go_enter Tryd.func25, Tryd.ntmps25
  go_wp2_with (go_at_call 14; go_must (refine (check_any _ _ _ _ _ _ B _ _ _ (by unfold maxLen; omega) (by unfold maxLen; omega) (by exact hR.below ((belowAlloc3 _ _ _ _).mono hB)) (by simp; omega)).mono ?_); rw [hk]; rintro e w1 ⟨rfl, hb1⟩; have HB1 := Lib.hid hb1; obtain ⟨hc, hf⟩ := bcell hb1; clear hb1)
  clear hc hf
  have hW1 : Below w.heap.size w w1 := (belowAlloc3 _ _ _ _).trans (HB1.out.mono (by simp; omega))
  have k0 : Blk w1 w.heap.size 25 #[.slice gA gn gc, .slice bA bn bc] := (((Blk.new _ _ _).alloc _).alloc _).below HB1.out (by simp; omega)
  have k1 : Blk w1 (w.heap.size + 1) 64 #[.slice none 0 0, .slice none 0 0, .slice none 0 0] := by
    have := ((Blk.new (w.alloc (.cells #[.slice gA gn gc, .slice bA bn bc] 25)) 64 #[.slice none 0 0, .slice none 0 0, .slice none 0 0]).alloc (.cells #[.slice none 0 0, .slice none 0 0, .slice none 0 0] 64)).below HB1.out (by simp)
    simpa using this
  have k2 : Blk w1 (w.heap.size + 1 + 1) 64 #[.slice none 0 0, .slice none 0 0, .slice none 0 0] := by
    have := (Blk.new ((w.alloc (.cells #[.slice gA gn gc, .slice bA bn bc] 25)).alloc (.cells #[.slice none 0 0, .slice none 0 0, .slice none 0 0] 64)) 64 #[.slice none 0 0, .slice none 0 0, .slice none 0 0]).below HB1.out (by simp)
    simpa using this
  have hz1 : w.heap.size + 3 ≤ w1.heap.size := by have := HB1.out.size; simpa using this
  clear HB1
  simp only [← hS] at k0 k1 k2 hW1 hz1 hB ⊢
  have HS := Lib.hid hS
  clear hS
  go_loopw [22] (fun i wr => ∃ k : Nat, k ≤ gn ∧ i = .int .i64 k ∧ ∃ v1, Blk wr S 25 #[.slice gA gn gc, .slice bA bn bc] ∧ Blk wr (S + 1) 64 #[.slice none 0 0, .slice none 0 0, .slice none 0 0] ∧
    Blk wr (S + 1 + 1) 64 #[v1, .slice none 0 0, .slice none 0 0] ∧ Own wr (S + 3) 3 1 v1 k (ints fun g => G g 2) ∧ Below S w wr ∧ S + 3 ≤ wr.heap.size) (fun i _ => gn - (intOf i).toNat)
  case atStart => exact ⟨0, Nat.zero_le _, rfl, _, k0, k1, k2, Own.nil_, hW1, hz1⟩
  case round =>
    clear k0 k1 k2 hW1 hz1
    obtain ⟨k, hk, rfl, v1, k0, k1, k2, o1, hW, hz⟩ := hrel
    have HW := Lib.hid hW
    have K0 := Lib.hid k0
    have K1 := Lib.hid k1
    have K2 := Lib.hid k2
    have hs0 : S < wr.heap.size := by omega
    have hs1 : S + 1 < wr.heap.size := by omega
    have hs2 : S + 1 + 1 < wr.heap.size := by omega
    by_cases hlt : k < gn
    · obtain ⟨b, off, rfl, hb, c0, c1, c2⟩ := (hR.1.below (hW.mono (by omega))).at3 hlt
      have q0 := k0.cell 0
      have q1 := k2.cell 0
      have hbb : b < wr.heap.size := by omega
      clear k0 k1 k2 hW hR ok hok
      go_wp2_with (at_builtin; refine wpList_app rfl _ _ 33 rfl (S + 3) 3 1 8 Tryd.underlying33 HI.out HZ0.out HZ1.out HZ2.out rfl (by decide) (by decide) ((o1.alloc _).alloc _) rfl (by omega) (by simp; omega) (wr.heap.size + 1) 1 (fun _ => .int .i64 (G k 2)) rfl (cell_last (by simp)) (fun _ _ => rfl) ?_; intro v1' w2 o2 hg2 hat2; obtain ⟨A1, z1, rfl⟩ := o2.form; have l2 := ((K2.out.alloc _).alloc _).grown hg2 (o1.ne_ (by omega)); have lc := l2.cell 0; have lf := l2.frz 0; have L2 := Lib.hid l2; clear l2; have HG2 := Lib.hid hg2; clear hg2 hat2)
      go_roundw
      case rel =>
        refine ⟨k + 1, by omega, by go_num, _, ?_, ?_, L2.out.set_ 0 _, ?_, ?_, ?_⟩
        · exact ((K0.out.alloc _).alloc _ |>.grown HG2.out (o1.ne_ (by omega))).far (by simp; omega) _
        · exact ((K1.out.alloc _).alloc _ |>.grown HG2.out (o1.ne_ (by omega))).far (by simp) _
        · rw [show (upd (ints fun g => G g 2) k fun _ => .int .i64 (G k 2)) = ints fun g => G g 2 from upd_self _ k] at o2
          exact o2.setCell (Ne.symm (o2.ne_ (by simp))) _
        · exact ((((HW.out.alloc (by omega) _).alloc (by simp; omega) _).grown HG2.out (by simp; omega) (fun g hg => by have := (o1.block hg).1; omega))).setCell (by simp; omega) _
        · have := HG2.out.size; simp at this ⊢; omega
      case measure => simp [intOf]; omega
    · obtain rfl : k = gn := by omega
      have q0 := k0.cell 0
      have q1 := k0.cell 1
      clear k0 k1 k2 hW
      go_wp2_with fail
      go_loopw [37] (fun i wr => ∃ j : Nat, j ≤ bn ∧ i = .int .i64 j ∧ ∃ v2 v3, Blk wr S 25 #[.slice gA k gc, .slice bA bn bc] ∧ Blk wr (S + 1) 64 #[.slice none 0 0, .slice none 0 0, .slice none 0 0] ∧
        Blk wr (S + 1 + 1) 64 #[v1, v2, v3] ∧ Own wr (S + 3) 3 1 v1 k (ints fun g => G g 2) ∧ Own wr (S + 3) 3 1 v2 j (ints fun i => H i 2) ∧ Own wr (S + 3) 3 1 v3 j (ints fun i => (M.useTo G H i k : Int)) ∧
        Apart v1 v2 ∧ Apart v1 v3 ∧ Apart v2 v3 ∧ Below S w wr ∧ S + 3 ≤ wr.heap.size) (fun i _ => bn - (intOf i).toNat)
      case atStart => exact ⟨0, Nat.zero_le _, rfl, _, _, K0.out, K1.out, K2.out, o1, Own.nil_, Own.nil_, Apart.nil_left.symm, Apart.nil_left.symm, Apart.nil_left, HW.out, hz⟩
      case round =>
        clear K0 K1 K2 HW o1 hz hs0 hs1 hs2 q0 q1
        obtain ⟨j, hj, rfl, v2, v3, k0, k1, k2, o1, o2, o3, a12, a13, a23, hW, hz⟩ := hrel
        have HW := Lib.hid hW
        have K0 := Lib.hid k0
        have K1 := Lib.hid k1
        have K2 := Lib.hid k2
        have hs0 : S < wr.heap.size := by omega
        have hs1 : S + 1 < wr.heap.size := by omega
        have hs2 : S + 1 + 1 < wr.heap.size := by omega
        by_cases hlt : j < bn
        · obtain ⟨b, off, rfl, hb, c0, c1, c2⟩ := (hR.2.below (hW.mono (by omega))).at3 hlt
          have q0 := k0.cell 1
          have q1 := k2.cell 1
          have hbb : b < wr.heap.size := by omega
          clear k0 k1 k2 hW
          go_wp2_with (at_builtin; refine wpList_app rfl (.tmp 42) (.tmp 45) 33 rfl (S + 3) 3 1 8 Tryd.underlying33 HI.out HZ0.out HZ1.out HZ2.out rfl (by decide) (by decide) ((o2.alloc _).alloc _) rfl (by omega) (by simp; omega) (wr.heap.size + 1) 1 (fun _ => .int .i64 (H j 2)) rfl (cell_last (by simp)) (fun _ _ => rfl) ?_; intro v2' w2 p2 hg2 hat2; obtain ⟨A2, z2, rfl⟩ := p2.form; have l2 := ((K2.out.alloc _).alloc _).grown hg2 (o2.ne_ (by omega)); have lc := l2.cell 1; have lf := l2.frz 1; have lk := (((K0.out.alloc _).alloc _).grown hg2 (o2.ne_ (by omega))).cell 0; have L2 := Lib.hid l2; clear l2; have HG2 := Lib.hid hg2; have HAT2 := Lib.hid hat2; clear hg2 hat2)
          have B9 := (((Blk.new wr 41 #[.int .i64 (H j 0), .int .i64 (H j 1), .int .i64 (H j 2)]).alloc (.cells #[.int .i64 (H j 2)] 3)).grown HG2.out (fun e => by have := (o2.block e.symm).2; omega)).far (p := ⟨S + 1 + 1, 1, none⟩) (by simp; omega) (.slice A2 (j + 1) z2)
          have B0 := ((((K0.out.alloc _).alloc _).grown HG2.out (o2.ne_ (by omega))).far (p := ⟨S + 1 + 1, 1, none⟩) (by simp; omega) (.slice A2 (j + 1) z2))
          have B1 := ((((K1.out.alloc _).alloc _).grown HG2.out (o2.ne_ (by omega))).far (p := ⟨S + 1 + 1, 1, none⟩) (by simp) (.slice A2 (j + 1) z2))
          have B2 := L2.out.set_ 1 (.slice A2 (j + 1) z2)
          have P2 := p2.setCell (p := ⟨S + 1 + 1, 1, none⟩) (Ne.symm (p2.ne_ (by simp))) (.slice A2 (j + 1) z2)
          have P1 := (((o1.alloc _).alloc _).apart_grown a12.symm HG2.out).setCell (p := ⟨S + 1 + 1, 1, none⟩) (Ne.symm (o1.ne_ (by simp))) (.slice A2 (j + 1) z2)
          have P3 := (((o3.alloc _).alloc _).apart_grown a23 HG2.out).setCell (p := ⟨S + 1 + 1, 1, none⟩) (Ne.symm (o3.ne_ (by simp))) (.slice A2 (j + 1) z2)
          have s12 : Apart v1 (.slice A2 (j + 1) z2) := (Apart.app a12.symm HAT2.out (fun g hg => by have := (o1.block hg).2; simp; omega)).symm
          have s23 : Apart (.slice A2 (j + 1) z2) v3 := Apart.app a23 HAT2.out (fun g hg => by have := (o3.block hg).2; simp; omega)
          have BW := (((HW.out.alloc (by omega) (.cells #[.int .i64 (H j 0), .int .i64 (H j 1), .int .i64 (H j 2)] 41)).alloc (by simp; omega) (.cells #[.int .i64 (H j 2)] 3)).grown HG2.out (by simp; omega) (fun g hg => by have := (o2.block hg).1; omega)).setCell (p := ⟨S + 1 + 1, 1, none⟩) (by simp; omega) (.slice A2 (j + 1) z2)
          have BS : wr.heap.size + 1 < (w2.setCell ⟨S + 1 + 1, 1, none⟩ (.slice A2 (j + 1) z2)).heap.size := by have := HG2.out.size; simp at this ⊢; omega
          clear HG2 HAT2 lc lf lk L2 o1 o2 o3 p2 K0 K1 K2 HW q0 q1 c0 c1 c2 a12 a23
          generalize w2.setCell ⟨S + 1 + 1, 1, none⟩ (.slice A2 (j + 1) z2) = W at *
          obtain ⟨p9, hp9⟩ : ∃ p9, p9 = wr.heap.size := ⟨_, rfl⟩
          rw [← hp9] at B9 BS ⊢
          have hH := ok.2.2.2 j hlt
          have hp9S : S + 3 ≤ p9 := by omega
          clear hp9
          go_loopw [10, 51] (fun s i wx => ∃ l : Nat, l ≤ k ∧ i = .int .i64 l ∧ s = .int .i64 (M.useTo G H j l : Nat) ∧ Below W.heap.size W wx) (fun _ i _ => k - (intOf i).toNat)
          case atStart => exact ⟨0, Nat.zero_le _, rfl, rfl, Below.refl _ _⟩
          case round =>
            obtain ⟨l, hl, rfl, rfl, hX⟩ := hrel
            have HX := Lib.hid hX
            have hxs := hX.size
            by_cases hlk : l < k
            · obtain ⟨gb, go, rfl, hgb, g0, g1, g2⟩ := (hR.1.below ((BW.trans (hX.mono (by omega))).mono (by omega))).at3 hlk
              obtain ⟨x, hx⟩ := Int.eq_ofNat_of_zero_le hH.1
              have y0 := (B9.below hX B9.lt).cell 0
              have y1 := (B9.below hX B9.lt).cell 1
              rw [hx] at y0
              have hx7 : x ≤ 7 := by omega
              have HXX := Lib.hid hx
              have hgbx : gb < wr.heap.size := by omega
              have hp9x : p9 < wr.heap.size := by omega
              have u1 : wrap64 (2 ^ l) = ((M.bit l : Nat) : Int) := by
                have h2 : 2 ^ l ≤ 2 ^ 10 := Nat.pow_le_pow_right (by omega) (by omega)
                rw [show (2 : Int) ^ l = ((2 ^ l : Nat) : Int) from by simp]
                unfold M.bit
                generalize 2 ^ l = q at *
                exact IntWalk.wrap64_in _ (by omega)
              have e1 : M.useTo G H j (l + 1) = (M.useTo G H j l ||| M.selN (M.srv G H l j) (M.bit l)) := rfl
              have E1 := Lib.hid e1
              have u2 := i64_or_nat (M.useTo G H j l) (M.bit l) (by have := M.useTo_lt (G := G) (H := H) (i := j) (k := l) (n := 10) (by omega); omega) (by
                have h2 : 2 ^ l ≤ 2 ^ 10 := Nat.pow_le_pow_right (by omega) (by omega)
                unfold M.bit; omega)
              obtain ⟨sv, hsv⟩ : ∃ sv, sv = (M.useTo G H j l ||| M.bit l) := ⟨_, rfl⟩
              rw [← hsv] at u2
              have HSV := Lib.hid hsv
              have es : M.srv G H l j = (M.bt (G l 0) x && decide (G l 1 ≤ H j 1)) := by unfold M.srv; rw [hx]; simp
              have ES := Lib.hid es
              clear hX hx e1 hsv es hR ok hH B0 B1 B2 B9 P1 P2 P3 s12 s23 BW BS
              cases hc : M.bt (G l 0) x
              · have HC := Lib.hid hc
                unfold M.bt at hc
                go_wp2_with fail
                go_roundw
                case rel => exact ⟨l + 1, by omega, by go_num, by rw [E1.out, ES.out, HC.out]; simp [M.selN], HX.out.alloc hxs _⟩
                case measure => simp [intOf]; omega
              · have HC := Lib.hid hc
                unfold M.bt at hc
                by_cases hd : G l 1 ≤ H j 1
                all_goals
                  go_wp2_with fail
                  go_roundw
                  case rel => exact ⟨l + 1, by omega, by go_num, by rw [E1.out, ES.out, HC.out]; simp [M.selN, hd, HSV.out], HX.out.alloc hxs _⟩
                  case measure => simp [intOf]; omega
            · obtain rfl : l = k := by omega
              have o3 := P3.below HX.out
              have K0 := Lib.hid (B0.below HX.out B0.lt)
              have K1 := Lib.hid (B1.below HX.out B1.lt)
              have K2 := Lib.hid (B2.below HX.out B2.lt)
              have q2 := K2.out.cell 2
              have hs2 : S + 1 + 1 < wr.heap.size := K2.out.lt
              have hs1 : S + 1 < wr.heap.size := K1.out.lt
              have hs0 : S < wr.heap.size := K0.out.lt
              clear hX
              go_wp2_with (at_builtin; refine wpList_app rfl (.tmp 76) (.tmp 78) 33 rfl (S + 3) 3 1 8 Tryd.underlying33 HI.out HZ0.out HZ1.out HZ2.out rfl (by decide) (by decide) (o3.alloc _) rfl (by omega) (by simp; omega) wr.heap.size 1 (fun _ => .int .i64 (M.useTo G H j l : Nat)) rfl (cell_last rfl) (fun _ _ => rfl) ?_; intro v3' w3 p3 hg3 hat3; obtain ⟨A3, z3, rfl⟩ := p3.form; have l3 := (K2.out.alloc _).grown hg3 (o3.ne_ (by omega)); have lc := l3.cell 2; have lf := l3.frz 2; have L3 := Lib.hid l3; clear l3; have HG3 := Lib.hid hg3; have HAT3 := Lib.hid hat3; clear hg3 hat3)
              go_roundw
              case rel =>
                refine ⟨j + 1, by omega, by go_num, _, _, ?_, ?_, L3.out.set_ 2 _, ?_, ?_, ?_, s12, ?_, ?_, ?_, ?_⟩
                · exact ((K0.out.alloc _).grown HG3.out (o3.ne_ (by omega))).far (by simp; omega) _
                · exact ((K1.out.alloc _).grown HG3.out (o3.ne_ (by omega))).far (by simp) _
                · have := P1.below HX.out
                  exact ((this.alloc _).apart_grown a13.symm HG3.out).setCell (Ne.symm (this.ne_ (by simp))) _
                · have := P2.below HX.out
                  rw [show (upd (ints fun i => H i 2) j fun _ => .int .i64 (H j 2)) = ints fun i => H i 2 from upd_self _ j] at this
                  exact ((this.alloc _).apart_grown s23.symm HG3.out).setCell (Ne.symm (this.ne_ (by simp))) _
                · rw [show (upd (ints fun i => (M.useTo G H i l : Int)) j fun _ => .int .i64 (M.useTo G H j l : Nat)) = ints fun i => (M.useTo G H i l : Int) from upd_self _ j] at p3
                  exact p3.setCell (Ne.symm (p3.ne_ (by simp))) _
                · exact (Apart.app a13.symm HAT3.out (fun g hg => by have := ((P1.below HX.out).block hg).2; simp; omega)).symm
                · exact (Apart.app s23.symm HAT3.out (fun g hg => by have := ((P2.below HX.out).block hg).2; simp; omega)).symm
                · exact ((((BW.trans (HX.out.mono (by omega))).alloc (by omega) _).grown HG3.out (by simp; omega) (fun g hg => by have := (o3.block hg).1; omega))).setCell (by simp; omega) _
                · have := HG3.out.size; simp at this ⊢; omega
              case measure => simp [intOf]; omega
        · obtain rfl : j = bn := by omega
          obtain ⟨A1, z1, rfl⟩ := o1.form
          obtain ⟨A2, z2, rfl⟩ := o2.form
          obtain ⟨A3, z3, rfl⟩ := o3.form
          have q1 := k2.cell 0
          have q2 := k2.cell 1
          have q3 := k2.cell 2
          have f0 := k1.frz 0
          have f1 := k1.frz 1
          have f2 := k1.frz 2
          have r0 := k1.cell 0
          have r1 := k1.cell 1
          have r2 := k1.cell 2
          clear k0 k1 k2 hW
          go_wp2_with fail
          refine bodyPost_ret (v := .tuple #[.agg #[.slice A1 k z1, .slice A2 j z2, .slice A3 j z3], .int .i64 0]) ?_ rfl ⟨_, _, _, rfl, ?_, ?_⟩
          · simp [results, Tryd.results25, go_sem, r0, r1, r2]
          · have hss : w.heap.size ≤ S + 3 := by have := HS.out; omega
            refine ⟨?_, ?_, ?_, a12, a13, a23⟩
            · exact ((((o1.setCell (Ne.symm (o1.ne_ (by simp))) _).setCell (Ne.symm (o1.ne_ (by simp))) _).setCell (Ne.symm (o1.ne_ (by simp))) _)).less hss
            · exact ((((o2.setCell (Ne.symm (o2.ne_ (by simp))) _).setCell (Ne.symm (o2.ne_ (by simp))) _).setCell (Ne.symm (o2.ne_ (by simp))) _)).less hss
            · exact ((((o3.setCell (Ne.symm (o3.ne_ (by simp))) _).setCell (Ne.symm (o3.ne_ (by simp))) _).setCell (Ne.symm (o3.ne_ (by simp))) _)).less hss
          · have hle := HS.out
            rw [HS.out] at HW
            exact ((HW.out.setCell (by simp; omega) _).setCell (by simp; omega) _).setCell (by simp; omega) _
end Go.Proofs.YtaljmlkapbojeaaDoor
