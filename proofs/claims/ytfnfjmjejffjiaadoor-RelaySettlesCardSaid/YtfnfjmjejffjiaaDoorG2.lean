/- The reference: reach, by depth. -/
import Derived.Test.YtfnfjmjejffjiaaDoorG1
import Derived.Test.YtfnfjmjejffjiaaDoorC1
namespace Go.Proofs.YtfnfjmjejffjiaaDoor
open Go.RowKit

/-- events, as cells -/
def evF (l : List (Int × Nat)) : Nat → Nat → Int := fun i j => if j = 0 then (l.getD i (0, 0)).1 else if j = 1 then ((l.getD i (0, 0)).2 : Int) else 0
theorem own_three {w : World} {g t : Nat} {a b c : Value} (h : Blk w g t #[a, b, c]) (F : Nat → Nat → Value) (h0 : F 0 0 = a) (h1 : F 0 1 = b) (h2 : F 0 2 = c) : Own w g t 3 (.slice (some ⟨g, 0, none⟩) 1 1) 1 F := by
  have e : cellsOf 1 3 F = [a, b, c] := by simp [cellsOf, h0, h1, h2, List.range_succ]
  refine ⟨by simp [cellsOf], .inr ⟨g, 1, #[a, b, c], rfl, Nat.le_refl _, h, Nat.le_refl _, by decide, by simp, by rw [e]; simp⟩⟩
theorem cat_ev (e : Int × Nat) (l : List (Int × Nat)) (i j : Nat) : catF 1 (ints2 (evF [e])) (ints2 (evF l)) i j = ints2 (evF (e :: l)) i j := by
  unfold catF
  by_cases h : i < 1
  · obtain rfl : i = 0 := by omega
    rw [if_pos h]; rfl
  · obtain ⟨k, rfl⟩ : ∃ k, i = k + 1 := ⟨i - 1, by omega⟩
    rw [if_neg h, Nat.add_sub_cancel]; rfl
/-- what reach answers -/
def ReaR (n m : Nat) (s : M.St) (w : World) (e : Ending) (w' : World) : Prop := Below w.heap.size w w' ∧ ((M.reachL n m s = none ∧ e = .returned (.tuple #[.slice none 0 0, .bool false])) ∨ ∃ l, M.reachL n m s = some l ∧ l.length = m ∧ ∃ u, e = .returned (.tuple #[u, .bool true]) ∧ Own w' w.heap.size 38 3 u l.length (ints2 (evF l)))
section
variable {n : Nat}
set_option maxRecDepth 100000 in
set_option maxHeartbeats 6400000 in
theorem reach_zero_any {s : M.St} {v : Value} {base : Nat} {w : World} (hn : 2 ≤ n ∧ n ≤ 4) (hv : CallV n s base v w) :
    Calls Tryd.prog 19 #[v, .int .i64 0] w (ReaR n 0 s w) := by
  obtain ⟨A, c, A', c', rfl, o1, o2⟩ := hv
  have HV := Lib.hid (CallV.below (show CallV n s base (.agg #[.slice A n c, .slice A' s.k c']) w from ⟨_, _, _, _, rfl, o1, o2⟩) (belowAlloc w (.cells #[.slice A n c, .slice A' s.k c'] 31)))
  have D0 := Lib.hid (Blk.new w 31 #[.slice A n c, .slice A' s.k c'])
  have B0 := Lib.hid (belowAlloc w (.cells #[.slice A n c, .slice A' s.k c'] 31))
  clear o1 o2
  have HS := Lib.hid (rsettled_any HV.out hn.2)
  go_enter Tryd.func19, Tryd.ntmps19
  have d0 := D0.out.cell 0
  have d1 := D0.out.cell 1
  go_wp2_with fail
  refine HS.out.mono ?_
  rintro e w1 ⟨rfl, hb⟩
  have HB := Lib.hid (B0.out.trans (hb.mono B0.out.size))
  clear hb d0 d1
  obtain ⟨r, hr⟩ : ∃ r, r = M.setN s n := ⟨_, rfl⟩
  rw [← hr]
  have HR := Lib.hid hr
  clear hr
  go_wp2_with fail
  go_ret2
  refine ⟨HB.out, ?_⟩
  cases r
  · refine .inl ⟨?_, rfl⟩
    cases h : M.reachL n 0 s with
    | none => rfl
    | some l =>
      have := M.setN_iff.2 (M.reach_zero.1 h).1
      rw [← HR.out] at this; cases this
  · exact .inr ⟨[], M.reach_zero.2 ⟨M.setN_iff.1 HR.out.symm, rfl⟩, rfl, _, rfl, Own.nil_⟩
set_option maxRecDepth 100000 in
set_option maxHeartbeats 12800000 in
theorem reach_any (hn : 2 ≤ n ∧ n ≤ 4) : ∀ (m : Nat), m ≤ 100 → ∀ (s : M.St) (v : Value) (base : Nat) (w : World), CallV n s base v w → base ≤ w.heap.size → M.Wf n s → Calls Tryd.prog 19 #[v, .int .i64 (m : Int)] w (ReaR n m s w) := by
  intro m
  induction m with
  | zero => exact fun _ s v base w hv _ _ => reach_zero_any hn hv
  | succ m ih =>
    intro hm s v base w hv hbase hwf
    have HIH := Lib.hid (fun (t : M.St) (u : Value) (V : World) (hu : CallV n t base u V) (hb : base ≤ V.heap.size) (hw : M.Wf n t) => ih (by omega) t u base V hu hb hw)
    have HAP := Lib.hid (fun (V : World) (u : Value) (hu : CallV n s base u V) (hb : base ≤ V.heap.size) (k : Int) (q : Nat) => rapply_any n base s u k (q : Int) 0 V hu hb hn hwf)
    obtain ⟨A, c, A', c', rfl, o1, o2⟩ := hv
    have HV := Lib.hid (CallV.below (show CallV n s base (.agg #[.slice A n c, .slice A' s.k c']) w from ⟨_, _, _, _, rfl, o1, o2⟩) (belowAlloc w (.cells #[.slice A n c, .slice A' s.k c'] 31)))
    have D0 := Lib.hid (Blk.new w 31 #[.slice A n c, .slice A' s.k c'])
    have B0 := Lib.hid (belowAlloc w (.cells #[.slice A n c, .slice A' s.k c'] 31))
    have HWF := Lib.hid hwf
    have hk6 := hwf.k6
    have hn4 := hn.2
    obtain ⟨i0, ki, kz0, kz1, kz2⟩ := info_parts evt_info
    have MI := Lib.hid (And.intro ki (And.intro kz0 (And.intro kz1 kz2)))
    clear ki kz0 kz1 kz2 o1 o2 ih hwf hn
    obtain ⟨m1, hm1⟩ : ∃ x : Nat, x = m + 1 := ⟨_, rfl⟩
    rw [show (((m + 1 : Nat) : Int)) = (m1 : Int) from by rw [hm1]]
    have gm : ((m1 : Int) == 0) = false := by rw [beq_eq_false_iff_ne]; omega
    have ems : (m1 : Int) - 1 = (m : Int) := by omega
    clear hm1
    obtain ⟨mx, hmx⟩ : ∃ x, x = M.mx n s := ⟨_, rfl⟩
    have HMX := Lib.hid hmx
    have hmx6 : mx ≤ 6 := by rw [hmx, M.mx_val]; omega
    have HTL := Lib.hid (show ∀ q : Nat, q < mx → decide ((q : Int) < max (s.k : Int) (n : Int)) = true from fun q hq => decide_eq_true (by rw [hmx, M.mx_val] at hq; omega))
    have HTN := Lib.hid (show decide ((mx : Int) < max (s.k : Int) (n : Int)) = false from decide_eq_false (by rw [hmx, M.mx_val]; omega))
    clear hmx
    go_enter Tryd.func19, Tryd.ntmps19
    go_upto_region 1 with fail
    generalize w.alloc (.cells #[.slice A n c, .slice A' s.k c'] 31) = X at HV D0 B0 ⊢
    go_wp2_with fail
    go_loopw [6] (fun k wr => ∃ kd : Nat, kd ≤ 2 ∧ k = .int .i64 (kd : Int) ∧ Hid (M.NoneQ n m s (kd * mx)) ∧ Hid (Below w.heap.size w wr ∧ Blk wr w.heap.size 31 #[.slice A n c, .slice A' s.k c'] ∧ CallV n s base (.agg #[.slice A n c, .slice A' s.k c']) wr)) (fun k _ => 2 - (intOf k).toNat)
    case atStart => exact ⟨0, by omega, rfl, Lib.hid (by rw [Nat.zero_mul]; exact M.NoneQ.zero), Lib.hid ⟨B0.out, D0.out, HV.out⟩⟩
    case round =>
      obtain ⟨kd, hkd, rfl, HN, HS⟩ := hrel
      clear B0 D0 HV
      by_cases hlt : kd < 2
      · skip
        have g1 : decide (kd < 2) = true := decide_eq_true hlt
        have g1' : decide ((kd : Int) < 2) = true := decide_eq_true (by omega)
        go_wp2_with fail
        go_loopw [7] (fun a wr => ∃ q : Nat, q ≤ mx ∧ a = .int .i64 (q : Int) ∧ Hid (M.NoneQ n m s (kd * mx + q)) ∧ Hid (Below w.heap.size w wr ∧ Blk wr w.heap.size 31 #[.slice A n c, .slice A' s.k c'] ∧ CallV n s base (.agg #[.slice A n c, .slice A' s.k c']) wr)) (fun a _ => mx - (intOf a).toNat)
        case atStart => exact ⟨0, Nat.zero_le _, rfl, HN, HS⟩
        case round =>
          clear HN HS
          obtain ⟨q, hq, rfl, HN, HS⟩ := hrel
          have d0 := HS.out.2.1.cell 0
          have d1 := HS.out.2.1.cell 1
          by_cases hqt : q < mx
          · skip
            by_cases hk0 : kd = 0
            · skip
              have HKD := Lib.hid (show kd = 0 by omega)
              have ek : ((kd : Int) == 1) = false := by rw [HKD.out]; rfl
              clear hk0
              have g2 := HTL.out q hqt
              have HEV := Lib.hid (show (M.evL n s)[kd * mx + q]? = some (2, q) from by rw [HMX.out, HKD.out]; rw [Nat.zero_mul, Nat.zero_add]; exact M.evL_two (by rw [← HMX.out]; exact hqt))
              go_upto_region 12 with fail
              have E8 := Lib.hid (show Blk (wr.alloc (.cells #[.int .i64 2, .int .i64 (q : Int), .int .i64 0] 38)) wr.heap.size 38 #[.int .i64 2, .int .i64 (q : Int), .int .i64 0] from Blk.new wr 38 #[.int .i64 2, .int .i64 (q : Int), .int .i64 0])
              have BE := Lib.hid (belowAlloc wr (.cells #[.int .i64 2, .int .i64 (q : Int), .int .i64 0] 38))
              generalize wr.alloc (.cells #[.int .i64 2, .int .i64 (q : Int), .int .i64 0] 38) = w4 at E8 BE ⊢
              clear d0 d1
              have HB4 := Lib.hid (HS.out.1.trans (BE.out.mono HS.out.1.size))
              have K4 := Lib.hid (HS.out.2.1.below' BE.out)
              have V4 := Lib.hid (CallV.below HS.out.2.2 BE.out)
              have hz4 : base ≤ w4.heap.size := Nat.le_trans hbase HB4.out.size
              have HAX := Lib.hid (HAP.out w4 _ V4.out hz4 2 q)
              have d0 := K4.out.cell 0
              have d1 := K4.out.cell 1
              have f0 := E8.out.cell 0
              have f1 := E8.out.cell 1
              have f2 := E8.out.cell 2
              go_wp2_with fail
              refine HAX.out.mono ?_
              rintro e w5 ⟨⟨v5, rfl, hv5⟩, hb⟩
              have HB5 := Lib.hid (HB4.out.trans (hb.mono HB4.out.size))
              have K5 := Lib.hid (K4.out.below' hb)
              have E5 := Lib.hid (E8.out.below' hb)
              have V5 := Lib.hid (CallV.below V4.out hb)
              have HB5' := Lib.hid (show base ≤ w5.heap.size from Nat.le_trans hbase HB5.out.size)
              obtain ⟨B, bc, B', bc', rfl, u1, u2⟩ := hv5
              have HV5 := Lib.hid (show CallV n (M.go n s 2 (q : Int) 0) base _ w5 from ⟨_, _, _, _, rfl, u1, u2⟩)
              clear hb HAX d0 d1 f0 f1 f2 u1 u2 HB4 K4 E8 V4 BE hz4
              cases hst : M.step n s 2 (q : Int) 0 with
              | none =>
                have HNN := Lib.hid (HN.out.more HEV.out (M.tryL_no hst))
                have hgo : M.go n s 2 (q : Int) 0 = s := by unfold M.go; rw [hst]; rfl
                rw [hgo] at HV5 ⊢
                clear hst hgo
                go_wp2_with fail
                go_roundw
                case rel => exact ⟨q + 1, by omega, by go_num, Lib.hid HNN.out, Lib.hid ⟨HB5.out.alloc HB5.out.size _, K5.out.alloc _, CallV.below V5.out (belowAlloc w5 _)⟩⟩
                case measure => simp [intOf]; omega
              | some t =>
                have hgo : M.go n s 2 (q : Int) 0 = t := by unfold M.go; rw [hst]; rfl
                rw [hgo] at HV5 ⊢
                have HWT := Lib.hid (HWF.out.step hst)
                have HTN := Lib.hid (fun (h : M.reachL n m t = none) => HN.out.more HEV.out (M.tryL_none hst h))
                have HTF := Lib.hid (fun (l : List (Int × Nat)) (h : M.reachL n m t = some l) => HN.out.found HEV.out (M.tryL_some hst h))
                clear hst hgo
                have N9 := Lib.hid (Blk.new w5 31 #[.slice B n bc, .slice B' t.k bc'])
                have HB6 := Lib.hid (HB5.out.alloc HB5.out.size (.cells #[.slice B n bc, .slice B' t.k bc'] 31))
                have K6 := Lib.hid (K5.out.alloc (.cells #[.slice B n bc, .slice B' t.k bc'] 31))
                have E6 := Lib.hid (E5.out.alloc (.cells #[.slice B n bc, .slice B' t.k bc'] 31))
                have V6 := Lib.hid (CallV.below V5.out (belowAlloc w5 (.cells #[.slice B n bc, .slice B' t.k bc'] 31)))
                have T6 := Lib.hid (CallV.below HV5.out (belowAlloc w5 (.cells #[.slice B n bc, .slice B' t.k bc'] 31)))
                go_upto_region 14 with fail
                generalize w5.alloc (.cells #[.slice B n bc, .slice B' t.k bc'] 31) = w6 at N9 HB6 K6 E6 V6 T6 ⊢
                generalize w5.heap.size = g9 at N9 ⊢
                clear HB5 K5 E5 V5 HV5 HB5'
                clear w5
                have HRX := Lib.hid (HIH.out t _ w6 T6.out (Nat.le_trans hbase HB6.out.size) HWT.out)
                have n0 := N9.out.cell 0
                have n1 := N9.out.cell 1
                go_wp2_with fail
                refine HRX.out.mono ?_
                rintro e w7 ⟨hb, ⟨hl, rfl⟩ | ⟨l, hl, hlm, u, rfl, ou⟩⟩
                · skip
                  have HNN := Lib.hid (HTN.out hl)
                  clear hl n0 n1
                  go_wp2_with fail
                  go_roundw
                  case rel => exact ⟨q + 1, by omega, by go_num, Lib.hid HNN.out, Lib.hid ⟨HB6.out.trans (hb.mono HB6.out.size), K6.out.below' hb, CallV.below V6.out hb⟩⟩
                  case measure => simp [intOf]; omega
                · skip
                  have HFF := Lib.hid (HTF.out l hl)
                  obtain ⟨U, uc, rfl⟩ := ou.form
                  have OU := Lib.hid ou
                  have HB7 := Lib.hid (HB6.out.trans (hb.mono HB6.out.size))
                  have E7 := Lib.hid (E6.out.below' hb)
                  have HLM := Lib.hid hlm
                  have hl100 : l.length ≤ 100 := by omega
                  clear hl n0 n1 hb ou hlm
                  have f0 := E7.out.cell 0
                  have f1 := E7.out.cell 1
                  have f2 := E7.out.cell 2
                  have hz7 := HB7.out.size
                  have O1 := Lib.hid (own_three (Blk.new w7 38 #[.int .i64 2, .int .i64 (q : Int), .int .i64 0]) (ints2 (evF [(2, q)])) rfl rfl rfl)
                  have OR := Lib.hid ((Own.alloc OU.out (.cells #[.int .i64 2, .int .i64 (q : Int), .int .i64 0] 38)).rdV)
                  go_wp2_with (at_builtin; go_must (refine wpList_cat rfl (.tmp 54) (.tmp 55) 22 rfl 38 i0 _ 3 24 Tryd.underlying22 MI.out.1 MI.out.2.1 MI.out.2.2.1 MI.out.2.2.2 rfl (by decide) (by decide) rfl O1.out (by decide) (by simp) (fun _ _ => rfl) rfl OR.out (by omega) ?_); intro v8 w8 o8 hg8 hat8; have HO8 := Lib.hid o8; have HG8 := Lib.hid hg8; clear o8 hg8 hat8)
                  go_ret2
                  refine ⟨(HB7.out.alloc hz7 _).grown HG8.out (by simp; omega) fun g hg => by have := (Own.block O1.out hg).1; omega, .inr ⟨(2, q) :: l, HFF.out, by simp [HLM.out], v8, rfl, ?_⟩⟩
                  have h := (Own.less HO8.out hz7).congr (F' := ints2 (evF ((2, q) :: l))) fun i j _ _ => cat_ev _ _ i j
                  rw [show 1 + l.length = (((2 : Int), q) :: l).length by simp; omega] at h
                  exact h
            · skip
              have HKD := Lib.hid (show kd = 1 by omega)
              have ek : ((kd : Int) == 1) = true := by rw [HKD.out]; rfl
              clear hk0
              have g2 := HTL.out q hqt
              have HEV := Lib.hid (show (M.evL n s)[kd * mx + q]? = some (5, q) from by rw [HMX.out, HKD.out]; rw [Nat.one_mul]; exact M.evL_five (by rw [← HMX.out]; exact hqt))
              go_upto_region 12 with fail
              have E8 := Lib.hid (show Blk (wr.alloc (.cells #[.int .i64 5, .int .i64 (q : Int), .int .i64 0] 38)) wr.heap.size 38 #[.int .i64 5, .int .i64 (q : Int), .int .i64 0] from Blk.new wr 38 #[.int .i64 5, .int .i64 (q : Int), .int .i64 0])
              have BE := Lib.hid (belowAlloc wr (.cells #[.int .i64 5, .int .i64 (q : Int), .int .i64 0] 38))
              generalize wr.alloc (.cells #[.int .i64 5, .int .i64 (q : Int), .int .i64 0] 38) = w4 at E8 BE ⊢
              clear d0 d1
              have HB4 := Lib.hid (HS.out.1.trans (BE.out.mono HS.out.1.size))
              have K4 := Lib.hid (HS.out.2.1.below' BE.out)
              have V4 := Lib.hid (CallV.below HS.out.2.2 BE.out)
              have hz4 : base ≤ w4.heap.size := Nat.le_trans hbase HB4.out.size
              have HAX := Lib.hid (HAP.out w4 _ V4.out hz4 5 q)
              have d0 := K4.out.cell 0
              have d1 := K4.out.cell 1
              have f0 := E8.out.cell 0
              have f1 := E8.out.cell 1
              have f2 := E8.out.cell 2
              go_wp2_with fail
              refine HAX.out.mono ?_
              rintro e w5 ⟨⟨v5, rfl, hv5⟩, hb⟩
              have HB5 := Lib.hid (HB4.out.trans (hb.mono HB4.out.size))
              have K5 := Lib.hid (K4.out.below' hb)
              have E5 := Lib.hid (E8.out.below' hb)
              have V5 := Lib.hid (CallV.below V4.out hb)
              have HB5' := Lib.hid (show base ≤ w5.heap.size from Nat.le_trans hbase HB5.out.size)
              obtain ⟨B, bc, B', bc', rfl, u1, u2⟩ := hv5
              have HV5 := Lib.hid (show CallV n (M.go n s 5 (q : Int) 0) base _ w5 from ⟨_, _, _, _, rfl, u1, u2⟩)
              clear hb HAX d0 d1 f0 f1 f2 u1 u2 HB4 K4 E8 V4 BE hz4
              cases hst : M.step n s 5 (q : Int) 0 with
              | none =>
                have HNN := Lib.hid (HN.out.more HEV.out (M.tryL_no hst))
                have hgo : M.go n s 5 (q : Int) 0 = s := by unfold M.go; rw [hst]; rfl
                rw [hgo] at HV5 ⊢
                clear hst hgo
                go_wp2_with fail
                go_roundw
                case rel => exact ⟨q + 1, by omega, by go_num, Lib.hid HNN.out, Lib.hid ⟨HB5.out.alloc HB5.out.size _, K5.out.alloc _, CallV.below V5.out (belowAlloc w5 _)⟩⟩
                case measure => simp [intOf]; omega
              | some t =>
                have hgo : M.go n s 5 (q : Int) 0 = t := by unfold M.go; rw [hst]; rfl
                rw [hgo] at HV5 ⊢
                have HWT := Lib.hid (HWF.out.step hst)
                have HTN := Lib.hid (fun (h : M.reachL n m t = none) => HN.out.more HEV.out (M.tryL_none hst h))
                have HTF := Lib.hid (fun (l : List (Int × Nat)) (h : M.reachL n m t = some l) => HN.out.found HEV.out (M.tryL_some hst h))
                clear hst hgo
                have N9 := Lib.hid (Blk.new w5 31 #[.slice B n bc, .slice B' t.k bc'])
                have HB6 := Lib.hid (HB5.out.alloc HB5.out.size (.cells #[.slice B n bc, .slice B' t.k bc'] 31))
                have K6 := Lib.hid (K5.out.alloc (.cells #[.slice B n bc, .slice B' t.k bc'] 31))
                have E6 := Lib.hid (E5.out.alloc (.cells #[.slice B n bc, .slice B' t.k bc'] 31))
                have V6 := Lib.hid (CallV.below V5.out (belowAlloc w5 (.cells #[.slice B n bc, .slice B' t.k bc'] 31)))
                have T6 := Lib.hid (CallV.below HV5.out (belowAlloc w5 (.cells #[.slice B n bc, .slice B' t.k bc'] 31)))
                go_upto_region 14 with fail
                generalize w5.alloc (.cells #[.slice B n bc, .slice B' t.k bc'] 31) = w6 at N9 HB6 K6 E6 V6 T6 ⊢
                generalize w5.heap.size = g9 at N9 ⊢
                clear HB5 K5 E5 V5 HV5 HB5'
                clear w5
                have HRX := Lib.hid (HIH.out t _ w6 T6.out (Nat.le_trans hbase HB6.out.size) HWT.out)
                have n0 := N9.out.cell 0
                have n1 := N9.out.cell 1
                go_wp2_with fail
                refine HRX.out.mono ?_
                rintro e w7 ⟨hb, ⟨hl, rfl⟩ | ⟨l, hl, hlm, u, rfl, ou⟩⟩
                · skip
                  have HNN := Lib.hid (HTN.out hl)
                  clear hl n0 n1
                  go_wp2_with fail
                  go_roundw
                  case rel => exact ⟨q + 1, by omega, by go_num, Lib.hid HNN.out, Lib.hid ⟨HB6.out.trans (hb.mono HB6.out.size), K6.out.below' hb, CallV.below V6.out hb⟩⟩
                  case measure => simp [intOf]; omega
                · skip
                  have HFF := Lib.hid (HTF.out l hl)
                  obtain ⟨U, uc, rfl⟩ := ou.form
                  have OU := Lib.hid ou
                  have HB7 := Lib.hid (HB6.out.trans (hb.mono HB6.out.size))
                  have E7 := Lib.hid (E6.out.below' hb)
                  have HLM := Lib.hid hlm
                  have hl100 : l.length ≤ 100 := by omega
                  clear hl n0 n1 hb ou hlm
                  have f0 := E7.out.cell 0
                  have f1 := E7.out.cell 1
                  have f2 := E7.out.cell 2
                  have hz7 := HB7.out.size
                  have O1 := Lib.hid (own_three (Blk.new w7 38 #[.int .i64 5, .int .i64 (q : Int), .int .i64 0]) (ints2 (evF [(5, q)])) rfl rfl rfl)
                  have OR := Lib.hid ((Own.alloc OU.out (.cells #[.int .i64 5, .int .i64 (q : Int), .int .i64 0] 38)).rdV)
                  go_wp2_with (at_builtin; go_must (refine wpList_cat rfl (.tmp 54) (.tmp 55) 22 rfl 38 i0 _ 3 24 Tryd.underlying22 MI.out.1 MI.out.2.1 MI.out.2.2.1 MI.out.2.2.2 rfl (by decide) (by decide) rfl O1.out (by decide) (by simp) (fun _ _ => rfl) rfl OR.out (by omega) ?_); intro v8 w8 o8 hg8 hat8; have HO8 := Lib.hid o8; have HG8 := Lib.hid hg8; clear o8 hg8 hat8)
                  go_ret2
                  refine ⟨(HB7.out.alloc hz7 _).grown HG8.out (by simp; omega) fun g hg => by have := (Own.block O1.out hg).1; omega, .inr ⟨(5, q) :: l, HFF.out, by simp [HLM.out], v8, rfl, ?_⟩⟩
                  have h := (Own.less HO8.out hz7).congr (F' := ints2 (evF ((5, q) :: l))) fun i j _ _ => cat_ev _ _ i j
                  rw [show 1 + l.length = (((5 : Int), q) :: l).length by simp; omega] at h
                  exact h
          · skip
            obtain rfl : q = mx := by omega
            have g2 := HTN.out
            go_wp2_with fail
            go_roundw
            case rel => exact ⟨kd + 1, by omega, by go_num, Lib.hid (by rw [Nat.add_mul, Nat.one_mul]; exact HN.out), HS⟩
            case measure => simp [intOf]; omega
      · skip
        obtain rfl : kd = 2 := by omega
        go_wp2_with fail
        go_ret2
        exact ⟨HS.out.1, .inl ⟨M.NoneQ.all (by have h := HN.out; rw [HMX.out] at h; rw [show M.mx n s + M.mx n s = 2 * M.mx n s by omega]; exact h), rfl⟩⟩
end
end Go.Proofs.YtfnfjmjejffjiaaDoor
