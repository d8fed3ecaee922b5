/- The reference's Run, where its arguments are valid. -/
import Derived.Test.YtfnfjmjejffjiaaDoorF4
import Derived.Test.YtfnfjmjejffjiaaDoorF6
import Derived.Test.YtfnfjmjejffjiaaDoorNMath
namespace Go.Proofs.YtfnfjmjejffjiaaDoor
open Go.RowKit

/-- five cells and what lies below -/
def Kept5 (Y : World) (p1 p2 p3 p4 p5 : Addr) (x1 x2 x3 x4 x5 : Value) (w' : World) : Prop := w'.cell? p1 = some x1 ∧ w'.cell? p2 = some x2 ∧ w'.cell? p3 = some x3 ∧ w'.cell? p4 = some x4 ∧ w'.cell? p5 = some x5 ∧ Below Y.heap.size Y w'
theorem kept5 {Y w' : World} {p1 p2 p3 p4 p5 : Addr} {x1 x2 x3 x4 x5 : Value} (h1 : Y.cell? p1 = some x1) (h2 : Y.cell? p2 = some x2) (h3 : Y.cell? p3 = some x3) (h4 : Y.cell? p4 = some x4) (h5 : Y.cell? p5 = some x5)
    (b1 : p1.block < Y.heap.size) (b2 : p2.block < Y.heap.size) (b3 : p3.block < Y.heap.size) (b4 : p4.block < Y.heap.size) (b5 : p5.block < Y.heap.size) (hb : Below Y.heap.size Y w') : Kept5 Y p1 p2 p3 p4 p5 x1 x2 x3 x4 x5 w' :=
  ⟨(hb.cell b1).trans h1, (hb.cell b2).trans h2, (hb.cell b3).trans h3, (hb.cell b4).trans h4, (hb.cell b5).trans h5, hb⟩
set_option maxRecDepth 100000 in
set_option maxHeartbeats 6400000 in
theorem rRun_ok (n o : Nat) (A : Option Addr) (en ec B : Nat) (E : Nat → Nat → Int) (w : World) (hn : 2 ≤ n ∧ n ≤ 4) (ho : o < n) (hen : en ≤ 200) (hR : Rd w B A 3 en E) (hB : B ≤ w.heap.size) :
    Calls Tryd.prog 8 #[.int .i64 (n : Int), .int .i64 (o : Int), .slice A en ec] w fun e w' => RunT n o E en w e w' ∧ Below w.heap.size w w' := by
  have hof : (0 : Int) ≤ o ∧ (o : Int) < n := by omega
  have HWF := Lib.hid (fun i => M.Wf.run (n := n) hof E i)
  have HCK := Lib.hid (show chkE n o en = 0 by unfold chkE; rw [if_neg (by omega), if_neg (by omega)])
  obtain ⟨bi, ki, kz0, kz1, kz2⟩ := info_parts bool_info
  have BI := Lib.hid (And.intro ki (And.intro kz0 (And.intro kz1 kz2)))
  have HR := Lib.hid hR
  have HN := Lib.hid hn
  have hn2 := hn.1
  have hn4 := hn.2
  clear ki kz0 kz1 kz2 hR hof hn
  have D0 := Lib.hid (Blk.new w 31 #[.slice none 0 0, .slice none 0 0])
  have hb0 := Lib.hid (belowAlloc w (.cells #[.slice none 0 0, .slice none 0 0] 31))
  go_enter Tryd.func8, Tryd.ntmps8
  go_upto_region 5 with (first
    | (go_at_call 20; refine (check_any _ _ _ _ _ _).mono ?_; rw [HCK.out]; rintro e w1 ⟨rfl, rfl⟩)
    | (go_at_call 21; go_must (refine (init_any n o _ hn4 ho).mono ?_); rintro e w1 ⟨⟨v1, rfl, A1, c1, A1', c1', rfl, o1, o2⟩, hb1⟩; have O1 := Lib.hid o1; have O2 := Lib.hid o2; have HB1 := Lib.hid hb1; clear o1 o2 hb1))
  have hz1 : w.heap.size + 1 ≤ w1.heap.size := by have := HB1.out.size; simpa using this
  obtain ⟨X, hX⟩ : ∃ X, X = w1.alloc (.cells #[.slice A1 n c1, .slice A1' 0 c1'] 31) := ⟨_, rfl⟩
  have CX := Lib.hid (show Blk X w1.heap.size 31 #[.slice A1 n c1, .slice A1' 0 c1'] by rw [hX]; exact Blk.new w1 _ _)
  have RX := Lib.hid (show Blk X w.heap.size 31 #[.slice none 0 0, .slice none 0 0] by rw [hX]; exact (D0.out.below HB1.out (by simp)).alloc _)
  have AX := Lib.hid (show Own X w.heap.size 51 3 (.slice A1 n c1) n (ints2 (M.init (o : Int)).c) by rw [hX]; exact (O1.out.less (by simp)).alloc _)
  have MX := Lib.hid (show Own X w.heap.size 54 4 (.slice A1' 0 c1') 0 (ints2 (M.init (o : Int)).m) by rw [hX]; exact (O2.out.less (by simp)).alloc _)
  have BX := Lib.hid (show Below w.heap.size w X by rw [hX]; exact (hb0.out.trans (HB1.out.mono (by simp))).alloc (by omega) _)
  obtain ⟨G, hG⟩ : ∃ G, G = w1.heap.size := ⟨_, rfl⟩
  rw [← hG] at CX hz1
  rw [← hG]
  first | rw [← hX] | (rw [show (M.init (o : Int)).k = 0 from rfl]; rw [← hX])
  clear hX hG HB1 O1 O2 hb0 D0
  go_wp2_with fail
  go_loopw [11, 12, 13, 14, 32] (fun d i _ _ _ wr => ∃ k : Nat, k ≤ en ∧ i = .int .i64 k ∧ (∃ A1 c1 A2 c2, Blk wr G 31 #[.slice A1 n c1, .slice A2 (M.runF n o E k).k c2] ∧ Own wr w.heap.size 51 3 (.slice A1 n c1) n (ints2 (M.runF n o E k).c) ∧ Own wr w.heap.size 54 4 (.slice A2 (M.runF n o E k).k c2) (M.runF n o E k).k (ints2 (M.runF n o E k).m)) ∧ Own wr w.heap.size 4 1 d k (bools (M.done n o E)) ∧ Blk wr w.heap.size 31 #[.slice none 0 0, .slice none 0 0] ∧ Below w.heap.size w wr) (fun _ i _ _ _ _ => en - (intOf i).toNat)
  case atStart => exact ⟨0, Nat.zero_le _, rfl, ⟨A1, c1, A1', c1', CX.out, AX.out, MX.out⟩, Own.nil_, RX.out, BX.out⟩
  case round =>
    obtain ⟨k, hk, rfl, ⟨A2, c2, A3, c3, hc, ha, hm⟩, hd, hr, hbw⟩ := hrel
    obtain ⟨dA, dc, rfl⟩ := hd.form
    have HC := Lib.hid hc
    have HA := Lib.hid ha
    have HM := Lib.hid hm
    have HD := Lib.hid hd
    have HRes := Lib.hid hr
    have HBW := Lib.hid hbw
    have hz := hbw.size
    have hGr := hc.lt
    by_cases hlt : k < en
    · obtain ⟨b, off, rfl, hb, e0, e1, e2⟩ := ((HR.out.below (hbw.mono hB))).at3 hlt
      have hbs : b < wr.heap.size := by omega
      have h0 := hc.cell 0
      have h1 := hc.cell 1
      have kx : decide (en ≤ k) = false := decide_eq_false (by omega)
      have HX := Lib.hid (show M.runF n o E (k + 1) = M.go n (M.runF n o E k) (E k 0) (E k 1) (E k 2) from rfl)
      have HDN := Lib.hid (show M.done n o E k = (M.step n (M.runF n o E k) (E k 0) (E k 1) (E k 2)).isSome from rfl)
      have K5 := Lib.hid (fun w' hb => kept5 (w' := w') h0 h1 e0 e1 e2 hGr hGr hbs hbs hbs hb)
      have VR := Lib.hid (show CallV n (M.runF n o E k) w.heap.size (.agg #[.slice A2 n c2, .slice A3 (M.runF n o E k).k c3]) wr from ⟨_, _, _, _, rfl, ha, hm⟩)
      have HK := Lib.hid (HWF.out k)
      generalize M.runF n o E k = s at *
      clear hc ha hm hd hr hbw
      have hRr := HRes.out.lt
      go_upto_region 9 with fail
      go_region_held3 (fun w' => w'.cell? ⟨G, 0, none⟩ = some (.slice A2 n c2) ∧ w'.cell? ⟨G, 1, none⟩ = some (.slice A3 s.k c3) ∧ w'.cell? ⟨b, off + k * 3, none⟩ = some (.int .i64 (E k 0)) ∧ w'.cell? ⟨b, off + k * 3 + 1, none⟩ = some (.int .i64 (E k 1)) ∧ w'.cell? ⟨b, off + k * 3 + 2, none⟩ = some (.int .i64 (E k 2)) ∧ Below wr.heap.size wr w')
        (first
          | assumption
          | exact K5.out _ (Below.refl _ _).drew
          | exact K5.out _ hS5
          | exact K5.out _ ((belowAlloc wr _).drew)
          | exact K5.out _ (Below.alloc hS5 (Below.size hS5) _)
          | exact K5.out _ ((Below.setCell (Below.setCell hS5 (by dsimp only; omega) _) (by dsimp only; omega) _))
          | exact K5.out _ ((Below.setCell (Below.setCell (Below.alloc hS5 (Below.size hS5) _) (by dsimp only; omega) _) (by dsimp only; omega) _))
          | fail)
        (first
          | (go_at_call 9; refine (rapply_any n w.heap.size s _ (E k 0) (E k 1) (E k 2) _ (by first | exact VR.out.below (Below.refl _ _).drew | exact VR.out.below (belowAlloc wr _).drew | fail) (by first | exact hz | (simp; omega)) HN.out HK.out).mono ?_; rintro e w5 ⟨⟨v5, rfl, A5, c5, A6, c6, rfl, o5, o6⟩, hbx⟩; have hS5 : Below wr.heap.size wr w5 := (by first | exact ((Below.refl _ _).drew).trans hbx | exact ((belowAlloc wr _).drew).trans (hbx.mono (by simp)) | fail); have O5 := Lib.hid o5; have O6 := Lib.hid o6; have hz5 := Below.size hS5; (first | (have mP := Lib.hid (Blk.below' (blk_dr.2 (Blk.new wr 31 #[.slice none 0 0, .slice none 0 0])) hbx); have g0 := mP.out.cell 0; have g1 := mP.out.cell 1; have f0 := mP.out.frz 0; have f1 := mP.out.frz 1; have hzP := mP.out.lt) | skip); clear o5 o6)
          | fail)
      · obtain ⟨X, hX⟩ : ∃ X, X = w5.alloc (.cells #[.slice A5 n c5, .slice A6 (M.go n s (E k 0) (E k 1) (E k 2)).k c6] 31) := ⟨_, rfl⟩
        have AX := Lib.hid (show Own X w.heap.size 51 3 (.slice A5 n c5) n (ints2 (M.go n s (E k 0) (E k 1) (E k 2)).c) by rw [hX]; exact O5.out.alloc _)
        have MX := Lib.hid (show Own X w.heap.size 54 4 (.slice A6 (M.go n s (E k 0) (E k 1) (E k 2)).k c6) (M.go n s (E k 0) (E k 1) (E k 2)).k (ints2 (M.go n s (E k 0) (E k 1) (E k 2)).m) by rw [hX]; exact O6.out.alloc _)
        have DX := Lib.hid (show Own X w.heap.size 4 1 (.slice dA k dc) k (bools (M.done n o E)) by rw [hX]; exact (HD.out.below hS5).alloc _)
        have GX := Lib.hid (show Blk X G 31 #[.slice A2 n c2, .slice A3 s.k c3] by rw [hX]; exact (HC.out.below hS5 hGr).alloc _)
        have RX := Lib.hid (show Blk X w.heap.size 31 #[.slice none 0 0, .slice none 0 0] by rw [hX]; exact (HRes.out.below hS5 hRr).alloc _)
        have TX := Lib.hid (show Blk X w5.heap.size 31 #[.slice A5 n c5, .slice A6 (M.go n s (E k 0) (E k 1) (E k 2)).k c6] by rw [hX]; exact Blk.new w5 _ _)
        have BX := Lib.hid (show Below w.heap.size w X by rw [hX]; exact (HBW.out.trans (hS5.mono hz)).alloc (by omega) _)
        have hGT : G ≠ w5.heap.size := by omega
        have hGw : w.heap.size ≠ G := by omega
        rw [← hX]
        clear hX
        have t0 := TX.out.cell 0
        have t1 := TX.out.cell 1
        have g0 := GX.out.cell 0
        have g1 := GX.out.cell 1
        have f0 := GX.out.frz 0
        have f1 := GX.out.frz 1
        go_upto_region 11 with fail
        obtain ⟨Y, hY⟩ : ∃ Y, Y = (X.setCell ⟨G, 0, none⟩ (.slice A5 n c5)).setCell ⟨G, 1, none⟩ (.slice A6 (M.go n s (E k 0) (E k 1) (E k 2)).k c6) := ⟨_, rfl⟩
        have AY := Lib.hid (show Own Y w.heap.size 51 3 (.slice A5 n c5) n (ints2 (M.go n s (E k 0) (E k 1) (E k 2)).c) by rw [hY]; exact AX.out.set2 GX.out (by decide) _ _)
        have MY := Lib.hid (show Own Y w.heap.size 54 4 (.slice A6 (M.go n s (E k 0) (E k 1) (E k 2)).k c6) (M.go n s (E k 0) (E k 1) (E k 2)).k (ints2 (M.go n s (E k 0) (E k 1) (E k 2)).m) by rw [hY]; exact MX.out.set2 GX.out (by decide) _ _)
        have DY := Lib.hid (show Own Y w.heap.size 4 1 (.slice dA k dc) k (bools (M.done n o E)) by rw [hY]; exact DX.out.set2 GX.out (by decide) _ _)
        have GY := Lib.hid (show Blk Y G 31 #[.slice A5 n c5, .slice A6 (M.go n s (E k 0) (E k 1) (E k 2)).k c6] by rw [hY]; exact (GX.out.set_ 0 _).set_ 1 _)
        have RY := Lib.hid (show Blk Y w.heap.size 31 #[.slice none 0 0, .slice none 0 0] by rw [hY]; exact (RX.out.far (p := ⟨G, 0, none⟩) hGw _).far (p := ⟨G, 1, none⟩) hGw _)
        have BY := Lib.hid (show Below w.heap.size w Y by rw [hY]; exact (BX.out.setCell (p := ⟨G, 0, none⟩) (by dsimp only; omega) _).setCell (p := ⟨G, 1, none⟩) (by dsimp only; omega) _)
        have hzY := BY.out.size
        rw [← hY]
        clear hY t0 t1 g0 g1 f0 f1
        go_wp2_with (at_builtin; go_must (refine wpList_app rfl (.tmp 42) (.tmp 44) 32 rfl w.heap.size 4 1 1 Tryd.underlying32 BI.out.1 BI.out.2.1 BI.out.2.2.1 BI.out.2.2.2 rfl (by decide) (by decide) (DY.out.alloc _) rfl (by omega) (by simp; omega) Y.heap.size 1 (fun _ => .bool (M.step n s (E k 0) (E k 1) (E k 2)).isSome) rfl (cell_last rfl) (fun _ _ => rfl) ?_); intro v6 w6 o6 hg6 hat6; obtain ⟨A7, z7, rfl⟩ := o6.form; have HO6 := Lib.hid o6; have HG6 := Lib.hid hg6; clear o6 hg6 hat6)
        go_roundw
        case rel =>
          refine ⟨k + 1, by omega, by go_num, ⟨A5, c5, A6, c6, ?_, ?_, ?_⟩, ?_, ?_, ?_⟩
          · rw [HX.out]; exact Blk.grown_own (GY.out.alloc _) (DY.out.alloc _) (by decide) HG6.out
          · rw [HX.out]; exact Own.apart_grown (AY.out.alloc _) (Own.apart_type DY.out AY.out (by decide)) HG6.out
          · rw [HX.out]; exact Own.apart_grown (MY.out.alloc _) (Own.apart_type DY.out MY.out (by decide)) HG6.out
          · refine HO6.out.congr fun i j hi _ => ?_
            have := app_bools (f := M.done n o E) (k := k) i j hi
            rw [HDN.out] at this
            exact this
          · exact Blk.grown_own (RY.out.alloc _) (DY.out.alloc _) (by decide) HG6.out
          · exact (BY.out.alloc hzY _).grown HG6.out (by simp; omega) (fun q hq => (DY.out.block hq).1)
        case measure => simp [intOf]; omega
      · obtain ⟨X, hX⟩ : ∃ X, X = (w5.setCell ⟨wr.heap.size, 0, none⟩ (.slice A5 n c5)).setCell ⟨wr.heap.size, 1, none⟩ (.slice A6 (M.go n s (E k 0) (E k 1) (E k 2)).k c6) := ⟨_, rfl⟩
        have AX := Lib.hid (show Own X w.heap.size 51 3 (.slice A5 n c5) n (ints2 (M.go n s (E k 0) (E k 1) (E k 2)).c) by rw [hX]; exact O5.out.set2 mP.out (by decide) _ _)
        have MX := Lib.hid (show Own X w.heap.size 54 4 (.slice A6 (M.go n s (E k 0) (E k 1) (E k 2)).k c6) (M.go n s (E k 0) (E k 1) (E k 2)).k (ints2 (M.go n s (E k 0) (E k 1) (E k 2)).m) by rw [hX]; exact O6.out.set2 mP.out (by decide) _ _)
        have DX := Lib.hid (show Own X w.heap.size 4 1 (.slice dA k dc) k (bools (M.done n o E)) by rw [hX]; exact (HD.out.below hS5).set2 mP.out (by decide) _ _)
        have GX := Lib.hid (show Blk X G 31 #[.slice A2 n c2, .slice A3 s.k c3] by rw [hX]; exact ((HC.out.below hS5 hGr).far (p := ⟨wr.heap.size, 0, none⟩) (by show _ ≠ wr.heap.size; omega) _).far (p := ⟨wr.heap.size, 1, none⟩) (by show _ ≠ wr.heap.size; omega) _)
        have RX := Lib.hid (show Blk X w.heap.size 31 #[.slice none 0 0, .slice none 0 0] by rw [hX]; exact ((HRes.out.below hS5 hRr).far (p := ⟨wr.heap.size, 0, none⟩) (by show _ ≠ wr.heap.size; omega) _).far (p := ⟨wr.heap.size, 1, none⟩) (by show _ ≠ wr.heap.size; omega) _)
        have TX := Lib.hid (show Blk X wr.heap.size 31 #[.slice A5 n c5, .slice A6 (M.go n s (E k 0) (E k 1) (E k 2)).k c6] by rw [hX]; exact (mP.out.set_ 0 _).set_ 1 _)
        have BX := Lib.hid (show Below w.heap.size w X by rw [hX]; exact ((HBW.out.trans (hS5.mono hz)).setCell (p := ⟨wr.heap.size, 0, none⟩) hz _).setCell (p := ⟨wr.heap.size, 1, none⟩) hz _)
        have hGT : G ≠ wr.heap.size := by omega
        have hGw : w.heap.size ≠ G := by omega
        rw [← hX]
        clear hX
        have t0 := TX.out.cell 0
        have t1 := TX.out.cell 1
        have g0 := GX.out.cell 0
        have g1 := GX.out.cell 1
        have f0 := GX.out.frz 0
        have f1 := GX.out.frz 1
        go_upto_region 11 with fail
        obtain ⟨Y, hY⟩ : ∃ Y, Y = (X.setCell ⟨G, 0, none⟩ (.slice A5 n c5)).setCell ⟨G, 1, none⟩ (.slice A6 (M.go n s (E k 0) (E k 1) (E k 2)).k c6) := ⟨_, rfl⟩
        have AY := Lib.hid (show Own Y w.heap.size 51 3 (.slice A5 n c5) n (ints2 (M.go n s (E k 0) (E k 1) (E k 2)).c) by rw [hY]; exact AX.out.set2 GX.out (by decide) _ _)
        have MY := Lib.hid (show Own Y w.heap.size 54 4 (.slice A6 (M.go n s (E k 0) (E k 1) (E k 2)).k c6) (M.go n s (E k 0) (E k 1) (E k 2)).k (ints2 (M.go n s (E k 0) (E k 1) (E k 2)).m) by rw [hY]; exact MX.out.set2 GX.out (by decide) _ _)
        have DY := Lib.hid (show Own Y w.heap.size 4 1 (.slice dA k dc) k (bools (M.done n o E)) by rw [hY]; exact DX.out.set2 GX.out (by decide) _ _)
        have GY := Lib.hid (show Blk Y G 31 #[.slice A5 n c5, .slice A6 (M.go n s (E k 0) (E k 1) (E k 2)).k c6] by rw [hY]; exact (GX.out.set_ 0 _).set_ 1 _)
        have RY := Lib.hid (show Blk Y w.heap.size 31 #[.slice none 0 0, .slice none 0 0] by rw [hY]; exact (RX.out.far (p := ⟨G, 0, none⟩) hGw _).far (p := ⟨G, 1, none⟩) hGw _)
        have BY := Lib.hid (show Below w.heap.size w Y by rw [hY]; exact (BX.out.setCell (p := ⟨G, 0, none⟩) (by dsimp only; omega) _).setCell (p := ⟨G, 1, none⟩) (by dsimp only; omega) _)
        have hzY := BY.out.size
        rw [← hY]
        clear hY t0 t1 g0 g1 f0 f1
        go_wp2_with (at_builtin; go_must (refine wpList_app rfl (.tmp 42) (.tmp 44) 32 rfl w.heap.size 4 1 1 Tryd.underlying32 BI.out.1 BI.out.2.1 BI.out.2.2.1 BI.out.2.2.2 rfl (by decide) (by decide) (DY.out.alloc _) rfl (by omega) (by simp; omega) Y.heap.size 1 (fun _ => .bool (M.step n s (E k 0) (E k 1) (E k 2)).isSome) rfl (cell_last rfl) (fun _ _ => rfl) ?_); intro v6 w6 o6 hg6 hat6; obtain ⟨A7, z7, rfl⟩ := o6.form; have HO6 := Lib.hid o6; have HG6 := Lib.hid hg6; clear o6 hg6 hat6)
        go_roundw
        case rel =>
          refine ⟨k + 1, by omega, by go_num, ⟨A5, c5, A6, c6, ?_, ?_, ?_⟩, ?_, ?_, ?_⟩
          · rw [HX.out]; exact Blk.grown_own (GY.out.alloc _) (DY.out.alloc _) (by decide) HG6.out
          · rw [HX.out]; exact Own.apart_grown (AY.out.alloc _) (Own.apart_type DY.out AY.out (by decide)) HG6.out
          · rw [HX.out]; exact Own.apart_grown (MY.out.alloc _) (Own.apart_type DY.out MY.out (by decide)) HG6.out
          · refine HO6.out.congr fun i j hi _ => ?_
            have := app_bools (f := M.done n o E) (k := k) i j hi
            rw [HDN.out] at this
            exact this
          · exact Blk.grown_own (RY.out.alloc _) (DY.out.alloc _) (by decide) HG6.out
          · exact (BY.out.alloc hzY _).grown HG6.out (by simp; omega) (fun q hq => (DY.out.block hq).1)
        case measure => simp [intOf]; omega
    · obtain rfl : k = en := by omega
      have c0 := hc.cell 0
      have c1 := hc.cell 1
      have r0 := hr.cell 0
      have r1 := hr.cell 1
      have q0 := hr.frz 0
      have q1 := hr.frz 1
      have kx : decide (k ≤ k) = true := decide_eq_true (Nat.le_refl _)
      clear hc ha hm hd hr hbw
      go_wp2_with fail
      refine bodyPost_ret (results_cell_row2 rfl _ _ w.heap.size 31 #[.slice A2 n c2, .slice A3 (M.runF n o E k).k c3] (0, 0) _ rfl ((HRes.out.set_ 0 _).set_ 1 _) Tryd.underlying31 rfl call_size) rfl ⟨⟨_, _, rfl, ⟨_, _, _, _, rfl, HA.out.set2 HRes.out (by decide) _ _, HM.out.set2 HRes.out (by decide) _ _⟩, HD.out.set2 HRes.out (by decide) _ _⟩, ?_⟩
      exact (HBW.out.setCell (p := ⟨w.heap.size, 0, none⟩) (Nat.le_refl _) _).setCell (p := ⟨w.heap.size, 1, none⟩) (Nat.le_refl _) _
end Go.Proofs.YtfnfjmjejffjiaaDoor
/- The reference's Run for bad arguments; who is responsible. -/
namespace Go.Proofs.YtfnfjmjejffjiaaDoor
open Go.RowKit

/-- what a run with bad arguments leaves -/
def BadV (e0 : Int) (w : World) (e : Ending) (w' : World) : Prop := e = .returned (.tuple #[.agg #[.slice none 0 0, .slice none 0 0], .slice none 0 0, .int .i64 e0]) ∧ Below w.heap.size w w'
set_option maxRecDepth 100000 in
set_option maxHeartbeats 3200000 in
theorem rRun_bad (n o : Int) (A : Option Addr) (en ec : Nat) (w : World) (h : chkE n o en ≠ 0) :
    Calls Tryd.prog 8 #[.int .i64 n, .int .i64 o, .slice A en ec] w (BadV (chkE n o en) w) := by
  obtain ⟨E0, hE0⟩ : ∃ E0, E0 = chkE n o en := ⟨_, rfl⟩
  rw [← hE0] at h ⊢
  have H2 := Lib.hid hE0
  have g1 : (E0 != 0) = true := by rw [bne_iff_ne]; exact h
  have D0 := Lib.hid (Blk.new w 31 #[.slice none 0 0, .slice none 0 0])
  clear hE0 h
  go_enter Tryd.func8, Tryd.ntmps8
  go_wp2_with (go_at_call 20; refine (check_any _ _ _ _ _ _).mono ?_; rw [← H2.out]; rintro e w1 ⟨rfl, rfl⟩)
  refine bodyPost_ret (results_cell_row2 rfl _ _ w.heap.size 31 #[.slice none 0 0, .slice none 0 0] (0, 0) _ rfl D0.out Tryd.underlying31 rfl call_size) rfl ⟨rfl, belowAlloc w _⟩
/-- what responsible leaves -/
def RspV (n : Nat) (s : M.St) (w : World) (e : Ending) (w' : World) : Prop := ∃ x, e = .returned x ∧ Own w' w.heap.size 3 1 x (M.elP n (M.isResp s)).length (ints (nats (M.elP n (M.isResp s))))
theorem elP_more {n m : Nat} {p : Nat → Bool} (hnm : n ≤ m) (h : ∀ i, n ≤ i → i < m → p i = false) : M.elP m p = M.elP n p := by
  induction m with
  | zero => obtain rfl : n = 0 := by omega
            rfl
  | succ m ih =>
    by_cases e : n = m + 1
    · rw [e]
    · rw [M.elP_succ, ih (by omega) fun i h1 h2 => h i h1 (by omega), h m (by omega) (by omega)]; simp
theorem resp_eq {n : Nat} {s : M.St} (hn : n ≤ 4) (hs : M.Sil n s) : M.resp s = M.elP n (M.isResp s) :=
  elP_more hn fun i h1 _ => by
    have := hs i h1 0
    unfold M.isResp
    simp [this]
end Go.Proofs.YtfnfjmjejffjiaaDoor
/- The program's runs for bad arguments. -/
namespace Go.Proofs.YtfnfjmjejffjiaaDoor
open Go.RowKit

set_option maxRecDepth 100000 in
set_option maxHeartbeats 6400000 in
theorem resp_gen (a0 a1 a2 : Value) (n : Nat) (s : M.St) (e0 : Int) (w : World) (hrun : Calls Tryd.prog 15 #[a0, a1, a2] w fun e w' => (∃ cs bv, e = .returned (.tuple #[.agg cs, bv, .int .i64 e0]) ∧ Sv cs (stF n s)) ∧ Below w.heap.size w w') :
    Calls Tryd.prog 12 #[a0, a1, a2] w fun e w' => (∃ v, e = .returned (.tuple #[v, .int .i64 e0]) ∧ Own w' w.heap.size 3 1 v (M.resp s).length (ints (nats (M.resp s)))) ∧ Below w.heap.size w w' := by
  obtain ⟨i0, hi, hz0, hz1, hz2⟩ := info_parts int_info
  have MI := Lib.hid (And.intro hi (And.intro hz0 (And.intro hz1 hz2)))
  have HRun := Lib.hid hrun
  clear hi hz0 hz1 hz2 hrun
  go_enter Tryd.func12, Tryd.ntmps12
  go_upto_region 3 with (first
    | (go_at_call 15; refine HRun.out.mono ?_; rintro e w1 ⟨⟨cs, bv, rfl, sv⟩, hb1⟩; have SV := Lib.hid sv; have HB1 := Lib.hid hb1; clear sv hb1)
    | (refine wpList_stS rfl (.tmp 8) (.tmp 19) rfl rfl rfl (Blk.new w1 _ litZ) rfl SV.out.1 SV.out.one ?_; intro w2 b2 g2; have B2 := Lib.hid b2; have G2 := Lib.hid g2; clear b2 g2))
  have hz1 : w.heap.size ≤ w1.heap.size := HB1.out.size
  obtain ⟨S, hS⟩ : ∃ S, S = w1.heap.size := ⟨_, rfl⟩
  rw [← hS] at B2 G2 hz1
  have S2 := Lib.hid (Sf.of B2.out SV.out)
  have L2 := Lib.hid (show Below w.heap.size w w2 from (HB1.out.alloc (by omega) (.cells litZ 57)).grown G2.out (by simp; omega) (fun q hq => by injection hq with hq; omega))
  have hSw : S < w2.heap.size := B2.out.lt
  rw [← hS]
  clear hS B2 G2 HB1 SV
  have d1 : w2.cell? ⟨S, 1, none⟩ = some (.int .i64 (s.c 0 0)) := S2.out.cell (by omega)
  have d2 : w2.cell? ⟨S, 2, none⟩ = some (.int .i64 (s.c 0 1)) := S2.out.cell (by omega)
  have d3 : w2.cell? ⟨S, 3, none⟩ = some (.int .i64 (s.c 0 2)) := S2.out.cell (by omega)
  have d4 : w2.cell? ⟨S, 4, none⟩ = some (.int .i64 (s.c 1 0)) := S2.out.cell (by omega)
  have d5 : w2.cell? ⟨S, 5, none⟩ = some (.int .i64 (s.c 1 1)) := S2.out.cell (by omega)
  have d6 : w2.cell? ⟨S, 6, none⟩ = some (.int .i64 (s.c 1 2)) := S2.out.cell (by omega)
  have d7 : w2.cell? ⟨S, 7, none⟩ = some (.int .i64 (s.c 2 0)) := S2.out.cell (by omega)
  have d8 : w2.cell? ⟨S, 8, none⟩ = some (.int .i64 (s.c 2 1)) := S2.out.cell (by omega)
  have d9 : w2.cell? ⟨S, 9, none⟩ = some (.int .i64 (s.c 2 2)) := S2.out.cell (by omega)
  have d10 : w2.cell? ⟨S, 10, none⟩ = some (.int .i64 (s.c 3 0)) := S2.out.cell (by omega)
  have d11 : w2.cell? ⟨S, 11, none⟩ = some (.int .i64 (s.c 3 1)) := S2.out.cell (by omega)
  have d12 : w2.cell? ⟨S, 12, none⟩ = some (.int .i64 (s.c 3 2)) := S2.out.cell (by omega)
  go_wp2_with fail
  clear d1 d2 d3 d4 d5 d6 d7 d8 d9 d10 d11 d12
  go_loopw [11, 12, 13, 24] (fun v _ _ i wr => ∃ k : Nat, k ≤ 4 ∧ i = .int .i64 k ∧ Own wr w2.heap.size 3 1 v (M.elP k (M.isResp s)).length (ints (nats (M.elP k (M.isResp s)))) ∧ Below w2.heap.size w2 wr) (fun _ _ _ i _ => 4 - (intOf i).toNat)
  case atStart => exact ⟨0, Nat.zero_le _, rfl, Own.nil_, Below.refl _ _⟩
  case round =>
    obtain ⟨k, hk, rfl, o0, hbw⟩ := hrel
    obtain ⟨vA, vc, rfl⟩ := o0.form
    have O0 := Lib.hid o0
    have HB := Lib.hid hbw
    have hz := hbw.size
    have hl := M.elP_len k (M.isResp s)
    clear o0 hbw
    by_cases hlt : k < 4
    · have x1 := idx_agg s.c k hlt
      have HE := Lib.hid (M.elP_succ k (M.isResp s))
      have OA := Lib.hid (O0.out.alloc (.cells #[.int .i64 (s.c k 0), .int .i64 (s.c k 1), .int .i64 (s.c k 2)] 51))
      have HBA := Lib.hid (HB.out.alloc hz (.cells #[.int .i64 (s.c k 0), .int .i64 (s.c k 1), .int .i64 (s.c k 2)] 51))
      by_cases h1 : s.c k 0 = 1
      · have e1 : (s.c k 0 == 1) = true := by rw [h1]; rfl
        have HM := Lib.hid (show M.isResp s k = true by unfold M.isResp; simp [h1])
        clear h1
        go_wp2_with (at_builtin; refine wpList_app rfl (.tmp 41) (.tmp 43) 44 rfl w2.heap.size 3 1 8 Tryd.underlying44 MI.out.1 MI.out.2.1 MI.out.2.2.1 MI.out.2.2.2 rfl (by decide) (by decide) (OA.out.alloc _) rfl (by omega) (by simp; omega) (wr.heap.size + 1) 1 (fun _ => .int .i64 (k : Int)) rfl (cell_last (by simp)) (fun _ _ => rfl) ?_; intro v6 w6 o6 hg6 hat6; obtain ⟨A6, z6, rfl⟩ := o6.form; have HO6 := Lib.hid o6; have HG6 := Lib.hid hg6; clear o6 hg6 hat6)
        go_roundw
        case rel =>
          refine ⟨k + 1, by omega, by go_num, ?_, (HBA.out.alloc (by simp; omega) _).grown HG6.out (by simp; omega) (fun q hq => (O0.out.block hq).1)⟩
          rw [HE.out, HM.out]
          simp only [if_true, List.length_append]
          exact HO6.out.congr fun i j hi _ => app_nats i j hi
        case measure => simp [intOf]; omega
      · have e1 : (s.c k 0 == 1) = false := by rw [beq_eq_false_iff_ne]; exact h1
        by_cases h2 : s.c k 0 = 2
        · have e2 : (s.c k 0 == 2) = true := by rw [h2]; rfl
          have HM := Lib.hid (show M.isResp s k = true by unfold M.isResp; simp [h2])
          clear h1 h2
          go_wp2_with (at_builtin; refine wpList_app rfl (.tmp 41) (.tmp 43) 44 rfl w2.heap.size 3 1 8 Tryd.underlying44 MI.out.1 MI.out.2.1 MI.out.2.2.1 MI.out.2.2.2 rfl (by decide) (by decide) (OA.out.alloc _) rfl (by omega) (by simp; omega) (wr.heap.size + 1) 1 (fun _ => .int .i64 (k : Int)) rfl (cell_last (by simp)) (fun _ _ => rfl) ?_; intro v6 w6 o6 hg6 hat6; obtain ⟨A6, z6, rfl⟩ := o6.form; have HO6 := Lib.hid o6; have HG6 := Lib.hid hg6; clear o6 hg6 hat6)
          go_roundw
          case rel =>
            refine ⟨k + 1, by omega, by go_num, ?_, (HBA.out.alloc (by simp; omega) _).grown HG6.out (by simp; omega) (fun q hq => (O0.out.block hq).1)⟩
            rw [HE.out, HM.out]
            simp only [if_true, List.length_append]
            exact HO6.out.congr fun i j hi _ => app_nats i j hi
          case measure => simp [intOf]; omega
        · have e2 : (s.c k 0 == 2) = false := by rw [beq_eq_false_iff_ne]; exact h2
          by_cases h3 : s.c k 0 = 3
          · have e3 : (s.c k 0 == 3) = true := by rw [h3]; rfl
            have HM := Lib.hid (show M.isResp s k = true by unfold M.isResp; simp [h3])
            clear h1 h2 h3
            go_wp2_with (at_builtin; refine wpList_app rfl (.tmp 41) (.tmp 43) 44 rfl w2.heap.size 3 1 8 Tryd.underlying44 MI.out.1 MI.out.2.1 MI.out.2.2.1 MI.out.2.2.2 rfl (by decide) (by decide) (OA.out.alloc _) rfl (by omega) (by simp; omega) (wr.heap.size + 1) 1 (fun _ => .int .i64 (k : Int)) rfl (cell_last (by simp)) (fun _ _ => rfl) ?_; intro v6 w6 o6 hg6 hat6; obtain ⟨A6, z6, rfl⟩ := o6.form; have HO6 := Lib.hid o6; have HG6 := Lib.hid hg6; clear o6 hg6 hat6)
            go_roundw
            case rel =>
              refine ⟨k + 1, by omega, by go_num, ?_, (HBA.out.alloc (by simp; omega) _).grown HG6.out (by simp; omega) (fun q hq => (O0.out.block hq).1)⟩
              rw [HE.out, HM.out]
              simp only [if_true, List.length_append]
              exact HO6.out.congr fun i j hi _ => app_nats i j hi
            case measure => simp [intOf]; omega
          · have e3 : (s.c k 0 == 3) = false := by rw [beq_eq_false_iff_ne]; exact h3
            have HM := Lib.hid (show M.isResp s k = false by unfold M.isResp; simp [h1, h2, h3])
            clear h1 h2 h3
            go_wp2_with fail
            go_roundw
            case rel =>
              refine ⟨k + 1, by omega, by go_num, ?_, HBA.out⟩
              rw [HE.out, HM.out]
              simp only [Bool.false_eq_true, if_false, List.append_nil]
              exact OA.out
            case measure => simp [intOf]; omega
    · obtain rfl : k = 4 := by omega
      go_wp2_with fail
      go_ret2
      exact ⟨⟨.slice vA _ vc, rfl, O0.out.less L2.out.size⟩, L2.out.trans (HB.out.mono L2.out.size)⟩
/-- what run leaves for bad arguments -/
def RunB (e0 : Int) (w : World) (e : Ending) (w' : World) : Prop := e = .returned (.tuple #[.agg litZ, .slice none 0 0, .int .i64 e0]) ∧ Below w.heap.size w w'
theorem run_bad_end {tmps : Array Value} {w w2 : World} {e0 e1 : Int} (h6 : tmps.getD 6 undef = .pointer (some ⟨w.heap.size, 0, none⟩)) (h7 : tmps.getD 7 undef = .slice none 0 0) (h8 : tmps.getD 8 undef = .int .i64 e1) (hb : Blk w2 w.heap.size 57 litZ) (hg : (w.alloc (.cells litZ 57)).grownBy w2 (some w.heap.size)) (he : e0 = e1) :
    bodyPost Tryd.prog Tryd.f15 (RunB e0 w) .ret { tmps := tmps, defers := [] } w2 := by
  subst he
  refine bodyPost_ret (results_cell_row2 rfl _ _ w.heap.size 57 litZ (0, 0) _ h6 hb Tryd.underlying57 rfl state_size) rfl ⟨by rw [h7, h8], ?_⟩
  exact (belowAlloc w (.cells litZ 57)).grown hg (by simp) (fun q hq => by injection hq with hq; omega)
set_option maxRecDepth 100000 in
set_option maxHeartbeats 3200000 in
theorem run_bad (n o : Int) (A : Option Addr) (en ec : Nat) (w : World) (h : chkE n o en ≠ 0) :
    Calls Tryd.prog 15 #[.int .i64 n, .int .i64 o, .slice A en ec] w (RunB (chkE n o en) w) := by
  by_cases h1 : n < 2
  · have g1 : decide (n < 2) = true := decide_eq_true h1
    go_enter Tryd.func15, Tryd.ntmps15
    go_wp2_with (refine wpList_stS rfl (.tmp 6) (.tmp 28) rfl rfl rfl (cs := litZ) (Blk.new w _ litZ) rfl rfl (litN_sv 0).one ?_; intro w2 b2 g2; have B2 := Lib.hid b2; have G2 := Lib.hid g2; clear b2 g2)
    exact run_bad_end rfl rfl rfl B2.out G2.out (by unfold chkE; rw [if_pos (by omega)])
  · have g1 : decide (n < 2) = false := decide_eq_false h1
    by_cases h2 : 4 < n
    · have g2 : decide (4 < n) = true := decide_eq_true h2
      go_enter Tryd.func15, Tryd.ntmps15
      go_wp2_with (refine wpList_stS rfl (.tmp 6) (.tmp 28) rfl rfl rfl (cs := litZ) (Blk.new w _ litZ) rfl rfl (litN_sv 0).one ?_; intro w2 b2 g2; have B2 := Lib.hid b2; have G2 := Lib.hid g2; clear b2 g2)
      exact run_bad_end rfl rfl rfl B2.out G2.out (by unfold chkE; rw [if_pos (by omega)])
    · have g2 : decide (4 < n) = false := decide_eq_false h2
      by_cases h3 : o < 0
      · have g3 : decide (o < 0) = true := decide_eq_true h3
        go_enter Tryd.func15, Tryd.ntmps15
        go_wp2_with (refine wpList_stS rfl (.tmp 6) (.tmp 28) rfl rfl rfl (cs := litZ) (Blk.new w _ litZ) rfl rfl (litN_sv 0).one ?_; intro w2 b2 g2; have B2 := Lib.hid b2; have G2 := Lib.hid g2; clear b2 g2)
        exact run_bad_end rfl rfl rfl B2.out G2.out (by unfold chkE; rw [if_pos (by omega)])
      · have g3 : decide (o < 0) = false := decide_eq_false h3
        by_cases h4 : n ≤ o
        · have g4 : decide (n ≤ o) = true := decide_eq_true h4
          go_enter Tryd.func15, Tryd.ntmps15
          go_wp2_with (refine wpList_stS rfl (.tmp 6) (.tmp 28) rfl rfl rfl (cs := litZ) (Blk.new w _ litZ) rfl rfl (litN_sv 0).one ?_; intro w2 b2 g2; have B2 := Lib.hid b2; have G2 := Lib.hid g2; clear b2 g2)
          exact run_bad_end rfl rfl rfl B2.out G2.out (by unfold chkE; rw [if_pos (by omega)])
        · have g4 : decide (n ≤ o) = false := decide_eq_false h4
          by_cases h5 : 200 < en
          · have g5 : decide ((200 : Int) < (en : Int)) = true := decide_eq_true (by omega)
            go_enter Tryd.func15, Tryd.ntmps15
            go_wp2_with (refine wpList_stS rfl (.tmp 6) (.tmp 32) rfl rfl rfl (cs := litZ) (Blk.new w _ litZ) rfl rfl (litN_sv 0).one ?_; intro w2 b2 g2; have B2 := Lib.hid b2; have G2 := Lib.hid g2; clear b2 g2)
            exact run_bad_end rfl rfl rfl B2.out G2.out (by unfold chkE; rw [if_neg (by omega), if_pos h5])
          · exact absurd (by unfold chkE; rw [if_neg (by omega), if_neg h5]) h
theorem resp_bad (n o : Int) (A : Option Addr) (en ec : Nat) (w : World) (h : chkE n o en ≠ 0) :
    Calls Tryd.prog 12 #[.int .i64 n, .int .i64 o, .slice A en ec] w fun e w' => (∃ v, e = .returned (.tuple #[v, .int .i64 (chkE n o en)]) ∧ Own w' w.heap.size 3 1 v 0 (ints (nats []))) ∧ Below w.heap.size w w' := by
  have hz : M.resp zeroS = [] := elP_none fun i _ => rfl
  have := resp_gen (.int .i64 n) (.int .i64 o) (.slice A en ec) 0 zeroS (chkE n o en) w ((run_bad n o A en ec w h).mono (fun e w' hh => ⟨⟨litZ, .slice none 0 0, hh.1, litN_sv 0⟩, hh.2⟩))
  rw [hz] at this
  exact this
end Go.Proofs.YtfnfjmjejffjiaaDoor
