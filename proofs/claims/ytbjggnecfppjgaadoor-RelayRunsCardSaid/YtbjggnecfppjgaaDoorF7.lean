/- The reference's Run, where its arguments are valid. -/
import Derived.Test.YtbjggnecfppjgaaDoorF4
import Derived.Test.YtbjggnecfppjgaaDoorF6
namespace Go.Proofs.YtbjggnecfppjgaaDoor
open Go.RowKit

/-- five cells and what lies below -/
def Kept5 (Y : World) (p1 p2 p3 p4 p5 : Addr) (x1 x2 x3 x4 x5 : Value) (w' : World) : Prop := w'.cell? p1 = some x1 ∧ w'.cell? p2 = some x2 ∧ w'.cell? p3 = some x3 ∧ w'.cell? p4 = some x4 ∧ w'.cell? p5 = some x5 ∧ Below Y.heap.size Y w'
theorem kept5 {Y w' : World} {p1 p2 p3 p4 p5 : Addr} {x1 x2 x3 x4 x5 : Value} (h1 : Y.cell? p1 = some x1) (h2 : Y.cell? p2 = some x2) (h3 : Y.cell? p3 = some x3) (h4 : Y.cell? p4 = some x4) (h5 : Y.cell? p5 = some x5)
    (b1 : p1.block < Y.heap.size) (b2 : p2.block < Y.heap.size) (b3 : p3.block < Y.heap.size) (b4 : p4.block < Y.heap.size) (b5 : p5.block < Y.heap.size) (hb : Below Y.heap.size Y w') : Kept5 Y p1 p2 p3 p4 p5 x1 x2 x3 x4 x5 w' :=
  ⟨(hb.cell b1).trans h1, (hb.cell b2).trans h2, (hb.cell b3).trans h3, (hb.cell b4).trans h4, (hb.cell b5).trans h5, hb⟩
set_option maxRecDepth 100000 in
set_option maxHeartbeats 6400000 in
theorem rRun_ok (n o : Nat) (A : Option Addr) (en ec B : Nat) (E : Nat → Nat → Int) (w : World) (hn : 2 ≤ n ∧ n ≤ 4) (ho : o < n) (hen : en ≤ 200) (hR : Rd w B A 3 en E) (hB : B ≤ w.heap.size) :
    Calls Tryd.prog 17 #[.int .i64 (n : Int), .int .i64 (o : Int), .slice A en ec] w fun e w' => RunT n o E en w e w' ∧ Below w.heap.size w w' := by
  have hof : (0 : Int) ≤ o ∧ (o : Int) < n := by omega
  have HWF := Lib.hid (fun i => M.Wf.run (n := n) hof E i)
  have HCK := Lib.hid (show chkE n o en = 0 by unfold chkE; rw [if_neg (by omega), if_neg (by omega)])
  obtain ⟨bi, ki, kz0, kz1, kz2⟩ := info_parts bool_info
  have BI := Lib.hid (And.intro ki (And.intro kz0 (And.intro kz1 kz2)))
  have HR := Lib.hid hR
  have HN := Lib.hid hn
  have hn2 := hn.1
  have hn4 := hn.2
  clear ki kz0 kz1 kz2 hR hof hn
  have D0 := Lib.hid (Blk.new w 42 #[.slice none 0 0, .slice none 0 0])
  have hb0 := Lib.hid (belowAlloc w (.cells #[.slice none 0 0, .slice none 0 0] 42))
  go_enter Tryd.func17, Tryd.ntmps17
  go_upto_region 5 with (first
    | (go_at_call 22; refine (check_any _ _ _ _ _ _).mono ?_; rw [HCK.out]; rintro e w1 ⟨rfl, rfl⟩)
    | (go_at_call 38; go_must (refine (init_any n o _ hn4 ho).mono ?_); rintro e w1 ⟨⟨v1, rfl, A1, c1, A1', c1', rfl, o1, o2⟩, hb1⟩; have O1 := Lib.hid o1; have O2 := Lib.hid o2; have HB1 := Lib.hid hb1; clear o1 o2 hb1))
  have hz1 : w.heap.size + 1 ≤ w1.heap.size := by have := HB1.out.size; simpa using this
  obtain ⟨X, hX⟩ : ∃ X, X = w1.alloc (.cells #[.slice A1 n c1, .slice A1' 0 c1'] 42) := ⟨_, rfl⟩
  have CX := Lib.hid (show Blk X w1.heap.size 42 #[.slice A1 n c1, .slice A1' 0 c1'] by rw [hX]; exact Blk.new w1 _ _)
  have RX := Lib.hid (show Blk X w.heap.size 42 #[.slice none 0 0, .slice none 0 0] by rw [hX]; exact (D0.out.below HB1.out (by simp)).alloc _)
  have AX := Lib.hid (show Own X w.heap.size 69 3 (.slice A1 n c1) n (ints2 (M.init (o : Int)).c) by rw [hX]; exact (O1.out.less (by simp)).alloc _)
  have MX := Lib.hid (show Own X w.heap.size 72 4 (.slice A1' 0 c1') 0 (ints2 (M.init (o : Int)).m) by rw [hX]; exact (O2.out.less (by simp)).alloc _)
  have BX := Lib.hid (show Below w.heap.size w X by rw [hX]; exact (hb0.out.trans (HB1.out.mono (by simp))).alloc (by omega) _)
  obtain ⟨G, hG⟩ : ∃ G, G = w1.heap.size := ⟨_, rfl⟩
  rw [← hG] at CX hz1
  rw [← hG]
  first | rw [← hX] | (rw [show (M.init (o : Int)).k = 0 from rfl]; rw [← hX])
  clear hX hG HB1 O1 O2 hb0 D0
  go_wp2_with fail
  go_loopw [11, 12, 13, 14, 32] (fun d i _ _ _ wr => ∃ k : Nat, k ≤ en ∧ i = .int .i64 k ∧ (∃ A1 c1 A2 c2, Blk wr G 42 #[.slice A1 n c1, .slice A2 (M.runF n o E k).k c2] ∧ Own wr w.heap.size 69 3 (.slice A1 n c1) n (ints2 (M.runF n o E k).c) ∧ Own wr w.heap.size 72 4 (.slice A2 (M.runF n o E k).k c2) (M.runF n o E k).k (ints2 (M.runF n o E k).m)) ∧ Own wr w.heap.size 4 1 d k (bools (M.done n o E)) ∧ Blk wr w.heap.size 42 #[.slice none 0 0, .slice none 0 0] ∧ Below w.heap.size w wr) (fun _ i _ _ _ _ => en - (intOf i).toNat)
  case atStart => exact ⟨0, Nat.zero_le _, rfl, ⟨A1, c1, A1', c1', CX.out, AX.out, MX.out⟩, Own.nil_, RX.out, BX.out⟩
  case round =>
    obtain ⟨k, hk, rfl, ⟨A2, c2, A3, c3, hc, ha, hm⟩, hd, hr, hbw⟩ := hrel
    obtain ⟨dA, dc, rfl⟩ := hd.form
    have HC := Lib.hid hc
    have HA := Lib.hid ha
    have HM := Lib.hid hm
    have HD := Lib.hid hd
    have HRes := Lib.hid hr
    have HBW := Lib.hid hbw
    have hz := hbw.size
    have hGr := hc.lt
    by_cases hlt : k < en
    · obtain ⟨b, off, rfl, hb, e0, e1, e2⟩ := ((HR.out.below (hbw.mono hB))).at3 hlt
      have hbs : b < wr.heap.size := by omega
      have h0 := hc.cell 0
      have h1 := hc.cell 1
      have kx : decide (en ≤ k) = false := decide_eq_false (by omega)
      have HX := Lib.hid (show M.runF n o E (k + 1) = M.go n (M.runF n o E k) (E k 0) (E k 1) (E k 2) from rfl)
      have HDN := Lib.hid (show M.done n o E k = (M.step n (M.runF n o E k) (E k 0) (E k 1) (E k 2)).isSome from rfl)
      have K5 := Lib.hid (fun w' hb => kept5 (w' := w') h0 h1 e0 e1 e2 hGr hGr hbs hbs hbs hb)
      have VR := Lib.hid (show CallV n (M.runF n o E k) w.heap.size (.agg #[.slice A2 n c2, .slice A3 (M.runF n o E k).k c3]) wr from ⟨_, _, _, _, rfl, ha, hm⟩)
      have HK := Lib.hid (HWF.out k)
      generalize M.runF n o E k = s at *
      clear hc ha hm hd hr hbw
      have hRr := HRes.out.lt
      go_upto_region 9 with fail
      go_region_held3 (fun w' => w'.cell? ⟨G, 0, none⟩ = some (.slice A2 n c2) ∧ w'.cell? ⟨G, 1, none⟩ = some (.slice A3 s.k c3) ∧ w'.cell? ⟨b, off + k * 3, none⟩ = some (.int .i64 (E k 0)) ∧ w'.cell? ⟨b, off + k * 3 + 1, none⟩ = some (.int .i64 (E k 1)) ∧ w'.cell? ⟨b, off + k * 3 + 2, none⟩ = some (.int .i64 (E k 2)) ∧ Below wr.heap.size wr w')
        (first
          | assumption
          | exact K5.out _ (Below.refl _ _).drew
          | exact K5.out _ hS5
          | exact K5.out _ ((belowAlloc wr _).drew)
          | exact K5.out _ (Below.alloc hS5 (Below.size hS5) _)
          | exact K5.out _ ((Below.setCell (Below.setCell hS5 (by dsimp only; omega) _) (by dsimp only; omega) _))
          | exact K5.out _ ((Below.setCell (Below.setCell (Below.alloc hS5 (Below.size hS5) _) (by dsimp only; omega) _) (by dsimp only; omega) _))
          | fail)
        (first
          | (go_at_call 26; refine (rapply_any n w.heap.size s _ (E k 0) (E k 1) (E k 2) _ (by first | exact VR.out.below (Below.refl _ _).drew | exact VR.out.below (belowAlloc wr _).drew | fail) (by first | exact hz | (simp; omega)) HN.out HK.out).mono ?_; rintro e w5 ⟨⟨v5, rfl, A5, c5, A6, c6, rfl, o5, o6⟩, hbx⟩; have hS5 : Below wr.heap.size wr w5 := (by first | exact ((Below.refl _ _).drew).trans hbx | exact ((belowAlloc wr _).drew).trans (hbx.mono (by simp)) | fail); have O5 := Lib.hid o5; have O6 := Lib.hid o6; have hz5 := Below.size hS5; (first | (have mP := Lib.hid (Blk.below' (blk_dr.2 (Blk.new wr 42 #[.slice none 0 0, .slice none 0 0])) hbx); have g0 := mP.out.cell 0; have g1 := mP.out.cell 1; have f0 := mP.out.frz 0; have f1 := mP.out.frz 1; have hzP := mP.out.lt) | skip); clear o5 o6)
          | fail)
      · obtain ⟨X, hX⟩ : ∃ X, X = w5.alloc (.cells #[.slice A5 n c5, .slice A6 (M.go n s (E k 0) (E k 1) (E k 2)).k c6] 42) := ⟨_, rfl⟩
        have AX := Lib.hid (show Own X w.heap.size 69 3 (.slice A5 n c5) n (ints2 (M.go n s (E k 0) (E k 1) (E k 2)).c) by rw [hX]; exact O5.out.alloc _)
        have MX := Lib.hid (show Own X w.heap.size 72 4 (.slice A6 (M.go n s (E k 0) (E k 1) (E k 2)).k c6) (M.go n s (E k 0) (E k 1) (E k 2)).k (ints2 (M.go n s (E k 0) (E k 1) (E k 2)).m) by rw [hX]; exact O6.out.alloc _)
        have DX := Lib.hid (show Own X w.heap.size 4 1 (.slice dA k dc) k (bools (M.done n o E)) by rw [hX]; exact (HD.out.below hS5).alloc _)
        have GX := Lib.hid (show Blk X G 42 #[.slice A2 n c2, .slice A3 s.k c3] by rw [hX]; exact (HC.out.below hS5 hGr).alloc _)
        have RX := Lib.hid (show Blk X w.heap.size 42 #[.slice none 0 0, .slice none 0 0] by rw [hX]; exact (HRes.out.below hS5 hRr).alloc _)
        have TX := Lib.hid (show Blk X w5.heap.size 42 #[.slice A5 n c5, .slice A6 (M.go n s (E k 0) (E k 1) (E k 2)).k c6] by rw [hX]; exact Blk.new w5 _ _)
        have BX := Lib.hid (show Below w.heap.size w X by rw [hX]; exact (HBW.out.trans (hS5.mono hz)).alloc (by omega) _)
        have hGT : G ≠ w5.heap.size := by omega
        have hGw : w.heap.size ≠ G := by omega
        rw [← hX]
        clear hX
        have t0 := TX.out.cell 0
        have t1 := TX.out.cell 1
        have g0 := GX.out.cell 0
        have g1 := GX.out.cell 1
        have f0 := GX.out.frz 0
        have f1 := GX.out.frz 1
        go_upto_region 11 with fail
        obtain ⟨Y, hY⟩ : ∃ Y, Y = (X.setCell ⟨G, 0, none⟩ (.slice A5 n c5)).setCell ⟨G, 1, none⟩ (.slice A6 (M.go n s (E k 0) (E k 1) (E k 2)).k c6) := ⟨_, rfl⟩
        have AY := Lib.hid (show Own Y w.heap.size 69 3 (.slice A5 n c5) n (ints2 (M.go n s (E k 0) (E k 1) (E k 2)).c) by rw [hY]; exact AX.out.set2 GX.out (by decide) _ _)
        have MY := Lib.hid (show Own Y w.heap.size 72 4 (.slice A6 (M.go n s (E k 0) (E k 1) (E k 2)).k c6) (M.go n s (E k 0) (E k 1) (E k 2)).k (ints2 (M.go n s (E k 0) (E k 1) (E k 2)).m) by rw [hY]; exact MX.out.set2 GX.out (by decide) _ _)
        have DY := Lib.hid (show Own Y w.heap.size 4 1 (.slice dA k dc) k (bools (M.done n o E)) by rw [hY]; exact DX.out.set2 GX.out (by decide) _ _)
        have GY := Lib.hid (show Blk Y G 42 #[.slice A5 n c5, .slice A6 (M.go n s (E k 0) (E k 1) (E k 2)).k c6] by rw [hY]; exact (GX.out.set_ 0 _).set_ 1 _)
        have RY := Lib.hid (show Blk Y w.heap.size 42 #[.slice none 0 0, .slice none 0 0] by rw [hY]; exact (RX.out.far (p := ⟨G, 0, none⟩) hGw _).far (p := ⟨G, 1, none⟩) hGw _)
        have BY := Lib.hid (show Below w.heap.size w Y by rw [hY]; exact (BX.out.setCell (p := ⟨G, 0, none⟩) (by dsimp only; omega) _).setCell (p := ⟨G, 1, none⟩) (by dsimp only; omega) _)
        have hzY := BY.out.size
        rw [← hY]
        clear hY t0 t1 g0 g1 f0 f1
        go_wp2_with (at_builtin; go_must (refine wpList_app rfl (.tmp 42) (.tmp 44) 43 rfl w.heap.size 4 1 1 Tryd.underlying43 BI.out.1 BI.out.2.1 BI.out.2.2.1 BI.out.2.2.2 rfl (by decide) (by decide) (DY.out.alloc _) rfl (by omega) (by simp; omega) Y.heap.size 1 (fun _ => .bool (M.step n s (E k 0) (E k 1) (E k 2)).isSome) rfl (cell_last rfl) (fun _ _ => rfl) ?_); intro v6 w6 o6 hg6 hat6; obtain ⟨A7, z7, rfl⟩ := o6.form; have HO6 := Lib.hid o6; have HG6 := Lib.hid hg6; clear o6 hg6 hat6)
        go_roundw
        case rel =>
          refine ⟨k + 1, by omega, by go_num, ⟨A5, c5, A6, c6, ?_, ?_, ?_⟩, ?_, ?_, ?_⟩
          · rw [HX.out]; exact Blk.grown_own (GY.out.alloc _) (DY.out.alloc _) (by decide) HG6.out
          · rw [HX.out]; exact Own.apart_grown (AY.out.alloc _) (Own.apart_type DY.out AY.out (by decide)) HG6.out
          · rw [HX.out]; exact Own.apart_grown (MY.out.alloc _) (Own.apart_type DY.out MY.out (by decide)) HG6.out
          · refine HO6.out.congr fun i j hi _ => ?_
            have := app_bools (f := M.done n o E) (k := k) i j hi
            rw [HDN.out] at this
            exact this
          · exact Blk.grown_own (RY.out.alloc _) (DY.out.alloc _) (by decide) HG6.out
          · exact (BY.out.alloc hzY _).grown HG6.out (by simp; omega) (fun q hq => (DY.out.block hq).1)
        case measure => simp [intOf]; omega
      · obtain ⟨X, hX⟩ : ∃ X, X = (w5.setCell ⟨wr.heap.size, 0, none⟩ (.slice A5 n c5)).setCell ⟨wr.heap.size, 1, none⟩ (.slice A6 (M.go n s (E k 0) (E k 1) (E k 2)).k c6) := ⟨_, rfl⟩
        have AX := Lib.hid (show Own X w.heap.size 69 3 (.slice A5 n c5) n (ints2 (M.go n s (E k 0) (E k 1) (E k 2)).c) by rw [hX]; exact O5.out.set2 mP.out (by decide) _ _)
        have MX := Lib.hid (show Own X w.heap.size 72 4 (.slice A6 (M.go n s (E k 0) (E k 1) (E k 2)).k c6) (M.go n s (E k 0) (E k 1) (E k 2)).k (ints2 (M.go n s (E k 0) (E k 1) (E k 2)).m) by rw [hX]; exact O6.out.set2 mP.out (by decide) _ _)
        have DX := Lib.hid (show Own X w.heap.size 4 1 (.slice dA k dc) k (bools (M.done n o E)) by rw [hX]; exact (HD.out.below hS5).set2 mP.out (by decide) _ _)
        have GX := Lib.hid (show Blk X G 42 #[.slice A2 n c2, .slice A3 s.k c3] by rw [hX]; exact ((HC.out.below hS5 hGr).far (p := ⟨wr.heap.size, 0, none⟩) (by show _ ≠ wr.heap.size; omega) _).far (p := ⟨wr.heap.size, 1, none⟩) (by show _ ≠ wr.heap.size; omega) _)
        have RX := Lib.hid (show Blk X w.heap.size 42 #[.slice none 0 0, .slice none 0 0] by rw [hX]; exact ((HRes.out.below hS5 hRr).far (p := ⟨wr.heap.size, 0, none⟩) (by show _ ≠ wr.heap.size; omega) _).far (p := ⟨wr.heap.size, 1, none⟩) (by show _ ≠ wr.heap.size; omega) _)
        have TX := Lib.hid (show Blk X wr.heap.size 42 #[.slice A5 n c5, .slice A6 (M.go n s (E k 0) (E k 1) (E k 2)).k c6] by rw [hX]; exact (mP.out.set_ 0 _).set_ 1 _)
        have BX := Lib.hid (show Below w.heap.size w X by rw [hX]; exact ((HBW.out.trans (hS5.mono hz)).setCell (p := ⟨wr.heap.size, 0, none⟩) hz _).setCell (p := ⟨wr.heap.size, 1, none⟩) hz _)
        have hGT : G ≠ wr.heap.size := by omega
        have hGw : w.heap.size ≠ G := by omega
        rw [← hX]
        clear hX
        have t0 := TX.out.cell 0
        have t1 := TX.out.cell 1
        have g0 := GX.out.cell 0
        have g1 := GX.out.cell 1
        have f0 := GX.out.frz 0
        have f1 := GX.out.frz 1
        go_upto_region 11 with fail
        obtain ⟨Y, hY⟩ : ∃ Y, Y = (X.setCell ⟨G, 0, none⟩ (.slice A5 n c5)).setCell ⟨G, 1, none⟩ (.slice A6 (M.go n s (E k 0) (E k 1) (E k 2)).k c6) := ⟨_, rfl⟩
        have AY := Lib.hid (show Own Y w.heap.size 69 3 (.slice A5 n c5) n (ints2 (M.go n s (E k 0) (E k 1) (E k 2)).c) by rw [hY]; exact AX.out.set2 GX.out (by decide) _ _)
        have MY := Lib.hid (show Own Y w.heap.size 72 4 (.slice A6 (M.go n s (E k 0) (E k 1) (E k 2)).k c6) (M.go n s (E k 0) (E k 1) (E k 2)).k (ints2 (M.go n s (E k 0) (E k 1) (E k 2)).m) by rw [hY]; exact MX.out.set2 GX.out (by decide) _ _)
        have DY := Lib.hid (show Own Y w.heap.size 4 1 (.slice dA k dc) k (bools (M.done n o E)) by rw [hY]; exact DX.out.set2 GX.out (by decide) _ _)
        have GY := Lib.hid (show Blk Y G 42 #[.slice A5 n c5, .slice A6 (M.go n s (E k 0) (E k 1) (E k 2)).k c6] by rw [hY]; exact (GX.out.set_ 0 _).set_ 1 _)
        have RY := Lib.hid (show Blk Y w.heap.size 42 #[.slice none 0 0, .slice none 0 0] by rw [hY]; exact (RX.out.far (p := ⟨G, 0, none⟩) hGw _).far (p := ⟨G, 1, none⟩) hGw _)
        have BY := Lib.hid (show Below w.heap.size w Y by rw [hY]; exact (BX.out.setCell (p := ⟨G, 0, none⟩) (by dsimp only; omega) _).setCell (p := ⟨G, 1, none⟩) (by dsimp only; omega) _)
        have hzY := BY.out.size
        rw [← hY]
        clear hY t0 t1 g0 g1 f0 f1
        go_wp2_with (at_builtin; go_must (refine wpList_app rfl (.tmp 42) (.tmp 44) 43 rfl w.heap.size 4 1 1 Tryd.underlying43 BI.out.1 BI.out.2.1 BI.out.2.2.1 BI.out.2.2.2 rfl (by decide) (by decide) (DY.out.alloc _) rfl (by omega) (by simp; omega) Y.heap.size 1 (fun _ => .bool (M.step n s (E k 0) (E k 1) (E k 2)).isSome) rfl (cell_last rfl) (fun _ _ => rfl) ?_); intro v6 w6 o6 hg6 hat6; obtain ⟨A7, z7, rfl⟩ := o6.form; have HO6 := Lib.hid o6; have HG6 := Lib.hid hg6; clear o6 hg6 hat6)
        go_roundw
        case rel =>
          refine ⟨k + 1, by omega, by go_num, ⟨A5, c5, A6, c6, ?_, ?_, ?_⟩, ?_, ?_, ?_⟩
          · rw [HX.out]; exact Blk.grown_own (GY.out.alloc _) (DY.out.alloc _) (by decide) HG6.out
          · rw [HX.out]; exact Own.apart_grown (AY.out.alloc _) (Own.apart_type DY.out AY.out (by decide)) HG6.out
          · rw [HX.out]; exact Own.apart_grown (MY.out.alloc _) (Own.apart_type DY.out MY.out (by decide)) HG6.out
          · refine HO6.out.congr fun i j hi _ => ?_
            have := app_bools (f := M.done n o E) (k := k) i j hi
            rw [HDN.out] at this
            exact this
          · exact Blk.grown_own (RY.out.alloc _) (DY.out.alloc _) (by decide) HG6.out
          · exact (BY.out.alloc hzY _).grown HG6.out (by simp; omega) (fun q hq => (DY.out.block hq).1)
        case measure => simp [intOf]; omega
    · obtain rfl : k = en := by omega
      have c0 := hc.cell 0
      have c1 := hc.cell 1
      have r0 := hr.cell 0
      have r1 := hr.cell 1
      have q0 := hr.frz 0
      have q1 := hr.frz 1
      have kx : decide (k ≤ k) = true := decide_eq_true (Nat.le_refl _)
      clear hc ha hm hd hr hbw
      go_wp2_with fail
      refine bodyPost_ret (results_cell_row2 rfl _ _ w.heap.size 42 #[.slice A2 n c2, .slice A3 (M.runF n o E k).k c3] (0, 0) _ rfl ((HRes.out.set_ 0 _).set_ 1 _) Tryd.underlying42 rfl call_size) rfl ⟨⟨_, _, rfl, ⟨_, _, _, _, rfl, HA.out.set2 HRes.out (by decide) _ _, HM.out.set2 HRes.out (by decide) _ _⟩, HD.out.set2 HRes.out (by decide) _ _⟩, ?_⟩
      exact (HBW.out.setCell (p := ⟨w.heap.size, 0, none⟩) (Nat.le_refl _) _).setCell (p := ⟨w.heap.size, 1, none⟩) (Nat.le_refl _) _
end Go.Proofs.YtbjggnecfppjgaaDoor
