/- lanes.Free, where the chart and the legs are valid: when no unit occupies a cell. -/
import Derived.Test.YtkdpmihdhiokkaaDoorK14
import Derived.Test.YtkdpmihdhiokkaaDoorLaG
namespace Go.Proofs.YtkdpmihdhiokkaaDoor
open Go.RowKit

/-- a leg at a level occupies a cell -/
def occB (lv c t : Int) (l : M.Leg) : Bool := decide (0 ≤ M.atC l t) && (decide (l.lv = lv) && M.occ l.tail (M.atC l (t - 1)) (M.atC l t) c)
section
variable (s : M.Sea) (l : M.Leg) (cc B T V C : Nat) (cA : Option Addr) (lv c t : Int) (w : World)
set_option maxRecDepth 100000 in
set_option maxHeartbeats 3200000 in
theorem fchk_any (hs : s.Ok) (hl : M.LegOk s l) (ht : -1 ≤ t ∧ t ≤ 60) (hR : Rd1 w B cA l.n l.c) (hB : B ≤ w.heap.size) (hT : Blk w T 3 #[.int .i64 t]) (hV : Blk w V 3 #[.int .i64 lv]) (hC : Blk w C 3 #[.int .i64 c]) :
    Calls Tryd.prog 48 #[.agg #[.int .i64 l.at_, .int .i64 l.lv, .int .i64 l.dr, .bool l.tail, .slice cA l.n cc], .pointer (some ⟨T, 0, none⟩), .pointer (some ⟨V, 0, none⟩), .pointer (some ⟨C, 0, none⟩)] w fun e w' => e = .returned (.bool (occB lv c t l)) ∧ Below w.heap.size w w' := by
  have HH := Lib.hid (show occB lv c t l = (decide (0 ≤ M.atC l t) && (decide (l.lv = lv) && M.occ l.tail (M.atC l (t - 1)) (M.atC l t) c)) from rfl)
  have HB0 := Lib.hid (belowAlloc w (.cells #[.int .i64 l.at_, .int .i64 l.lv, .int .i64 l.dr, .bool l.tail, .slice cA l.n cc] 41))
  have HA := Lib.hid (fun W (hb : Below w.heap.size w W) => lat_any s l cc B cA t W hs hl ht (hR.below (hb.mono hB)) (Nat.le_trans hB hb.size))
  have V0 := Lib.hid (hV.alloc (.cells #[.int .i64 l.at_, .int .i64 l.lv, .int .i64 l.dr, .bool l.tail, .slice cA l.n cc] 41))
  have C0 := Lib.hid (hC.alloc (.cells #[.int .i64 l.at_, .int .i64 l.lv, .int .i64 l.dr, .bool l.tail, .slice cA l.n cc] 41))
  have t0 := hT.cell 0
  have hTl := hT.lt
  obtain ⟨hv, hhv⟩ : ∃ hv, hv = occB lv c t l := ⟨_, rfl⟩
  rw [← hhv] at HH
  rw [← hhv]
  obtain ⟨so, hso⟩ : ∃ so, so = decide (0 ≤ M.atC l t) := ⟨_, rfl⟩
  rw [← hso] at HH HA
  have HSO := Lib.hid hso
  clear hhv hso hR hT hV hC
  go_enter Tryd.func48, Tryd.ntmps48
  go_upto_region 2 with (go_at_call 41; go_must (refine (HA.out _ HB0.out).mono ?_); rintro e w1 ⟨⟨a, b, q, d, rfl, hv1⟩, hb1⟩; have HV1 := Lib.hid hv1; have HB1 := Lib.hid (HB0.out.trans (hb1.mono HB0.out.size)); have V1 := Lib.hid (V0.out.below' hb1); have C1 := Lib.hid (C0.out.below' hb1); clear hv1 hb1)
  have HB2 := Lib.hid (HB1.out.alloc HB1.out.size (.cells #[.int .i64 a, .int .i64 b, .int .i64 q, .bool d] 82))
  have V2 := Lib.hid (V1.out.alloc (.cells #[.int .i64 a, .int .i64 b, .int .i64 q, .bool d] 82))
  have C2 := Lib.hid (C1.out.alloc (.cells #[.int .i64 a, .int .i64 b, .int .i64 q, .bool d] 82))
  have N2 := Lib.hid (Blk.new w1 82 #[.int .i64 a, .int .i64 b, .int .i64 q, .bool d])
  generalize hY : w1.alloc (.cells #[.int .i64 a, .int .i64 b, .int .i64 q, .bool d] 82) = Y at HB2 V2 C2 N2 ⊢
  clear hY t0
  have v0 := V2.out.cell 0
  have c0 := C2.out.cell 0
  have n0 := N2.out.cell 0
  have n1 := N2.out.cell 1
  have n2 := N2.out.cell 2
  have n3 := N2.out.cell 3
  cases so
  · go_wp2_with fail
    go_ret
    exact ⟨ret_bool (by rw [HH.out]; rfl), HB2.out⟩
  · have h0 : 0 ≤ M.atC l t := of_decide_eq_true HSO.out.symm
    obtain ⟨e1, e2, e3, e4⟩ := HV1.out h0
    have HE := Lib.hid (show hv = (decide (a = lv) && M.occ d b q c) from by rw [HH.out, e1, e2, e3, e4]; rfl)
    clear e1 e2 e3 e4 h0
    by_cases h1 : a = lv
    · have g1 : (a == lv) = true := by rw [beq_iff_eq]; exact h1
      have HE2 := Lib.hid (show hv = M.occ d b q c by rw [HE.out, decide_eq_true h1, Bool.true_and])
      have HO := Lib.hid (occupies_any a d b q c Y)
      rw [← HE2.out] at HO
      clear h1
      go_wp2_with (go_at_call 49; go_must (refine HO.out.mono ?_); rintro e w5 ⟨rfl, hb5⟩; have HB5 := Lib.hid hb5; clear hb5)
      go_ret
      exact ⟨rfl, HB2.out.trans (HB5.out.mono HB2.out.size)⟩
    · have g1 : (a == lv) = false := by rw [beq_eq_false_iff_ne]; exact h1
      have HE2 := Lib.hid (show hv = false by rw [HE.out, decide_eq_false h1]; rfl)
      clear h1
      go_wp2_with fail
      go_ret
      exact ⟨ret_bool HE2.out.symm, HB2.out⟩
end
theorem span_info : (Tryd.prog.info? 52).map (fun i => (i.zero, i.size, i.bytes)) = some (some (.agg #[.int .i64 0, .int .i64 0]), 2, 16) := by kernel_rfl
theorem two_cell (W : World) (t : Nat) : ∀ j, j < 2 → (W.alloc (.cells #[.int .i64 (t : Int), .int .i64 (t : Int)] 52)).cell? ⟨W.heap.size, j, none⟩ = some (.int .i64 (t : Int)) := by
  intro j hj
  refine ((Blk.new W 52 #[.int .i64 (t : Int), .int .i64 (t : Int)]).cell j).trans ?_
  obtain rfl | rfl : j = 0 ∨ j = 1 := by omega
  · rfl
  · rfl
theorem sp_app (F : Nat → Nat → Int) (n : Nat) (t : Int) (i j : Nat) (_hi : i < n + 1) (_hj : j < 2) : upd (ints2 F) n (fun _ => .int .i64 t) i j = ints2 (fun i j => if i = n then t else F i j) i j := by
  unfold upd ints2
  by_cases h : i = n
  · subst h; simp
  · simp [h]
section
variable (s : M.Sea) (dA tA sA lA : Option Addr) (dc tc sc ln lc B : Nat) (L : Nat → M.Leg) (w : World)
/-- when a cell is free at a level -/
def M.freeT (L : Nat → M.Leg) (ln : Nat) (lv c : Int) (u : Nat) : Bool := !M.anyTo ln fun i => occB lv c u (L i)
set_option maxRecDepth 100000 in
set_option maxHeartbeats 6400000 in
theorem Free_ok (lv : Int) (c : Nat) (hlv : 0 ≤ lv ∧ lv ≤ 3) (hc : c < s.nd) (hs : s.Ok) (hw : Ways w) (hR : RdC w B dA tA sA s.nd s.nt s.nt s.dep s.tide s.sw) (hB : B ≤ w.heap.size) (hL : RdL w B lA ln L) (hln : ln ≤ 1048576) (hlo : M.legsOk s ln L = true) :
    Calls Tryd.prog 20 #[.agg #[.int .i64 (s.W : Int), .int .i64 (s.H : Int), .slice dA s.nd dc, .slice tA s.nt tc, .slice sA s.nt sc], .slice lA ln lc, .int .i64 lv, .int .i64 (c : Int)] w fun e w' =>
      (∃ v, e = .returned (.tuple #[v, .int .i64 0]) ∧ Own w' w.heap.size 52 2 v (M.spN (M.freeT L ln lv c) s.nt).1 (ints2 (M.spN (M.freeT L ln lv c) s.nt).2)) ∧ Below w.heap.size w w' := by
  have hnt := hs.t2
  have hnd := hs.nd1
  have HOK := Lib.hid (show ∀ i, i < ln → M.LegOk s (L i) from fun i hi => by
    unfold M.legsOk at hlo
    simp only [Bool.and_eq_true] at hlo
    exact M.legOk_iff.1 (M.allTo_iff.1 hlo.2 i hi))
  have HB0 := Lib.hid (belowAlloc3 w (.cells #[.int .i64 (s.W : Int), .int .i64 (s.H : Int), .slice dA s.nd dc, .slice tA s.nt tc, .slice sA s.nt sc] 25) (.cells #[.int .i64 lv] 3) (.cells #[.int .i64 (c : Int)] 3))
  have C0 := Lib.hid (((Blk.new w 25 #[.int .i64 (s.W : Int), .int .i64 (s.H : Int), .slice dA s.nd dc, .slice tA s.nt tc, .slice sA s.nt sc]).alloc (.cells #[.int .i64 lv] 3)).alloc (.cells #[.int .i64 (c : Int)] 3))
  have V0 := Lib.hid ((Blk.new1 w (.cells #[.int .i64 (s.W : Int), .int .i64 (s.H : Int), .slice dA s.nd dc, .slice tA s.nt tc, .slice sA s.nt sc] 25) 3 #[.int .i64 lv]).alloc (.cells #[.int .i64 (c : Int)] 3))
  have E0 := Lib.hid (Blk.new2 w (.cells #[.int .i64 (s.W : Int), .int .i64 (s.H : Int), .slice dA s.nd dc, .slice tA s.nt tc, .slice sA s.nt sc] 25) (.cells #[.int .i64 lv] 3) 3 #[.int .i64 (c : Int)])
  obtain ⟨X, hX⟩ : ∃ X, X = ((w.alloc (.cells #[.int .i64 (s.W : Int), .int .i64 (s.H : Int), .slice dA s.nd dc, .slice tA s.nt tc, .slice sA s.nt sc] 25)).alloc (.cells #[.int .i64 lv] 3)).alloc (.cells #[.int .i64 (c : Int)] 3) := ⟨_, rfl⟩
  have HXe := Lib.hid hX
  rw [← hX] at HB0 C0 V0 E0
  clear hX
  have HOP := Lib.hid (lopen_any s dA tA sA lA dc tc sc ln lc X.heap.size L X hs (hw.below HB0.out) ((hR.below (HB0.out.mono hB)).more (Nat.le_trans hB HB0.out.size)) (Nat.le_refl _) ((hL.below (HB0.out.mono hB)).more (Nat.le_trans hB HB0.out.size)) hln)
  rw [hlo] at HOP
  have HO2 := Lib.hid (by have h := HOP.out; simp only [if_true] at h; exact h)
  have HCF := Lib.hid (fun W T (u : Nat) (hu : u < s.nt) (hb : Below w.heap.size w W) (hT : Blk W T 3 #[.int .i64 (u : Int)]) (hV : Blk W (w.heap.size + 1) 3 #[.int .i64 lv]) (hC : Blk W (w.heap.size + 1 + 1) 3 #[.int .i64 (c : Int)]) => con_leg lA ln lc B L 48 #[.pointer (some ⟨T, 0, none⟩), .pointer (some ⟨w.heap.size + 1, 0, none⟩), .pointer (some ⟨w.heap.size + 1 + 1, 0, none⟩)] (occB lv c u) W hln (hL.below (hb.mono hB)) (Nat.le_trans hB hb.size) (.inr rfl) fun W' i cA cc hi hb' hr => fchk_any s (L i) cc B T (w.heap.size + 1) (w.heap.size + 1 + 1) cA lv c u W' hs (HOK.out i hi) (by omega) hr (Nat.le_trans (Nat.le_trans hB hb.size) hb'.size) (hT.below' hb') (hV.below' hb') (hC.below' hb'))
  have HLW := Lib.hid (fun W => (show Calls Tryd.prog 45 #[.int .i64 lv, .int .i64 0, .int .i64 3] W fun e w' => e = .returned (.bool true) ∧ w' = W from by
    have h := lwithin_any lv 0 3 W
    rw [M.inB_iff.2 hlv] at h
    exact h))
  have HCE := Lib.hid (fun W x (hx : W.cell? ⟨x, 2, none⟩ = some (.slice dA s.nd dc)) => (show Calls Tryd.prog 46 #[.pointer (some ⟨x, 0, none⟩), .int .i64 (c : Int)] W fun e w' => e = .returned (.bool true) ∧ w' = W from by
    have h := cell_any x s.nd s.nt dc dA W hx ⟨hnd, hs.t1, hnt⟩ (c : Int)
    rw [M.inB_iff.2 ⟨by omega, by omega⟩] at h
    exact h))
  obtain ⟨i0, hi, hz0, hz1, hz2⟩ := info_parts span_info
  have MI := Lib.hid (And.intro hi (And.intro hz0 (And.intro hz1 hz2)))
  have HSL := Lib.hid (fun t => (M.spOk (M.freeT L ln lv c) t).le)
  have HSN := Lib.hid (fun t => (show M.spN (M.freeT L ln lv c) (t + 1) = (if M.freeT L ln lv c t then if 0 < (M.spN (M.freeT L ln lv c) t).1 ∧ (M.spN (M.freeT L ln lv c) t).2 ((M.spN (M.freeT L ln lv c) t).1 - 1) 1 = (t : Int) - 1 then ((M.spN (M.freeT L ln lv c) t).1, fun i j => if i = (M.spN (M.freeT L ln lv c) t).1 - 1 ∧ j = 1 then (t : Int) else (M.spN (M.freeT L ln lv c) t).2 i j) else ((M.spN (M.freeT L ln lv c) t).1 + 1, fun i j => if i = (M.spN (M.freeT L ln lv c) t).1 then (t : Int) else (M.spN (M.freeT L ln lv c) t).2 i j) else M.spN (M.freeT L ln lv c) t) from rfl))
  have HFR := Lib.hid (fun u => (show M.freeT L ln lv c u = !M.anyTo ln (fun i => occB lv c u (L i)) from rfl))
  clear hi hz0 hz1 hz2 hs hw hR hL hlo HOP hB hlv hc
  go_enter Tryd.func20, Tryd.ntmps20
  go_upto_region 1 with fail
  rw [← HXe.out]
  have c0 := C0.out.cell 0
  have c1 := C0.out.cell 1
  have c2 := C0.out.cell 2
  have c3 := C0.out.cell 3
  have c4 := C0.out.cell 4
  go_upto_region 4 with (go_at_call 40; go_must (refine HO2.out.mono ?_); rintro e w1 ⟨⟨x, rfl, hx⟩, hb1⟩; have HBY := Lib.hid hb1; have HX := Lib.hid hx; clear hb1 hx)
  clear c0 c1 c2 c3 c4
  have x2 : w1.cell? ⟨x, 2, none⟩ = some (.slice dA s.nd dc) := by obtain ⟨nA, nc, V, t1, _⟩ := HX.out; exact t1.cell 2
  have HCX := Lib.hid (HCE.out w1 x x2)
  clear x2
  have v0 := (V0.out.below' HBY.out).cell 0
  have e0 := (E0.out.below' HBY.out).cell 0
  have c3 := (C0.out.below' HBY.out).cell 3
  have hz := HB0.out.size
  have hzY := HBY.out.size
  go_wp2_with (first
    | (go_at_call 45; go_must (refine (HLW.out _).mono ?_); rintro e w3 ⟨rfl, h3⟩; rw [h3]; clear h3)
    | (go_at_call 46; go_must (refine HCX.out.mono ?_); rintro e w4 ⟨rfl, h4⟩; rw [h4]; clear h4))
  clear v0 e0 c3
  go_loopw [12, 37] (fun v i wr => ∃ t : Nat, t ≤ s.nt ∧ i = .int .i64 (t : Int) ∧ Own wr w1.heap.size 52 2 v (M.spN (M.freeT L ln lv c) t).1 (ints2 (M.spN (M.freeT L ln lv c) t).2) ∧ Below w1.heap.size w1 wr) (fun _ i _ => s.nt - (intOf i).toNat)
  case atStart => exact ⟨0, Nat.zero_le _, rfl, Own.nil_, Below.refl _ _⟩
  case round =>
    obtain ⟨t, ht, rfl, ho, hbw⟩ := hrel
    obtain ⟨A, vc, rfl⟩ := ho.form
    have HO := Lib.hid ho
    have HW := Lib.hid hbw
    have HWX := Lib.hid (HB0.out.trans ((HBY.out.trans (hbw.mono hzY)).mono hz))
    have hzr := hbw.size
    clear ho hbw
    by_cases hlt : t < s.nt
    · have HS1 := Lib.hid (HSN.out t)
      have hn60 := HSL.out t
      have HFT := Lib.hid (HFR.out t)
      obtain ⟨fv, hfv⟩ : ∃ fv, fv = M.freeT L ln lv c t := ⟨_, rfl⟩
      rw [← hfv] at HS1 HFT
      obtain ⟨R, hRR⟩ : ∃ R, R = M.spN (M.freeT L ln lv c) (t + 1) := ⟨_, rfl⟩
      have HRR := Lib.hid hRR
      rw [← hRR] at HS1
      obtain ⟨n, hn⟩ : ∃ n, n = (M.spN (M.freeT L ln lv c) t).1 := ⟨_, rfl⟩
      obtain ⟨F, hF⟩ : ∃ F, F = (M.spN (M.freeT L ln lv c) t).2 := ⟨_, rfl⟩
      have HSE := Lib.hid (show M.spN (M.freeT L ln lv c) t = (n, F) by rw [hn, hF])
      rw [← hn, ← hF] at HS1 HO
      rw [← hn]
      rw [← hn] at hn60
      clear hfv hRR hn hF
      have HW1 := Lib.hid (HWX.out.alloc HWX.out.size (.cells #[.int .i64 (t : Int)] 3))
      have HA1 := Lib.hid (belowAlloc wr (.cells #[.int .i64 (t : Int)] 3))
      have T1 := Lib.hid (Blk.new wr 3 #[.int .i64 (t : Int)])
      have HBX := Lib.hid (HBY.out.trans (HW.out.mono hzY))
      have V1 := Lib.hid ((V0.out.below' HBX.out).alloc (.cells #[.int .i64 (t : Int)] 3))
      have E1 := Lib.hid ((E0.out.below' HBX.out).alloc (.cells #[.int .i64 (t : Int)] 3))
      have HC := Lib.hid (HCF.out _ wr.heap.size t hlt HW1.out T1.out V1.out E1.out)
      have HTK := Lib.hid (show M.anyTo ln (fun i => occB lv c t (L i)) = !fv by rw [HFT.out, Bool.not_not])
      rw [HTK.out] at HC
      have O1 := Lib.hid (HO.out.alloc (.cells #[.int .i64 (t : Int)] 3))
      have c3 := (C0.out.below' HBX.out).cell 3
      go_upto_region 11 with (go_at_call 47; go_must (refine HC.out.mono ?_); rintro e w5 ⟨rfl, hb5⟩; have O5 := Lib.hid (O1.out.below hb5); have T5 := Lib.hid (T1.out.below' hb5); have HB5 := Lib.hid (HA1.out.trans (hb5.mono HA1.out.size)); clear hb5)
      clear c3
      have HW5 := Lib.hid (HW.out.trans (HB5.out.mono hzr))
      have hz5 := HW5.out.size
      obtain ⟨T, hT⟩ : ∃ T, T = wr.heap.size := ⟨_, rfl⟩
      rw [← hT] at T5
      rw [← hT]
      clear hT
      have t0 := T5.out.cell 0
      cases fv
      · have HEQ := Lib.hid (show R = (n, F) by rw [HS1.out, HSE.out]; rfl)
        go_wp2_with fail
        go_roundw
        case rel => exact ⟨t + 1, by omega, by go_num, by rw [← HRR.out, HEQ.out]; exact O5.out, HW5.out⟩
        case measure => simp [intOf]; omega
      · have HS2 := Lib.hid (show R = if 0 < n ∧ F (n - 1) 1 = (t : Int) - 1 then (n, fun i j => if i = n - 1 ∧ j = 1 then (t : Int) else F i j) else (n + 1, fun i j => if i = n then (t : Int) else F i j) from HS1.out)
        by_cases hpos : 0 < n
        · obtain ⟨g, vc', ev⟩ := O5.out.nz hpos
          injection ev with ev1 _ ev2
          subst ev1; subst ev2
          have f1 := O5.out.cell (i := n - 1) (j := 1) (by omega) (by omega)
          have hwn : IntKind.i64.wrap ((n : Int) - 1) = ((n - 1 : Nat) : Int) := by rw [IntKind.wrap_i64]; omega
          have hwn2 : wrap64 ((n : Int) - 1) = ((n - 1 : Nat) : Int) := by rw [IntWalk.wrap64_in _ (by omega)]; omega
          have kn : decide (n ≤ n - 1) = false := decide_eq_false (by omega)
          have gp : decide (0 < n) = true := decide_eq_true hpos
          have gp2 : decide ((0 : Int) < (n : Int)) = true := decide_eq_true (by omega)
          obtain ⟨fl, hfl⟩ : ∃ fl, fl = F (n - 1) 1 := ⟨_, rfl⟩
          unfold ints2 at f1
          rw [← hfl] at f1 HS2
          clear hfl
          by_cases he : fl = (t : Int) - 1
          · have ge : (fl == (t : Int) - 1) = true := by rw [beq_iff_eq]; exact he
            have HEQ := Lib.hid (show R = (n, fun i j => if i = n - 1 ∧ j = 1 then (t : Int) else F i j) by rw [HS2.out, if_pos ⟨hpos, he⟩])
            clear he
            go_upto_region 14 with fail
            go_quiet (fail)
            go_upto_if 53 with fail
            have O6 := Lib.hid (show Own (w5.drewN nq) w1.heap.size 52 2 (.slice (some ⟨g, 0, none⟩) n _) n (ints2 F) from O5.out)
            have T6 := Lib.hid (show Blk (w5.drewN nq) T 3 #[.int .i64 (t : Int)] from T5.out)
            have HW6 := Lib.hid (HW5.out.drewN nq)
            clear t0 f1
            generalize w5.drewN nq = Y at O6 T6 HW6 ⊢
            have t0 := T6.out.cell 0
            have f1 := O6.out.cell (i := n - 1) (j := 1) (by omega) (by omega)
            have r1 := O6.out.frz ((n - 1) * 2 + 1)
            go_wp2_with fail
            go_roundw
            case rel => exact ⟨t + 1, by omega, by go_num, by rw [← HRR.out, HEQ.out]; exact (O6.out.setm (k := n - 1) (j := 1) (by omega) (.int .i64 (t : Int))).congr fun i j _ _ => (by unfold upd2; show _ = Value.int .i64 (if i = n - 1 ∧ j = 1 then (t : Int) else F i j); split <;> rfl), HW6.out.setCell (p := ⟨g, (n - 1) * 2 + 1, none⟩) (O6.out.block rfl).1 _⟩
            case measure => simp [intOf]; omega
          · have ge : (fl == (t : Int) - 1) = false := by rw [beq_eq_false_iff_ne]; exact he
            have HEQ := Lib.hid (show R = (n + 1, fun i j => if i = n then (t : Int) else F i j) by rw [HS2.out, if_neg fun h => he h.2])
            clear he
            go_upto_region 14 with fail
            go_quiet (fail)
            go_upto_if 53 with fail
            have O6 := Lib.hid (show Own (w5.drewN nq) w1.heap.size 52 2 (.slice (some ⟨g, 0, none⟩) n _) n (ints2 F) from O5.out)
            have T6 := Lib.hid (show Blk (w5.drewN nq) T 3 #[.int .i64 (t : Int)] from T5.out)
            have HW6 := Lib.hid (HW5.out.drewN nq)
            clear t0 f1
            generalize w5.drewN nq = Y at O6 T6 HW6 ⊢
            have t0 := T6.out.cell 0
            have hzQ := HW6.out.size
            go_wp2_with (at_builtin; go_must (refine wpList_app rfl (.tmp 45) (.tmp 49) 23 rfl w1.heap.size 52 2 16 Tryd.underlying23 MI.out.1 MI.out.2.1 MI.out.2.2.1 MI.out.2.2.2 rfl (by decide) (by decide) (O6.out.alloc _) rfl (by omega) (by simp; omega) Y.heap.size 1 (fun _ => .int .i64 (t : Int)) rfl (two_cell Y t) (fun _ _ => rfl) ?_); intro v7 w7 o7 hg7 hat7; have HO7 := Lib.hid o7; have HG7 := Lib.hid hg7; clear o7 hg7 hat7)
            go_roundw
            case rel => exact ⟨t + 1, by omega, by go_num, by rw [← HRR.out, HEQ.out]; exact HO7.out.congr fun i j hi hj => sp_app F n t i j hi hj, (HW6.out.alloc hzQ (.cells #[.int .i64 (t : Int), .int .i64 (t : Int)] 52)).grown HG7.out (by simp; omega) (fun g hg => (O6.out.block hg).1)⟩
            case measure => simp [intOf]; omega
        · have gp : decide (0 < n) = false := decide_eq_false hpos
          have gp2 : decide ((0 : Int) < (n : Int)) = false := decide_eq_false (by omega)
          have HEQ := Lib.hid (show R = (n + 1, fun i j => if i = n then (t : Int) else F i j) by rw [HS2.out, if_neg fun h => hpos h.1])
          clear hpos
          go_upto_region 14 with fail
          go_quiet (fail)
          go_upto_if 53 with fail
          have O6 := Lib.hid (show Own (w5.drewN nq) w1.heap.size 52 2 (.slice A n vc) n (ints2 F) from O5.out)
          have T6 := Lib.hid (show Blk (w5.drewN nq) T 3 #[.int .i64 (t : Int)] from T5.out)
          have HW6 := Lib.hid (HW5.out.drewN nq)
          clear t0
          generalize w5.drewN nq = Y at O6 T6 HW6 ⊢
          have t0 := T6.out.cell 0
          have hzQ := HW6.out.size
          go_wp2_with (at_builtin; go_must (refine wpList_app rfl (.tmp 45) (.tmp 49) 23 rfl w1.heap.size 52 2 16 Tryd.underlying23 MI.out.1 MI.out.2.1 MI.out.2.2.1 MI.out.2.2.2 rfl (by decide) (by decide) (O6.out.alloc _) rfl (by omega) (by simp; omega) Y.heap.size 1 (fun _ => .int .i64 (t : Int)) rfl (two_cell Y t) (fun _ _ => rfl) ?_); intro v7 w7 o7 hg7 hat7; have HO7 := Lib.hid o7; have HG7 := Lib.hid hg7; clear o7 hg7 hat7)
          go_roundw
          case rel => exact ⟨t + 1, by omega, by go_num, by rw [← HRR.out, HEQ.out]; exact HO7.out.congr fun i j hi hj => sp_app F n t i j hi hj, (HW6.out.alloc hzQ (.cells #[.int .i64 (t : Int), .int .i64 (t : Int)] 52)).grown HG7.out (by simp; omega) (fun g hg => (O6.out.block hg).1)⟩
          case measure => simp [intOf]; omega
    · obtain rfl : t = s.nt := by omega
      go_wp2_with fail
      go_ret2
      exact ⟨⟨_, rfl, HO.out.less (Nat.le_trans hz hzY)⟩, HWX.out⟩
end
end Go.Proofs.YtkdpmihdhiokkaaDoor
