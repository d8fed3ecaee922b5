/- The reference of layer 2: losses. -/
import Derived.Test.YtnbeembnnjdmdaaGreatDoorJ2
import Derived.Test.YtnbeembnnjdmdaaGreatDoorSB
import Derived.Test.YtnbeembnnjdmdaaGreatDoorLaL
import Derived.Test.YtnbeembnnjdmdaaGreatDoorS3
import Derived.Test.YtnbeembnnjdmdaaGreatDoorE9
namespace Go.Proofs.YtnbeembnnjdmdaaGreatDoor
open Go.RowKit

def prV (N : Nat → Int × Int) : Nat → Nat → Value := ints2 fun i j => if j = 0 then (N i).1 else (N i).2
theorem cellsOf_zero2 (n : Nat) : (madeCells #[.int .i64 0, .int .i64 0] (n * 2)).toList = cellsOf n 2 (prV fun _ => (0, 0)) := by
 apply List.ext_getElem?
 intro q
 by_cases hq : q < n * 2
 ·
  have h2 : q % 2 = 0 ∨ q % 2 = 1 := by omega
  rcases h2 with h2 | h2 <;> simp [madeCells, cellsOf, hq, prV, ints2, h2]
 · simp [madeCells, cellsOf, hq]
theorem own_two {w : World} {g t : Nat} {u v : Value} (h : Blk w g t #[u, v]) (F : Nat → Nat → Value) (h0 : F 0 0 = u) (h1 : F 0 1 = v) : Own w g t 2 (.slice (some ⟨g, 0, none⟩) 1 1) 1 F := by
 have e : cellsOf 1 2 F = [u, v] := by simp [cellsOf, h0, h1, List.range_succ]
 refine ⟨by simp [cellsOf], .inr ⟨g, 1, #[u, v], rfl, Nat.le_refl _, h, Nat.le_refl _, by decide, by simp, by rw [e]; simp⟩⟩
theorem two_tmp (W : World) (t : TypeId) {r0 r1 : Int} {OF : Nat → Int × Int} {i : Nat} (h : (r0, r1) = OF i) : ∀ j, j < 2 → (W.alloc (.cells #[.int .i64 r0, .int .i64 r1] t)).cell? ⟨W.heap.size, j, none⟩ = some (prV OF i j) := by
 intro j hj
 show _ = some (Value.int .i64 (if j = 0 then (OF i).1 else (OF i).2))
 rw [← h]
 rcases (show j = 0 ∨ j = 1 by omega) with rfl | rfl
 · exact (Blk.new W t #[.int .i64 r0, .int .i64 r1]).cell 0
 · exact (Blk.new W t #[.int .i64 r0, .int .i64 r1]).cell 1
section
variable {d : M.Dr} {zA cA wA dA tA sA xA hA bA : Option Addr} {cl : Nat → Nat} {dc tc sc zc cc wc xc hn hc bc B B' ta lo hi l : Nat} {xL : List Int} {Xs : Nat → SgV} {cs : Nat → Nat → Int} {s0 s1 : Int} {w : World}
set_option maxRecDepth 100000 in
set_option maxHeartbeats 12800000 in
theorem rlosses_any (hd : d.Ok) (hcl : ∀ i, i < d.nz → cl i + 1 = d.s.nt) (hR : RdD w B dA tA sA zA cA wA d.s.nd d.s.nt d.s.nt d.s.nd d.nz (d.s.nt - 1) d.s.dep d.s.tide d.s.sw d.z cl d.cu d.wd) (hB : B ≤ w.heap.size) (hx3 : Rd1 w B xA xL.length (fun k => xL.getD k 0)) (hx4 : xL.length ≤ maxLen) (hRS : RdS w B hA hn Xs) (hhn : hn ≤ maxLen)
  (hb : Rd w B' bA 2 d.nz cs) (hB' : B' ≤ w.heap.size) (h0 : ∀ p, (0 ≤ M.costN d.s.nd d.z cs p 0 ∧ M.costN d.s.nd d.z cs p 0 ≤ 100) ∧ 0 ≤ M.costN d.s.nd d.z cs p 1 ∧ M.costN d.s.nd d.z cs p 1 ≤ 100) {m : Nat} (hm : ta + m + 1 = d.s.nt) (hl : l ≤ 8) :
  Calls Tryz.prog 80 #[.agg #[.int .i64 (d.s.W : Int), .int .i64 (d.s.H : Int), .slice dA d.s.nd dc, .slice tA d.s.nt tc, .slice sA d.s.nt sc, .slice zA d.s.nd zc, .slice cA d.nz cc, .slice wA (d.s.nt - 1) wc], .agg #[.int .i64 (ta : Int), .slice xA xL.length xc, .int .i64 (lo : Int), .int .i64 (hi : Int)], .slice hA hn hc, .agg #[.slice bA d.nz bc, .int .i64 s0, .int .i64 s1], .int .i64 (l : Int)] w fun e w' => Below w.heap.size w w' ∧ ((M.anyC d.s.nd (M.rowB d ta (l : Int) (fun c => xL.contains c) (trFit Xs hn ta (-1) 0) m 0) = false ∧ e = .returned (.tuple #[.slice none 0 0, .bool false])) ∨ (M.anyC d.s.nd (M.rowB d ta (l : Int) (fun c => xL.contains c) (trFit Xs hn ta (-1) 0) m 0) = true ∧ ∃ v, e = .returned (.tuple #[v, .bool true]) ∧ Own w' w.heap.size 42 2 v (m + 1) (prV (M.ouF d ta (l : Int) (fun c => xL.contains c) (trFit Xs hn ta (-1) 0) m (M.costN d.s.nd d.z cs))))) := by
 have hnd := hd.s.nd1
 have hnt := hd.s.t2
 have hta : ta < d.s.nt := by omega
 have HB0 := Lib.hid (belowAlloc3 w (.cells #[.int .i64 (d.s.W : Int), .int .i64 (d.s.H : Int), .slice dA d.s.nd dc, .slice tA d.s.nt tc, .slice sA d.s.nt sc, .slice zA d.s.nd zc, .slice cA d.nz cc, .slice wA (d.s.nt - 1) wc] 29) (.cells #[.int .i64 (ta : Int), .slice xA xL.length xc, .int .i64 (lo : Int), .int .i64 (hi : Int)] 44) (.cells #[.slice bA d.nz bc, .int .i64 s0, .int .i64 s1] 73))
 have K0 := Lib.hid (((Blk.new w 29 #[.int .i64 (d.s.W : Int), .int .i64 (d.s.H : Int), .slice dA d.s.nd dc, .slice tA d.s.nt tc, .slice sA d.s.nt sc, .slice zA d.s.nd zc, .slice cA d.nz cc, .slice wA (d.s.nt - 1) wc]).alloc (.cells #[.int .i64 (ta : Int), .slice xA xL.length xc, .int .i64 (lo : Int), .int .i64 (hi : Int)] 44)).alloc (.cells #[.slice bA d.nz bc, .int .i64 s0, .int .i64 s1] 73))
 have X0 := Lib.hid ((Blk.new1 w (.cells #[.int .i64 (d.s.W : Int), .int .i64 (d.s.H : Int), .slice dA d.s.nd dc, .slice tA d.s.nt tc, .slice sA d.s.nt sc, .slice zA d.s.nd zc, .slice cA d.nz cc, .slice wA (d.s.nt - 1) wc] 29) 44 #[.int .i64 (ta : Int), .slice xA xL.length xc, .int .i64 (lo : Int), .int .i64 (hi : Int)]).alloc (.cells #[.slice bA d.nz bc, .int .i64 s0, .int .i64 s1] 73))
 have Y0 := Lib.hid (Blk.new2 w (.cells #[.int .i64 (d.s.W : Int), .int .i64 (d.s.H : Int), .slice dA d.s.nd dc, .slice tA d.s.nt tc, .slice sA d.s.nt sc, .slice zA d.s.nd zc, .slice cA d.nz cc, .slice wA (d.s.nt - 1) wc] 29) (.cells #[.int .i64 (ta : Int), .slice xA xL.length xc, .int .i64 (lo : Int), .int .i64 (hi : Int)] 44) 73 #[.slice bA d.nz bc, .int .i64 s0, .int .i64 s1])
 have HMO := Lib.hid (fun (V : World) (hb : Below w.heap.size w V) => (show Calls Tryz.prog 73 #[.agg #[.int .i64 (d.s.W : Int), .int .i64 (d.s.H : Int), .slice dA d.s.nd dc, .slice tA d.s.nt tc, .slice sA d.s.nt sc, .slice zA d.s.nd zc, .slice cA d.nz cc, .slice wA (d.s.nt - 1) wc], .agg #[.int .i64 (ta : Int), .slice xA xL.length xc, .int .i64 (lo : Int), .int .i64 (hi : Int)], .int .i64 (l : Int)] V fun e w' => (∃ v, e = .returned v ∧ MovV w' V.heap.size d.s.nd m (movF d ta (l : Int)) v) ∧ Below V.heap.size V w' from by
  rw [show m = d.s.nt - 1 - ta by omega]
  exact rmoves_any (dc := dc) (tc := tc) (sc := sc) (zc := zc) (cc := cc) (wc := wc) (xA := xA) (xn := xL.length) (xc := xc) (lo := (lo : Int)) (hi := (hi : Int)) hd hcl (hR.below (hb.mono hB)) (Nat.le_trans hB hb.size) ta l hta hl))
 obtain ⟨co, hco⟩ : ∃ f, f = M.costN d.s.nd d.z cs := ⟨_, rfl⟩
 obtain ⟨S, hS1⟩ : ∃ S : Nat → Nat → Bool, S = setF d ta m hn xL Xs (l : Int) := ⟨_, rfl⟩
 have HSE := Lib.hid (fun (V : World) (hb : Below w.heap.size w V) (b : Nat) (v : Value) (hl : MovV V b d.s.nd m (movF d ta (l : Int)) v) => (show Calls Tryz.prog 72 #[.agg #[.int .i64 (d.s.W : Int), .int .i64 (d.s.H : Int), .slice dA d.s.nd dc, .slice tA d.s.nt tc, .slice sA d.s.nt sc, .slice zA d.s.nd zc, .slice cA d.nz cc, .slice wA (d.s.nt - 1) wc], .agg #[.int .i64 (ta : Int), .slice xA xL.length xc, .int .i64 (lo : Int), .int .i64 (hi : Int)], .slice hA hn hc, v] V fun e w' => (∃ v G, e = .returned v ∧ Rowz w' V.heap.size v (m + 1) d.s.nd G S) ∧ Below V.heap.size V w' from by rw [hS1]; exact rsets_drift (dc := dc) (tc := tc) (sc := sc) (zc := zc) (cc := cc) (wc := wc) (xc := xc) (hc := hc) (zA := zA) (cA := cA) (wA := wA) (dA := dA) (tA := tA) (sA := sA) (lo := (lo : Int)) (hi := (hi : Int)) hd (by omega) (Nat.le_trans hB hb.size) (hx3.below (hb.mono hB)) hx4 (hRS.below (hb.mono hB)) hhn hl))
 have HCO := Lib.hid (fun (V : World) (hV : Below w.heap.size w V) (c : Int) (hc : -1 ≤ c ∧ c < d.s.nd) => (show Calls Tryz.prog 39 #[.agg #[.int .i64 (d.s.W : Int), .int .i64 (d.s.H : Int), .slice dA d.s.nd dc, .slice tA d.s.nt tc, .slice sA d.s.nt sc, .slice zA d.s.nd zc, .slice cA d.nz cc, .slice wA (d.s.nt - 1) wc], .agg #[.slice bA d.nz bc, .int .i64 s0, .int .i64 s1], .int .i64 c] V fun e w' => e = .returned (.agg #[.int .i64 (co c 0), .int .i64 (co c 1)]) ∧ Below V.heap.size V w' from by rw [hco]; exact rcost_any (dc := dc) (tc := tc) (sc := sc) (zc := zc) (cc := cc) (wc := wc) (bc := bc) (s0 := s0) (s1 := s1) V hd (hR.below (hV.mono hB)) (Nat.le_trans hB hV.size) (hb.below (hV.mono hB')) (Nat.le_trans hB' hV.size) hc))
 rw [← hco] at h0 ⊢
 obtain ⟨F, hF1⟩ : ∃ F : Nat → Nat → Nat → Bool, F = movF d ta (l : Int) := ⟨_, rfl⟩
 rw [← hF1] at HMO HSE
 obtain ⟨q0, hq0⟩ : ∃ q, q = M.rowB d ta (l : Int) (fun c => xL.contains c) (trFit Xs hn ta (-1) 0) m 0 := ⟨_, rfl⟩
 obtain ⟨NF, hNF⟩ : ∃ q, q = M.nwF d ta (l : Int) (fun c => xL.contains c) (trFit Xs hn ta (-1) 0) m co := ⟨_, rfl⟩
 obtain ⟨BF, hBF⟩ : ∃ q, q = M.bsF d ta (l : Int) (fun c => xL.contains c) (trFit Xs hn ta (-1) 0) m co := ⟨_, rfl⟩
 obtain ⟨WF, hWF⟩ : ∃ q, q = M.whF d ta (l : Int) (fun c => xL.contains c) (trFit Xs hn ta (-1) 0) m co := ⟨_, rfl⟩
 obtain ⟨OF, hOF⟩ : ∃ q, q = M.ouF d ta (l : Int) (fun c => xL.contains c) (trFit Xs hn ta (-1) 0) m co := ⟨_, rfl⟩
 have HS0 := Lib.hid (show ∀ k : Nat, S 0 k = q0 ((k : Int) - 1) from fun k => by rw [hS1, hq0]; rfl)
 have HN0 := Lib.hid (show ∀ k : Nat, S 0 k = true → NF 0 k = (0, 0) from fun k h => by rw [hS1] at h; rw [hNF]; exact M.nw_zero h)
 have HB_0 := Lib.hid (show ∀ i k : Nat, BF i k 0 = (-1, 0) from fun i k => by rw [hBF]; exact M.bs_zero)
 have HW_0 := Lib.hid (show ∀ i : Nat, WF i 0 = (-1, 0) from fun i => by rw [hWF]; exact M.wh_zero)
 have HB_n := Lib.hid (show ∀ i k f : Nat, (S (i + 1) k && S i f && F i f k) = false → BF i k (f + 1) = BF i k f from fun i k f h => by rw [hS1, hF1] at h; rw [hBF]; exact M.bs_no h)
 have HB_y := Lib.hid (show ∀ i k f : Nat, i < m → f < d.s.nd + 1 → S (i + 1) k = true → S i f = true → F i f k = true → M.wid (BF i k f) ((NF i f).1 + co ((f : Int) - 1) 0, (NF i f).2 + co ((f : Int) - 1) 1) = BF i k (f + 1) from fun i k f hi hf h1 h2 h3 => by rw [hS1] at h1 h2; rw [hF1] at h3; rw [hBF, hNF]; exact M.bs_yes h0 hi hf h1 h2 h3)
 have HB_e := Lib.hid (show ∀ i k : Nat, i < m → k < d.s.nd + 1 → BF i k (d.s.nd + 1) = NF (i + 1) k from fun i k hi hk => by rw [hBF, hNF]; exact M.bs_end hi hk)
 have HW_n := Lib.hid (show ∀ i k : Nat, S (i + 1) k = false → WF i (k + 1) = WF i k from fun i k h => by rw [hS1] at h; rw [hWF]; exact M.wh_no h)
 have HW_y := Lib.hid (show ∀ i k : Nat, i < m → k < d.s.nd + 1 → S (i + 1) k = true → M.wid (WF i k) (NF (i + 1) k) = WF i (k + 1) from fun i k hi hk h => by rw [hS1] at h; rw [hWF, hNF]; exact M.wh_yes h0 hi hk h)
 have HO_0 := Lib.hid (show M.anyC d.s.nd q0 = true → OF 0 = (0, 0) from fun h => by
  rw [hq0] at h
  rw [hOF]
  obtain ⟨e1, e2⟩ := M.low_zero (co := co) (show M.rwL d ta (l : Int) (fun c => xL.contains c) (trFit Xs hn ta (-1) 0) m 0 ≠ [] from M.listB_ne.2 h)
  unfold M.ouF
  rw [e1, e2])
 have HO_s := Lib.hid (show M.anyC d.s.nd q0 = true → ∀ i : Nat, i < m → WF i (d.s.nd + 1) = OF (i + 1) from fun h i hi => by
  rw [hq0] at h
  rw [hWF, hOF]
  exact M.wh_end (M.row_some (Nat.zero_le m) (show i + 1 ≤ m by omega) (show M.rwL d ta (l : Int) (fun c => xL.contains c) (trFit Xs hn ta (-1) 0) m 0 ≠ [] from M.listB_ne.2 h)))
 have HBD := Lib.hid (show ∀ i f : Nat, i ≤ m → f < d.s.nd + 1 → S i f = true → 0 ≤ (NF i f).1 ∧ (NF i f).1 ≤ 100 * m ∧ 0 ≤ (NF i f).2 ∧ (NF i f).2 ≤ 100 * m from fun i f hi hf h => by rw [hS1] at h; rw [hNF]; exact M.nw_bd h0 hi hf h)
 have HCB := Lib.hid h0
 obtain ⟨j0, ki, kz0, kz1, kz2⟩ := info_parts span_info
 have MJ := Lib.hid (And.intro ki (And.intro kz0 (And.intro kz1 kz2)))
 rw [← hOF, ← hq0]
 have hm60 : m < 60 := by omega
 clear ki kz0 kz1 kz2 hco hS1 hF1 hq0 hNF hBF hWF hOF hR hd hcl hB hx3 hRS hb hB' h0 hm
 go_enter Tryz.func80, Tryz.ntmps80
 go_upto_region 1 with fail
 generalize ((w.alloc (.cells #[.int .i64 (d.s.W : Int), .int .i64 (d.s.H : Int), .slice dA d.s.nd dc, .slice tA d.s.nt tc, .slice sA d.s.nt sc, .slice zA d.s.nd zc, .slice cA d.nz cc, .slice wA (d.s.nt - 1) wc] 29)).alloc (.cells #[.int .i64 (ta : Int), .slice xA xL.length xc, .int .i64 (lo : Int), .int .i64 (hi : Int)] 44)).alloc (.cells #[.slice bA d.nz bc, .int .i64 s0, .int .i64 s1] 73) = X at HB0 K0 X0 Y0 ⊢
 simp only [Nat.add_assoc, Nat.reduceAdd] at Y0 ⊢
 have HMX := Lib.hid (HMO.out X HB0.out)
 obtain ⟨k0, k1, k2, k3, k4, k5, k6, k7⟩ := K0.out.c8
 obtain ⟨x0, x1, x2, x3⟩ := X0.out.c4
 go_wp2_with fail
 refine HMX.out.mono ?_
 rintro e w1 ⟨⟨v1, rfl, ht1⟩, hb⟩
 obtain ⟨lA, lc, rfl⟩ := LiV.form ht1
 have HT1 := Lib.hid ht1
 have HB1 := Lib.hid (HB0.out.trans (hb.mono HB0.out.size))
 have K1 := Lib.hid (K0.out.below' hb)
 have X1 := Lib.hid (X0.out.below' hb)
 have Y1 := Lib.hid (Y0.out.below' hb)
 clear k0 k1 k2 k3 k4 k5 k6 k7 x0 x1 x2 x3
 clear ht1 hb HMX HMO HB0 K0 X0 Y0
 have HSX := Lib.hid (HSE.out w1 HB1.out _ _ HT1.out)
 obtain ⟨k0, k1, k2, k3, k4, k5, k6, k7⟩ := K1.out.c8
 obtain ⟨x0, x1, x2, x3⟩ := X1.out.c4
 go_wp2_with fail
 refine HSX.out.mono ?_
 rintro e w2 ⟨⟨v2, G, rfl, hz2⟩, hb⟩
 obtain ⟨sg, sc6, e2⟩ := Own.nz hz2.o (Nat.succ_pos m)
 subst e2
 have HZ2 := Lib.hid hz2
 have HT2 := Lib.hid (MovV.below HT1.out hb)
 have HB2 := Lib.hid (HB1.out.trans (hb.mono HB1.out.size))
 have K2 := Lib.hid (K1.out.below' hb)
 have X2 := Lib.hid (X1.out.below' hb)
 have Y2 := Lib.hid (Y1.out.below' hb)
 clear k0 k1 k2 k3 k4 k5 k6 k7 x0 x1 x2 x3
 clear hz2 hb HSX HSE HB1 K1 X1 Y1 HT1
 generalize w1.heap.size = bz at HZ2
 generalize X.heap.size = bt at HT2
 clear w1 X
 obtain ⟨_, _, e, c0⟩ := HZ2.out.row (Nat.succ_pos m)
 cases e
 have gi0 : (0 : Int) < ((m + 1 : Nat) : Int) := by omega
 have gi0' : (0 : Int) < (m : Int) + 1 := by omega
 have HPX := Lib.hid (rsome_any (q := q0) ((HZ2.out.m 0 (Nat.succ_pos m)).congr fun k hk => HS0.out k) (by omega))
 go_wp2_with fail
 refine HPX.out.mono ?_
 rintro e w3 ⟨rfl, hb⟩
 have HB3 := Lib.hid (HB2.out.trans (hb.mono HB2.out.size))
 have K3 := Lib.hid (K2.out.below' hb)
 have X3 := Lib.hid (X2.out.below' hb)
 have Y3 := Lib.hid (Y2.out.below' hb)
 have HZ3 := Lib.hid (HZ2.out.below hb)
 have HT3 := Lib.hid (MovV.below HT2.out hb)
 clear hb HPX HZ2 HT2 HB2 K2 X2 Y2 c0
 clear w2
 obtain ⟨q, hq⟩ : ∃ q, q = M.anyC d.s.nd q0 := ⟨_, rfl⟩
 rw [← hq] at HO_0 HO_s ⊢
 have HQ0 := Lib.hid hq
 clear hq
 cases q
 ·
  go_wp2_with fail
  go_ret2
  exact ⟨HB3.out, .inl ⟨HQ0.out.symm, rfl⟩⟩
 ·
  obtain ⟨_, _, e, c0⟩ := HZ3.out.row (Nat.succ_pos m)
  cases e
  have HO0 := Lib.hid (HO_0.out rfl)
  have HOS := Lib.hid (HO_s.out rfl)
  clear HO_0 HO_s HS0
  go_wp2_with (at_make; refine wpList_make_full _ rfl (.tmp 40) (.tmp 40) 23 rfl w3.heap.size 42 j0 (.agg #[.int .i64 0, .int .i64 0]) 2 Tryz.underlying23 MJ.out.1 MJ.out.2.1 MJ.out.2.2.1 .i64 .i64 ((d.s.nd + 1 : Nat) : Int) ((d.s.nd + 1 : Nat) : Int) (d.s.nd + 1) rfl rfl rfl rfl (by rw [MJ.out.2.2.2]; omega) (by unfold maxLen; omega) (Nat.le_refl _) ?_; intro w4 hm4 hg4; have HM4 := Lib.hid (show Own w4 w3.heap.size 42 2 (.slice (some ⟨w3.heap.size, 0, none⟩) (d.s.nd + 1) (d.s.nd + 1)) (d.s.nd + 1) (prV fun _ => (0, 0)) from by unfold Own; rw [← cellsOf_zero2]; exact hm4); have HG4 := Lib.hid (grown_below hg4); clear hm4 hg4)
  clear c0
  have HO4 := Lib.hid (show Own (w4.alloc (.cells #[.int .i64 0, .int .i64 0] 42)) w3.heap.size 42 2 (.slice (some ⟨w4.heap.size, 0, none⟩) 1 1) 1 (prV OF) from (own_two (Blk.new w4 _ _) (prV OF) (by show Value.int .i64 (OF 0).1 = _; rw [HO0.out]) (by show Value.int .i64 (OF 0).2 = _; rw [HO0.out])).less HG4.out.size)
  have HN4 := Lib.hid (Own.alloc HM4.out (.cells #[.int .i64 0, .int .i64 0] 42))
  have HL4 := Lib.hid (HG4.out.alloc HG4.out.size (.cells #[.int .i64 0, .int .i64 0] 42))
  generalize w4.alloc (.cells #[.int .i64 0, .int .i64 0] 42) = w5 at HO4 HN4 HL4 ⊢
  generalize w4.heap.size = ob0 at HO4 ⊢
  clear HM4 HG4
  clear w4
  go_wp2_with fail
  go_loopw [14, 15, 16] (fun a b c wr => ∃ i q : Nat, i ≤ m + 1 ∧ Hid (i = q + 1) ∧ c = .int .i64 (i : Int) ∧ ∃ (nb nc ob oc : Nat) (N : Nat → Int × Int), a = .slice (some ⟨nb, 0, none⟩) (d.s.nd + 1) nc ∧ b = .slice (some ⟨ob, 0, none⟩) i oc ∧ Hid (Own wr w3.heap.size 42 2 (.slice (some ⟨nb, 0, none⟩) (d.s.nd + 1) nc) (d.s.nd + 1) (prV N)) ∧ Hid (Own wr w3.heap.size 42 2 (.slice (some ⟨ob, 0, none⟩) i oc) i (prV OF)) ∧ Hid (∀ k, k < d.s.nd + 1 → S q k = true → N k = NF q k) ∧ Hid (Below w3.heap.size w3 wr)) (fun _ _ c _ => m + 1 - (intOf c).toNat)
  case atStart => exact ⟨1, 0, by omega, Lib.hid rfl, rfl, _, _, _, _, fun _ => (0, 0), rfl, rfl, HN4, HO4, Lib.hid (fun k _ h => (HN0.out k h).symm), HL4⟩
  case round =>
   obtain ⟨i, q, hi, HIQ, rfl, nb, nc, ob, oc, N, rfl, rfl, HN, HO, HNN, HL⟩ := hrel
   clear HN4 HO4 HL4 HN0 HO0
   obtain ⟨wo, rfl⟩ : ∃ wo, wo = wr := ⟨_, rfl⟩
   by_cases hlt : i < m + 1
   ·
    have g1 : decide (i < m + 1) = true := decide_eq_true hlt
    have hz := HL.out.size
    have hqm : q < m := by have := HIQ.out; omega
    have hqi : q < m + 1 := by omega
    have ej : (i : Int) - 1 = (q : Int) := by have := HIQ.out; omega
    go_wp2_with (at_make; refine wpList_make_full _ rfl (.tmp 51) (.tmp 51) 23 rfl wo.heap.size 42 j0 (.agg #[.int .i64 0, .int .i64 0]) 2 Tryz.underlying23 MJ.out.1 MJ.out.2.1 MJ.out.2.2.1 .i64 .i64 ((d.s.nd + 1 : Nat) : Int) ((d.s.nd + 1 : Nat) : Int) (d.s.nd + 1) rfl rfl rfl rfl (by rw [MJ.out.2.2.2]; omega) (by unfold maxLen; omega) (Nat.le_refl _) ?_; intro w6 hm6 hg6; have HM6 := Lib.hid (show Own w6 wo.heap.size 42 2 (.slice (some ⟨wo.heap.size, 0, none⟩) (d.s.nd + 1) (d.s.nd + 1)) (d.s.nd + 1) (prV fun _ => (0, 0)) from by unfold Own; rw [← cellsOf_zero2]; exact hm6); have HG6 := Lib.hid (grown_below hg6); clear hm6 hg6)
    have HX6 := Lib.hid (show wo.heap.size < w6.heap.size from (Own.block HM6.out rfl).2)
    skip
    go_wp2_with fail
    go_loopw [19] (fun t wr => ∃ k : Nat, k ≤ d.s.nd + 1 ∧ t = .int .i64 (k : Int) ∧ ∃ P : Nat → Int × Int, Hid (Own wr wo.heap.size 42 2 (.slice (some ⟨wo.heap.size, 0, none⟩) (d.s.nd + 1) (d.s.nd + 1)) (d.s.nd + 1) (prV P)) ∧ Hid (∀ x, x < k → P x = NF i x) ∧ Hid (Blk wr w6.heap.size 42 #[.int .i64 (WF q k).1, .int .i64 (WF q k).2]) ∧ Hid (Below wo.heap.size wo wr)) (fun t _ => d.s.nd + 1 - (intOf t).toNat)
    case atStart => exact ⟨0, Nat.zero_le _, rfl, fun _ => (0, 0), Lib.hid (Own.alloc HM6.out _), Lib.hid (fun x hx => absurd hx (Nat.not_lt_zero x)), Lib.hid (by rw [HW_0.out]; exact Blk.new w6 42 #[.int .i64 (-1), .int .i64 0]), Lib.hid (HG6.out.alloc HG6.out.size _)⟩
    case round =>
     obtain ⟨k, hk, rfl, P, HP, HPP, HW, HL2⟩ := hrel
     clear HM6 HG6
     generalize w6.heap.size = g18 at HX6 HW ⊢
     clear w6
     obtain ⟨wm, rfl⟩ : ∃ wm, wm = wr := ⟨_, rfl⟩
     by_cases hkt : k < d.s.nd + 1
     ·
      have g2 : decide (k < d.s.nd + 1) = true := decide_eq_true hkt
      have HGM := Lib.hid (show g18 < wm.heap.size from HW.out.lt)
      have HXM := Lib.hid (show wo.heap.size < wm.heap.size from (Own.block HP.out rfl).2)
      go_wp2_with fail
      go_loopw [21] (fun t wr => ∃ f : Nat, f ≤ d.s.nd + 1 ∧ t = .int .i64 (f : Int) ∧ Hid (Blk wr wm.heap.size 42 #[.int .i64 (BF q k f).1, .int .i64 (BF q k f).2]) ∧ Hid (Below wm.heap.size wm wr)) (fun t _ => d.s.nd + 1 - (intOf t).toNat)
      case atStart => exact ⟨0, Nat.zero_le _, rfl, Lib.hid (by rw [HB_0.out]; exact Blk.new wm 42 #[.int .i64 (-1), .int .i64 0]), Lib.hid (belowAlloc wm _)⟩
      case round =>
       obtain ⟨f, hf, rfl, HBB, HL3⟩ := hrel
       obtain ⟨wi, rfl⟩ : ∃ wi, wi = wr := ⟨_, rfl⟩
       have HX3 := Lib.hid (show Below w3.heap.size w3 wi from HL.out.trans ((HL2.out.trans (HL3.out.mono HL2.out.size)).mono HL.out.size))
       by_cases hft : f < d.s.nd + 1
       ·
        have g3 : decide (f < d.s.nd + 1) = true := decide_eq_true hft
        have HZi := Lib.hid (HZ3.out.below HX3.out)
        obtain ⟨_, _, e, c0⟩ := HZi.out.row hlt
        cases e
        have c1 := (HZi.out.m i hlt).cell (i := k) hkt
        obtain ⟨_, _, e, c2⟩ := HZi.out.row hqi
        cases e
        have c3 := (HZi.out.m q hqi).cell (i := f) hft
        obtain ⟨lg, g2', c2', g3', rfl, l0, l1, l2⟩ := (MovV.below HT3.out HX3.out).at3 hqm hft hkt
        have HBN := Lib.hid (HB_n.out q k f)
        rw [← HIQ.out] at HBN
        obtain ⟨b1, hb1⟩ : ∃ x, x = S i k := ⟨_, rfl⟩
        obtain ⟨b2, hb2⟩ : ∃ x, x = S q f := ⟨_, rfl⟩
        obtain ⟨b3, hb3⟩ : ∃ x, x = F q f k := ⟨_, rfl⟩
        rw [← hb1] at c1 HBN
        rw [← hb2] at c3 HBN
        rw [← hb3] at l2 HBN
        have H1 := Lib.hid hb1
        have H2 := Lib.hid hb2
        have H3 := Lib.hid hb3
        clear hb1 hb2 hb3 HZi
        cases b1
        ·
         go_wp2_with fail
         go_roundw
         case rel => exact ⟨f + 1, by omega, by go_num, Lib.hid (by rw [HBN.out rfl]; exact HBB.out), HL3⟩
         case measure => simp [intOf]; omega
        ·
         cases b2
         ·
          go_wp2_with fail
          go_roundw
          case rel => exact ⟨f + 1, by omega, by go_num, Lib.hid (by rw [HBN.out rfl]; exact HBB.out), HL3⟩
          case measure => simp [intOf]; omega
         ·
          cases b3
          ·
           go_wp2_with fail
           go_roundw
           case rel => exact ⟨f + 1, by omega, by go_num, Lib.hid (by rw [HBN.out rfl]; exact HBB.out), HL3⟩
           case measure => simp [intOf]; omega
          ·
           have HKi := Lib.hid (K3.out.below' HX3.out)
           have HYi := Lib.hid (Y3.out.below' HX3.out)
           obtain ⟨k0, k1, k2, k3, k4, k5, k6, k7⟩ := HKi.out.c8
           obtain ⟨y0, y1, y2⟩ := HYi.out.c3
           have HCX := Lib.hid (HCO.out wi (HB3.out.trans (HX3.out.mono HB3.out.size)) ((f : Int) - 1) (by omega))
           go_wp2_with fail
           refine HCX.out.mono ?_
           rintro e wc ⟨rfl, hb⟩
           clear HCX c0 c1 c2 c3 l0 l1 l2 HKi HYi y0 y1 y2 k0 k1 k2 k3 k4 k5 k6 k7
           have HL4 := Lib.hid (HL3.out.trans (hb.mono HL3.out.size))
           have HB4 := Lib.hid (HBB.out.below' hb)
           clear hb
           have HN4 := Lib.hid (Own.below HN.out (HL2.out.trans (HL4.out.mono HL2.out.size)))
           have HBY := Lib.hid (HB_y.out q k f hqm hft (by rw [← HIQ.out]; exact H1.out.symm) H2.out.symm H3.out.symm)
           have HNF := Lib.hid (HNN.out f hft H2.out.symm)
           obtain ⟨d1, d2, d3, d4⟩ := HBD.out q f (by omega) hft H2.out.symm
           rw [← HNF.out] at d1 d2 d3 d4 HBY
           obtain ⟨⟨d5, d6⟩, d7, d8⟩ := HCB.out ((f : Int) - 1)
           have n0 := Own.cell HN4.out (i := f) (j := 0) hft (by decide)
           have n1 := Own.cell HN4.out (i := f) (j := 1) hft (by decide)
           rw [show prV N f 0 = .int .i64 (N f).1 from rfl, Nat.add_zero] at n0
           rw [show prV N f 1 = .int .i64 (N f).2 from rfl] at n1
           obtain ⟨a0, ha0⟩ : ∃ x, x = (N f).1 := ⟨_, rfl⟩
           obtain ⟨a1, ha1⟩ : ∃ x, x = (N f).2 := ⟨_, rfl⟩
           have HA0 := Lib.hid ha0.symm
           have HA1 := Lib.hid ha1.symm
           rw [← ha0] at n0 d1 d2 HBY
           rw [← ha1] at n1 d3 d4 HBY
           obtain ⟨u0, hu0⟩ : ∃ x, x = co ((f : Int) - 1) 0 := ⟨_, rfl⟩
           obtain ⟨u1, hu1⟩ : ∃ x, x = co ((f : Int) - 1) 1 := ⟨_, rfl⟩
           rw [← hu0] at d5 d6 HBY ⊢
           rw [← hu1] at d7 d8 HBY ⊢
           obtain ⟨⟨p0, p1⟩, hp⟩ : ∃ x, x = BF q k f := ⟨_, rfl⟩
           rw [← hp] at HB4 HBY
           clear ha0 ha1 hu0 hu1 hp HBN
           have HWC := Lib.hid (show wm.heap.size < wc.heap.size from HB4.out.lt)
           have HNC := Lib.hid (show nb < wc.heap.size from (Own.block HN4.out rfl).2)
           go_upto_region 21 with fail
           have HN5 := Lib.hid (Own.alloc HN4.out (.cells #[.int .i64 u0, .int .i64 u1] 42))
           have C5 := Lib.hid (Blk.new wc 42 #[.int .i64 u0, .int .i64 u1])
           have HB5 := Lib.hid (HB4.out.alloc (.cells #[.int .i64 u0, .int .i64 u1] 42))
           have HL5 := Lib.hid (HL4.out.alloc HL4.out.size (.cells #[.int .i64 u0, .int .i64 u1] 42))
           clear n0 n1 HN4 HB4 HL4
           generalize wc.alloc (.cells #[.int .i64 u0, .int .i64 u1] 42) = wd at HN5 C5 HB5 HL5 ⊢
           generalize wc.heap.size = g22 at C5 HWC HNC ⊢
           clear wc
           have n0 := Own.cell HN5.out (i := f) (j := 0) hft (by decide)
           have n1 := Own.cell HN5.out (i := f) (j := 1) hft (by decide)
           rw [show prV N f 0 = .int .i64 (N f).1 from rfl, Nat.add_zero, HA0.out] at n0
           rw [show prV N f 1 = .int .i64 (N f).2 from rfl, HA1.out] at n1
           have h5 := HB5.out.cell 0
           have h6 := HB5.out.cell 1
           obtain ⟨v0, v1⟩ := C5.out.c2
           have HLT := Lib.hid (show wm.heap.size < wd.heap.size ∧ nb < wd.heap.size ∧ g22 < wd.heap.size from ⟨HB5.out.lt, (Own.block HN5.out rfl).2, C5.out.lt⟩)
           have HE0 := Lib.hid (show IntKind.i64.wrap (a0 + u0) = a0 + u0 from by rw [IntKind.wrap_i64]; omega)
           have HE1 := Lib.hid (show IntKind.i64.wrap (a1 + u1) = a1 + u1 from by rw [IntKind.wrap_i64]; omega)
           have HWD := Lib.hid (rwider_any p0 p1 (a0 + u0) (a1 + u1) wd.drew)
           obtain ⟨⟨r0, r1⟩, hr⟩ : ∃ x, x = BF q k (f + 1) := ⟨_, rfl⟩
           rw [HBY.out, ← hr] at HWD
           rw [← hr] at HBY
           have HR := Lib.hid hr
           clear hr
           refine wp_nopanic ?_
           refine wp_region_T 19 (fun Z2 => Z2.cell? ⟨wm.heap.size, 0, none⟩ = some (.int .i64 p0) ∧ Z2.cell? ⟨wm.heap.size, 1, none⟩ = some (.int .i64 p1) ∧ Z2.cell? ⟨nb, f * 2, none⟩ = some (.int .i64 a0) ∧ Z2.cell? ⟨nb, f * 2 + 1, none⟩ = some (.int .i64 a1) ∧ Z2.cell? ⟨g22, 0, none⟩ = some (.int .i64 u0) ∧ Z2.cell? ⟨g22, 1, none⟩ = some (.int .i64 u1)) (by kernel_rfl) (And.intro h5 (And.intro h6 (And.intro n0 (And.intro n1 (And.intro v0 v1))))) ?_
           intro hS
           refine takeK (i := 0) (v := ?_) rfl (by kernel_rfl) (.inl ⟨by kernel_rfl, ?_⟩) hS ?_
           rotate_left
           · (intro w' hw; obtain ⟨m1, m2, m3, m4, m5, m6⟩ := hw; go_simp; try with_reducible rfl)
           try simp only [put_laws]
           refine takeK (i := 1) (v := ?_) rfl (by kernel_rfl) (.inl ⟨by kernel_rfl, ?_⟩) hS ?_
           rotate_left
           · (intro w' hw; go_simp; try with_reducible rfl)
           try simp only [put_laws]
           refine takeK (i := 2) (v := ?_) rfl (by kernel_rfl) (.inl ⟨by kernel_rfl, ?_⟩) hS ?_
           rotate_left
           · (intro w' hw; go_simp; try with_reducible rfl)
           try simp only [put_laws]
           refine takeK (i := 3) (v := ?_) rfl (by kernel_rfl) (.inl ⟨by kernel_rfl, ?_⟩) hS ?_
           rotate_left
           · (intro w' hw; go_simp; try with_reducible rfl)
           try simp only [put_laws]
           refine takeK (i := 4) (v := ?_) rfl (by kernel_rfl) (.inl ⟨by kernel_rfl, ?_⟩) hS ?_
           rotate_left
           · (intro w' hw; go_simp; try with_reducible rfl)
           try simp only [put_laws]
           refine takeK (i := 5) (v := ?_) rfl (by kernel_rfl) (.inl ⟨by kernel_rfl, ?_⟩) hS ?_
           rotate_left
           · (intro w' hw; obtain ⟨m1, m2, m3, m4, m5, m6⟩ := hw; go_simp; try with_reducible rfl)
           try simp only [put_laws]
           refine takeK (i := 6) (v := ?_) rfl (by kernel_rfl) (.inl ⟨by kernel_rfl, ?_⟩) hS ?_
           rotate_left
           · (intro w' hw; go_simp; try with_reducible rfl)
           try simp only [put_laws]
           refine takeK (i := 7) (v := ?_) rfl (by kernel_rfl) (.inl ⟨by kernel_rfl, ?_⟩) hS ?_
           rotate_left
           · (intro w' hw; obtain ⟨m1, m2, m3, m4, m5, m6⟩ := hw; go_simp; try with_reducible rfl)
           try simp only [put_laws]
           refine takeK (i := 8) (v := ?_) rfl (by kernel_rfl) (.inl ⟨by kernel_rfl, ?_⟩) hS ?_
           rotate_left
           · (intro w' hw; go_simp; try with_reducible rfl)
           try simp only [put_laws]
           refine takeK (i := 9) (v := ?_) rfl (by kernel_rfl) (.inl ⟨by kernel_rfl, ?_⟩) hS ?_
           rotate_left
           · (intro w' hw; go_simp; try with_reducible rfl)
           try simp only [put_laws]
           refine takeK (i := 10) (v := ?_) rfl (by kernel_rfl) (.inl ⟨by kernel_rfl, ?_⟩) hS ?_
           rotate_left
           · (intro w' hw; go_simp; try with_reducible rfl)
           try simp only [put_laws]
           refine takeK (i := 11) (v := ?_) rfl (by kernel_rfl) (.inl ⟨by kernel_rfl, ?_⟩) hS ?_
           rotate_left
           · (intro w' hw; go_simp; try with_reducible rfl)
           try simp only [put_laws]
           refine takeK (i := 12) (v := ?_) rfl (by kernel_rfl) (.inl ⟨by kernel_rfl, ?_⟩) hS ?_
           rotate_left
           · (intro w' hw; go_simp; try with_reducible rfl)
           try simp only [put_laws]
           refine takeK (i := 13) (v := ?_) rfl (by kernel_rfl) (.inl ⟨by kernel_rfl, ?_⟩) hS ?_
           rotate_left
           · (intro w' hw; obtain ⟨m1, m2, m3, m4, m5, m6⟩ := hw; go_simp; try with_reducible rfl)
           try simp only [put_laws]
           refine takeK (i := 14) (v := ?_) rfl (by kernel_rfl) (.inl ⟨by kernel_rfl, ?_⟩) hS ?_
           rotate_left
           · (intro w' hw; go_simp; try with_reducible rfl)
           try simp only [put_laws]
           refine takeK (i := 15) (v := ?_) rfl (by kernel_rfl) (.inl ⟨by kernel_rfl, ?_⟩) hS ?_
           rotate_left
           · (intro w' hw; obtain ⟨m1, m2, m3, m4, m5, m6⟩ := hw; go_simp; try with_reducible rfl)
           try simp only [put_laws]
           refine takeK (i := 16) (v := ?_) rfl (by kernel_rfl) (.inl ⟨by kernel_rfl, ?_⟩) hS ?_
           rotate_left
           · (intro w' hw; go_simp; try with_reducible rfl)
           try simp only [put_laws]
           refine takeK (i := 17) (v := ?_) rfl (by kernel_rfl) (.inl ⟨by kernel_rfl, ?_⟩) hS ?_
           rotate_left
           · (intro w' hw; go_simp; try with_reducible rfl)
           try simp only [put_laws]
           refine wpAnyT_one (i := 18) (by kernel_rfl) rfl ?_
           intro K' hK'
           go_simp
           rw [HE0.out, HE1.out]
           refine (HWD.out.mono ?_)
           rintro e we ⟨rfl, hbe⟩
           have HBE := Lib.hid (show Below wd.heap.size wd we from (Below.refl _ wd).drew.trans (hbe.mono (Nat.le_refl _)))
           clear hbe
           have hS2 : (fun Z2 => Z2.cell? ⟨wm.heap.size, 0, none⟩ = some (.int .i64 p0) ∧ Z2.cell? ⟨wm.heap.size, 1, none⟩ = some (.int .i64 p1) ∧ Z2.cell? ⟨nb, f * 2, none⟩ = some (.int .i64 a0) ∧ Z2.cell? ⟨nb, f * 2 + 1, none⟩ = some (.int .i64 a1) ∧ Z2.cell? ⟨g22, 0, none⟩ = some (.int .i64 u0) ∧ Z2.cell? ⟨g22, 1, none⟩ = some (.int .i64 u1)) we := by
            refine ⟨(HBE.out.cell (p := ⟨wm.heap.size, 0, none⟩) HLT.out.1).trans h5, (HBE.out.cell (p := ⟨wm.heap.size, 1, none⟩) HLT.out.1).trans h6, (HBE.out.cell (p := ⟨nb, f * 2, none⟩) HLT.out.2.1).trans n0, (HBE.out.cell (p := ⟨nb, f * 2 + 1, none⟩) HLT.out.2.1).trans n1, (HBE.out.cell (p := ⟨g22, 0, none⟩) HLT.out.2.2).trans v0, (HBE.out.cell (p := ⟨g22, 1, none⟩) HLT.out.2.2).trans v1⟩
           have HB6 := Lib.hid (HB5.out.below' HBE.out)
           obtain ⟨e0, e1⟩ := HB6.out.c2
           have z0 := HB6.out.frz 0
           have z1 := HB6.out.frz 1
           have el := HB6.out.lt
           refine hK'.out _ _ (.inr hS2) ?_
           clear hK' K'
           try simp only [put_laws]
           refine wpAnyT_one (i := 19) (by kernel_rfl) rfl ?_
           intro K' hK'
           go_simp
           refine hK'.out _ _ (.inl rfl) ?_
           clear hK' K'
           try simp only [put_laws]
           refine wpAnyT_done (by kernel_rfl) ?_ _
           refine ⟨fun x e => (by cases e), ?_⟩
           clear h5 h6 n0 n1 v0 v1 e0 e1 z0 z1 el hS HWD
           go_wp2_with fail
           go_roundw
           case rel => exact ⟨f + 1, by omega, by go_num, Lib.hid (by rw [← HR.out]; exact (HB6.out.set_ 0 _).set_ 1 _), Lib.hid (((HL5.out.trans (HBE.out.mono HL5.out.size)).setCell (p := ⟨wm.heap.size, 0, none⟩) (Nat.le_refl _) _).setCell (p := ⟨wm.heap.size, 1, none⟩) (Nat.le_refl _) _)⟩
           case measure => simp [intOf]; omega
       ·
        obtain rfl : f = d.s.nd + 1 := by omega
        have g3 : decide (d.s.nd + 1 < d.s.nd + 1) = false := decide_eq_false (Nat.lt_irrefl _)
        have HBE := Lib.hid (show Blk wi wm.heap.size 42 #[.int .i64 (NF i k).1, .int .i64 (NF i k).2] from by rw [HIQ.out, ← HB_e.out q k hqm hkt]; exact HBB.out)
        obtain ⟨⟨r0, r1⟩, hr⟩ : ∃ x, x = NF i k := ⟨_, rfl⟩
        rw [← hr] at HBE
        have HR := Lib.hid hr
        clear hr HBB hf
        have HPi := Lib.hid (HP.out.below HL3.out)
        obtain ⟨b0, b1⟩ := HBE.out.c2
        have n0 := Own.cell HPi.out (i := k) (j := 0) hkt (by decide)
        have n1 := Own.cell HPi.out (i := k) (j := 1) hkt (by decide)
        rw [Nat.add_zero] at n0
        have z0 := Own.frz HPi.out (k * 2)
        have z1 := Own.frz HPi.out (k * 2 + 1)
        have hgl := (Own.block HPi.out rfl).2
        go_upto_region 22 with fail
        go_upto_region 23 with fail
        have HP5 := Lib.hid (show Own ((wi.setCell ⟨wo.heap.size, k * 2, none⟩ (.int .i64 r0)).setCell ⟨wo.heap.size, k * 2 + 1, none⟩ (.int .i64 r1)) wo.heap.size 42 2 (.slice (some ⟨wo.heap.size, 0, none⟩) (d.s.nd + 1) (d.s.nd + 1)) (d.s.nd + 1) (prV fun x => if x = k then (r0, r1) else P x) from (Own.setm (Own.setm (j := 0) HPi.out (by decide) _) (j := 1) (by decide) _).congr fun x y _ hy => by
          unfold upd2 prV ints2
          by_cases e : x = k
          ·
           subst e
           rcases (show y = 0 ∨ y = 1 by omega) with rfl | rfl <;> simp
          · simp [e])
        have HL5 := Lib.hid (((HL2.out.trans (HL3.out.mono HL2.out.size)).setCell (p := ⟨wo.heap.size, k * 2, none⟩) (Nat.le_refl _) (.int .i64 r0)).setCell (p := ⟨wo.heap.size, k * 2 + 1, none⟩) (Nat.le_refl _) (.int .i64 r1))
        have HB5 := Lib.hid ((HBE.out.far (p := ⟨wo.heap.size, k * 2, none⟩) (fun e => by have := HXM.out; simp at e; omega) (.int .i64 r0)).far (p := ⟨wo.heap.size, k * 2 + 1, none⟩) (fun e => by have := HXM.out; simp at e; omega) (.int .i64 r1))
        have HW5 := Lib.hid (((HW.out.below' HL3.out).far (p := ⟨wo.heap.size, k * 2, none⟩) (fun e => by have := HX6.out; simp at e; omega) (.int .i64 r0)).far (p := ⟨wo.heap.size, k * 2 + 1, none⟩) (fun e => by have := HX6.out; simp at e; omega) (.int .i64 r1))
        clear b0 b1 n0 n1 z0 z1 hgl HPi HBE HX3 HL3 HP HW
        generalize (wi.setCell ⟨wo.heap.size, k * 2, none⟩ (.int .i64 r0)).setCell ⟨wo.heap.size, k * 2 + 1, none⟩ (.int .i64 r1) = w5 at HP5 HL5 HB5 HW5 ⊢
        clear wi
        have HX5 := Lib.hid (show Below w3.heap.size w3 w5 from HL.out.trans (HL5.out.mono hz))
        have HZi := Lib.hid (HZ3.out.below HX5.out)
        obtain ⟨_, _, e, c0⟩ := HZi.out.row hlt
        cases e
        have c1 := (HZi.out.m i hlt).cell (i := k) hkt
        have HWN := Lib.hid (HW_n.out q k)
        have HWY := Lib.hid (HW_y.out q k hqm hkt)
        rw [← HIQ.out] at HWN HWY
        obtain ⟨b1, hb1⟩ : ∃ x, x = S i k := ⟨_, rfl⟩
        rw [← hb1] at c1 HWN HWY
        clear hb1 HZi
        have HPP5 := Lib.hid (show ∀ x, x < k + 1 → (fun x => if x = k then (r0, r1) else P x) x = NF i x from fun x hx => by
          dsimp only
          by_cases e : x = k
          · rw [if_pos e, e, HR.out]
          · rw [if_neg e]; exact HPP.out x (by omega))
        cases b1
        ·
         go_wp2_with fail
         go_roundw
         case rel => exact ⟨k + 1, by omega, by go_num, _, HP5, HPP5, Lib.hid (by rw [HWN.out rfl]; exact HW5.out), HL5⟩
         case measure => simp [intOf]; omega
        ·
         have HWT := Lib.hid (HWY.out rfl)
         rw [← HR.out] at HWT
         obtain ⟨⟨v0, v1⟩, hv⟩ : ∃ x, x = WF q k := ⟨_, rfl⟩
         rw [← hv] at HWT HW5
         obtain ⟨⟨y0, y1⟩, hy⟩ : ∃ x, x = WF q (k + 1) := ⟨_, rfl⟩
         rw [← hy] at HWT
         have HY := Lib.hid hy
         have HWX := Lib.hid (rwider_any v0 v1 r0 r1 w5)
         rw [HWT.out] at HWX
         clear hv hy HWT HWN HWY
         obtain ⟨e0, e1⟩ := HW5.out.c2
         obtain ⟨b0, b1⟩ := HB5.out.c2
         go_wp2_with fail
         refine HWX.out.mono ?_
         rintro e w6 ⟨rfl, hb⟩
         have HW6 := Lib.hid (HW5.out.below' hb)
         have HP6 := Lib.hid (HP5.out.below hb)
         have HL6 := Lib.hid (HL5.out.trans (hb.mono HL5.out.size))
         clear hb HWX e0 e1 b0 b1 c0 c1 HW5 HB5 HP5 HL5 HX5
         clear w5
         obtain ⟨e0, e1⟩ := HW6.out.c2
         have z0 := HW6.out.frz 0
         have z1 := HW6.out.frz 1
         have el := HW6.out.lt
         go_wp2_with fail
         go_roundw
         case rel => exact ⟨k + 1, by omega, by go_num, _, Lib.hid ((HP6.out.setCell (p := ⟨g18, 0, none⟩) (fun e => by have := HX6.out; have e : some wo.heap.size = some g18 := e; injection e with e; omega) _).setCell (p := ⟨g18, 1, none⟩) (fun e => by have := HX6.out; have e : some wo.heap.size = some g18 := e; injection e with e; omega) _), HPP5, Lib.hid (by rw [← HY.out]; exact (HW6.out.set_ 0 _).set_ 1 _), Lib.hid ((HL6.out.setCell (p := ⟨g18, 0, none⟩) (Nat.le_of_lt HX6.out) _).setCell (p := ⟨g18, 1, none⟩) (Nat.le_of_lt HX6.out) _)⟩
         case measure => simp [intOf]; omega
     ·
      obtain rfl : k = d.s.nd + 1 := by omega
      have g2 : decide (d.s.nd + 1 < d.s.nd + 1) = false := decide_eq_false (Nat.lt_irrefl _)
      have HOm := Lib.hid (HO.out.below HL2.out)
      have HXm := Lib.hid (show Below w3.heap.size w3 wm from HL.out.trans (HL2.out.mono hz))
      have HOE := Lib.hid (HOS.out q hqm)
      rw [HOE.out, ← HIQ.out] at HW
      obtain ⟨⟨r0, r1⟩, hr⟩ : ∃ x, x = OF i := ⟨_, rfl⟩
      rw [← hr] at HW
      have HR := Lib.hid hr
      clear hr HOE
      have HAP := Lib.hid (show Apart (.slice (some ⟨ob, 0, none⟩) i oc) (.slice (some ⟨wo.heap.size, 0, none⟩) (d.s.nd + 1) (d.s.nd + 1)) from fun g h1 h2 => by have h3 := (Own.block HO.out h1).2; have h2 : some wo.heap.size = some g := h2; injection h2 with h2; omega)
      obtain ⟨e0, e1⟩ := HW.out.c2
      have hzm := HXm.out.size
      go_wp2_with (at_builtin; go_must (refine wpList_app rfl (.tmp 139) (.tmp 141) 23 rfl w3.heap.size 42 2 16 Tryz.underlying23 MJ.out.1 MJ.out.2.1 MJ.out.2.2.1 MJ.out.2.2.2 rfl (by decide) (by decide) (Own.alloc HOm.out _) rfl (by omega) (by simp; omega) wm.heap.size 1 (prV OF i) rfl (two_tmp wm 42 HR.out) (fun _ _ => rfl) ?_); intro v7 w7 o7 hg7 hat7; have HO7 := Lib.hid o7; have HG7 := Lib.hid hg7; clear o7 hg7 hat7)
      obtain ⟨ob', oc', e⟩ := Own.nz HO7.out (Nat.succ_pos i)
      subst e
      go_roundw
      case rel => exact ⟨i + 1, i, by omega, Lib.hid rfl, by go_num, _, _, _, _, P, rfl, rfl, Lib.hid (Own.less (Own.apart_grown (Own.alloc HP.out _) HAP.out HG7.out) hz), Lib.hid (HO7.out.congr fun x y _ _ => by
        unfold upd
        by_cases e : x = i
        · rw [if_pos e, e]
        · rw [if_neg e]), Lib.hid (fun x hx _ => HPP.out x hx), Lib.hid ((HXm.out.alloc hzm _).grown HG7.out (by simp; omega) fun g hg => (Own.block HOm.out hg).1)⟩
      case measure => simp [intOf]; omega
   ·
    obtain rfl : i = m + 1 := by omega
    have g1 : decide (m + 1 < m + 1) = false := decide_eq_false (Nat.lt_irrefl _)
    go_wp2_with fail
    go_ret2
    exact ⟨HB3.out.trans (HL.out.mono HB3.out.size), .inr ⟨HQ0.out.symm, _, rfl, Own.less HO.out HB3.out.size⟩⟩
end
end Go.Proofs.YtnbeembnnjdmdaaGreatDoor
