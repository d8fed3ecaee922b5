/- chart.open, where the chart and all that is asked of it are valid. -/
import Derived.Test.YtnbeembnnjdmdaaGreatDoorK2
namespace Go.Proofs.YtnbeembnnjdmdaaGreatDoor
open Go.RowKit

theorem ocell_any (n : Int) (g nd dc : Nat) (dA : Option Addr) (w : World) (hc : w.cell? ⟨g, 2, none⟩ = some (.slice dA nd dc)) (hn : 1 ≤ nd ∧ nd ≤ 144) :
    Calls Tryz.prog 151 #[.int .i64 n, .pointer (some ⟨g, 0, none⟩)] w fun e w' => e = .returned (.bool (!M.inB 0 ((nd : Int) - 1) n)) ∧ Below w.heap.size w w' := by
  have h1 := hn.1
  have h2 := hn.2
  go_enter Tryz.func151, Tryz.ntmps151
  go_wp2_with (go_at_call 110; refine (within_any _ _ _ _).mono ?_; rintro e w1 ⟨rfl, rfl⟩)
  go_ret
  exact ⟨rfl, Below.refl _ _⟩
theorem otick_any (n : Int) (g nt tc : Nat) (tA : Option Addr) (w : World) (hc : w.cell? ⟨g, 3, none⟩ = some (.slice tA nt tc)) (hn : 1 ≤ nt ∧ nt ≤ 60) :
    Calls Tryz.prog 152 #[.int .i64 n, .pointer (some ⟨g, 0, none⟩)] w fun e w' => e = .returned (.bool (!M.inB 0 ((nt : Int) - 1) n)) ∧ Below w.heap.size w w' := by
  have h1 := hn.1
  have h2 := hn.2
  go_enter Tryz.func152, Tryz.ntmps152
  go_wp2_with (go_at_call 110; refine (within_any _ _ _ _).mono ?_; rintro e w1 ⟨rfl, rfl⟩)
  go_ret
  exact ⟨rfl, Below.refl _ _⟩
theorem odraught_any (n : Int) (w : World) :
    Calls Tryz.prog 153 #[.int .i64 n] w fun e w' => e = .returned (.bool (!M.inB 1 100 n)) ∧ Below w.heap.size w w' := by
  go_enter Tryz.func153, Tryz.ntmps153
  go_wp2_with (go_at_call 110; refine (within_any _ _ _ _).mono ?_; rintro e w1 ⟨rfl, rfl⟩)
  go_ret
  exact ⟨rfl, Below.refl _ _⟩
theorem sea_size : (Tryz.prog.info? 200).map (·.size) = some 5 := by kernel_rfl
section
variable (s : M.Sea) (dA tA sA : Option Addr) (dc tc sc B : Nat) (w : World)
set_option maxRecDepth 100000 in
set_option maxHeartbeats 3200000 in
theorem open_ok (A1 A2 A3 : Option Addr) (n1 c1 n2 c2 n3 c3 : Nat) (f1 f2 f3 : Nat → Int) (hs : s.Ok) (hR : RdC w B dA tA sA s.nd s.nt s.nt s.dep s.tide s.sw) (hB : B ≤ w.heap.size)
    (hn : n1 ≤ 2 ∧ n2 ≤ 2 ∧ n3 ≤ 2) (r1 : Rd1 w B A1 n1 f1) (r2 : Rd1 w B A2 n2 f2) (r3 : Rd1 w B A3 n3 f3) (k1 : ∀ i, i < n1 → M.inB 0 ((s.nd : Int) - 1) (f1 i) = true) (k2 : ∀ i, i < n2 → M.inB 0 ((s.nt : Int) - 1) (f2 i) = true) (k3 : ∀ i, i < n3 → M.inB 1 100 (f3 i) = true) :
    Calls Tryz.prog 149 #[.agg #[.int .i64 (s.W : Int), .int .i64 (s.H : Int), .slice dA s.nd dc, .slice tA s.nt tc, .slice sA s.nt sc], .agg #[.slice A1 n1 c1, .slice A2 n2 c2, .slice A3 n3 c3]] w fun e w' => e = .returned (.tuple #[.agg #[.int .i64 (s.W : Int), .int .i64 (s.H : Int), .slice dA s.nd dc, .slice tA s.nt tc, .slice sA s.nt sc], .int .i64 0]) ∧ Below w.heap.size w w' := by
  have hnd := hs.nd1
  have hnt : 1 ≤ s.nt ∧ s.nt ≤ 60 := ⟨hs.t1, hs.t2⟩
  have z1 : M.anyTo n1 (fun i => !M.inB 0 ((s.nd : Int) - 1) (f1 i)) = false := M.anyTo_false.2 fun i hi => by rw [k1 i hi]; rfl
  have z2 : M.anyTo n2 (fun i => !M.inB 0 ((s.nt : Int) - 1) (f2 i)) = false := M.anyTo_false.2 fun i hi => by rw [k2 i hi]; rfl
  have z3 : M.anyTo n3 (fun i => !M.inB 1 100 (f3 i)) = false := M.anyTo_false.2 fun i hi => by rw [k3 i hi]; rfl
  have HCK := Lib.hid (fun W (hb : Below w.heap.size w W) => cchk_any (s.W : Int) (s.H : Int) dA tA sA s.nd dc s.nt tc s.nt sc B s.dep s.tide s.sw W (by unfold maxLen; omega) (by unfold maxLen; omega) (by unfold maxLen; omega) (hR.below (hb.mono hB)) (Nat.le_trans hB hb.size))
  rw [hs.chk, if_pos rfl] at HCK
  have HC1 := Lib.hid (fun W g (hb : Below w.heap.size w W) (hc : W.cell? ⟨g, 2, none⟩ = some (.slice dA s.nd dc)) (hg : g < W.heap.size) => con_int A1 n1 c1 B f1 151 #[.pointer (some ⟨g, 0, none⟩)] (fun x => !M.inB 0 ((s.nd : Int) - 1) x) W (by unfold maxLen; omega) (r1.below (hb.mono hB)) (Nat.le_trans hB hb.size) (.inr (.inr (.inl rfl))) fun W' x hb' => ocell_any x g s.nd dc dA W' ((hb'.cell (p := ⟨g, 2, none⟩) hg).trans hc) hnd)
  have HC2 := Lib.hid (fun W g (hb : Below w.heap.size w W) (hc : W.cell? ⟨g, 3, none⟩ = some (.slice tA s.nt tc)) (hg : g < W.heap.size) => con_int A2 n2 c2 B f2 152 #[.pointer (some ⟨g, 0, none⟩)] (fun x => !M.inB 0 ((s.nt : Int) - 1) x) W (by unfold maxLen; omega) (r2.below (hb.mono hB)) (Nat.le_trans hB hb.size) (.inr (.inr (.inr (.inl rfl)))) fun W' x hb' => otick_any x g s.nt tc tA W' ((hb'.cell (p := ⟨g, 3, none⟩) hg).trans hc) hnt)
  have HC3 := Lib.hid (fun W (hb : Below w.heap.size w W) => con_int A3 n3 c3 B f3 153 #[] (fun x => !M.inB 1 100 x) W (by unfold maxLen; omega) (r3.below (hb.mono hB)) (Nat.le_trans hB hb.size) (.inr (.inr (.inr (.inr rfl)))) fun W' x _ => odraught_any x W')
  rw [z1] at HC1
  rw [z2] at HC2
  rw [z3] at HC3
  clear z1 z2 z3 hR r1 r2 r3 k1 k2 k3 hs
  have D0 := Lib.hid (((((Blk.new w 25 #[.int .i64 (s.W : Int), .int .i64 (s.H : Int), .slice dA s.nd dc, .slice tA s.nt tc, .slice sA s.nt sc]).alloc (.cells #[.slice A1 n1 c1, .slice A2 n2 c2, .slice A3 n3 c3] 204)).alloc (.cells #[.int .i64 0, .int .i64 0, .slice none 0 0, .slice none 0 0, .slice none 0 0] 200)).alloc (.cells #[.int .i64 (s.W : Int), .int .i64 (s.H : Int), .slice dA s.nd dc, .slice tA s.nt tc, .slice sA s.nt sc] 200)))
  have D1 := Lib.hid ((((Blk.new1 w (.cells #[.int .i64 (s.W : Int), .int .i64 (s.H : Int), .slice dA s.nd dc, .slice tA s.nt tc, .slice sA s.nt sc] 25) 204 #[.slice A1 n1 c1, .slice A2 n2 c2, .slice A3 n3 c3]).alloc (.cells #[.int .i64 0, .int .i64 0, .slice none 0 0, .slice none 0 0, .slice none 0 0] 200)).alloc (.cells #[.int .i64 (s.W : Int), .int .i64 (s.H : Int), .slice dA s.nd dc, .slice tA s.nt tc, .slice sA s.nt sc] 200)))
  have D2 := Lib.hid ((Blk.new2 w (.cells #[.int .i64 (s.W : Int), .int .i64 (s.H : Int), .slice dA s.nd dc, .slice tA s.nt tc, .slice sA s.nt sc] 25) (.cells #[.slice A1 n1 c1, .slice A2 n2 c2, .slice A3 n3 c3] 204) 200 #[.int .i64 0, .int .i64 0, .slice none 0 0, .slice none 0 0, .slice none 0 0]).alloc (.cells #[.int .i64 (s.W : Int), .int .i64 (s.H : Int), .slice dA s.nd dc, .slice tA s.nt tc, .slice sA s.nt sc] 200))
  have D3 := Lib.hid (Blk.new3 w (.cells #[.int .i64 (s.W : Int), .int .i64 (s.H : Int), .slice dA s.nd dc, .slice tA s.nt tc, .slice sA s.nt sc] 25) (.cells #[.slice A1 n1 c1, .slice A2 n2 c2, .slice A3 n3 c3] 204) (.cells #[.int .i64 0, .int .i64 0, .slice none 0 0, .slice none 0 0, .slice none 0 0] 200) 200 #[.int .i64 (s.W : Int), .int .i64 (s.H : Int), .slice dA s.nd dc, .slice tA s.nt tc, .slice sA s.nt sc])
  have HB0 := Lib.hid ((belowAlloc3 w (.cells #[.int .i64 (s.W : Int), .int .i64 (s.H : Int), .slice dA s.nd dc, .slice tA s.nt tc, .slice sA s.nt sc] 25) (.cells #[.slice A1 n1 c1, .slice A2 n2 c2, .slice A3 n3 c3] 204) (.cells #[.int .i64 0, .int .i64 0, .slice none 0 0, .slice none 0 0, .slice none 0 0] 200)).alloc (by simp; omega) (.cells #[.int .i64 (s.W : Int), .int .i64 (s.H : Int), .slice dA s.nd dc, .slice tA s.nt tc, .slice sA s.nt sc] 200))
  go_enter Tryz.func149, Tryz.ntmps149
  go_upto_region 2 with fail
  obtain ⟨X, hX⟩ : ∃ X, X = (((w.alloc (.cells #[.int .i64 (s.W : Int), .int .i64 (s.H : Int), .slice dA s.nd dc, .slice tA s.nt tc, .slice sA s.nt sc] 25)).alloc (.cells #[.slice A1 n1 c1, .slice A2 n2 c2, .slice A3 n3 c3] 204)).alloc (.cells #[.int .i64 0, .int .i64 0, .slice none 0 0, .slice none 0 0, .slice none 0 0] 200)).alloc (.cells #[.int .i64 (s.W : Int), .int .i64 (s.H : Int), .slice dA s.nd dc, .slice tA s.nt tc, .slice sA s.nt sc] 200) := ⟨_, rfl⟩
  rw [← hX] at D0 D1 D2 D3 HB0
  rw [← hX]
  have hXs : X.heap.size = w.heap.size + 1 + 1 + 1 + 1 := by rw [hX]; simp
  have HXs := Lib.hid hXs
  clear hX hXs
  have a0 := D0.out.cell 0
  have a1 := D0.out.cell 1
  have a2 := D0.out.cell 2
  have a3 := D0.out.cell 3
  have a4 := D0.out.cell 4
  go_upto_region 3 with (go_at_call 83; go_must (refine (HCK.out _ HB0.out).mono ?_); rintro e w1 ⟨rfl, hb1⟩; have HB1 := Lib.hid hb1; clear hb1)
  clear a0 a1 a2 a3 a4
  have E0 := Lib.hid (D0.out.below' HB1.out)
  have E1 := Lib.hid (D1.out.below' HB1.out)
  have E2 := Lib.hid (D2.out.below' HB1.out)
  have E3 := Lib.hid (D3.out.below' HB1.out)
  have HB2 := Lib.hid (HB0.out.trans (HB1.out.mono HB0.out.size))
  have b0 := E1.out.cell 0
  have b1 := E1.out.cell 1
  have b2 := E1.out.cell 2
  go_upto_region 10 with (first
    | (go_at_call 114; refine (HC1.out _ _ HB2.out (E0.out.cell 2) E0.out.lt).mono ?_; rintro e w2 ⟨rfl, hb1⟩; have HB3 := Lib.hid (HB2.out.trans (hb1.mono HB2.out.size)); have F0 := Lib.hid (E0.out.below' hb1); have b1 := (E1.out.below' hb1).cell 1; have HBy := Lib.hid hb1; clear hb1)
    | (go_at_call 114; refine (HC2.out _ _ HB3.out (F0.out.cell 3) F0.out.lt).mono ?_; rintro e w3 ⟨rfl, hb1⟩; have HB4 := Lib.hid (HB3.out.trans (hb1.mono HB3.out.size)); have HBz := Lib.hid (HBy.out.trans (hb1.mono HBy.out.size)); have b2 := (E1.out.below' HBz.out).cell 2; clear hb1)
    | (go_at_call 114; refine (HC3.out _ HB4.out).mono ?_; rintro e w4 ⟨rfl, hb1⟩; have HB5 := Lib.hid (HB4.out.trans (hb1.mono HB4.out.size)); have HBx := Lib.hid (HBz.out.trans (hb1.mono HBz.out.size)); clear hb1))
  have G2 := Lib.hid (E2.out.below' HBx.out)
  have G3 := Lib.hid (E3.out.below' HBx.out)
  have c0 := G3.out.cell 0
  have c1' := G3.out.cell 1
  have c2' := G3.out.cell 2
  have c3' := G3.out.cell 3
  have c4 := G3.out.cell 4
  have q0 := G2.out.cell 0
  have q1 := G2.out.cell 1
  have q2 := G2.out.cell 2
  have q3 := G2.out.cell 3
  have q4 := G2.out.cell 4
  have f0 := G2.out.frz 0
  have f1 := G2.out.frz 1
  have f2 := G2.out.frz 2
  have f3 := G2.out.frz 3
  have f4 := G2.out.frz 4
  go_wp2_with fail
  refine bodyPost_ret (results_cell_row1 rfl _ _ (w.heap.size + 1 + 1) 200 #[.int .i64 (s.W : Int), .int .i64 (s.H : Int), .slice dA s.nd dc, .slice tA s.nt tc, .slice sA s.nt sc] (0, 0) _ rfl (((((G2.out.set_ 0 _).set_ 1 _).set_ 2 _).set_ 3 _).set_ 4 _) Tryz.underlying200 rfl sea_size) rfl ⟨rfl, ?_⟩
  have hw : w.heap.size ≤ w.heap.size + 1 + 1 := by omega
  exact ((((HB5.out.setCell (p := ⟨w.heap.size + 1 + 1, 0, none⟩) hw _).setCell (p := ⟨w.heap.size + 1 + 1, 1, none⟩) hw _).setCell (p := ⟨w.heap.size + 1 + 1, 2, none⟩) hw _).setCell (p := ⟨w.heap.size + 1 + 1, 3, none⟩) hw _).setCell (p := ⟨w.heap.size + 1 + 1, 4, none⟩) hw _
end
end Go.Proofs.YtnbeembnnjdmdaaGreatDoor
