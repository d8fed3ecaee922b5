/- remove. -/
import Derived.Test.YtfnfjmjejffjiaaDoorT1
import Derived.Laws.CopyRow
import Derived.Deep.DeepCutAuto
namespace Go.Proofs.YtfnfjmjejffjiaaDoor
open Go.RowKit

def srcA (g a : Nat) : Addr := if a = 5 then ⟨g, 13, none⟩ else ⟨g, 13 + (a + 1) * 4, none⟩
theorem slice_from (g a : Nat) (ha : a < 6) (W : World) : (Instr.sliceAt 55 (.pointer (some ⟨g, 13, none⟩)) (some (.int .i64 (a : Int))) none none).run Tryd.prog W = .ok (.slice (some ⟨g, 13 + a * 4, none⟩) (6 - a) (6 - a)) W := by
  rw [run_sliceAt_array_l (P := Tryd.prog) W 55 ⟨g, 13, none⟩ (by kernel_rfl) .i64 (a : Int) (by omega) (by rw [show Tryd.prog.arrayLen 55 = 6 by kernel_rfl]; omega)]
  rw [show Tryd.prog.arrayLen 55 = 6 by kernel_rfl, show Tryd.prog.elem 55 = 54 by kernel_rfl, Tryd.sizeOf54]
  simp only [Result.andThen, slicedAt, Int.toNat_natCast]
  rw [if_neg (by omega), add_off]
theorem slice_next (g a : Nat) (ha : a < 6) (W : World) : (Instr.sliceAt 55 (.pointer (some ⟨g, 13, none⟩)) (some (.int .i64 ((a : Int) + 1))) none none).run Tryd.prog W = .ok (.slice (some (srcA g a)) (5 - a) (5 - a)) W := by
  rw [run_sliceAt_array_l (P := Tryd.prog) W 55 ⟨g, 13, none⟩ (by kernel_rfl) .i64 ((a : Int) + 1) (by omega) (by rw [show Tryd.prog.arrayLen 55 = 6 by kernel_rfl]; omega)]
  rw [show Tryd.prog.arrayLen 55 = 6 by kernel_rfl, show Tryd.prog.elem 55 = 54 by kernel_rfl, Tryd.sizeOf54]
  simp only [Result.andThen, slicedAt, show ((a : Int) + 1).toNat = a + 1 by omega]
  unfold srcA
  by_cases e : a = 5
  · subst e; rfl
  · rw [if_neg (by omega), if_neg e, add_off, show 6 - (a + 1) = 5 - a by omega]
/-- the messages behind place a moved down by one -/
def shF (a : Nat) (F : Nat → Int) : Nat → Int := fun i => if 13 + a * 4 ≤ i ∧ i < 33 then F (i + 4) else F i
theorem msg_info : (Tryd.prog.info? 54).map (·.size) = some 4 := by kernel_rfl
theorem run_shift {w : World} {g : Nat} {F : Nat → Int} (h : Sf w g F) (a : Nat) (ha : a < 6) (ty : TypeId) (c1 c2 : Nat) :
    ∃ w', (Builtin.copy_ #[29, 29] ty #[.slice (some ⟨g, 13 + a * 4, none⟩) (6 - a) c1, .slice (some (srcA g a)) (5 - a) c2]).run Tryd.prog w = .ok (goInt ((5 - a : Nat) : Int)) w' ∧ Sf w' g (shF a F) ∧ w.grownBy w' (some g) := by
  obtain ⟨cur, hb, hs, hc⟩ := h
  obtain ⟨vs, hvs⟩ : ∃ vs, vs = (List.range ((5 - a) * 4)).map fun j => Value.int .i64 (F (13 + (a + 1) * 4 + j)) := ⟨_, rfl⟩
  have hvl : vs.length = (5 - a) * 4 := by rw [hvs]; simp
  have hsrc : ∀ j v, vs[j]? = some v → w.cell? ((srcA g a).add j) = some v := fun j v hj => by
    have hjl : j < (5 - a) * 4 := by have := (List.getElem?_eq_some_iff.1 hj).1; omega
    unfold srcA
    rw [if_neg (by omega), add_off, hb.cell, hc _ (by omega)]
    rw [hvs] at hj
    simp [hjl] at hj
    rw [hj]
  have h1 : ∀ v ∈ vs, v.oneCell' = true := fun v hv => by
    rw [hvs] at hv
    simp at hv
    obtain ⟨j, _, rfl⟩ := hv
    rfl
  have hl := run_loadCells_list (P := Tryd.prog) w (srcA g a) vs hsrc
  have hst := run_storeCells_at Tryd.prog g (13 + a * 4) 57 vs 0 cur w hb (by rw [hvl]; omega) h1
  have hcur : cur.toList.length = 38 := by simpa using hs
  obtain ⟨arr, harr⟩ : ∃ arr, arr = (cur.toList.take (13 + a * 4) ++ vs ++ cur.toList.drop (13 + a * 4 + vs.length)).toArray := ⟨_, rfl⟩
  refine ⟨w.setRow g arr, ?_, ?_, ?_⟩
  · cases hq : Tryd.prog.info? 54 with
    | none => have := msg_info; rw [hq] at this; cases this
    | some i =>
      have hi : i.size = 4 := by have := msg_info; rw [hq] at this; simpa using this
      have hmin : Nat.min (5 - a) (6 - a) = 5 - a := Nat.min_eq_left (by omega)
      rw [harr]
      simp [Builtin.copy_, run_underlying Tryd.underlying29, Builtin.lenOf, Builtin.firstCells, sizeOf, typeInfo, hq, hi, hmin, ← hvl, hl, hst]
  · refine ⟨arr, setRow_heap w g cur _ _ _ hb, by rw [harr]; simp [hvl, hs]; omega, fun i hi => ?_⟩
    rw [harr]
    simp only [List.getElem?_toArray]
    unfold shF
    have ht : (cur.toList.take (13 + a * 4)).length = 13 + a * 4 := by rw [List.length_take, hcur]; omega
    by_cases h2 : i < 13 + a * 4
    · rw [if_neg (by omega), List.append_assoc, List.getElem?_append_left (by rw [ht]; exact h2), List.getElem?_take, if_pos h2, Array.getElem?_toList]
      exact hc i hi
    · by_cases h3 : i < 33
      · rw [if_pos ⟨by omega, h3⟩, List.getElem?_append_left (by rw [List.length_append, ht, hvl]; omega), List.getElem?_append_right (by rw [ht]; omega), ht, hvs, List.getElem?_map, List.getElem?_range (by omega)]
        simp only [Option.map_some]
        rw [show 13 + (a + 1) * 4 + (i - (13 + a * 4)) = i + 4 by omega]
      · rw [if_neg (by omega), List.getElem?_append_right (by rw [List.length_append, ht, hvl]; omega), List.length_append, ht, hvl, List.getElem?_drop, Array.getElem?_toList]
        rw [show 13 + a * 4 + (5 - a) * 4 + (i - (13 + a * 4 + (5 - a) * 4)) = i by omega]
        exact hc i hi
  · exact ⟨rfl, rfl, rfl, by simp [World.setRow], fun k _ hk => setRow_other w g k _ fun e => hk (by rw [e])⟩
theorem wpList_shift {ops : Array Oper} {Q : Exit → Act → World → Prop} {b : Act} {rest : List Oper} {o : Oper} {W : World} (hgd : o.guard = none) (s x : Operand) (ho : o.op = .call { callee := .builtin .copy, args := #[s, x], argTypes := #[29, 29] })
    {g a c1 c2 : Nat} {F : Nat → Int} (hs : b.eval s = .slice (some ⟨g, 13 + a * 4, none⟩) (6 - a) c1) (hx : b.eval x = .slice (some (srcA g a)) (5 - a) c2) (h : Sf W g F) (ha : a < 6)
    (hK : ∀ w', Sf w' g (shF a F) → W.grownBy w' (some g) → wpList Tryd.prog ops Q rest (b.put o.dst (goInt ((5 - a : Nat) : Int))) w') : wpList Tryd.prog ops Q (o :: rest) b W := by
  obtain ⟨w', hr, h2, h3⟩ := run_shift h a ha o.type c1 c2
  have hw : Region.wanted o (yielded ops b.tmps) = true := by simp [Region.wanted, hgd]
  unfold wpList
  rw [if_pos hw]
  left
  unfold Oper.wp execOp
  simp only [ho, resolve, invoke, builtin, Sem.run_bind, Sem.run_pure, Result.andThen_ok, List.map_toArray, List.map_cons, List.map_nil, hs, hx, hr]
  exact hK w' h2 h3
theorem grown_set_new {w A : World} {row : Option Nat} (h : w.grownBy A row) {b : Nat} (hb : w.heap.size ≤ b) (i : Nat) (u : Value) : w.grownBy (A.setCell ⟨b, i, none⟩ u) row :=
  ⟨h.os, h.tape, h.output, by simpa using h.size, fun k hk hr => (Below.heap_setCell A ⟨b, i, none⟩ u k (by show k ≠ b; omega)).trans (h.block k hk hr)⟩
theorem stF_drop {n : Nat} {s : M.St} {a : Nat} (ha : a < s.k) (hk : s.k ≤ 6) (hz : ∀ b, s.k ≤ b → b < 6 → ∀ j, j < 4 → s.m b j = 0) (i : Nat) (hi : i < 38) :
    (if i = 13 + (s.k - 1) * 4 + 3 then 0 else if i = 13 + (s.k - 1) * 4 + 2 then 0 else if i = 13 + (s.k - 1) * 4 + 1 then 0 else if i = 13 + (s.k - 1) * 4 then 0 else if i = 37 then (s.k : Int) - 1 else shF a (stF n s) i) = stF n (M.drop s a) i := by
  rcases split_at hi with rfl | ⟨b, j, hb, hj, rfl⟩ | ⟨b, j, hb, hj, rfl⟩ | rfl
  · rw [if_neg (by omega), if_neg (by omega), if_neg (by omega), if_neg (by omega), if_neg (by omega)]
    unfold shF; rw [if_neg (by omega)]; rfl
  · rw [if_neg (by omega), if_neg (by omega), if_neg (by omega), if_neg (by omega), if_neg (by omega), stF_c n (M.drop s a) hb hj]
    unfold shF; rw [if_neg (by omega), stF_c n s hb hj]; rfl
  · rw [stF_m n (M.drop s a) hb hj]
    show _ = (if b < a then s.m b else if b + 1 < s.k then s.m (b + 1) else fun _ => 0) j
    by_cases e : b = s.k - 1
    · rw [if_neg (show ¬ b < a by omega), if_neg (show ¬ b + 1 < s.k by omega)]
      obtain rfl | rfl | rfl | rfl : j = 0 ∨ j = 1 ∨ j = 2 ∨ j = 3 := by omega
      · rw [if_neg (by omega), if_neg (by omega), if_neg (by omega), if_pos (by omega)]
      · rw [if_neg (by omega), if_neg (by omega), if_pos (by omega)]
      · rw [if_neg (by omega), if_pos (by omega)]
      · rw [if_pos (by omega)]
    · rw [if_neg (by omega), if_neg (by omega), if_neg (by omega), if_neg (by omega), if_neg (by omega)]
      unfold shF
      by_cases h1 : b < a
      · rw [if_pos h1, if_neg (by omega), stF_m n s hb hj]
      · rw [if_neg h1]
        by_cases h2 : b + 1 < s.k
        · rw [if_pos h2, if_pos ⟨by omega, by omega⟩, show 13 + b * 4 + j + 4 = 13 + (b + 1) * 4 + j by omega, stF_m n s (by omega) hj]
        · rw [if_neg h2]
          by_cases h3 : 13 + b * 4 + j < 33
          · rw [if_pos ⟨by omega, h3⟩, show 13 + b * 4 + j + 4 = 13 + (b + 1) * 4 + j by omega, stF_m n s (by omega) hj]
            exact hz (b + 1) (by omega) (by omega) j hj
          · rw [if_neg (by omega), stF_m n s hb hj]
            exact hz b (by omega) hb j hj
  · rw [if_neg (by omega), if_neg (by omega), if_neg (by omega), if_neg (by omega), if_pos rfl, stF_37]
    show _ = ((s.k - 1 : Nat) : Int)
    omega
set_option maxRecDepth 100000 in
set_option maxHeartbeats 1600000 in
theorem remove_any (n g : Nat) (s : M.St) (a : Nat) (w : World) (h : Sf w g (stF n s)) (ha : a < s.k) (hk6 : s.k ≤ 6) (hz : ∀ b, s.k ≤ b → b < 6 → ∀ j, j < 4 → s.m b j = 0) :
    Calls Tryd.prog 40 #[.pointer (some ⟨g, 0, none⟩), .int .i64 (a : Int)] w fun e w' => e = .returned (.agg #[.int .i64 (s.m a 0), .int .i64 (s.m a 1), .int .i64 (s.m a 2), .int .i64 (s.m a 3)]) ∧ Sf w' g (stF n (M.drop s a)) ∧ w.grownBy w' (some g) := by
  obtain ⟨m0, m1, m2, m3⟩ := h.msg (a := a) (by omega)
  have hg := h.lt
  have H := Lib.hid h
  have HZ := Lib.hid hz
  have x2 := idx_msg g a (by omega)
  clear h hz
  go_enter Tryd.func40, Tryd.ntmps40
  go_upto_region 2 with fail
  obtain ⟨X, hX⟩ : ∃ X, X = (w.alloc (.cells #[.int .i64 0, .int .i64 0, .int .i64 0, .int .i64 0] 54)).alloc (.cells #[.int .i64 (s.m a 0), .int .i64 (s.m a 1), .int .i64 (s.m a 2), .int .i64 (s.m a 3)] 54) := ⟨_, rfl⟩
  have HX := Lib.hid (show Sf X g (stF n s) by rw [hX]; exact (H.out.alloc _).alloc _)
  have B0 := Lib.hid (show Blk X w.heap.size 54 #[.int .i64 0, .int .i64 0, .int .i64 0, .int .i64 0] by rw [hX]; exact (Blk.new w _ _).alloc _)
  have B1 := Lib.hid (show Blk X (w.heap.size + 1) 54 #[.int .i64 (s.m a 0), .int .i64 (s.m a 1), .int .i64 (s.m a 2), .int .i64 (s.m a 3)] by rw [hX]; exact Blk.new1 w _ _ _)
  have GX := Lib.hid (show w.grownBy X (some g) by rw [hX]; exact (World.grownBy_alloc _ _ _).trans (World.grownBy_alloc _ _ _))
  rw [← hX]
  clear hX m0 m1 m2 m3
  have hw : IntKind.i64.wrap ((a : Int) + 1) = (a : Int) + 1 := by rw [IntKind.wrap_i64]; omega
  have hw2 : wrap64 ((a : Int) + 1) = (a : Int) + 1 := IntWalk.wrap64_in _ (by omega)
  have y1 := slice_from g a (by omega)
  have y2 := slice_next g a (by omega)
  go_still_tail 11, (by kernel_rfl)
  change wpList _ _ _ _ _ X.drew
  refine wpList_shift rfl (.tmp 16) (.tmp 22) rfl (a := a) (F := stF n s) rfl rfl HX.out.drew (by omega) ?_
  intro X2 h2 g2
  have G2 := Lib.hid (GX.out.trans ((grown_drew X g).trans g2))
  have C0 := Lib.hid ((show Blk X.drew w.heap.size 54 #[.int .i64 0, .int .i64 0, .int .i64 0, .int .i64 0] from B0.out).grown g2 (fun e => by injection e with e; omega))
  have C1 := Lib.hid ((show Blk X.drew (w.heap.size + 1) 54 #[.int .i64 (s.m a 0), .int .i64 (s.m a 1), .int .i64 (s.m a 2), .int .i64 (s.m a 3)] from B1.out).grown g2 (fun e => by injection e with e; omega))
  have H2 := Lib.hid h2
  have k2 : X2.cell? ⟨g, 37, none⟩ = some (.int .i64 (s.k : Int)) := (h2.cell (by omega)).trans (by unfold shF; rw [if_neg (by omega)]; rfl)
  have z2 := h2.frz 37
  clear h2 g2 hw hw2 y1 y2 B0 B1 GX HX x2
  go_upto_region 4 with fail
  obtain ⟨q, hq⟩ : ∃ q, q = s.k - 1 := ⟨_, rfl⟩
  have hqi : (s.k : Int) - 1 = (q : Int) := by omega
  rw [hqi]
  have hq6 : q < 6 := by omega
  have HQ := Lib.hid hq
  have HQI := Lib.hid hqi
  clear hq hqi
  obtain ⟨X3, hX3⟩ : ∃ X3, X3 = X2.setCell ⟨g, 37, none⟩ (.int .i64 (q : Int)) := ⟨_, rfl⟩
  have H3 := Lib.hid (show Sf X3 g (fun j => if j = 37 then (q : Int) else shF a (stF n s) j) by rw [hX3]; exact H2.out.set_ (by omega) _)
  have G3 := Lib.hid (show w.grownBy X3 (some g) by rw [hX3]; exact G2.out.trans (grown_set X2 g 37 _))
  have g23 : X2.grownBy X3 (some g) := by rw [hX3]; exact grown_set X2 g 37 _
  have D0 := Lib.hid (C0.out.grown g23 (fun e => by injection e with e; omega))
  have D1 := Lib.hid (C1.out.grown g23 (fun e => by injection e with e; omega))
  rw [← hX3]
  clear hX3 k2 z2 C0 C1 G2 H2 g23
  have k3 : X3.cell? ⟨g, 37, none⟩ = some (.int .i64 (q : Int)) := (H3.out.cell (by omega)).trans (by rw [if_pos rfl])
  have x3 := idx_msg g q (by omega)
  have z0 := H3.out.frz (13 + q * 4)
  have z1 := H3.out.frz (13 + q * 4 + 1)
  have z2 := H3.out.frz (13 + q * 4 + 2)
  have z3 := H3.out.frz (13 + q * 4 + 3)
  have e0 : X3.cell? ⟨g, 13 + q * 4, none⟩ = some (.int .i64 _) := H3.out.cell (by omega)
  have e1 : X3.cell? ⟨g, 13 + q * 4 + 1, none⟩ = some (.int .i64 _) := H3.out.cell (by omega)
  have e2 : X3.cell? ⟨g, 13 + q * 4 + 2, none⟩ = some (.int .i64 _) := H3.out.cell (by omega)
  have e3 : X3.cell? ⟨g, 13 + q * 4 + 3, none⟩ = some (.int .i64 _) := H3.out.cell (by omega)
  generalize (if 13 + q * 4 = 37 then (q : Int) else shF a (stF n s) (13 + q * 4)) = v0 at e0
  generalize (if 13 + q * 4 + 1 = 37 then (q : Int) else shF a (stF n s) (13 + q * 4 + 1)) = v1 at e1
  generalize (if 13 + q * 4 + 2 = 37 then (q : Int) else shF a (stF n s) (13 + q * 4 + 2)) = v2 at e2
  generalize (if 13 + q * 4 + 3 = 37 then (q : Int) else shF a (stF n s) (13 + q * 4 + 3)) = v3 at e3
  go_still_tail 8, (by kernel_rfl)
  change wpList _ _ _ _ _ X3.drew
  go_upto_region 5 with fail
  obtain ⟨X4, hX4⟩ : ∃ X4, X4 = (((X3.setCell ⟨g, 13 + q * 4, none⟩ (.int .i64 0)).setCell ⟨g, 13 + q * 4 + 1, none⟩ (.int .i64 0)).setCell ⟨g, 13 + q * 4 + 2, none⟩ (.int .i64 0)).setCell ⟨g, 13 + q * 4 + 3, none⟩ (.int .i64 0) := ⟨_, rfl⟩
  have g34 : X3.grownBy X4 (some g) := by rw [hX4]; exact (((grown_set X3 g _ _).trans (grown_set _ g _ _)).trans (grown_set _ g _ _)).trans (grown_set _ g _ _)
  have H4 := Lib.hid (show Sf X4 g (stF n (M.drop s a)) by
    rw [hX4]
    refine ((((H3.out.set_ (i := 13 + q * 4) (by omega) 0).set_ (i := 13 + q * 4 + 1) (by omega) 0).set_ (i := 13 + q * 4 + 2) (by omega) 0).set_ (i := 13 + q * 4 + 3) (by omega) 0).congr fun i hi => ?_
    have := stF_drop (n := n) ha hk6 HZ.out i hi
    rw [HQI.out, ← HQ.out] at this
    exact this)
  have G4 := Lib.hid (G3.out.trans g34)
  have E0 := Lib.hid (D0.out.grown g34 (fun e => by injection e with e; omega))
  have E1 := Lib.hid (D1.out.grown g34 (fun e => by injection e with e; omega))
  rw [← hX4]
  clear hX4 g34 H3 G3 D0 D1 k3 x3 z0 z1 z2 z3 e0 e1 e2 e3 HQ HQI
  have a0 := E1.out.cell 0
  have a1 := E1.out.cell 1
  have a2 := E1.out.cell 2
  have a3 := E1.out.cell 3
  have b0 := E0.out.cell 0
  have b1 := E0.out.cell 1
  have b2 := E0.out.cell 2
  have b3 := E0.out.cell 3
  have f0 := E0.out.frz 0
  have f1 := E0.out.frz 1
  have f2 := E0.out.frz 2
  have f3 := E0.out.frz 3
  go_wp2_with fail
  obtain ⟨X5, hX5⟩ : ∃ X5, X5 = (((X4.setCell ⟨w.heap.size, 0, none⟩ (.int .i64 (s.m a 0))).setCell ⟨w.heap.size, 1, none⟩ (.int .i64 (s.m a 1))).setCell ⟨w.heap.size, 2, none⟩ (.int .i64 (s.m a 2))).setCell ⟨w.heap.size, 3, none⟩ (.int .i64 (s.m a 3)) := ⟨_, rfl⟩
  have E5 : Blk X5 w.heap.size 54 #[.int .i64 (s.m a 0), .int .i64 (s.m a 1), .int .i64 (s.m a 2), .int .i64 (s.m a 3)] := by rw [hX5]; exact (((E0.out.set_ 0 _).set_ 1 _).set_ 2 _).set_ 3 _
  have g45 : X4.grownBy X5 (some w.heap.size) := by rw [hX5]; exact (((grown_set X4 w.heap.size _ _).trans (grown_set _ w.heap.size _ _)).trans (grown_set _ w.heap.size _ _)).trans (grown_set _ w.heap.size _ _)
  have G5 : w.grownBy X5 (some g) := by rw [hX5]; exact grown_set_new (grown_set_new (grown_set_new (grown_set_new G4.out (Nat.le_refl _) _ _) (Nat.le_refl _) _ _) (Nat.le_refl _) _ _) (Nat.le_refl _) _ _
  rw [← hX5]
  have c0 := E5.cell 0
  have c1 := E5.cell 1
  have c2 := E5.cell 2
  have c3 := E5.cell 3
  refine bodyPost_ret (v := .agg #[.int .i64 (s.m a 0), .int .i64 (s.m a 1), .int .i64 (s.m a 2), .int .i64 (s.m a 3)]) ?_ rfl ⟨rfl, (H4.out.grown g45 (fun e => by injection e with e; omega)).drew, G5.trans (grown_drew X5 g)⟩
  simp [results, Tryd.results40, go_sem, c0, c1, c2, c3]
end Go.Proofs.YtfnfjmjejffjiaaDoor
