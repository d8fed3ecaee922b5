/- drift: step. -/
import Derived.Test.YtnbeembnnjdmdaaGreatDoorD8
import Derived.Test.YtnbeembnnjdmdaaGreatDoorLaA
import Derived.StillTailTactics
namespace Go.Proofs.YtnbeembnnjdmdaaGreatDoor
open Go.RowKit Go.Maps

theorem run_store_fn {P : Program} {w : World} (a : Addr) (m : Mode) (f : Fn) (ts cs : Array Value) : (store a (.func f ts cs) m).run P w = stored P w a (.func f ts cs) m := run_store P w a _ m rfl
attribute [local go_sem] run_store_fn
attribute [local go_sem] Oper.semAt_some
theorem wp_nopanic {P : Program} {c : Code} {Q : Exit → Act → World → Prop} {a : Act} {w : World} (h : c.wp P (fun e a w => (∀ x, e ≠ .panic x) ∧ Q e a w) a w) : c.wp P Q a w := wp_mono h fun _ _ _ h => h.2
theorem M.stepL_out {d : M.Dr} {t : Nat} {l : Int} : M.stepL d t l (-1) = [-1] := by
 refine M.asc_ext (M.listB_sorted _ _) (List.pairwise_singleton _ _) fun x => ?_
 unfold M.stepL
 rw [M.mem_listB, List.mem_singleton]
 have e : M.stepB d t l (-1) x = (x == -1) := by simp [M.stepB]
 rw [e, beq_iff_eq]
 constructor
 · exact fun h => h.2
 · rintro rfl; exact ⟨by omega, rfl⟩
theorem own_one {w : World} {g t : Nat} {u : Value} (h : Blk w g t #[u]) (F : Nat → Nat → Value) (hF : F 0 0 = u) : Own w g t 1 (.slice (some ⟨g, 0, none⟩) 1 1) 1 F := by
 have e : cellsOf 1 1 F = [u] := by simp [cellsOf, hF]
 refine ⟨by simp [cellsOf], .inr ⟨g, 1, #[u], rfl, Nat.le_refl _, h, Nat.le_refl _, by decide, by simp, by rw [e]; simp⟩⟩
section
variable {d : M.Dr} {zA cA wA dA tA sA : Option Addr} {cl : Nat → Nat} {B P m1 m2 dc tc sc zc cc wc : Nat} {T : Nat → Prop} {W W' : World}
def StepR (d : M.Dr) (zA cA wA dA tA sA : Option Addr) (cl : Nat → Nat) (B P m1 m2 dc tc sc zc cc wc : Nat) (T : Nat → Prop) (W : World) (t : Nat) (l c : Int) (e : Ending) (W' : World) : Prop :=
 ∃ (T' : Nat → Prop) (g cp : Nat), (∀ k, T k → T' k) ∧ (∀ k, T' k → T k ∨ W.heap.size ≤ k) ∧ T' g ∧ e = .returned (.slice (some ⟨g, 0, none⟩) (M.stepL d t l c).length cp) ∧ SeaM d zA cA wA dA tA sA cl B P m1 m2 #[.int .i64 (d.s.W : Int), .int .i64 (d.s.H : Int), .slice dA d.s.nd dc, .slice tA d.s.nt tc, .slice sA d.s.nt sc, .slice zA d.s.nd zc, .slice cA d.nz cc, .slice wA (d.s.nt - 1) wc, .map (some m1), .map (some m2)] T' W' ∧ IL W' B (.slice (some ⟨g, 0, none⟩) (M.stepL d t l c).length cp) (M.stepL d t l c) ∧ Mv m1 m2 W W'
set_option maxRecDepth 100000 in
set_option maxHeartbeats 3200000 in
theorem dstep_out (hM : SeaM d zA cA wA dA tA sA cl B P m1 m2 #[.int .i64 (d.s.W : Int), .int .i64 (d.s.H : Int), .slice dA d.s.nd dc, .slice tA d.s.nt tc, .slice sA d.s.nt sc, .slice zA d.s.nd zc, .slice cA d.nz cc, .slice wA (d.s.nt - 1) wc, .map (some m1), .map (some m2)] T W) (t l : Int) (tn : Nat) :
  Calls Tryz.prog 48 #[.pointer (some ⟨P, 0, none⟩), .agg #[.int .i64 (-1), .int .i64 t, .int .i64 l]] W (StepR d zA cA wA dA tA sA cl B P m1 m2 dc tc sc zc cc wc T W tn l (-1)) := by
 have HM := Lib.hid hM
 clear hM
 go_enter Tryz.func48, Tryz.ntmps48
 go_wp2_with fail
 go_ret
 have hb : B ≤ W.heap.size := HM.out.b.2.2.2.2
 refine ⟨fun k => T k ∨ k = W.heap.size + 1 + 1, W.heap.size + 1 + 1, 1, fun k h => .inl h, fun k h => h.imp id (by omega), .inr rfl, ?_, ?_, ?_, ?_⟩
 · rw [M.stepL_out]; rfl
 ·
  refine (((HM.out.alloc _).alloc _).alloc _).more (fun k h => .inl h) fun k h => ?_
  rcases h with h | rfl
  · have := HM.out.t.2.2.2 k h; simp; omega
  · simp; omega
 ·
  rw [M.stepL_out]
  exact Own.less (own_one (Blk.new2 _ _ _ _ _) _ rfl) (by omega)
 · exact Mv.of_below (belowAlloc3 _ _ _ _)
theorem wpList_apI (w : World) {ops : Array Oper} {rest : List Oper} {o : Oper} {a : Act} {Q : Exit → Act → World → Prop} (hgd : o.guard = none) (s x : Operand)
  (ho : o.op = .call { callee := .builtin .append, args := #[s, x], argTypes := #[22, 22] }) {B : Nat} {v : Value} {L : List Int} (hs : a.eval s = v) (hown : IL w B v L) {g c : Nat} {y : Int} (hx : a.eval x = .slice (some ⟨g, 0, none⟩) 1 c)
  (hc : w.cell? ⟨g, 0, none⟩ = some (.int .i64 y)) (hL : L.length < 1000000) (hB : B ≤ w.heap.size)
  (hK : ∀ g' c' w', IL w' B (.slice (some ⟨g', 0, none⟩) (L.length + 1) c') (L ++ [y]) → w.grownBy w' v.ownBlock → (some g' = v.ownBlock ∨ w.heap.size = g') → wpList Tryz.prog ops Q rest (a.put o.dst (.slice (some ⟨g', 0, none⟩) (L.length + 1) c')) w') :
  wpList Tryz.prog ops Q (o :: rest) a w := by
 obtain ⟨i0, h1, h2, h3, h4⟩ := info_parts int_info
 refine wpList_append_own_at w hgd s x 22 ho B 3 i0 (.int .i64 0) 1 8 Tryz.underlying22 h1 h2 h3 h4 rfl (by decide) v L.length _ hs hown ⟨g, 0, none⟩ 1 c [.int .i64 y] hx rfl (fun j u hu => ?_) (fun u hu => by rw [List.mem_singleton.1 hu]; rfl) (by unfold maxLen; omega) (by omega) hB ?_
 ·
  rcases j with _ | j
  · simp only [List.getElem?_cons_zero, Option.some.injEq] at hu; subst hu; exact hc
  · simp at hu
 ·
  intro v' w' r1 r2 _ r4
  obtain ⟨g', c', rfl⟩ := ownsRow_succ r1
  refine hK g' c' w' (IL.app r1) r2 ?_
  rcases r4 with r4 | r4
  · exact .inl r4
  · exact .inr (by simpa [Value.ownBlock] using r4.symm)
structure LpS (SM : World → Prop) (d : M.Dr) (B m2 : Nat) (W : World) (P b8 b10 c t l : Nat) (h : Int) (L : List Int) (ds : List Nat) (wr : World) : Prop where
 sm : SM wr
 mv : Mv m2 m2 W wr
 k2 : Blk wr W.heap.size 87 #[.pointer (some ⟨P, 0, none⟩)]
 k3 : Blk wr (W.heap.size + 1) 96 #[.int .i64 (c : Int), .int .i64 (t : Int), .int .i64 (l : Int)]
 k8 : Blk wr b8 147 #[.func (.func 88) #[] #[.pointer (some ⟨W.heap.size + 1, 0, none⟩)]]
 k10 : Blk wr b10 3 #[.int .i64 h]
 k9 : ∃ v, Blk wr (b8 + 1) 22 #[v] ∧ IL wr B v L ∧ ∀ g, v.ownBlock = some g → W.heap.size ≤ g ∧ g ≠ b10
 mem : ∀ x, x ∈ L ↔ M.spanTo (d.s.tide t 0) (h - 1) (fun k => M.stepH d t l k c x) = true
 len : (L.length : Int) ≤ 145 + (h - d.s.tide t 0)
 ms : Marks W.heap.size wr ds
theorem LpS.below {SM : World → Prop} {d : M.Dr} {B m2 : Nat} {W : World} {P b8 b10 c t l : Nat} {h : Int} {L : List Int} {ds : List Nat} {wr wr' : World} (k : LpS SM d B m2 W P b8 b10 c t l h L ds wr) (hb : Below wr.heap.size wr wr') (hs : SM wr') : LpS SM d B m2 W P b8 b10 c t l h L ds wr' := by
 obtain ⟨v, h1, h2, h3⟩ := k.k9
 exact { sm := hs, mv := k.mv.trans (Mv.of_below hb), k2 := k.k2.below' hb, k3 := k.k3.below' hb, k8 := k.k8.below' hb, k10 := k.k10.below' hb, k9 := ⟨v, h1.below' hb, Own.below h2 hb, h3⟩, mem := k.mem, len := k.len, ms := k.ms.below hb }
theorem Mv.trans_grown {m m' : Nat} {W Z Z' : World} {row : Option Nat} (h : Mv m m' W Z) (hg : Z.grownBy Z' row) (hr : ∀ r, row = some r → W.heap.size ≤ r) : Mv m m' W Z' :=
 ⟨hg.os.trans h.os, hg.tape.trans h.tape, hg.output.trans h.output, Nat.le_trans h.size hg.size, fun k hk h1 h2 => (hg.block k (Nat.lt_of_lt_of_le hk h.size) (fun e => by have := hr k e.symm; omega)).trans (h.block k hk h1 h2)⟩
structure LpM (SM : World → Prop) (B m2 : Nat) (W : World) (P b8 b10 c t l : Nat) (h : Int) (L : List Int) (ds : List Nat) (wr : World) : Prop where
 sm : SM wr
 mv : Mv m2 m2 W wr
 k2 : Blk wr W.heap.size 87 #[.pointer (some ⟨P, 0, none⟩)]
 k3 : Blk wr (W.heap.size + 1) 96 #[.int .i64 (c : Int), .int .i64 (t : Int), .int .i64 (l : Int)]
 k8 : Blk wr b8 147 #[.func (.func 88) #[] #[.pointer (some ⟨W.heap.size + 1, 0, none⟩)]]
 k10 : Blk wr b10 3 #[.int .i64 h]
 k9 : ∃ v, Blk wr (b8 + 1) 22 #[v] ∧ IL wr B v L ∧ ∀ g, v.ownBlock = some g → W.heap.size ≤ g ∧ g ≠ b10
 ms : Marks W.heap.size wr ds
section
variable {SM : World → Prop} {B m2 : Nat} {W : World} {P b8 b10 c t l : Nat} {h : Int} {L L' : List Int} {ds : List Nat} {wr wr' : World}
theorem LpS.m {d : M.Dr} (k : LpS SM d B m2 W P b8 b10 c t l h L ds wr) : LpM SM B m2 W P b8 b10 c t l h L ds wr := ⟨k.sm, k.mv, k.k2, k.k3, k.k8, k.k10, k.k9, k.ms⟩
theorem LpM.below (k : LpM SM B m2 W P b8 b10 c t l h L ds wr) (hb : Below wr.heap.size wr wr') (hs : SM wr') : LpM SM B m2 W P b8 b10 c t l h L ds wr' := by
 obtain ⟨v, h1, h2, h3⟩ := k.k9
 exact { sm := hs, mv := k.mv.trans (Mv.of_below hb), k2 := k.k2.below' hb, k3 := k.k3.below' hb, k8 := k.k8.below' hb, k10 := k.k10.below' hb, k9 := ⟨v, h1.below' hb, Own.below h2 hb, h3⟩, ms := k.ms.below hb }
theorem LpM.turn (k : LpM SM B m2 W P b8 b10 c t l h L ds wr) {v v' : Value} (h9 : Blk wr (b8 + 1) 22 #[v]) (hv : ∀ g, v.ownBlock = some g → W.heap.size ≤ g ∧ g ≠ b10) (ho : IL wr B v L) (hg : wr.grownBy wr' v.ownBlock) (ho' : IL wr' B v' L')
  (hb : v'.ownBlock = v.ownBlock ∨ ∃ g, v'.ownBlock = some g ∧ wr.heap.size ≤ g) (hb8 : W.heap.size ≤ b8) (hSM : ∀ X Y row, SM X → X.grownBy Y row → (∀ r, row = some r → W.heap.size ≤ r) → SM Y) : LpM SM B m2 W P b8 b10 c t l h L' ds (wr'.setCell ⟨b8 + 1, 0, none⟩ v') := by
 have hrow : ∀ r, v.ownBlock = some r → W.heap.size ≤ r := fun r e => (hv r e).1
 have h9' : Blk wr' (b8 + 1) 22 #[v] := h9.grown_own ho (by decide) hg
 have hg2 : wr'.grownBy (wr'.setCell ⟨b8 + 1, 0, none⟩ v') (some (b8 + 1)) := grownBy_setCell' _ _ _
 have hne : v'.ownBlock ≠ some (b8 + 1) := Own.ne_blk ho' h9' (by decide)
 have d2 : W.heap.size ≠ b8 + 1 := by omega
 have n10 : some b10 ≠ v.ownBlock := fun e => (hv b10 e.symm).2 rfl
 have f3 : W.heap.size + 1 ≠ b8 + 1 := fun e => by
  have h3 := k.k3
  rw [e] at h3
  have := (show wr.heap[b8 + 1]? = _ from h3).symm.trans h9
  simp at this
 have f10 : b10 ≠ b8 + 1 := fun e => by
  have h3 := k.k10
  rw [e] at h3
  have := (show wr.heap[b8 + 1]? = _ from h3).symm.trans h9
  simp at this
 refine { sm := hSM _ _ _ (hSM _ _ _ k.sm hg hrow) hg2 (fun r e => by cases e; omega), mv := (k.mv.trans_grown hg hrow).trans_grown hg2 (fun r e => by cases e; omega), k2 := (k.k2.grown_own ho (by decide) hg).grown hg2 (by simpa using d2), k3 := (k.k3.grown_own ho (by decide) hg).grown hg2 (by simpa using f3), k8 := (k.k8.grown_own ho (by decide) hg).grown hg2 (by simp), k10 := (k.k10.grown hg n10).grown hg2 (by simpa using f10), k9 := ⟨v', Blk.set_ h9' 0 v', Own.setCell ho' hne v', fun g e => ?_⟩, ms := k.ms.kept fun D hD => ?_ }
 ·
  rcases hb with hb | ⟨g', hb, hlt⟩
  · exact hv g (hb.symm.trans e)
  ·
   rw [hb] at e
   cases e
   exact ⟨by have := k.mv.size; omega, fun e2 => by have := k.k10.lt; omega⟩
 ·
  obtain ⟨m1, m2', m3⟩ := k.ms.lt D hD
  have q1 := hg.block D m2' fun e => ho.cells_ne m3 rfl e.symm
  refine (hg2.block D (Nat.lt_of_lt_of_le m2' hg.size) fun e => ?_).trans q1
  cases e
  rw [show wr.heap[b8 + 1]? = _ from h9] at m3
  cases m3
end
def meOf (hi : Int) (hv : Value) (w : World) : Nat := (hi + 1 - intOf ((w.cell? (match hv with | .pointer (some a) => a | _ => ⟨0, 0, none⟩)).getD undef)).toNat
theorem meOf_at {hi h : Int} {b t : Nat} {w : World} (hb : Blk w b t #[.int .i64 h]) : meOf hi (.pointer (some ⟨b, 0, none⟩)) w = (hi + 1 - h).toNat := by
 unfold meOf
 rw [show w.cell? (match Value.pointer (some ⟨b, 0, none⟩) with | .pointer (some a) => a | _ => ⟨0, 0, none⟩) = some (.int .i64 h) from hb.cell 0]
 rfl
theorem LpM.next {SM : World → Prop} {d : M.Dr} {B m2 : Nat} {W : World} {P b8 b10 c t l : Nat} {h : Int} {L : List Int} {ds : List Nat} {wr : World} (k : LpM SM B m2 W P b8 b10 c t l h L ds wr) (hmem : ∀ x, x ∈ L ↔ M.spanTo (d.s.tide t 0) h (fun k => M.stepH d t l k c x) = true) (hlen : (L.length : Int) ≤ 145 + (h + 1 - d.s.tide t 0))
  (hSM : ∀ X Y row, SM X → X.grownBy Y row → (∀ r, row = some r → W.heap.size ≤ r) → SM Y) : LpS SM d B m2 W P b8 wr.heap.size c t l (h + 1) L ds (wr.alloc (.cells #[.int .i64 (h + 1)] 3)) := by
 have hb := belowAlloc wr (.cells #[.int .i64 (h + 1)] 3)
 obtain ⟨v, h1, h2, h3⟩ := k.k9
 exact { sm := hSM _ _ none k.sm (World.grownBy_alloc _ _ _) (fun _ e => by cases e), mv := k.mv.alloc _, k2 := k.k2.below' hb, k3 := k.k3.below' hb, k8 := k.k8.below' hb, k10 := Blk.new _ _ _, k9 := ⟨v, h1.below' hb, Own.below h2 hb, fun g e => ⟨(h3 g e).1, fun e2 => by have := (Own.block h2 e).2; omega⟩⟩, mem := fun x => by rw [hmem, show h + 1 - 1 = h by omega], len := hlen, ms := k.ms.below hb }
structure FinS (SM : World → Prop) (m2 : Nat) (W : World) (P b8 c t l : Nat) (v : Value) (ds : List Nat) (wr : World) : Prop where
 sm : SM wr
 mv : Mv m2 m2 W wr
 k2 : Blk wr W.heap.size 87 #[.pointer (some ⟨P, 0, none⟩)]
 k3 : Blk wr (W.heap.size + 1) 96 #[.int .i64 (c : Int), .int .i64 (t : Int), .int .i64 (l : Int)]
 k9 : Blk wr (b8 + 1) 22 #[v]
 ms : Marks W.heap.size wr ds
theorem FinS.grown {SM : World → Prop} {m2 : Nat} {W : World} {P b8 c t l B g n : Nat} {v v' : Value} {F : Nat → Nat → Value} {ds : List Nat} {wr wr' : World} (k : FinS SM m2 W P b8 c t l v ds wr) (hg : wr.grownBy wr' (some g)) (ho : Own wr B 3 1 v' n F) (hv : v'.ownBlock = some g) (hgW : W.heap.size ≤ g) (hs : SM wr') : FinS SM m2 W P b8 c t l v ds wr' := by
 rw [← hv] at hg
 refine ⟨hs, ⟨hg.os.trans k.mv.os, hg.tape.trans k.mv.tape, hg.output.trans k.mv.output, Nat.le_trans k.mv.size hg.size, fun q hq h1 h2 => (hg.block q (Nat.lt_of_lt_of_le hq k.mv.size) (fun e => by rw [hv] at e; cases e; omega)).trans (k.mv.block q hq h1 h2)⟩, k.k2.grown_own ho (by decide) hg, k.k3.grown_own ho (by decide) hg, k.k9.grown_own ho (by decide) hg, k.ms.kept fun D hD => hg.block D (k.ms.lt D hD).2.1 fun e => ho.cells_ne (k.ms.lt D hD).2.2 rfl e.symm⟩
theorem Mv.toGrown {m : Nat} {W W' : World} (h : Mv m m W W') : W.grownBy W' (some m) := ⟨h.os, h.tape, h.output, h.size, fun k hk hne => h.block k hk (fun e => hne (by rw [e])) (fun e => hne (by rw [e]))⟩
structure LpW (SM : World → Prop) (B m2 : Nat) (W : World) (P b8 b10 c t l : Nat) (h : Int) (S : Nat) (p : Nat → Int) (L : List Int) (ds : List Nat) (wr : World) : Prop where
 sm : SM wr
 mv : Mv m2 m2 W wr
 k2 : Blk wr W.heap.size 87 #[.pointer (some ⟨P, 0, none⟩)]
 k3 : Blk wr (W.heap.size + 1) 96 #[.int .i64 (c : Int), .int .i64 (t : Int), .int .i64 (l : Int)]
 k8 : Blk wr b8 147 #[.func (.func 88) #[] #[.pointer (some ⟨W.heap.size + 1, 0, none⟩)]]
 k10 : Blk wr b10 3 #[.int .i64 h]
 k9 : ∃ v, Blk wr (b8 + 1) 22 #[v] ∧ IL wr B v L ∧ ∀ g, v.ownBlock = some g → W.heap.size ≤ g ∧ g ≠ b10 ∧ (g < S ∨ S + 6 ≤ g)
 ms : Marks W.heap.size wr ds
 box : PBox wr S P c t h p (.func (.func 87) #[] #[])
section
variable {SM : World → Prop} {B m2 : Nat} {W : World} {P b8 b10 c t l : Nat} {h : Int} {S : Nat} {p : Nat → Int} {L L' : List Int} {ds : List Nat} {wr wr' : World}
theorem LpW.m (k : LpW SM B m2 W P b8 b10 c t l h S p L ds wr) : LpM SM B m2 W P b8 b10 c t l h L ds wr := by
 obtain ⟨v, h1, h2, h3⟩ := k.k9
 exact ⟨k.sm, k.mv, k.k2, k.k3, k.k8, k.k10, ⟨v, h1, h2, fun g e => ⟨(h3 g e).1, (h3 g e).2.1⟩⟩, k.ms⟩
theorem LpM.w (k : LpM SM B m2 W P b8 b10 c t l h L ds wr) {v : Value} (h9 : Blk wr (b8 + 1) 22 #[v]) (hv : ∀ g, v.ownBlock = some g → g < S ∨ S + 6 ≤ g) (hb : PBox wr S P c t h p (.func (.func 87) #[] #[])) : LpW SM B m2 W P b8 b10 c t l h S p L ds wr := by
 obtain ⟨v', h1, h2, h3⟩ := k.k9
 obtain rfl : v' = v := by
  have := (show wr.heap[b8 + 1]? = _ from h1).symm.trans h9
  simpa using this
 exact ⟨k.sm, k.mv, k.k2, k.k3, k.k8, k.k10, ⟨v', h1, h2, fun g e => ⟨(h3 g e).1, (h3 g e).2, hv g e⟩⟩, k.ms, hb⟩
theorem LpW.notes (k : LpW SM B m2 W P b8 b10 c t l h S p L ds wr) {row : Option Nat} {lo : Nat} (hg : wr.grownBy wr' row) (hr : ∀ r, row = some r → lo ≤ r ∧ ∃ o, wr.heap[r]? = some o ∧ o.isCells = false) (hlo : W.heap.size ≤ lo) (hds : ∀ D ∈ ds, D < lo)
  (hSM : ∀ X Y row, SM X → X.grownBy Y row → (∀ r, row = some r → W.heap.size ≤ r) → SM Y) : LpW SM B m2 W P b8 b10 c t l h S p L ds wr' := by
 have hne : ∀ {b t : Nat} {cs : Array Value}, Blk wr b t cs → some b ≠ row := fun {b t cs} hb e => by
  obtain ⟨o, ho, hc⟩ := (hr b e.symm).2
  rw [show wr.heap[b]? = _ from hb] at ho
  cases ho; cases hc
 have hW : ∀ r, row = some r → W.heap.size ≤ r := fun r e => Nat.le_trans hlo (hr r e).1
 obtain ⟨v, h1, h2, h3⟩ := k.k9
 refine { sm := hSM _ _ _ k.sm hg hW, mv := k.mv.trans_grown hg hW, k2 := k.k2.grown hg (hne k.k2), k3 := k.k3.grown hg (hne k.k3), k8 := k.k8.grown hg (hne k.k8), k10 := k.k10.grown hg (hne k.k10), k9 := ⟨v, h1.grown hg (hne h1), Own.grown h2 hg ?_, h3⟩, ms := k.ms.kept fun D hD => hg.block D (k.ms.lt D hD).2.1 fun e => by have := (hr D e.symm).1; have := hds D hD; omega, box := ⟨k.box.b0.grown hg (hne k.box.b0), k.box.b1.grown hg (hne k.box.b1), k.box.b2.grown hg (hne k.box.b2), k.box.b3.grown hg (hne k.box.b3), k.box.b4.grown hg (hne k.box.b4), k.box.b5.grown hg (hne k.box.b5)⟩ }
 cases row with
 | none =>
  cases hv : v.ownBlock with
  | none => exact .inl rfl
  | some g => exact .inr (by simp)
 | some r =>
  obtain ⟨o, ho, hc⟩ := (hr r rfl).2
  exact .inr (Own.cells_ne h2 ho hc)
theorem LpW.move (k : LpW SM B m2 W P b8 b10 c t l h S p L ds wr) (hv : Mv m2 m2 wr wr') (hm : IsMap' wr m2) (hs : SM wr') : LpW SM B m2 W P b8 b10 c t l h S p L ds wr' := by
 obtain ⟨v, h1, h2, h3⟩ := k.k9
 have hne : ∀ D ∈ ds, D ≠ m2 := fun D hD e => by
  obtain ⟨es, ck, hm⟩ := hm
  subst e
  have := hm.symm.trans (k.ms.lt _ hD).2.2
  cases this
 exact { sm := hs, mv := k.mv.trans hv, k2 := k.k2.mv hv hm hm, k3 := k.k3.mv hv hm hm, k8 := k.k8.mv hv hm hm, k10 := k.k10.mv hv hm hm, k9 := ⟨v, h1.mv hv hm hm, Own.mv h2 hv hm hm, h3⟩, ms := k.ms.kept fun D hD => hv.block D (k.ms.lt D hD).2.1 (hne D hD) (hne D hD), box := k.box.mv hv hm hm }
theorem Blk.kp {b t : Nat} {cs : Array Value} {m : Nat} {r : Option Nat} (hb : Blk wr b t cs) (hk : Kp m r wr wr') (hm : IsMap' wr m) (hne : some b ≠ r) : Blk wr' b t cs := (hk.block b hb.lt (hm.ne hb) hne).trans hb
theorem LpW.turn (k : LpW SM B m2 W P b8 b10 c t l h S p L ds wr) {v v' : Value} (h9 : Blk wr (b8 + 1) 22 #[v]) (ho : IL wr B v L) (hg : Kp m2 v.ownBlock wr wr') (hm : IsMap' wr m2) (hs : SM wr') (ho' : IL wr' B v' L')
  (hb : v'.ownBlock = v.ownBlock ∨ ∃ g, v'.ownBlock = some g ∧ wr.heap.size ≤ g) (hb8 : W.heap.size ≤ b8) (hS : b8 + 1 < S) (hSM : ∀ X Y row, SM X → X.grownBy Y row → (∀ r, row = some r → W.heap.size ≤ r) → SM Y) : LpW SM B m2 W P b8 b10 c t l h S p L' ds (wr'.setCell ⟨b8 + 1, 0, none⟩ v') := by
 obtain ⟨v0, i1, i2, hv⟩ := k.k9
 obtain rfl : v0 = v := by
  have := (show wr.heap[b8 + 1]? = _ from i1).symm.trans h9
  simpa using this
 clear i1 i2
 have h9' : Blk wr' (b8 + 1) 22 #[v0] := h9.kp hg hm fun e => Own.ne_blk ho h9 (by decide) e.symm
 have hg2 : wr'.grownBy (wr'.setCell ⟨b8 + 1, 0, none⟩ v') (some (b8 + 1)) := grownBy_setCell' _ _ _
 have hne : v'.ownBlock ≠ some (b8 + 1) := Own.ne_blk ho' h9' (by decide)
 have d2 : W.heap.size ≠ b8 + 1 := by omega
 have n10 : some b10 ≠ v0.ownBlock := fun e => (hv b10 e.symm).2.1 rfl
 have f3 : W.heap.size + 1 ≠ b8 + 1 := fun e => by
  have h3 := k.k3
  rw [e] at h3
  have := (show wr.heap[b8 + 1]? = _ from h3).symm.trans h9
  simp at this
 have f10 : b10 ≠ b8 + 1 := fun e => by
  have h3 := k.k10
  rw [e] at h3
  have := (show wr.heap[b8 + 1]? = _ from h3).symm.trans h9
  simp at this
 have hp : ∀ q, S ≤ q → q < S + 6 → some q ≠ v0.ownBlock := fun q q1 q2 e => by have := (hv q e.symm).2.2; omega
 have hW8 : ∀ r, some (b8 + 1) = some r → W.heap.size ≤ r := fun r e => by cases e; omega
 have hbox : PBox wr' S P c t h p (.func (.func 87) #[] #[]) := ⟨k.box.b0.kp hg hm (hp _ (by omega) (by omega)), k.box.b1.kp hg hm (hp _ (by omega) (by omega)), k.box.b2.kp hg hm (hp _ (by omega) (by omega)), k.box.b3.kp hg hm (hp _ (by omega) (by omega)), k.box.b4.kp hg hm (hp _ (by omega) (by omega)), k.box.b5.kp hg hm (hp _ (by omega) (by omega))⟩
 refine { sm := hSM _ _ _ hs hg2 hW8, mv := Mv.trans_grown ⟨hg.os.trans k.mv.os, hg.tape.trans k.mv.tape, hg.output.trans k.mv.output, Nat.le_trans k.mv.size hg.size, fun q hq h1 h2 => (hg.block q (Nat.lt_of_lt_of_le hq k.mv.size) h1 (fun e => by have := (hv q e.symm).1; omega)).trans (k.mv.block q hq h1 h2)⟩ hg2 hW8, k2 := (k.k2.kp hg hm fun e => Own.ne_blk ho k.k2 (by decide) e.symm).grown hg2 (by simpa using d2), k3 := (k.k3.kp hg hm fun e => Own.ne_blk ho k.k3 (by decide) e.symm).grown hg2 (by simpa using f3), k8 := (k.k8.kp hg hm fun e => Own.ne_blk ho k.k8 (by decide) e.symm).grown hg2 (by simp), k10 := (k.k10.kp hg hm n10).grown hg2 (by simpa using f10), k9 := ⟨v', Blk.set_ h9' 0 v', Own.setCell ho' hne v', fun g e => ?_⟩, ms := k.ms.kept fun D hD => ?_, box := hbox.grown hg2 fun r e => by cases e; exact .inr hS }
 ·
  rcases hb with hb | ⟨g', hb, hlt⟩
  · exact hv g (hb.symm.trans e)
  ·
   rw [hb] at e
   cases e
   exact ⟨by have := k.mv.size; omega, fun e2 => by have := k.k10.lt; omega, .inr (by have := k.box.b5.lt; omega)⟩
 ·
  obtain ⟨m1, m2', m3⟩ := k.ms.lt D hD
  have q1 := hg.block D m2' (fun e => by
   obtain ⟨es, ck, hm⟩ := hm
   subst e
   have := hm.symm.trans m3
   cases this) fun e => ho.cells_ne m3 rfl e.symm
  refine (hg2.block D (Nat.lt_of_lt_of_le m2' hg.size) fun e => ?_).trans q1
  cases e
  rw [show wr.heap[b8 + 1]? = _ from h9] at m3
  cases m3
theorem LpW.below (k : LpW SM B m2 W P b8 b10 c t l h S p L ds wr) (hb : Below wr.heap.size wr wr') (hSM : ∀ X Y row, SM X → X.grownBy Y row → (∀ r, row = some r → W.heap.size ≤ r) → SM Y) : LpW SM B m2 W P b8 b10 c t l h S p L ds wr' :=
 k.notes (below_grown hb none) (fun _ e => by cases e) k.mv.size (fun D hD => (k.ms.lt D hD).2.1) hSM
theorem Kp.keepsF {C m : Nat} {v : Value} {B' t' k' n : Nat} {F : Nat → Nat → Value} (hg : Kp m v.ownBlock wr wr') (ho : Own wr B' t' k' v n F) (hC : m < C) : KeepsFrom C wr wr' :=
 ⟨hg.size, fun q o hq hqo hc => (hg.block q (Array.getElem?_eq_some_iff.1 hqo).1 (by omega) (fun e => ho.cells_ne hqo hc e.symm)).trans hqo⟩
theorem LpM.own (k : LpM SM B m2 W P b8 b10 c t l h L ds wr) {v : Value} (h9 : Blk wr (b8 + 1) 22 #[v]) (ho : IL wr B v L) (hg : wr.grownBy wr' v.ownBlock) (ho' : IL wr' B v L')
  (hSM : ∀ X Y row, SM X → X.grownBy Y row → (∀ r, row = some r → W.heap.size ≤ r) → SM Y) : LpM SM B m2 W P b8 b10 c t l h L' ds wr' := by
 obtain ⟨v0, i1, i2, hv⟩ := k.k9
 obtain rfl : v0 = v := by
  have := (show wr.heap[b8 + 1]? = _ from i1).symm.trans h9
  simpa using this
 have hrow : ∀ r, v0.ownBlock = some r → W.heap.size ≤ r := fun r e => (hv r e).1
 exact { sm := hSM _ _ _ k.sm hg hrow, mv := k.mv.trans_grown hg hrow, k2 := k.k2.grown_own ho (by decide) hg, k3 := k.k3.grown_own ho (by decide) hg, k8 := k.k8.grown_own ho (by decide) hg, k10 := k.k10.grown hg fun e => (hv b10 e.symm).2 rfl, k9 := ⟨v0, h9.grown_own ho (by decide) hg, ho', hv⟩, ms := k.ms.kept fun D hD => hg.block D (k.ms.lt D hD).2.1 fun e => ho.cells_ne (k.ms.lt D hD).2.2 rfl e.symm }
end
def WetL (d : M.Dr) (t l : Nat) (h : Int) (p : Nat → Int) (c : Nat) (L1 : List Int) (pre : List {x : Int // M.pushT d.s p t h (fun f => f) c x = true}) (L : List Int) : Prop :=
 (∀ y, y ∈ L ↔ y ∈ L1 ∨ ∃ x, x ∈ pre ∧ (if x.1 < 0 then y == -1 else M.pushT d.s (d.wd t) t h (fun f => f * l / 4) x.1.toNat y) = true) ∧ L.length ≤ L1.length + 24 * pre.length
theorem WetL.nil {d : M.Dr} {t l : Nat} {h : Int} {p : Nat → Int} {c : Nat} {L1 : List Int} : WetL d t l h p c L1 [] L1 := ⟨fun y => by simp, by simp⟩
theorem WetL.more {d : M.Dr} {t l : Nat} {h : Int} {p : Nat → Int} {c : Nat} {L1 L M' : List Int} {pre : List {x : Int // M.pushT d.s p t h (fun f => f) c x = true}} {x : {x : Int // M.pushT d.s p t h (fun f => f) c x = true}} (k : WetL d t l h p c L1 pre L)
  (hm : ∀ y, y ∈ M' ↔ (if x.1 < 0 then y == -1 else M.pushT d.s (d.wd t) t h (fun f => f * l / 4) x.1.toNat y) = true) (hn : M'.length ≤ 24) : WetL d t l h p c L1 (pre ++ [x]) (L ++ M') := by
 refine ⟨fun y => ?_, by rw [List.length_append, List.length_append, List.length_singleton]; have := k.2; omega⟩
 rw [List.mem_append, k.1, hm, or_assoc]
 refine or_congr_right ?_
 constructor
 ·
  rintro (⟨z, hz1, hz2⟩ | hx)
  · exact ⟨z, List.mem_append_left _ hz1, hz2⟩
  · exact ⟨x, List.mem_append_right _ (List.mem_singleton.2 rfl), hx⟩
 ·
  rintro ⟨z, hz1, hz2⟩
  rcases List.mem_append.1 hz1 with hz1 | hz1
  · exact .inl ⟨z, hz1, hz2⟩
  · rw [List.mem_singleton.1 hz1] at hz2; exact .inr hz2
set_option maxRecDepth 100000 in
set_option maxHeartbeats 16000000 in
theorem dstep_in (hd : d.Ok) (hM : SeaM d zA cA wA dA tA sA cl B P m1 m2 #[.int .i64 (d.s.W : Int), .int .i64 (d.s.H : Int), .slice dA d.s.nd dc, .slice tA d.s.nt tc, .slice sA d.s.nt sc, .slice zA d.s.nd zc, .slice cA d.nz cc, .slice wA (d.s.nt - 1) wc, .map (some m1), .map (some m2)] T W) (c t l : Nat) (hc : c < d.s.nd) (ht : t + 1 < d.s.nt) (hl : l ≤ 8) :
  Calls Tryz.prog 48 #[.pointer (some ⟨P, 0, none⟩), .agg #[.int .i64 (c : Int), .int .i64 (t : Int), .int .i64 (l : Int)]] W (StepR d zA cA wA dA tA sA cl B P m1 m2 dc tc sc zc cc wc T W t l c) := by
 have hnd := hd.s.nd1
 have hnt := hd.s.t2
 have htd := hd.s.tide t (by omega)
 have HD := Lib.hid hd
 have HM := Lib.hid hM
 have HBX := Lib.hid hM.box
 have HPW := Lib.hid hM.box.lt
 have HR := Lib.hid hM.rd
 have hBW := hM.b.2.2.2.2
 obtain ⟨tb, toff, htA, htb, hq0, hq1⟩ := hM.rd.c.t.at2 (show t < d.s.nt by omega)
 have HTA := Lib.hid htA
 clear htA
 have HTC := Lib.hid (And.intro hq0 hq1)
 clear hq0 hq1
 obtain ⟨v, hv1, hv2⟩ := hM.stepv
 have HLK := Lib.hid (fun X (hb : Below W.heap.size W X) => step_look (hv1.kept (below_grown hb none) (by simp)) hv2 (c := c) (t := t) (l := l) (by omega) (by omega) (by omega))
 have HV := Lib.hid (And.intro hv1 hv2)
 clear hd hM hv1 hv2
 refine (callsIn_wide (n := 4)).1 ?_
 refine callsIn_of_wp_marks Tryz.func48 rfl trivial ?_ rfl
 simp only [Tryz.ntmps48, List.size_toArray, List.length_cons, List.length_nil, Nat.reduceAdd, Nat.reduceSub, Array.replicate_succ, Array.replicate_zero, List.push_toArray, List.append_toArray, List.nil_append, List.cons_append]
 refine wpIn_wide.2 ?_
 go_upto_region 3 with fail
 have hb0 := belowAlloc2 W (.cells #[.pointer (some ⟨P, 0, none⟩)] 87) (.cells #[.int .i64 (c : Int), .int .i64 (t : Int), .int .i64 (l : Int)] 96)
 have K2 := Lib.hid ((Blk.new W 87 #[.pointer (some ⟨P, 0, none⟩)]).alloc (.cells #[.int .i64 (c : Int), .int .i64 (t : Int), .int .i64 (l : Int)] 96))
 have K3 := Lib.hid (Blk.new1 W (.cells #[.pointer (some ⟨P, 0, none⟩)] 87) 96 #[.int .i64 (c : Int), .int .i64 (t : Int), .int .i64 (l : Int)])
 have KP := Lib.hid (HBX.out.below' hb0)
 have hsz : ((W.alloc (.cells #[.pointer (some ⟨P, 0, none⟩)] 87)).alloc (.cells #[.int .i64 (c : Int), .int .i64 (t : Int), .int .i64 (l : Int)] 96)).heap.size = W.heap.size + 2 := by simp
 have HX0 := Lib.hid hb0
 clear hb0
 generalize (W.alloc (.cells #[.pointer (some ⟨P, 0, none⟩)] 87)).alloc (.cells #[.int .i64 (c : Int), .int .i64 (t : Int), .int .i64 (l : Int)] 96) = X at HX0 K2 K3 KP hsz ⊢
 have p8 := KP.out.cell 8
 have k2 := K2.out.cell 0
 obtain ⟨k30, k31, k32⟩ := K3.out.c3
 have hl1 := fun n => HLK.out (X.drewN n) (HX0.out.drewN n)
 obtain ⟨kn, hkn⟩ : ∃ kn, kn = (v (stepI c t l)).isSome := ⟨_, rfl⟩
 obtain ⟨xo, hxo⟩ : ∃ xo, xo = unS (v (stepI c t l)) := ⟨_, rfl⟩
 rw [← hkn, ← hxo] at hl1
 have HKN := Lib.hid hkn
 have HXO := Lib.hid hxo
 clear hkn hxo HLK
 go_quiet (fail)
 have HB1 := Lib.hid (HX0.out.drewN nq)
 have KP1 := Lib.hid (show Blk (X.drewN nq) P 130 _ from KP.out)
 have K21 := Lib.hid (show Blk (X.drewN nq) W.heap.size 87 _ from K2.out)
 have K31 := Lib.hid (show Blk (X.drewN nq) (W.heap.size + 1) 96 _ from K3.out)
 have HSZ := Lib.hid (show (X.drewN nq).heap.size = W.heap.size + 2 from hsz)
 generalize X.drewN nq = Y at HB1 KP1 K21 K31 HSZ ⊢
 clear p8 k2 k30 k31 k32 hl1 KP K2 K3 HX0 hsz
 cases kn
 rotate_left
 ·
  obtain ⟨y, hy⟩ : ∃ y, v (stepI c t l) = some y := by
   have := HKN.out
   cases h : v (stepI c t l) with
   | none => rw [h] at this; cases this
   | some y => exact ⟨y, rfl⟩
  obtain ⟨g, cp, e1, e2, e3⟩ := HV.out.2 _ _ hy
  obtain ⟨i1, i2, i3⟩ := stepI_parts (c := c) (t := t) (l := l) (by omega) (by omega)
  rw [i1, i2, i3] at e2 e3
  have hx : xo = .slice (some ⟨g, 0, none⟩) (M.stepL d t l c).length cp := by rw [HXO.out, hy, e2, unS_enc]
  subst hx
  have HE3 := Lib.hid e3
  have HE1 := Lib.hid e1
  clear hy e2 e3 e1 i1 i2 i3
  go_wp2_with fail
  refine leaves_marks (lo := W.heap.size) [] Y trivial fun w' hk => ⟨.slice (some ⟨g, 0, none⟩) (M.stepL d t l c).length cp, by simp [results, Tryz.f48, go_sem], ?_⟩
  have hbw := hk (fun _ Z => Below W.heap.size W Z) (ownFrom_below (Nat.le_refl _) (Nat.le_refl _)) HB1.out
  exact ⟨T, g, cp, fun _ h => h, fun _ h => .inl h, HE1.out, rfl, HM.out.below hbw, Own.below HE3.out hbw, Mv.of_below hbw⟩
 ·
  have HNO := Lib.hid (show v (stepI c t l) = none by have := HKN.out; cases h : v (stepI c t l) with
   | none => rfl
   | some y => rw [h] at this; cases this)
  clear HKN HXO
  go_upto_region 9 with fail
  have hb1 := belowAlloc2 Y (.cells #[Value.func (.func 88) #[] #[.pointer (some ⟨W.heap.size + 1, 0, none⟩)]] 147) (.cells #[Value.slice none 0 0] 22)
  have K2Z := Lib.hid (K21.out.below' hb1)
  have K3Z := Lib.hid (K31.out.below' hb1)
  have KPZ := Lib.hid (KP1.out.below' hb1)
  have K8Z := Lib.hid ((Blk.new Y 147 #[Value.func (.func 88) #[] #[.pointer (some ⟨W.heap.size + 1, 0, none⟩)]]).alloc (.cells #[Value.slice none 0 0] 22))
  have K9Z := Lib.hid (Blk.new1 Y (.cells #[Value.func (.func 88) #[] #[.pointer (some ⟨W.heap.size + 1, 0, none⟩)]] 147) 22 #[Value.slice none 0 0])
  have HBZ := Lib.hid (HB1.out.trans (hb1.mono HB1.out.size))
  have HSY := Lib.hid HB1.out.size
  have HSZZ := Lib.hid (show ((Y.alloc (.cells #[Value.func (.func 88) #[] #[.pointer (some ⟨W.heap.size + 1, 0, none⟩)]] 147)).alloc (.cells #[Value.slice none 0 0] 22)).heap.size = Y.heap.size + 2 from by simp)
  clear hb1 K21 K31 KP1 HB1 HSZ
  generalize (Y.alloc (.cells #[Value.func (.func 88) #[] #[.pointer (some ⟨W.heap.size + 1, 0, none⟩)]] 147)).alloc (.cells #[Value.slice none 0 0] 22) = Z at K2Z K3Z KPZ K8Z K9Z HBZ HSZZ ⊢
  obtain ⟨b8, hb8⟩ : ∃ b8, b8 = Y.heap.size := ⟨_, rfl⟩
  rw [← hb8] at K8Z K9Z HSY HSZZ ⊢
  clear hb8
  have HTD := Lib.hid (fun w' (hw : Below Z.heap.size Z w') => (show w'.cell? ⟨tb, toff + t * 2, none⟩ = some (.int .i64 (d.s.tide t 0)) ∧ w'.cell? ⟨tb, toff + t * 2 + 1, none⟩ = some (.int .i64 (d.s.tide t 1)) from by
   have hbb := HBZ.out.trans (hw.mono HBZ.out.size)
   exact ⟨(hbb.cell (p := ⟨tb, _, none⟩) (Nat.lt_of_lt_of_le htb hBW)).trans HTC.out.1, (hbb.cell (p := ⟨tb, _, none⟩) (Nat.lt_of_lt_of_le htb hBW)).trans HTC.out.2⟩))
  have ht2 : t < d.s.nt := by omega
  refine wp_nopanic ?_
  refine wp_region_T 12 (fun w' => Below Z.heap.size Z w') (by kernel_rfl) (Below.refl _ _).drew ?_
  intro hS
  refine tkA (i := 0) (v := ?_) rfl (by kernel_rfl) (.inl ⟨by kernel_rfl, ?_⟩) hS ?_
  rotate_left
  · (intro w' hw; have p3 := (KPZ.out.below' hw).cell 3; rw [HTA.out] at p3; have k2 := (K2Z.out.below' hw).cell 0; have k31 := (K3Z.out.below' hw).cell 1; obtain ⟨q0, q1⟩ := HTD.out w' hw; go_simp; try with_reducible rfl)
  try simp only [put_laws]
  refine tkA (i := 1) (v := ?_) rfl (by kernel_rfl) (.inl ⟨by kernel_rfl, ?_⟩) hS ?_
  rotate_left
  · (intro w' hw; have p3 := (KPZ.out.below' hw).cell 3; rw [HTA.out] at p3; have k2 := (K2Z.out.below' hw).cell 0; have k31 := (K3Z.out.below' hw).cell 1; obtain ⟨q0, q1⟩ := HTD.out w' hw; go_simp; try with_reducible rfl)
  try simp only [put_laws]
  refine tkA (i := 2) (v := ?_) rfl (by kernel_rfl) (.inl ⟨by kernel_rfl, ?_⟩) hS ?_
  rotate_left
  · (intro w' hw; have p3 := (KPZ.out.below' hw).cell 3; rw [HTA.out] at p3; have k2 := (K2Z.out.below' hw).cell 0; have k31 := (K3Z.out.below' hw).cell 1; obtain ⟨q0, q1⟩ := HTD.out w' hw; go_simp; try with_reducible rfl)
  try simp only [put_laws]
  refine tkA (i := 3) (v := ?_) rfl (by kernel_rfl) (.inl ⟨by kernel_rfl, ?_⟩) hS ?_
  rotate_left
  · (intro w' hw; have p3 := (KPZ.out.below' hw).cell 3; rw [HTA.out] at p3; have k2 := (K2Z.out.below' hw).cell 0; have k31 := (K3Z.out.below' hw).cell 1; obtain ⟨q0, q1⟩ := HTD.out w' hw; go_simp; try with_reducible rfl)
  try simp only [put_laws]
  refine tkA (i := 4) (v := ?_) rfl (by kernel_rfl) (.inl ⟨by kernel_rfl, ?_⟩) hS ?_
  rotate_left
  · (intro w' hw; have p3 := (KPZ.out.below' hw).cell 3; rw [HTA.out] at p3; have k2 := (K2Z.out.below' hw).cell 0; have k31 := (K3Z.out.below' hw).cell 1; obtain ⟨q0, q1⟩ := HTD.out w' hw; go_simp; try with_reducible rfl)
  try simp only [put_laws]
  refine tkA (i := 5) (v := ?_) rfl (by kernel_rfl) (.inl ⟨by kernel_rfl, ?_⟩) hS ?_
  rotate_left
  · (intro w' hw; have p3 := (KPZ.out.below' hw).cell 3; rw [HTA.out] at p3; have k2 := (K2Z.out.below' hw).cell 0; have k31 := (K3Z.out.below' hw).cell 1; obtain ⟨q0, q1⟩ := HTD.out w' hw; go_simp; try with_reducible rfl)
  try simp only [put_laws]
  refine tkA (i := 6) (v := ?_) rfl (by kernel_rfl) (.inl ⟨by kernel_rfl, ?_⟩) hS ?_
  rotate_left
  · (intro w' hw; have p3 := (KPZ.out.below' hw).cell 3; rw [HTA.out] at p3; have k2 := (K2Z.out.below' hw).cell 0; have k31 := (K3Z.out.below' hw).cell 1; obtain ⟨q0, q1⟩ := HTD.out w' hw; go_simp; try with_reducible rfl)
  try simp only [put_laws]
  refine tkA (i := 7) (v := ?_) rfl (by kernel_rfl) (.inl ⟨by kernel_rfl, ?_⟩) hS ?_
  rotate_left
  · (intro w' hw; have p3 := (KPZ.out.below' hw).cell 3; rw [HTA.out] at p3; have k2 := (K2Z.out.below' hw).cell 0; have k31 := (K3Z.out.below' hw).cell 1; obtain ⟨q0, q1⟩ := HTD.out w' hw; go_simp; try with_reducible rfl)
  try simp only [put_laws]
  refine tkA (i := 8) (v := ?_) rfl (by kernel_rfl) (.inl ⟨by kernel_rfl, ?_⟩) hS ?_
  rotate_left
  · (intro w' hw; have p3 := (KPZ.out.below' hw).cell 3; rw [HTA.out] at p3; have k2 := (K2Z.out.below' hw).cell 0; have k31 := (K3Z.out.below' hw).cell 1; obtain ⟨q0, q1⟩ := HTD.out w' hw; go_simp; try with_reducible rfl)
  try simp only [put_laws]
  refine tkA (i := 9) (v := ?_) rfl (by kernel_rfl) (.inl ⟨by kernel_rfl, ?_⟩) hS ?_
  rotate_left
  · (intro w' hw; have p3 := (KPZ.out.below' hw).cell 3; rw [HTA.out] at p3; have k2 := (K2Z.out.below' hw).cell 0; have k31 := (K3Z.out.below' hw).cell 1; obtain ⟨q0, q1⟩ := HTD.out w' hw; go_simp; try with_reducible rfl)
  try simp only [put_laws]
  refine tkA (i := 10) (v := ?_) rfl (by kernel_rfl) (.inl ⟨by kernel_rfl, ?_⟩) hS ?_
  rotate_left
  · (intro w' hw; have p3 := (KPZ.out.below' hw).cell 3; rw [HTA.out] at p3; have k2 := (K2Z.out.below' hw).cell 0; have k31 := (K3Z.out.below' hw).cell 1; obtain ⟨q0, q1⟩ := HTD.out w' hw; go_simp; try with_reducible rfl)
  try simp only [put_laws]
  refine wpAnyT_one (i := 11) (by kernel_rfl) rfl ?_
  intro K' hK'
  go_simp
  refine hK'.out _ _ (.inr (Below.trans hS ((belowAlloc _ _).mono hS.size))) ?_
  clear hK' K'
  try simp only [put_laws]
  refine wpAnyT_one (i := 12) (by kernel_rfl) rfl ?_
  intro K' hK'
  go_simp
  refine hK'.out _ _ (.inl rfl) ?_
  clear hK' K'
  try simp only [put_laws]
  refine wpAnyT_done (by kernel_rfl) ?_ _
  refine ⟨fun x e => (by cases e), ?_⟩
  have hb2 := (belowAlloc Z (.cells #[.int .i64 (d.s.tide t 0)] 3)).drew
  have HL0 := Lib.hid (show LpS (fun X => SeaM d zA cA wA dA tA sA cl B P m1 m2 #[.int .i64 (d.s.W : Int), .int .i64 (d.s.H : Int), .slice dA d.s.nd dc, .slice tA d.s.nt tc, .slice sA d.s.nt sc, .slice zA d.s.nd zc, .slice cA d.nz cc, .slice wA (d.s.nt - 1) wc, .map (some m1), .map (some m2)] T X) d B m2 W P b8 Z.heap.size c t l (d.s.tide t 0) [] [] (Z.alloc (.cells #[.int .i64 (d.s.tide t 0)] 3)).drew from {
   sm := HM.out.below (HBZ.out.trans (hb2.mono HBZ.out.size)), mv := Mv.of_below (HBZ.out.trans (hb2.mono HBZ.out.size)), k2 := K2Z.out.below' hb2, k3 := K3Z.out.below' hb2, k8 := K8Z.out.below' hb2, k10 := Blk.new Z _ _
   k9 := ⟨_, K9Z.out.below' hb2, Own.nil_, fun g e => by cases e⟩, mem := fun x => by rw [M.spanTo_nil (by omega)]; simp, len := by simp, ms := trivial })
  have hb8W : W.heap.size ≤ b8 := HSY.out
  have HSM := Lib.hid (show ∀ X Y row, (SeaM d zA cA wA dA tA sA cl B P m1 m2 #[.int .i64 (d.s.W : Int), .int .i64 (d.s.H : Int), .slice dA d.s.nd dc, .slice tA d.s.nt tc, .slice sA d.s.nt sc, .slice zA d.s.nd zc, .slice cA d.nz cc, .slice wA (d.s.nt - 1) wc, .map (some m1), .map (some m2)] T X) → X.grownBy Y row → (∀ r, row = some r → W.heap.size ≤ r) → (SeaM d zA cA wA dA tA sA cl B P m1 m2 #[.int .i64 (d.s.W : Int), .int .i64 (d.s.H : Int), .slice dA d.s.nd dc, .slice tA d.s.nt tc, .slice sA d.s.nt sc, .slice zA d.s.nd zc, .slice cA d.nz cc, .slice wA (d.s.nt - 1) wc, .map (some m1), .map (some m2)] T Y) from fun X Y row h hg hr => h.grown hg fun r e => ⟨Nat.le_trans hBW (hr r e), fun h2 => by have := (HM.out.t.2.2.2 r h2).2; have := hr r e; omega⟩)
  clear K2Z K3Z KPZ K8Z K9Z HBZ HSY HSZZ HTD hb2 hS
  generalize (Z.alloc (.cells #[.int .i64 (d.s.tide t 0)] 3)).drew = Z2 at HL0 ⊢
  obtain ⟨b10, hb10⟩ : ∃ b10, b10 = Z.heap.size := ⟨_, rfl⟩
  rw [← hb10] at HL0 ⊢
  clear hb10
  go_wp2_with fail
  refine st_loop (meOf (d.s.tide t 1)) _ _ _ _ _ _ _ _ _ _ _ _ _ _ _ _ _ _ _ _ _ _ _ _ _ _ _ _ _ _ _ _ _ _ _ _ _ _ _ _ _ _ _ _ _ _ _ _ _ _ _ _ _ _ _ _ _ _ _ _ _ _ _ _ _ _ _ _ _ _ _ _ _ _ _ _ _ _ _ _ _ _ _ _ _ _ _ _ _ _ _ _ _ _ _ _ _ _ _ _ _ _ _ _ _ _ _ _ _ _ _ _ _ _ _ _ _ _ _ _ _ _ _ _ _ _ _ _ _ _ _ _ _ _ _ _ _ _ (fun ds hv wr => ∃ (h : Int) (b : Nat) (L : List Int), hv = .pointer (some ⟨b, 0, none⟩) ∧ d.s.tide t 0 ≤ h ∧ h ≤ d.s.tide t 1 + 1 ∧ Hid (LpS (fun X => SeaM d zA cA wA dA tA sA cl B P m1 m2 #[.int .i64 (d.s.W : Int), .int .i64 (d.s.H : Int), .slice dA d.s.nd dc, .slice tA d.s.nt tc, .slice sA d.s.nt sc, .slice zA d.s.nd zc, .slice cA d.nz cc, .slice wA (d.s.nt - 1) wc, .map (some m1), .map (some m2)] T X) d B m2 W P b8 b c t l h L ds wr)) ⟨_, b10, [], rfl, Int.le_refl _, by omega, HL0⟩ ?_
  intro ds u wr hrel
  obtain ⟨h, b, L, hu, hh1, hh2, HLP⟩ := hrel
  clear HL0
  rw [hu]
  have p3 := HLP.out.sm.box.cell 3
  rw [HTA.out] at p3
  have k2 := HLP.out.k2.cell 0
  have k31 := HLP.out.k3.cell 1
  have k10 := HLP.out.k10.cell 0
  have HME := Lib.hid (meOf_at (hi := d.s.tide t 1) HLP.out.k10)
  have q1 := cell_mv HTC.out.2 HLP.out.mv HM.out.map2 HM.out.map2
  by_cases hlt : h ≤ d.s.tide t 1
  rotate_left
  ·
   go_upto_region 10 with fail
   go_quiet (fail)
   have HLQ := Lib.hid (HLP.out.below ((Below.refl _ wr).drewN nq) (HLP.out.sm.drewN nq))
   generalize wr.drewN nq = Y2 at HLQ ⊢
   clear p3 k2 k31 k10 q1 HLP
   go_upto_region 23 with fail
   have e1 : h - 1 = d.s.tide t 1 := by omega
   have hmem : ∀ x, x ∈ L ↔ x ∈ M.stepL d t l c := fun x => by rw [HLQ.out.mem, e1, M.mem_stepL HD.out (by omega), M.stepB_in]
   have hpos : 0 < L.length := by
    obtain ⟨x, hx⟩ := List.exists_mem_of_length_pos (M.stepL_ne HD.out ht (l := (l : Int)) hc)
    exact List.length_pos_of_mem ((hmem x).2 hx)
   have hLn : L.length ≤ 1048576 := by have := HLQ.out.len; omega
   have HCS := Lib.hid (show Lib.compact (L.mergeSort M.leI) = M.stepL d t l c from compact_sort (M.listB_sorted _ _) hmem)
   obtain ⟨v9, hk9, hil, hvb⟩ := HLQ.out.k9
   obtain ⟨g, c9, rfl⟩ := Own.nz hil hpos
   have hgW := (hvb g rfl).1
   have HIL := Lib.hid hil
   have HF := Lib.hid (show FinS (fun X => SeaM d zA cA wA dA tA sA cl B P m1 m2 #[.int .i64 (d.s.W : Int), .int .i64 (d.s.H : Int), .slice dA d.s.nd dc, .slice tA d.s.nt tc, .slice sA d.s.nt sc, .slice zA d.s.nd zc, .slice cA d.nz cc, .slice wA (d.s.nt - 1) wc, .map (some m1), .map (some m2)] T X) m2 W P b8 c t l (.slice (some ⟨g, 0, none⟩) L.length c9) ds Y2 from ⟨HLQ.out.sm, HLQ.out.mv, HLQ.out.k2, HLQ.out.k3, hk9, HLQ.out.ms⟩)
   have k9 := hk9.cell 0
   have HHM := Lib.hid hmem
   clear hil hk9 hvb hmem HLQ
   go_upto_region 24 with (go_at_call 68; go_must (refine (IL.sort HIL.out hpos hLn).mono ?_); rintro e w2 ⟨rfl, hil2, hg2⟩; have HIL2 := Lib.hid hil2; have HG2 := Lib.hid hg2; clear hil2 hg2)
   have HF2 := Lib.hid (HF.out.grown HG2.out HIL.out rfl hgW (HF.out.sm.grown HG2.out fun r e => by
    have e' : g = r := by simpa [Value.ownBlock] using e
    subst e'
    exact ⟨by omega, fun h2 => by have := (HM.out.t.2.2.2 g h2).2; omega⟩))
   clear HF HIL HG2
   have HCP := Lib.hid (fun X (hX : IL X B (.slice (some ⟨g, 0, none⟩) L.length c9) (L.mergeSort M.leI)) => IL.comp hX (by rw [List.length_mergeSort]; exact hpos) (by rw [List.length_mergeSort]; exact hLn))
   rw [HCS.out] at HCP
   have hbw2 := HF2.out.sm.box
   refine wp_nopanic ?_
   refine wp_region_T 7 (fun w' => (Blk w' P 130 #[.int .i64 (d.s.W : Int), .int .i64 (d.s.H : Int), .slice dA d.s.nd dc, .slice tA d.s.nt tc, .slice sA d.s.nt sc, .slice zA d.s.nd zc, .slice cA d.nz cc, .slice wA (d.s.nt - 1) wc, .map (some m1), .map (some m2)] ∧ Blk w' W.heap.size 87 #[.pointer (some ⟨P, 0, none⟩)] ∧ Blk w' (W.heap.size + 1) 96 #[.int .i64 (c : Int), .int .i64 (t : Int), .int .i64 (l : Int)] ∧ Blk w' (b8 + 1) 22 #[.slice (some ⟨g, 0, none⟩) L.length c9])) (by kernel_rfl) ⟨hbw2, HF2.out.k2, HF2.out.k3, HF2.out.k9⟩ ?_
   clear hbw2
   intro hS
   refine tkA (i := 0) (v := ?_) rfl (by kernel_rfl) (.inl ⟨by kernel_rfl, ?_⟩) hS ?_
   rotate_left
   · (intro w' hw; obtain ⟨hb, hk2, hk3, hk9⟩ := hw; have p8 := hb.cell 8; have k2 := hk2.cell 0; obtain ⟨k30, k31, k32⟩ := hk3.c3; have k9 := hk9.cell 0; go_simp; try with_reducible rfl)
   try simp only [put_laws]
   refine tkA (i := 1) (v := ?_) rfl (by kernel_rfl) (.inl ⟨by kernel_rfl, ?_⟩) hS ?_
   rotate_left
   · (intro w' hw; obtain ⟨hb, hk2, hk3, hk9⟩ := hw; have p8 := hb.cell 8; have k2 := hk2.cell 0; obtain ⟨k30, k31, k32⟩ := hk3.c3; have k9 := hk9.cell 0; go_simp; try with_reducible rfl)
   try simp only [put_laws]
   refine tkA (i := 2) (v := ?_) rfl (by kernel_rfl) (.inl ⟨by kernel_rfl, ?_⟩) hS ?_
   rotate_left
   · (intro w' hw; obtain ⟨hb, hk2, hk3, hk9⟩ := hw; have p8 := hb.cell 8; have k2 := hk2.cell 0; obtain ⟨k30, k31, k32⟩ := hk3.c3; have k9 := hk9.cell 0; go_simp; try with_reducible rfl)
   try simp only [put_laws]
   refine tkA (i := 3) (v := ?_) rfl (by kernel_rfl) (.inl ⟨by kernel_rfl, ?_⟩) hS ?_
   rotate_left
   · (intro w' hw; obtain ⟨hb, hk2, hk3, hk9⟩ := hw; have p8 := hb.cell 8; have k2 := hk2.cell 0; obtain ⟨k30, k31, k32⟩ := hk3.c3; have k9 := hk9.cell 0; go_simp; try with_reducible rfl)
   try simp only [put_laws]
   refine tkA (i := 4) (v := ?_) rfl (by kernel_rfl) (.inl ⟨by kernel_rfl, ?_⟩) hS ?_
   rotate_left
   · (intro w' hw; obtain ⟨hb, hk2, hk3, hk9⟩ := hw; have p8 := hb.cell 8; have k2 := hk2.cell 0; obtain ⟨k30, k31, k32⟩ := hk3.c3; have k9 := hk9.cell 0; go_simp; try with_reducible rfl)
   try simp only [put_laws]
   refine tkA (i := 5) (v := ?_) rfl (by kernel_rfl) (.inl ⟨by kernel_rfl, ?_⟩) hS ?_
   rotate_left
   · (intro w' hw; obtain ⟨hb, hk2, hk3, hk9⟩ := hw; have p8 := hb.cell 8; have k2 := hk2.cell 0; obtain ⟨k30, k31, k32⟩ := hk3.c3; have k9 := hk9.cell 0; go_simp; try with_reducible rfl)
   try simp only [put_laws]
   refine wpAnyT_one (i := 6) (by kernel_rfl) rfl ?_
   intro K' hK'
   go_simp
   refine (HCP.out w2.drew HIL2.out).mono ?_
   rintro e w3 ⟨g3, c3, hg3, rfl, hil3, hgr3⟩
   obtain rfl : g = g3 := by simpa [Value.ownBlock] using hg3
   have HF3 := Lib.hid (FinS.grown (wr := w2.drew) ⟨HF2.out.sm.drewN 1, HF2.out.mv.drew, HF2.out.k2, HF2.out.k3, HF2.out.k9, HF2.out.ms.kept fun _ _ => rfl⟩ hgr3 HIL2.out rfl hgW ((HF2.out.sm.drewN 1).grown hgr3 fun r e => by
    have e' : g = r := by simpa [Value.ownBlock] using e
    subst e'
    exact ⟨by omega, fun h2 => by have := (HM.out.t.2.2.2 g h2).2; omega⟩))
   have HIL3 := Lib.hid hil3
   clear hil3 hgr3 hg3 hS
   have hS := (show _ ∧ _ ∧ _ ∧ _ from ⟨HF3.out.sm.box, HF3.out.k2, HF3.out.k3, HF3.out.k9⟩)
   refine hK'.out _ _ (.inr hS) ?_
   clear hK' K'
   try simp only [put_laws]
   obtain ⟨w4, hrun, hM4, hg4, hlk⟩ := step_store HF3.out.sm (HV.out.1.kept HF3.out.mv.toGrown (by simpa using HM.out.b.2.2.2.1)) (fun i y hy => by
    obtain ⟨g', c', k1, k2, k3⟩ := HV.out.2 i y hy
    exact ⟨g', c', k1, k2, Own.mv k3 HF3.out.mv HM.out.map2 HM.out.map2⟩) (by omega) (by omega) (by omega) HNO.out HIL3.out
   have HM4 := Lib.hid hM4
   have HG4 := Lib.hid hg4
   have HLK4 := Lib.hid hlk
   clear hM4 hg4 hlk
   refine wpAnyT_one (i := 7) (by kernel_rfl) rfl ?_
   intro K' hK'
   go_simp
   refine hK'.out _ _ (.inl rfl) ?_
   clear hK' K'
   try simp only [put_laws]
   refine wpAnyT_done (by kernel_rfl) ?_ _
   refine ⟨fun x e => (by cases e), ?_⟩
   have p8 := HM4.out.box.cell 8
   have k2 := (HF3.out.k2.grown HG4.out (by simpa using HF3.out.sm.map1.ne HF3.out.k2)).cell 0
   have K34 := Lib.hid (HF3.out.k3.grown HG4.out (by simpa using HF3.out.sm.map1.ne HF3.out.k3))
   obtain ⟨k30, k31, k32⟩ := K34.out.c3
   have hlk4 := HLK4.out
   have HMV := Lib.hid (show Mv m1 m2 W w4 from (show Mv m1 m2 W w3 from ⟨HF3.out.mv.os, HF3.out.mv.tape, HF3.out.mv.output, HF3.out.mv.size, fun q hq h1 h2 => HF3.out.mv.block q hq h2 h2⟩).trans (Mv.grown1 HG4.out))
   have HMS := Lib.hid (show Marks W.heap.size w4 ds from HF3.out.ms.kept fun D hD => HG4.out.block D (HF3.out.ms.lt D hD).2.1 fun e => by
    obtain ⟨es, ck, hm⟩ := HF3.out.sm.map1
    cases e
    have := hm.symm.trans (HF3.out.ms.lt _ hD).2.2
    cases this)
   have HIL4 := Lib.hid (show IL w4 B (.slice (some ⟨g, 0, none⟩) (M.stepL d t l c).length c3) (M.stepL d t l c) from Own.grown HIL3.out HG4.out (.inr (by obtain ⟨cs', hb⟩ := Own.blk HIL3.out; simpa [Value.ownBlock] using HF3.out.sm.map1.ne hb)))
   clear HF3 HG4 HLK4 HIL3 HF2 HIL2 hS HCP
   go_upto_region 25 with fail
   go_quiet (fail)
   go_wp2_with fail
   refine leaves_marks (lo := W.heap.size) ds (w4.drewN nq) (HMS.out.kept fun _ _ => rfl) fun w' hk => ⟨.slice (some ⟨g, 0, none⟩) (M.stepL d t l c).length c3, by simp [results, Tryz.f48, go_sem], ?_⟩
   obtain ⟨r1, r2, r3⟩ := hk (fun _ Z => SeaM d zA cA wA dA tA sA cl B P m1 m2 #[.int .i64 (d.s.W : Int), .int .i64 (d.s.H : Int), .slice dA d.s.nd dc, .slice tA d.s.nt tc, .slice sA d.s.nt sc, .slice zA d.s.nd zc, .slice cA d.nz cc, .slice wA (d.s.nt - 1) wc, .map (some m1), .map (some m2)] (fun k => T k ∨ k = g) Z ∧ IL Z B (.slice (some ⟨g, 0, none⟩) (M.stepL d t l c).length c3) (M.stepL d t l c) ∧ Mv m1 m2 W Z) (fun _ X2 Y2 row hs hg hr => by
    obtain ⟨q1, q2, q3⟩ := hs
    refine ⟨q1.grown hg fun r e => ⟨by have := (hr r e).1; omega, fun hTr => ?_⟩, Own.grown q2 hg (.inr fun e => ?_), q3.trans_grown hg fun r e => (hr r e).1⟩
    ·
     rcases hTr with hTr | rfl
     ·
      have := (HM.out.t.2.2.2 r hTr).2
      have := (hr r e).1
      omega
     ·
      obtain ⟨o, ho, hc⟩ := (hr r e).2
      exact Own.cells_ne q2 ho hc rfl
    ·
     obtain ⟨o, ho, hc⟩ := (hr g e.symm).2
     exact Own.cells_ne q2 ho hc rfl) ⟨HM4.out.drewN nq, HIL4.out, HMV.out.drewN nq⟩
   exact ⟨_, g, c3, fun _ h => .inl h, fun k h => h.imp id (fun e => by omega), .inr rfl, rfl, r1, r2, r3⟩
  ·
   go_upto_region 10 with fail
   go_quiet (fail)
   have HLQ := Lib.hid (HLP.out.below ((Below.refl _ wr).drewN nq) (HLP.out.sm.drewN nq))
   generalize wr.drewN nq = Y2 at HLQ ⊢
   clear p3 k2 k31 k10 q1 HLP
   have HDRY := Lib.hid (ddry_any HD.out HLQ.out.sm c t h hc ht2 ⟨by omega, by omega⟩)
   cases hdr : M.dryB d.s c t h
   ·
    rw [hdr] at HDRY
    have HDR := Lib.hid hdr
    clear hdr
    have k2 := HLQ.out.k2.cell 0
    obtain ⟨k30, k31⟩ := HLQ.out.k3.c2
    have k10 := HLQ.out.k10.cell 0
    go_upto_region 14 with (go_at_call 89; go_must (refine HDRY.out.mono ?_); rintro e w2 ⟨rfl, n2, rfl⟩)
    have HLR := Lib.hid (HLQ.out.below ((Below.refl _ Y2).drewN n2) (HLQ.out.sm.drewN n2))
    generalize Y2.drewN n2 = Y3 at HLR ⊢
    clear k2 k30 k31 k10 HLQ HDRY
    obtain ⟨zn, hzn⟩ : ∃ zn : Nat, d.z c = (zn : Int) := ⟨(d.z c).toNat, by have := HD.out.z c hc; omega⟩
    have hzn2 : zn < d.nz := by have := HD.out.z c hc; omega
    have hcl : t < cl zn := by have := HM.out.cl zn hzn2; omega
    have hrd := HLR.out.sm.rd
    obtain ⟨zb, zoff, hzA, _, z0⟩ := hrd.z.at_ hc
    obtain ⟨ub, uoff, rA, rc, hcA, _, u0, hru, _⟩ := hrd.cu.at_ hzn2
    obtain ⟨rb, roff, hrA, _, r0, r1, r2⟩ := hru.at3 hcl
    have p5 := HLR.out.sm.box.cell 5
    have p6 := HLR.out.sm.box.cell 6
    rw [hzA] at p5
    rw [hcA] at p6
    rw [hzn] at z0
    rw [hrA] at u0
    have HPB := Lib.hid (show M.pushB (d.cu zn t) = true from HD.out.cu zn hzn2 t ht)
    have hpp := M.pushB_iff.1 HPB.out
    obtain ⟨cu0, hcu0⟩ : ∃ x, x = d.cu zn t 0 := ⟨_, rfl⟩
    obtain ⟨cu1, hcu1⟩ : ∃ x, x = d.cu zn t 1 := ⟨_, rfl⟩
    obtain ⟨cu2, hcu2⟩ : ∃ x, x = d.cu zn t 2 := ⟨_, rfl⟩
    have k2 := HLR.out.k2.cell 0
    obtain ⟨k30, k31⟩ := HLR.out.k3.c2
    have k10 := HLR.out.k10.cell 0
    have HPU := Lib.hid (fun X => pushes_any P c t h (d.cu zn t) (.func (.func 87) #[] #[]) ⟨_, _, rfl⟩ X)
    clear hrd hru hzA hcA hrA hpp hcu0 hcu1 hcu2 cu0 cu1 cu2
    go_still_tail 27, (by kernel_rfl)
    go_wp2_with (go_at_call 90; go_must (refine (HPU.out Y3.drew).mono ?_); rintro e w3 ⟨rfl, hpb, hbw, hs3⟩; have HPBX := Lib.hid hpb; have HBW3 := Lib.hid hbw; have HS3 := Lib.hid hs3; clear hpb hbw hs3)
    have HS3' := Lib.hid (show w3.heap.size = Y3.heap.size + 6 from HS3.out)
    have HPBX' := Lib.hid (show PBox w3 Y3.heap.size P c t h (d.cu zn t) (.func (.func 87) #[] #[]) from HPBX.out)
    have HBW3' := Lib.hid (show Below Y3.heap.size Y3 w3 from ⟨HBW3.out.os, HBW3.out.tape, HBW3.out.output, HBW3.out.size, HBW3.out.block⟩)
    clear HPBX HS3 HBW3
    obtain ⟨v9, hk9, hil9, hvb9⟩ := HLR.out.k9
    have HB9 := Lib.hid (show ∀ g, v9.ownBlock = some g → g < Y3.heap.size from fun g e => (Own.block hil9 e).2)
    have hb8S : b8 + 1 < Y3.heap.size := hk9.lt
    have HW0 := Lib.hid (LpM.w (S := Y3.heap.size) (HLR.out.m.below HBW3'.out (HLR.out.sm.below HBW3'.out)) (hk9.below' HBW3'.out) (fun g e => .inl (HB9.out g e)) HPBX'.out)
    have HDS := Lib.hid (show ∀ D ∈ ds, D < w3.heap.size from fun D hD => Nat.lt_of_lt_of_le (HLR.out.ms.lt D hD).2.1 HBW3'.out.size)
    have hW3 : W.heap.size ≤ w3.heap.size := Nat.le_trans HLR.out.mv.size HBW3'.out.size
    have hm2W : m2 < w3.heap.size := Nat.lt_of_lt_of_le (HM.out.t.2.2.2 m2 HM.out.t.2.2.1).2 hW3
    have HLN := Lib.hid HLR.out.len
    have HMM := Lib.hid HLR.out.mem
    generalize hSe : Y3.heap.size = S at HS3' HPBX' HBW3' HB9 hb8S HW0
    have hSe2 : Y3.drew.heap.size = S := hSe
    try simp only [hSe, hSe2]
    have HI0 := Lib.hid (show ([] : List {x : Int // M.pushT d.s (d.cu zn t) t h (fun f => f) c x = true}).length ≤ 24 ∧ ∃ L2, WetL d t l h (d.cu zn t) c L [] L2 ∧ LpW (fun X => SeaM d zA cA wA dA tA sA cl B P m1 m2 #[.int .i64 (d.s.W : Int), .int .i64 (d.s.H : Int), .slice dA d.s.nd dc, .slice tA d.s.nt tc, .slice sA d.s.nt sc, .slice zA d.s.nd zc, .slice cA d.nz cc, .slice wA (d.s.nt - 1) wc, .map (some m1), .map (some m2)] T X) B m2 W P b8 b c t l h S (d.cu zn t) L2 ds w3 from ⟨Nat.zero_le _, L, WetL.nil, HW0.out⟩)
    clear hk9 hil9 hvb9 HB9 HW0 HPBX' HPU k2 k30 k31 k10 z0 u0 p5 p6 r0 r1 r2 hSe hSe2 HBW3' HLR
    go_wp2_with fail
    refine st_range (zA := zA) (cA := cA) (wA := wA) (dA := dA) (tA := tA) (sA := sA) (cl := cl) (B := B) (P := P) (m1 := m1) (m2 := m2) (dc := dc) (tc := tc) (sc := sc) (zc := zc) (cc := cc) (wc := wc) (T := T) HD.out S c t h (d.cu zn t) (fun f => f) hc ht2 ⟨by omega, by omega⟩ HPB.out (fun f _ _ => ⟨by omega, by omega⟩) (fun X f _ _ => step1_any f X) _ _ _ _ _ _ _ _ _ _ _ _ _ _ _ _ _ _ _ _ _ _ _ _ _ _ _ _ _ _ _ _ _ _ _ _ _ _ _ _ _ _ _ _ _ _ _ _ _ _ _ _ _ _ _ _ _ _ _ _ _ _ _ _ _ _ _ _ _ _ _ _ _ _ _ _ _ _ _ _ _ _ _ _ _ _ _ _ _ _ _ _ _ undef _ _ _ _ _ _ _ _ _ _ _ _ _ _ _ _ _ _ _ _ _ _ _ _ _ _ _ _ _ _ _ _ _ _ _ _ _ _ _ _ _ _ _ _ hm2W (fun pre X => pre.length ≤ 24 ∧ ∃ L2, WetL d t l h (d.cu zn t) c L pre L2 ∧ LpW (fun X => SeaM d zA cA wA dA tA sA cl B P m1 m2 #[.int .i64 (d.s.W : Int), .int .i64 (d.s.H : Int), .slice dA d.s.nd dc, .slice tA d.s.nt tc, .slice sA d.s.nt sc, .slice zA d.s.nd zc, .slice cA d.nz cc, .slice wA (d.s.nt - 1) wc, .map (some m1), .map (some m2)] T X) B m2 W P b8 b c t l h S (d.cu zn t) L2 ds X) ?_ ?_ ?_ HI0.out ?_ ?_ ?_
    ·
     rintro s X Z row ⟨h0, L2, h1, h2⟩ hg hr
     exact ⟨h0, L2, h1, h2.notes hg hr hW3 HDS.out HSM.out⟩
    ·
     rintro s X ⟨_, _, _, k⟩
     exact ⟨k.sm, k.box⟩
    ·
     rintro s X Z ⟨h0, L2, h1, k⟩ hv hs
     exact ⟨h0, L2, h1, k.move hv k.sm.map2 hs⟩
    ·
     intro n x X K hK
     have HK := Lib.hid hK
     clear hK
     gi_wp2_with fail
     exact HK.out
    ·
     intro n pre x X hi hlen
     obtain ⟨h0, L2, hWL, kW⟩ := hi
     have hxb := M.pushT_bd HD.out hc x.2
     obtain ⟨xv, hxv⟩ : ∃ xv, xv = x.1 := ⟨_, rfl⟩
     rw [← hxv] at hxb
     simp only [← hxv]
     obtain ⟨v2, hk9, hil, hvb⟩ := kW.k9
     obtain ⟨A2, c2, rfl⟩ := Own.form hil
     have hXs : W.heap.size ≤ X.heap.size := kW.mv.size
     have hL2 : L2.length < 100000 := by have := hWL.2; have := HLN.out; omega
     have HWL := Lib.hid hWL
     have KW := Lib.hid kW
     have HXV := Lib.hid hxv
     have HK9 := Lib.hid hk9
     have HIL := Lib.hid hil
     have HVB := Lib.hid hvb
     clear hWL kW hxv hk9 hil hvb
     by_cases hx1 : xv = -1
     ·
      subst hx1
      have k9 := HK9.out.cell 0
      gi_wp2_with (gi_at_builtin; go_must (refine wpListIn_apI _ rfl (.tmp 97) (.tmp 98) rfl (B := B) (L := L2) rfl (Own.alloc HIL.out _) rfl ((Blk.new _ _ _).cell 0) (by omega) (by simp; omega) ?_); intro g6 c6 w6 hi6 hg6 hb6; have HI6 := Lib.hid hi6; have HG6 := Lib.hid hg6; have HB6 := Lib.hid hb6; have H96 := Lib.hid (Blk.grown_own (HK9.out.alloc _) (Own.alloc HIL.out _) (by decide) hg6); clear hi6 hg6 hb6 k9; have k9 := H96.out.cell 0; have f9 := H96.out.frz 0)
      have KA := KW.out.below (belowAlloc X (.cells #[.int .i64 (-1)] 3)) HSM.out
      have hkp := (Kp.refl m2 (Value.slice A2 L2.length c2).ownBlock _).grown HG6.out (fun q e => .inr e.symm)
      refine ⟨?_, by rw [List.length_append, List.length_singleton]; omega, L2 ++ [-1], HWL.out.more (fun y => ?_) (by simp), KA.turn (HK9.out.alloc _) (Own.alloc HIL.out _) hkp (show SeaM d zA cA wA dA tA sA cl B P m1 m2 #[.int .i64 (d.s.W : Int), .int .i64 (d.s.H : Int), .slice dA d.s.nd dc, .slice tA d.s.nt tc, .slice sA d.s.nt sc, .slice zA d.s.nd zc, .slice cA d.nz cc, .slice wA (d.s.nt - 1) wc, .map (some m1), .map (some m2)] T _ from KA.sm).map2 (HSM.out _ _ _ KA.sm HG6.out fun r e => (HVB.out r e).1) HI6.out (HB6.out.elim (fun e => .inl e) fun e => .inr ⟨g6, rfl, Nat.le_of_eq e⟩) hb8W hb8S HSM.out⟩
      · exact ((KeepsFrom.of_grownBy (World.grownBy_alloc _ _ none) fun _ e => by cases e).trans (hkp.keepsF (Own.alloc HIL.out _) hm2W)).trans (Blk.keepsSet H96.out 0 _ _)
      · rw [← HXV.out]; simp
     ·
      obtain ⟨xn, hxn⟩ : ∃ xn : Nat, xv = (xn : Int) := ⟨xv.toNat, by omega⟩
      subst hxn
      have hxn2 : xn < d.s.nd := by omega
      gi_wp2_with fail
      obtain ⟨wb, woff, hwA, hwb, w0, w1, w2⟩ := (show SeaM d zA cA wA dA tA sA cl B P m1 m2 #[.int .i64 (d.s.W : Int), .int .i64 (d.s.H : Int), .slice dA d.s.nd dc, .slice tA d.s.nt tc, .slice sA d.s.nt sc, .slice zA d.s.nd zc, .slice cA d.nz cc, .slice wA (d.s.nt - 1) wc, .map (some m1), .map (some m2)] T X from KW.out.sm).rd.wd.at3 (show t < d.s.nt - 1 by omega)
      have HWA := Lib.hid hwA
      clear hwA
      have HWC := Lib.hid (And.intro w0 (And.intro w1 w2))
      clear w0 w1 w2
      have hwb2 : wb < X.heap.size := by omega
      have htn1 : t < d.s.nt - 1 := by omega
      have hpw := M.pushB_iff.1 (HD.out.wd t ht)
      have HPW := Lib.hid (HD.out.wd t ht)
      refine wpIn_region_TI 17 (fun Z => Below X.heap.size X Z) (by kernel_rfl) ((Below.refl _ X).drew) ?_
      intro hS
      refine tkI (i := 0) (v := ?_) (PlainOps.of_nd (by kernel_rfl)) rfl (by kernel_rfl) (fun _ _ _ h => h) (.inl ⟨by kernel_rfl, ?_⟩) (fun _ => rfl) hS ?_
      rotate_left
      · (intro w' hw; have k2 := (KW.out.k2.below' hw).cell 0; obtain ⟨k30, k31⟩ := (KW.out.k3.below' hw).c2; have k8 := (KW.out.k8.below' hw).cell 0; have k10 := (KW.out.k10.below' hw).cell 0; have k9 := (HK9.out.below' hw).cell 0; have p7 := ((show SeaM d zA cA wA dA tA sA cl B P m1 m2 #[.int .i64 (d.s.W : Int), .int .i64 (d.s.H : Int), .slice dA d.s.nd dc, .slice tA d.s.nt tc, .slice sA d.s.nt sc, .slice zA d.s.nd zc, .slice cA d.nz cc, .slice wA (d.s.nt - 1) wc, .map (some m1), .map (some m2)] T X from KW.out.sm).box.below' hw).cell 7; rw [HWA.out] at p7; have w0 := (hw.cell (p := ⟨wb, _, none⟩) hwb2).trans HWC.out.1; have w1 := (hw.cell (p := ⟨wb, _, none⟩) hwb2).trans HWC.out.2.1; have w2 := (hw.cell (p := ⟨wb, _, none⟩) hwb2).trans HWC.out.2.2; go_simp; try with_reducible rfl)
      try simp only [put_laws]
      refine tkI (i := 1) (v := ?_) (PlainOps.of_nd (by kernel_rfl)) rfl (by kernel_rfl) (fun _ _ _ h => h) (.inl ⟨by kernel_rfl, ?_⟩) (fun _ => rfl) hS ?_
      rotate_left
      · (intro w' hw; have k2 := (KW.out.k2.below' hw).cell 0; obtain ⟨k30, k31⟩ := (KW.out.k3.below' hw).c2; have k8 := (KW.out.k8.below' hw).cell 0; have k10 := (KW.out.k10.below' hw).cell 0; have k9 := (HK9.out.below' hw).cell 0; have p7 := ((show SeaM d zA cA wA dA tA sA cl B P m1 m2 #[.int .i64 (d.s.W : Int), .int .i64 (d.s.H : Int), .slice dA d.s.nd dc, .slice tA d.s.nt tc, .slice sA d.s.nt sc, .slice zA d.s.nd zc, .slice cA d.nz cc, .slice wA (d.s.nt - 1) wc, .map (some m1), .map (some m2)] T X from KW.out.sm).box.below' hw).cell 7; rw [HWA.out] at p7; have w0 := (hw.cell (p := ⟨wb, _, none⟩) hwb2).trans HWC.out.1; have w1 := (hw.cell (p := ⟨wb, _, none⟩) hwb2).trans HWC.out.2.1; have w2 := (hw.cell (p := ⟨wb, _, none⟩) hwb2).trans HWC.out.2.2; go_simp; try with_reducible rfl)
      try simp only [put_laws]
      refine tkI (i := 2) (v := ?_) (PlainOps.of_nd (by kernel_rfl)) rfl (by kernel_rfl) (fun _ _ _ h => h) (.inl ⟨by kernel_rfl, ?_⟩) (fun _ => rfl) hS ?_
      rotate_left
      · (intro w' hw; have k2 := (KW.out.k2.below' hw).cell 0; obtain ⟨k30, k31⟩ := (KW.out.k3.below' hw).c2; have k8 := (KW.out.k8.below' hw).cell 0; have k10 := (KW.out.k10.below' hw).cell 0; have k9 := (HK9.out.below' hw).cell 0; have p7 := ((show SeaM d zA cA wA dA tA sA cl B P m1 m2 #[.int .i64 (d.s.W : Int), .int .i64 (d.s.H : Int), .slice dA d.s.nd dc, .slice tA d.s.nt tc, .slice sA d.s.nt sc, .slice zA d.s.nd zc, .slice cA d.nz cc, .slice wA (d.s.nt - 1) wc, .map (some m1), .map (some m2)] T X from KW.out.sm).box.below' hw).cell 7; rw [HWA.out] at p7; have w0 := (hw.cell (p := ⟨wb, _, none⟩) hwb2).trans HWC.out.1; have w1 := (hw.cell (p := ⟨wb, _, none⟩) hwb2).trans HWC.out.2.1; have w2 := (hw.cell (p := ⟨wb, _, none⟩) hwb2).trans HWC.out.2.2; go_simp; try with_reducible rfl)
      try simp only [put_laws]
      refine tkI (i := 3) (v := ?_) (PlainOps.of_nd (by kernel_rfl)) rfl (by kernel_rfl) (fun _ _ _ h => h) (.inl ⟨by kernel_rfl, ?_⟩) (fun _ => rfl) hS ?_
      rotate_left
      · (intro w' hw; have k2 := (KW.out.k2.below' hw).cell 0; obtain ⟨k30, k31⟩ := (KW.out.k3.below' hw).c2; have k8 := (KW.out.k8.below' hw).cell 0; have k10 := (KW.out.k10.below' hw).cell 0; have k9 := (HK9.out.below' hw).cell 0; have p7 := ((show SeaM d zA cA wA dA tA sA cl B P m1 m2 #[.int .i64 (d.s.W : Int), .int .i64 (d.s.H : Int), .slice dA d.s.nd dc, .slice tA d.s.nt tc, .slice sA d.s.nt sc, .slice zA d.s.nd zc, .slice cA d.nz cc, .slice wA (d.s.nt - 1) wc, .map (some m1), .map (some m2)] T X from KW.out.sm).box.below' hw).cell 7; rw [HWA.out] at p7; have w0 := (hw.cell (p := ⟨wb, _, none⟩) hwb2).trans HWC.out.1; have w1 := (hw.cell (p := ⟨wb, _, none⟩) hwb2).trans HWC.out.2.1; have w2 := (hw.cell (p := ⟨wb, _, none⟩) hwb2).trans HWC.out.2.2; go_simp; try with_reducible rfl)
      try simp only [put_laws]
      refine tkI (i := 4) (v := ?_) (PlainOps.of_nd (by kernel_rfl)) rfl (by kernel_rfl) (fun _ _ _ h => h) (.inl ⟨by kernel_rfl, ?_⟩) (fun _ => rfl) hS ?_
      rotate_left
      · (intro w' hw; have k2 := (KW.out.k2.below' hw).cell 0; obtain ⟨k30, k31⟩ := (KW.out.k3.below' hw).c2; have k8 := (KW.out.k8.below' hw).cell 0; have k10 := (KW.out.k10.below' hw).cell 0; have k9 := (HK9.out.below' hw).cell 0; have p7 := ((show SeaM d zA cA wA dA tA sA cl B P m1 m2 #[.int .i64 (d.s.W : Int), .int .i64 (d.s.H : Int), .slice dA d.s.nd dc, .slice tA d.s.nt tc, .slice sA d.s.nt sc, .slice zA d.s.nd zc, .slice cA d.nz cc, .slice wA (d.s.nt - 1) wc, .map (some m1), .map (some m2)] T X from KW.out.sm).box.below' hw).cell 7; rw [HWA.out] at p7; have w0 := (hw.cell (p := ⟨wb, _, none⟩) hwb2).trans HWC.out.1; have w1 := (hw.cell (p := ⟨wb, _, none⟩) hwb2).trans HWC.out.2.1; have w2 := (hw.cell (p := ⟨wb, _, none⟩) hwb2).trans HWC.out.2.2; go_simp; try with_reducible rfl)
      try simp only [put_laws]
      refine tkI (i := 5) (v := ?_) (PlainOps.of_nd (by kernel_rfl)) rfl (by kernel_rfl) (fun _ _ _ h => h) (.inl ⟨by kernel_rfl, ?_⟩) (fun _ => rfl) hS ?_
      rotate_left
      · (intro w' hw; have k2 := (KW.out.k2.below' hw).cell 0; obtain ⟨k30, k31⟩ := (KW.out.k3.below' hw).c2; have k8 := (KW.out.k8.below' hw).cell 0; have k10 := (KW.out.k10.below' hw).cell 0; have k9 := (HK9.out.below' hw).cell 0; have p7 := ((show SeaM d zA cA wA dA tA sA cl B P m1 m2 #[.int .i64 (d.s.W : Int), .int .i64 (d.s.H : Int), .slice dA d.s.nd dc, .slice tA d.s.nt tc, .slice sA d.s.nt sc, .slice zA d.s.nd zc, .slice cA d.nz cc, .slice wA (d.s.nt - 1) wc, .map (some m1), .map (some m2)] T X from KW.out.sm).box.below' hw).cell 7; rw [HWA.out] at p7; have w0 := (hw.cell (p := ⟨wb, _, none⟩) hwb2).trans HWC.out.1; have w1 := (hw.cell (p := ⟨wb, _, none⟩) hwb2).trans HWC.out.2.1; have w2 := (hw.cell (p := ⟨wb, _, none⟩) hwb2).trans HWC.out.2.2; go_simp; try with_reducible rfl)
      try simp only [put_laws]
      refine tkI (i := 6) (v := ?_) (PlainOps.of_nd (by kernel_rfl)) rfl (by kernel_rfl) (fun _ _ _ h => h) (.inl ⟨by kernel_rfl, ?_⟩) (fun _ => rfl) hS ?_
      rotate_left
      · (intro w' hw; have k2 := (KW.out.k2.below' hw).cell 0; obtain ⟨k30, k31⟩ := (KW.out.k3.below' hw).c2; have k8 := (KW.out.k8.below' hw).cell 0; have k10 := (KW.out.k10.below' hw).cell 0; have k9 := (HK9.out.below' hw).cell 0; have p7 := ((show SeaM d zA cA wA dA tA sA cl B P m1 m2 #[.int .i64 (d.s.W : Int), .int .i64 (d.s.H : Int), .slice dA d.s.nd dc, .slice tA d.s.nt tc, .slice sA d.s.nt sc, .slice zA d.s.nd zc, .slice cA d.nz cc, .slice wA (d.s.nt - 1) wc, .map (some m1), .map (some m2)] T X from KW.out.sm).box.below' hw).cell 7; rw [HWA.out] at p7; have w0 := (hw.cell (p := ⟨wb, _, none⟩) hwb2).trans HWC.out.1; have w1 := (hw.cell (p := ⟨wb, _, none⟩) hwb2).trans HWC.out.2.1; have w2 := (hw.cell (p := ⟨wb, _, none⟩) hwb2).trans HWC.out.2.2; go_simp; try with_reducible rfl)
      try simp only [put_laws]
      refine tkI (i := 7) (v := ?_) (PlainOps.of_nd (by kernel_rfl)) rfl (by kernel_rfl) (fun _ _ _ h => h) (.inl ⟨by kernel_rfl, ?_⟩) (fun _ => rfl) hS ?_
      rotate_left
      · (intro w' hw; have k2 := (KW.out.k2.below' hw).cell 0; obtain ⟨k30, k31⟩ := (KW.out.k3.below' hw).c2; have k8 := (KW.out.k8.below' hw).cell 0; have k10 := (KW.out.k10.below' hw).cell 0; have k9 := (HK9.out.below' hw).cell 0; have p7 := ((show SeaM d zA cA wA dA tA sA cl B P m1 m2 #[.int .i64 (d.s.W : Int), .int .i64 (d.s.H : Int), .slice dA d.s.nd dc, .slice tA d.s.nt tc, .slice sA d.s.nt sc, .slice zA d.s.nd zc, .slice cA d.nz cc, .slice wA (d.s.nt - 1) wc, .map (some m1), .map (some m2)] T X from KW.out.sm).box.below' hw).cell 7; rw [HWA.out] at p7; have w0 := (hw.cell (p := ⟨wb, _, none⟩) hwb2).trans HWC.out.1; have w1 := (hw.cell (p := ⟨wb, _, none⟩) hwb2).trans HWC.out.2.1; have w2 := (hw.cell (p := ⟨wb, _, none⟩) hwb2).trans HWC.out.2.2; go_simp; try with_reducible rfl)
      try simp only [put_laws]
      refine tkI (i := 8) (v := ?_) (PlainOps.of_nd (by kernel_rfl)) rfl (by kernel_rfl) (fun _ _ _ h => h) (.inl ⟨by kernel_rfl, ?_⟩) (fun _ => rfl) hS ?_
      rotate_left
      · (intro w' hw; have k2 := (KW.out.k2.below' hw).cell 0; obtain ⟨k30, k31⟩ := (KW.out.k3.below' hw).c2; have k8 := (KW.out.k8.below' hw).cell 0; have k10 := (KW.out.k10.below' hw).cell 0; have k9 := (HK9.out.below' hw).cell 0; have p7 := ((show SeaM d zA cA wA dA tA sA cl B P m1 m2 #[.int .i64 (d.s.W : Int), .int .i64 (d.s.H : Int), .slice dA d.s.nd dc, .slice tA d.s.nt tc, .slice sA d.s.nt sc, .slice zA d.s.nd zc, .slice cA d.nz cc, .slice wA (d.s.nt - 1) wc, .map (some m1), .map (some m2)] T X from KW.out.sm).box.below' hw).cell 7; rw [HWA.out] at p7; have w0 := (hw.cell (p := ⟨wb, _, none⟩) hwb2).trans HWC.out.1; have w1 := (hw.cell (p := ⟨wb, _, none⟩) hwb2).trans HWC.out.2.1; have w2 := (hw.cell (p := ⟨wb, _, none⟩) hwb2).trans HWC.out.2.2; go_simp; try with_reducible rfl)
      try simp only [put_laws]
      refine tkI (i := 9) (v := ?_) (PlainOps.of_nd (by kernel_rfl)) rfl (by kernel_rfl) (fun _ _ _ h => h) (.inl ⟨by kernel_rfl, ?_⟩) (fun _ => rfl) hS ?_
      rotate_left
      · (intro w' hw; have k2 := (KW.out.k2.below' hw).cell 0; obtain ⟨k30, k31⟩ := (KW.out.k3.below' hw).c2; have k8 := (KW.out.k8.below' hw).cell 0; have k10 := (KW.out.k10.below' hw).cell 0; have k9 := (HK9.out.below' hw).cell 0; have p7 := ((show SeaM d zA cA wA dA tA sA cl B P m1 m2 #[.int .i64 (d.s.W : Int), .int .i64 (d.s.H : Int), .slice dA d.s.nd dc, .slice tA d.s.nt tc, .slice sA d.s.nt sc, .slice zA d.s.nd zc, .slice cA d.nz cc, .slice wA (d.s.nt - 1) wc, .map (some m1), .map (some m2)] T X from KW.out.sm).box.below' hw).cell 7; rw [HWA.out] at p7; have w0 := (hw.cell (p := ⟨wb, _, none⟩) hwb2).trans HWC.out.1; have w1 := (hw.cell (p := ⟨wb, _, none⟩) hwb2).trans HWC.out.2.1; have w2 := (hw.cell (p := ⟨wb, _, none⟩) hwb2).trans HWC.out.2.2; go_simp; try with_reducible rfl)
      try simp only [put_laws]
      refine tkI (i := 10) (v := ?_) (PlainOps.of_nd (by kernel_rfl)) rfl (by kernel_rfl) (fun _ _ _ h => h) (.inl ⟨by kernel_rfl, ?_⟩) (fun _ => rfl) hS ?_
      rotate_left
      · (intro w' hw; have k2 := (KW.out.k2.below' hw).cell 0; obtain ⟨k30, k31⟩ := (KW.out.k3.below' hw).c2; have k8 := (KW.out.k8.below' hw).cell 0; have k10 := (KW.out.k10.below' hw).cell 0; have k9 := (HK9.out.below' hw).cell 0; have p7 := ((show SeaM d zA cA wA dA tA sA cl B P m1 m2 #[.int .i64 (d.s.W : Int), .int .i64 (d.s.H : Int), .slice dA d.s.nd dc, .slice tA d.s.nt tc, .slice sA d.s.nt sc, .slice zA d.s.nd zc, .slice cA d.nz cc, .slice wA (d.s.nt - 1) wc, .map (some m1), .map (some m2)] T X from KW.out.sm).box.below' hw).cell 7; rw [HWA.out] at p7; have w0 := (hw.cell (p := ⟨wb, _, none⟩) hwb2).trans HWC.out.1; have w1 := (hw.cell (p := ⟨wb, _, none⟩) hwb2).trans HWC.out.2.1; have w2 := (hw.cell (p := ⟨wb, _, none⟩) hwb2).trans HWC.out.2.2; go_simp; try with_reducible rfl)
      try simp only [put_laws]
      refine tkI (i := 11) (v := ?_) (PlainOps.of_nd (by kernel_rfl)) rfl (by kernel_rfl) (fun _ _ _ h => h) (.inl ⟨by kernel_rfl, ?_⟩) (fun _ => rfl) hS ?_
      rotate_left
      · (intro w' hw; have k2 := (KW.out.k2.below' hw).cell 0; obtain ⟨k30, k31⟩ := (KW.out.k3.below' hw).c2; have k8 := (KW.out.k8.below' hw).cell 0; have k10 := (KW.out.k10.below' hw).cell 0; have k9 := (HK9.out.below' hw).cell 0; have p7 := ((show SeaM d zA cA wA dA tA sA cl B P m1 m2 #[.int .i64 (d.s.W : Int), .int .i64 (d.s.H : Int), .slice dA d.s.nd dc, .slice tA d.s.nt tc, .slice sA d.s.nt sc, .slice zA d.s.nd zc, .slice cA d.nz cc, .slice wA (d.s.nt - 1) wc, .map (some m1), .map (some m2)] T X from KW.out.sm).box.below' hw).cell 7; rw [HWA.out] at p7; have w0 := (hw.cell (p := ⟨wb, _, none⟩) hwb2).trans HWC.out.1; have w1 := (hw.cell (p := ⟨wb, _, none⟩) hwb2).trans HWC.out.2.1; have w2 := (hw.cell (p := ⟨wb, _, none⟩) hwb2).trans HWC.out.2.2; go_simp; try with_reducible rfl)
      try simp only [put_laws]
      refine tkI (i := 12) (v := ?_) (PlainOps.of_nd (by kernel_rfl)) rfl (by kernel_rfl) (fun _ _ _ h => h) (.inl ⟨by kernel_rfl, ?_⟩) (fun _ => rfl) hS ?_
      rotate_left
      · (intro w' hw; have k2 := (KW.out.k2.below' hw).cell 0; obtain ⟨k30, k31⟩ := (KW.out.k3.below' hw).c2; have k8 := (KW.out.k8.below' hw).cell 0; have k10 := (KW.out.k10.below' hw).cell 0; have k9 := (HK9.out.below' hw).cell 0; have p7 := ((show SeaM d zA cA wA dA tA sA cl B P m1 m2 #[.int .i64 (d.s.W : Int), .int .i64 (d.s.H : Int), .slice dA d.s.nd dc, .slice tA d.s.nt tc, .slice sA d.s.nt sc, .slice zA d.s.nd zc, .slice cA d.nz cc, .slice wA (d.s.nt - 1) wc, .map (some m1), .map (some m2)] T X from KW.out.sm).box.below' hw).cell 7; rw [HWA.out] at p7; have w0 := (hw.cell (p := ⟨wb, _, none⟩) hwb2).trans HWC.out.1; have w1 := (hw.cell (p := ⟨wb, _, none⟩) hwb2).trans HWC.out.2.1; have w2 := (hw.cell (p := ⟨wb, _, none⟩) hwb2).trans HWC.out.2.2; go_simp; try with_reducible rfl)
      try simp only [put_laws]
      refine tkI (i := 13) (v := ?_) (PlainOps.of_nd (by kernel_rfl)) rfl (by kernel_rfl) (fun _ _ _ h => h) (.inl ⟨by kernel_rfl, ?_⟩) (fun _ => rfl) hS ?_
      rotate_left
      · (intro w' hw; have k2 := (KW.out.k2.below' hw).cell 0; obtain ⟨k30, k31⟩ := (KW.out.k3.below' hw).c2; have k8 := (KW.out.k8.below' hw).cell 0; have k10 := (KW.out.k10.below' hw).cell 0; have k9 := (HK9.out.below' hw).cell 0; have p7 := ((show SeaM d zA cA wA dA tA sA cl B P m1 m2 #[.int .i64 (d.s.W : Int), .int .i64 (d.s.H : Int), .slice dA d.s.nd dc, .slice tA d.s.nt tc, .slice sA d.s.nt sc, .slice zA d.s.nd zc, .slice cA d.nz cc, .slice wA (d.s.nt - 1) wc, .map (some m1), .map (some m2)] T X from KW.out.sm).box.below' hw).cell 7; rw [HWA.out] at p7; have w0 := (hw.cell (p := ⟨wb, _, none⟩) hwb2).trans HWC.out.1; have w1 := (hw.cell (p := ⟨wb, _, none⟩) hwb2).trans HWC.out.2.1; have w2 := (hw.cell (p := ⟨wb, _, none⟩) hwb2).trans HWC.out.2.2; go_simp; try with_reducible rfl)
      try simp only [put_laws]
      refine tkI (i := 14) (v := ?_) (PlainOps.of_nd (by kernel_rfl)) rfl (by kernel_rfl) (fun _ _ _ h => h) (.inl ⟨by kernel_rfl, ?_⟩) (fun _ => rfl) hS ?_
      rotate_left
      · (intro w' hw; have k2 := (KW.out.k2.below' hw).cell 0; obtain ⟨k30, k31⟩ := (KW.out.k3.below' hw).c2; have k8 := (KW.out.k8.below' hw).cell 0; have k10 := (KW.out.k10.below' hw).cell 0; have k9 := (HK9.out.below' hw).cell 0; have p7 := ((show SeaM d zA cA wA dA tA sA cl B P m1 m2 #[.int .i64 (d.s.W : Int), .int .i64 (d.s.H : Int), .slice dA d.s.nd dc, .slice tA d.s.nt tc, .slice sA d.s.nt sc, .slice zA d.s.nd zc, .slice cA d.nz cc, .slice wA (d.s.nt - 1) wc, .map (some m1), .map (some m2)] T X from KW.out.sm).box.below' hw).cell 7; rw [HWA.out] at p7; have w0 := (hw.cell (p := ⟨wb, _, none⟩) hwb2).trans HWC.out.1; have w1 := (hw.cell (p := ⟨wb, _, none⟩) hwb2).trans HWC.out.2.1; have w2 := (hw.cell (p := ⟨wb, _, none⟩) hwb2).trans HWC.out.2.2; go_simp; try with_reducible rfl)
      try simp only [put_laws]
      refine tkI (i := 15) (v := ?_) (PlainOps.of_nd (by kernel_rfl)) rfl (by kernel_rfl) (fun _ _ _ h => h) (.inl ⟨by kernel_rfl, ?_⟩) (fun _ => rfl) hS ?_
      rotate_left
      · (intro w' hw; have k2 := (KW.out.k2.below' hw).cell 0; obtain ⟨k30, k31⟩ := (KW.out.k3.below' hw).c2; have k8 := (KW.out.k8.below' hw).cell 0; have k10 := (KW.out.k10.below' hw).cell 0; have k9 := (HK9.out.below' hw).cell 0; have p7 := ((show SeaM d zA cA wA dA tA sA cl B P m1 m2 #[.int .i64 (d.s.W : Int), .int .i64 (d.s.H : Int), .slice dA d.s.nd dc, .slice tA d.s.nt tc, .slice sA d.s.nt sc, .slice zA d.s.nd zc, .slice cA d.nz cc, .slice wA (d.s.nt - 1) wc, .map (some m1), .map (some m2)] T X from KW.out.sm).box.below' hw).cell 7; rw [HWA.out] at p7; have w0 := (hw.cell (p := ⟨wb, _, none⟩) hwb2).trans HWC.out.1; have w1 := (hw.cell (p := ⟨wb, _, none⟩) hwb2).trans HWC.out.2.1; have w2 := (hw.cell (p := ⟨wb, _, none⟩) hwb2).trans HWC.out.2.2; go_simp; try with_reducible rfl)
      try simp only [put_laws]
      refine wpAnyTI_one (i := 16) (by kernel_rfl) rfl ?_
      intro K' hK'
      go_simp
      refine ⟨trivial, (CallsIn.inRound n (callsIn_wide.2 (pushes_any P xn t h (d.wd t) (.func (.func 88) #[] #[.pointer (some ⟨W.heap.size + 1, 0, none⟩)]) ⟨_, _, rfl⟩ X.drew))).mono ?_⟩
      rintro e w4 ⟨rfl, hpb4, hbw4, hs4⟩
      have HPB4 := Lib.hid (show PBox w4 X.heap.size P xn t h (d.wd t) (.func (.func 88) #[] #[.pointer (some ⟨W.heap.size + 1, 0, none⟩)]) from hpb4)
      have hs4' : w4.heap.size = X.heap.size + 6 := hs4
      have hS' : Below X.heap.size X w4 := hS.trans hbw4
      have HBX5 := Lib.hid hS'
      clear hS hpb4 hbw4 hs4
      have hS := hS'
      clear hS'
      refine hK'.out _ _ (.inr hS) ?_
      clear hK' K'
      try simp only [put_laws]
      have KW4 := Lib.hid (KW.out.below hS HSM.out)
      have H94 := Lib.hid (HK9.out.below' hS)
      have HI4 := Lib.hid (Own.below HIL.out hS)
      have HAS := Lib.hid (appendSeq_any (α := {y : Int // M.pushT d.s (d.wd t) t h (fun f => f * l / 4) xn y = true}) 118 (pcaps X.heap.size) (fun y => y.1)
       (fun Z => PBox Z X.heap.size P xn t h (d.wd t) (.func (.func 88) #[] #[.pointer (some ⟨W.heap.size + 1, 0, none⟩)]) ∧ Blk Z (W.heap.size + 1) 96 #[.int .i64 (c : Int), .int .i64 (t : Int), .int .i64 (l : Int)])
       (fun xs => ∀ y, y ∈ xs) 24 (enters_of Tryz.func118 (by kernel_rfl) rfl)
       (pushes1_seq HD.out X.heap.size xn t h (d.wd t) (fun f => f * l / 4) 88 #[.pointer (some ⟨W.heap.size + 1, 0, none⟩)] (.inr ⟨rfl, _, rfl⟩) hxn2 ht2 ⟨by omega, by omega⟩ HPW.out
        (fun f h1 h2 => by
         have : f = 0 ∨ f = 1 ∨ f = 2 ∨ f = 3 := by omega
         rcases this with rfl | rfl | rfl | rfl <;> constructor <;> omega)
        (fun Z => Blk Z (W.heap.size + 1) 96 #[.int .i64 (c : Int), .int .i64 (t : Int), .int .i64 (l : Int)]) (fun _ _ k1 k2 k3 => k1.mv k3 k2 k2)
        (fun Z f hZ h1 h2 => by
         have := step2_any f c t l _ Z hZ ⟨h1, h2⟩ ⟨by omega, by omega⟩
         simpa using this))
       (by omega) w4 KW4.out.sm ⟨HPB4.out, KW4.out.k3⟩ B (.slice A2 L2.length c2) L2 HI4.out (by omega) (by omega)
       (fun r e => ⟨by have := (HVB.out r e).1; omega, fun h2 => by have := (HM.out.t.2.2.2 r h2).2; have := (HVB.out r e).1; omega⟩)
       (fun Y Z row k1 hg hr => ⟨k1.1.grown hg fun r e => by
         rcases hr r e with h2 | h2
         · exact .inl (by omega)
         · exact .inr (Own.block HIL.out h2.symm).2, k1.2.grown hg fun e => by
         rcases hr _ e.symm with h2 | h2
         · have := KW4.out.k3.lt; omega
         · exact Own.ne_blk HI4.out KW4.out.k3 (by decide) h2.symm⟩)
       (fun Y Z k1 k2 k3 => ⟨k1.1.mv k3 k2.map2 k2.map2, k1.2.mv k3 k2.map2 k2.map2⟩))
      refine wpAnyTI_one (i := 17) (by kernel_rfl) rfl ?_
      intro K' hK'
      go_simp
      refine ⟨trivial, (CallsIn.inRound n (callsIn_wide.2 HAS.out)).mono ?_⟩
      rintro e w5 ⟨v5, xs, rfl, hall, hxl, hil5, hb5, hkp5, hs5, _⟩
      have HALL := Lib.hid hall
      have HIL5 := Lib.hid hil5
      have HB5 := Lib.hid hb5
      have HKP5 := Lib.hid hkp5
      have HS5 := Lib.hid hs5
      clear hall hil5 hb5 hkp5 hs5 hS HAS
      have H95 := Lib.hid (H94.out.kp HKP5.out (show SeaM d zA cA wA dA tA sA cl B P m1 m2 #[.int .i64 (d.s.W : Int), .int .i64 (d.s.H : Int), .slice dA d.s.nd dc, .slice tA d.s.nt tc, .slice sA d.s.nt sc, .slice zA d.s.nd zc, .slice cA d.nz cc, .slice wA (d.s.nt - 1) wc, .map (some m1), .map (some m2)] T w4 from KW4.out.sm).map2 fun e => Own.ne_blk HI4.out H94.out (by decide) e.symm)
      obtain ⟨A5, c5, rfl⟩ := Own.form HIL5.out
      have HIL6 := Lib.hid (show IL w5 B (.slice A5 (L2.length + xs.length) c5) (L2 ++ xs.map fun y => y.1) from by have := HIL5.out; rwa [List.length_append, List.length_map] at this)
      have HB6 := Lib.hid (show (Value.slice A5 (L2.length + xs.length) c5).ownBlock = (Value.slice A2 L2.length c2).ownBlock ∨ ∃ g, (Value.slice A5 (L2.length + xs.length) c5).ownBlock = some g ∧ w4.heap.size ≤ g from by have := HB5.out; rwa [List.length_append, List.length_map] at this)
      have k9 := H95.out.cell 0
      have f9 := H95.out.frz 0
      refine hK'.out _ _ (.inl rfl) ?_
      clear hK' K'
      try simp only [put_laws]
      refine wpAnyTI_one (i := 18) (by kernel_rfl) rfl ?_
      intro K' hK'
      go_simp
      refine hK'.out _ _ (.inl rfl) ?_
      clear hK' K'
      try simp only [put_laws]
      refine wpAnyTI_done (by kernel_rfl) ?_ _
      gi_wp2_with fail
      refine ⟨?_, by rw [List.length_append, List.length_singleton]; omega, _, HWL.out.more (M' := xs.map fun y => y.1) (fun y => ?_) (by rw [List.length_map]; exact hxl), KW4.out.turn H94.out HI4.out HKP5.out (show SeaM d zA cA wA dA tA sA cl B P m1 m2 #[.int .i64 (d.s.W : Int), .int .i64 (d.s.H : Int), .slice dA d.s.nd dc, .slice tA d.s.nt tc, .slice sA d.s.nt sc, .slice zA d.s.nd zc, .slice cA d.nz cc, .slice wA (d.s.nt - 1) wc, .map (some m1), .map (some m2)] T w4 from KW4.out.sm).map2 HS5.out HIL6.out HB6.out hb8W hb8S HSM.out⟩
      · exact ((KeepsFrom.of_grownBy (below_grown HBX5.out none) fun _ e => by cases e).trans (HKP5.out.keepsF HI4.out hm2W)).trans (Blk.keepsSet H95.out 0 _ _)
      ·
       rw [← HXV.out, if_neg (by omega), Int.toNat_natCast, List.mem_map]
       exact ⟨fun ⟨z, _, e⟩ => e ▸ z.2, fun e => ⟨⟨y, e⟩, HALL.out _, rfl⟩⟩
    ·
     intro D xs X hD hall hi hdf
     obtain ⟨h0, L2, hWL, kW⟩ := hi
     have hL2m : ∀ y, y ∈ L2 ↔ y ∈ L ∨ M.stepH d t l h c y = true := fun y => by
      rw [hWL.1, M.stepH_wet HDR.out, hzn, Int.toNat_natCast]
      exact or_congr_right ⟨fun ⟨x, _, h2⟩ => ⟨x.1, x.2, h2⟩, fun ⟨x, h1, h2⟩ => ⟨⟨x, h1⟩, hall _, h2⟩⟩
     have hpos : 0 < L2.length := by
      obtain ⟨y, hy⟩ := M.stepH_some HD.out ht (l := (l : Int)) (h := h) hc
      exact List.length_pos_of_mem ((hL2m y).2 (.inr hy))
     have hn2 : L2.length ≤ 1048576 := by have := hWL.2; have := HLN.out; omega
     have HL2M := Lib.hid hL2m
     obtain ⟨v9, hk9, hil, hvb⟩ := kW.k9
     obtain ⟨g, c9, rfl⟩ := Own.nz hil hpos
     have HVB := Lib.hid (show ∀ q, (Value.slice (some ⟨g, 0, none⟩) L2.length c9).ownBlock = some q → W.heap.size ≤ q ∧ q ≠ b from fun q e => ⟨(hvb q e).1, (hvb q e).2.1⟩)
     have hWD : W.heap.size ≤ D := Nat.le_trans hW3 hD
     have KM := Lib.hid (show LpM (fun X => SeaM d zA cA wA dA tA sA cl B P m1 m2 #[.int .i64 (d.s.W : Int), .int .i64 (d.s.H : Int), .slice dA d.s.nd dc, .slice tA d.s.nt tc, .slice sA d.s.nt sc, .slice zA d.s.nd zc, .slice cA d.nz cc, .slice wA (d.s.nt - 1) wc, .map (some m1), .map (some m2)] T X) B m2 W P b8 b c t l h L2 (D :: ds) X from { kW.m with ms := kW.m.ms.push hdf hWD (fun x hx => Nat.lt_of_lt_of_le (HDS.out x hx) hD) })
     have HIL := Lib.hid hil
     have HK9 := Lib.hid hk9
     have k9 := hk9.cell 0
     clear hall hL2m hWL kW hil hvb hk9 hdf
     go_upto_region 20 with (go_at_call 68; go_must (refine (IL.sort HIL.out hpos hn2).mono ?_); rintro e w2 ⟨rfl, hil2, hg2⟩; have HIL2 := Lib.hid hil2; have HG2 := Lib.hid hg2; clear hil2 hg2)
     have KM2 := Lib.hid (KM.out.own HK9.out HIL.out HG2.out HIL2.out HSM.out)
     have H92 := Lib.hid (HK9.out.grown_own HIL.out (by decide) HG2.out)
     have HCP := Lib.hid (IL.comp HIL2.out (by rw [List.length_mergeSort]; exact hpos) (by rw [List.length_mergeSort]; exact hn2))
     clear k9 KM HIL HK9 HG2
     have k9 := H92.out.cell 0
     go_upto_region 21 with (go_at_call 69; go_must (refine HCP.out.mono ?_); rintro e w4 ⟨g3, c3, hg3, rfl, hil3, hgr3⟩; obtain rfl : g = g3 := (by simpa [Value.ownBlock] using hg3); have HIL3 := Lib.hid hil3; have HG3 := Lib.hid hgr3; clear hil3 hgr3 hg3; have H93 := Lib.hid (H92.out.grown_own HIL2.out (by decide) HG3.out); clear k9; have k9 := H93.out.cell 0; have f9 := H93.out.frz 0)
     have KM3 := Lib.hid (KM2.out.turn H92.out HVB.out HIL2.out HG3.out HIL3.out (.inl rfl) hb8W HSM.out)
     clear HCP KM2 H92 HG3 HIL2 HIL3 H93 k9 f9
     generalize w4.setCell ⟨b8 + 1, 0, none⟩ (.slice (some ⟨g, 0, none⟩) (Lib.compact (L2.mergeSort M.leI)).length c3) = w7 at KM3 ⊢
     have k10 := KM3.out.k10.cell 0
     go_wp2_with fail
     have hcm : ∀ x, x ∈ Lib.compact (L2.mergeSort M.leI) ↔ x ∈ L ∨ M.stepH d t l h c x = true := fun x => (compact_mem.trans sort_mem).trans (HL2M.out x)
     have hcl2 := M.asc_len (nd := d.s.nd) (compact_asc (sort_asc L2)) fun x hx => by
      rcases (hcm x).1 hx with h1 | h1
      ·
       obtain ⟨k, _, _, h2⟩ := M.spanTo_iff.1 ((HMM.out x).1 h1)
       exact M.stepH_bd HD.out hc h2
      · exact M.stepH_bd HD.out hc h1
     have HLS := LpM.next (d := d) KM3.out (fun x => by
      rw [M.spanTo_succ (by omega), Bool.or_eq_true, ← HMM.out]; exact hcm x) (by omega) HSM.out
     refine ⟨D :: ds, rfl, rfl, ⟨h + 1, w7.heap.size, _, rfl, by omega, by omega, Lib.hid HLS⟩, ?_⟩
     rw [HME.out]
     refine Nat.lt_of_le_of_lt (Nat.le_of_eq (meOf_at HLS.k10)) ?_
     omega
   ·
    rw [hdr] at HDRY
    have HDR := Lib.hid hdr
    clear hdr
    have k2 := HLQ.out.k2.cell 0
    obtain ⟨k30, k31⟩ := HLQ.out.k3.c2
    have k10 := HLQ.out.k10.cell 0
    go_upto_region 13 with (go_at_call 89; go_must (refine HDRY.out.mono ?_); rintro e w2 ⟨rfl, n2, rfl⟩)
    have HLR := Lib.hid (HLQ.out.below ((Below.refl _ Y2).drewN n2) (HLQ.out.sm.drewN n2))
    generalize Y2.drewN n2 = Y3 at HLR ⊢
    clear k2 k30 k31 k10 HLQ HDRY
    obtain ⟨v9, hk9, hil, hvb⟩ := HLR.out.k9
    obtain ⟨A9, c9, rfl⟩ := Own.form hil
    have HIL := Lib.hid hil
    have HVB := Lib.hid hvb
    have HK9 := Lib.hid hk9
    have hLn : L.length < 1000000 := by have := HLR.out.len; omega
    have k9 := hk9.cell 0
    have k30 := HLR.out.k3.cell 0
    have hY3 := HLR.out.mv.size
    clear hil hvb hk9
    go_upto_region 21 with (at_builtin; go_must (refine wpList_apI _ rfl (.tmp 61) (.tmp 64) rfl (B := B) (L := L) rfl (Own.alloc HIL.out _) rfl ((Blk.new _ _ _).cell 0) hLn (by simp; omega) ?_); intro g6 c6 w6 hi6 hg6 hb6; have HI6 := Lib.hid hi6; have HG6 := Lib.hid hg6; have HB6 := Lib.hid hb6; have H96 := Lib.hid (Blk.grown_own (HK9.out.alloc _) (Own.alloc HIL.out _) (by decide) hg6); clear hi6 hg6 hb6 k9; have k9 := H96.out.cell 0; have f9 := H96.out.frz 0)
    have HLM := Lib.hid (LpM.turn (v := .slice A9 L.length c9) (L' := L ++ [(c : Int)]) (HLR.out.m.below (belowAlloc _ _) (HLR.out.sm.alloc _)) (HK9.out.alloc _) HVB.out (Own.alloc HIL.out _) HG6.out HI6.out (HB6.out.elim (fun e => .inl e) fun e => .inr ⟨g6, rfl, Nat.le_of_eq e⟩) hb8W HSM.out)
    have HLN := Lib.hid HLR.out.len
    have HMM := Lib.hid HLR.out.mem
    clear k9 f9 k30 hY3 HI6 HG6 HB6 H96 HLR HIL HVB HK9
    generalize w6.setCell ⟨b8 + 1, 0, none⟩ (.slice (some ⟨g6, 0, none⟩) (L.length + 1) c6) = w7 at HLM ⊢
    have k10 := HLM.out.k10.cell 0
    go_wp2_with fail
    have HLS := LpM.next (d := d) HLM.out (fun x => by
     rw [M.spanTo_succ (by omega), Bool.or_eq_true, ← HMM.out, M.stepH_dry HDR.out, List.mem_append, List.mem_singleton]) (by rw [List.length_append, List.length_singleton]; have := HLN.out; omega) HSM.out
    refine ⟨ds, rfl, rfl, ⟨h + 1, w7.heap.size, _, rfl, by omega, by omega, Lib.hid HLS⟩, ?_⟩
    rw [HME.out]
    refine Nat.lt_of_le_of_lt (Nat.le_of_eq (meOf_at HLS.k10)) ?_
    omega
end
end Go.Proofs.YtnbeembnnjdmdaaGreatDoor
