/- lanes.Plan, where all is valid. -/
import Derived.Test.YtkdpmihdhiokkaaGreatDoorK28
namespace Go.Proofs.YtkdpmihdhiokkaaGreatDoor
open Go.RowKit

section
variable {W W' : World} {B base x n k : Nat} {u o : Value} {l : M.Leg} {L : Nat → M.Leg}
theorem LegCells.blk_lt (h : LegCells W B base u l) (hB : B ≤ W.heap.size) (hn : 0 < l.n) : ∃ g, u.ownBlock = some g ∧ g < W.heap.size := by
  rcases h.2 with ⟨cA, cc, rfl, h2⟩ | h2
  · obtain ⟨b, off, rfl, hb, _⟩ := h2.resolve_left (by omega)
    exact ⟨b, rfl, Nat.lt_of_lt_of_le hb hB⟩
  · obtain ⟨g, c, rfl⟩ := h2.nz hn
    exact ⟨g, rfl, (h2.block rfl).2⟩
theorem LegCells.grown (h : LegCells W B base u l) {row : Option Nat} (hg : W.grownBy W' row) (hne : u.ownBlock ≠ row) : LegCells W' B base u l := by
  refine ⟨h.1, ?_⟩
  rcases h.2 with ⟨cA, cc, rfl, h2⟩ | h2
  · refine .inl ⟨cA, cc, rfl, ?_⟩
    rcases h2 with h2 | ⟨b, off, rfl, hb, hc⟩
    · exact .inl h2
    · exact .inr ⟨b, off, rfl, hb, fun i hi => grown_cell hg (hc i hi) hne⟩
  · exact .inr (h2.grown hg (.inr hne))
/-- legs of the call's own, apart from a value o -/
def LegsA (W : World) (B base : Nat) (v : Value) (n : Nat) (L : Nat → M.Leg) (o : Value) : Prop := ∃ V, Own W base 46 5 v n (legV L V) ∧ ∀ i, i < n → LegCells W B base (V i) (L i) ∧ 0 < (L i).n ∧ (V i).ownBlock ≠ o.ownBlock
theorem LegsA.own {v : Value} (h : LegsA W B base v n L o) : OwnL W B base v n L := by
  obtain ⟨V, h1, h2⟩ := h
  exact ⟨V, h1, fun i hi => (h2 i hi).1⟩
theorem OwnL.apart {v : Value} (h : OwnL W B base v n L) (hB : B ≤ W.heap.size) (hn : ∀ i, i < n → 0 < (L i).n) : LegsA W B base v n L (.slice none 0 0) := by
  obtain ⟨V, h1, h2⟩ := h
  refine ⟨V, h1, fun i hi => ⟨h2 i hi, hn i hi, ?_⟩⟩
  obtain ⟨g, hg, _⟩ := (h2 i hi).blk_lt hB (hn i hi)
  rw [hg]
  simp [Value.ownBlock]
theorem LegsA.form {v : Value} (h : LegsA W B base v n L o) : ∃ A c, v = .slice A n c := by
  obtain ⟨V, h, _⟩ := h
  exact h.form
theorem LegsA.below {v : Value} (h : LegsA W B base v n L o) (hb : Below W.heap.size W W') (hB : B ≤ W.heap.size) : LegsA W' B base v n L o := by
  obtain ⟨V, h1, h2⟩ := h
  exact ⟨V, h1.below hb, fun i hi => ⟨(h2 i hi).1.below hb hB, (h2 i hi).2⟩⟩
/-- o has grown -/
theorem LegsA.grew {v o' : Value} {b t m k : Nat} {F : Nat → Nat → Value} (h : LegsA W B base v n L o) (hB : B ≤ W.heap.size) (ho : Own W b t m o k F) (ht : 46 ≠ t) (hg : W.grownBy W' o.ownBlock) (hat : o'.ownBlock = o.ownBlock ∨ o'.ownBlock = some W.heap.size) : LegsA W' B base v n L o' := by
  obtain ⟨V, h1, h2⟩ := h
  refine ⟨V, Own.apart_grown h1 (Own.apart_type ho h1 (Ne.symm ht)) hg, fun i hi => ?_⟩
  obtain ⟨h3, h4, h5⟩ := h2 i hi
  obtain ⟨g, hgu, hgl⟩ := h3.blk_lt hB h4
  refine ⟨h3.grown hg h5, h4, ?_⟩
  rcases hat with e | e
  · rw [e]; exact h5
  · rw [e, hgu]
    intro e'
    injection e' with e'
    omega
end
section
variable {W W' : World} {base x : Nat} {s : M.Sea} {dA tA sA lA : Option Addr} {dc tc sc ln lc : Nat} {o : Value}
/-- the traffic, apart from a value o -/
def TrA (W : World) (base x : Nat) (s : M.Sea) (dA tA sA lA : Option Addr) (dc tc sc ln lc : Nat) (o : Value) : Prop :=
  ∃ nA nc, ∃ V : Nat → Value, Blk W x 60 #[.int .i64 (s.W : Int), .int .i64 (s.H : Int), .slice dA s.nd dc, .slice tA s.nt tc, .slice sA s.nt sc, .slice lA ln lc, .slice nA s.nd nc] ∧ base ≤ x ∧
    Own W base 22 1 (.slice nA s.nd nc) s.nd (fun i _ => V i) ∧ ∀ i, i < s.nd → Own W base 3 1 (V i) (M.nearL s.W s.H i).length (lst (M.nearL s.W s.H i)) ∧ (V i).ownBlock ≠ o.ownBlock
theorem TrA.trK (h : TrA W base x s dA tA sA lA dc tc sc ln lc o) : TrK W base x s.nd s dA tA sA lA dc tc sc ln lc := by
  obtain ⟨nA, nc, V, h1, h2, h3, h4⟩ := h
  exact ⟨nA, nc, V, h1, h2, h3, fun i hi => (h4 i hi).1⟩
theorem TrK.apart (h : TrK W base x s.nd s dA tA sA lA dc tc sc ln lc) : TrA W base x s dA tA sA lA dc tc sc ln lc (.slice none 0 0) := by
  obtain ⟨nA, nc, V, h1, h2, h3, h4⟩ := h
  refine ⟨nA, nc, V, h1, h2, h3, fun i hi => ⟨h4 i hi, ?_⟩⟩
  obtain ⟨g, c, e⟩ := (h4 i hi).nz (M.nearL_len s.W s.H i).1
  rw [e]
  simp [Value.ownBlock]
theorem TrA.below (h : TrA W base x s dA tA sA lA dc tc sc ln lc o) (hb : Below W.heap.size W W') : TrA W' base x s dA tA sA lA dc tc sc ln lc o := by
  obtain ⟨nA, nc, V, h1, h2, h3, h4⟩ := h
  exact ⟨nA, nc, V, h1.below' hb, h2, h3.below hb, fun i hi => ⟨(h4 i hi).1.below hb, (h4 i hi).2⟩⟩
theorem TrA.grew {o' : Value} {b m k : Nat} {F : Nat → Nat → Value} (h : TrA W base x s dA tA sA lA dc tc sc ln lc o) (ho : Own W b 3 m o k F) (hg : W.grownBy W' o.ownBlock) (hat : o'.ownBlock = o.ownBlock ∨ o'.ownBlock = some W.heap.size) : TrA W' base x s dA tA sA lA dc tc sc ln lc o' := by
  obtain ⟨nA, nc, V, h1, h2, h3, h4⟩ := h
  refine ⟨nA, nc, V, h1.grown_own ho (by decide) hg, h2, Own.apart_grown h3 (Own.apart_type ho h3 (by decide)) hg, fun i hi => ?_⟩
  obtain ⟨h5, h6⟩ := h4 i hi
  refine ⟨h5.grown hg (.inr h6), ?_⟩
  rcases hat with e | e
  · rw [e]; exact h6
  · rw [e]
    intro e'
    have := (h5.block e').2
    omega
end
/-- behind an append of a leg to x.legs, apart from o -/
theorem tr_doneA {W W1 w' : World} {base x n c c' B : Nat} {s : M.Sea} {dA tA sA A A' : Option Addr} {dc tc sc : Nat} {L' : Nat → M.Leg} {V : Nat → Value} {l : M.Leg} {u o : Value}
    (hT : TrA W base x s dA tA sA A dc tc sc n c o) (hV1 : Own W base 46 5 (.slice A n c) n (legV L' V)) (hV2 : ∀ i, i < n → LegCells W B base (V i) (L' i) ∧ 0 < (L' i).n ∧ (V i).ownBlock ≠ o.ownBlock) (hu : LegCells W B base u l ∧ 0 < l.n ∧ u.ownBlock ≠ o.ownBlock) (hA : Below W.heap.size W W1)
    (hown : Own w' base 46 5 (.slice A' (n + 1) c') (n + 1) (upd (legV L' V) n (legRow l u))) (hg : W1.grownBy w' (Value.slice A n c).ownBlock) (hBb : B ≤ base) (hBs : base ≤ W.heap.size) :
    TrA (w'.setCell ⟨x, 5, none⟩ (.slice A' (n + 1) c')) base x s dA tA sA A' dc tc sc (n + 1) c' o ∧ LegsA (w'.setCell ⟨x, 5, none⟩ (.slice A' (n + 1) c')) B base (.slice A' (n + 1) c') (n + 1) (fun i => if i = n then l else L' i) o ∧
      KeepT 46 x W (w'.setCell ⟨x, 5, none⟩ (.slice A' (n + 1) c')) ∧ Below base W (w'.setCell ⟨x, 5, none⟩ (.slice A' (n + 1) c')) := by
  obtain ⟨nA, nc, VN, h1, h2, h3, h4⟩ := hT
  have hk1 : ∀ y, KeepT 46 y W w' := fun y => (KeepT.of_below hA).row (hV1.below hA) hg
  have hk2 : KeepT 46 x W (w'.setCell ⟨x, 5, none⟩ (.slice A' (n + 1) c')) := (hk1 x).set_ 5 _
  have hne : ∀ {t b m k : Nat} {v : Value} {F : Nat → Nat → Value}, Own W b t m v k F → v.ownBlock ≠ some (w'.heap.size + 1) := fun ho e => by
    have := (ho.block e).2
    have := (hk1 0).1
    omega
  have hx' : Blk w' x 60 _ := h1.keepT (hk1 (w'.heap.size + 1)) (by decide) (by have := h1.lt; have := (hk1 0).1; omega)
  have hb2 : Below base W (w'.setCell ⟨x, 5, none⟩ (.slice A' (n + 1) c')) := by
    refine Below.setCell (p := ⟨x, 5, none⟩) ?_ h2 _
    refine Below.grown (hA.mono hBs) hg (Nat.le_trans hBs hA.size) fun q hq => ?_
    exact (hV1.block hq).1
  refine ⟨⟨nA, nc, VN, hx'.set_ 5 _, h2, h3.keepT hk2 (by decide) (h3.ne_blk h1 (by decide)), fun i hi => ⟨(h4 i hi).1.keepT hk2 (by decide) ((h4 i hi).1.ne_blk h1 (by decide)), (h4 i hi).2⟩⟩, ⟨fun i => if i = n then u else V i, ?_, fun i hi => ?_⟩, hk2, hb2⟩
  · rw [← legV_upd]
    exact hown.setCell (p := ⟨x, 5, none⟩) (hown.ne_blk hx' (by decide)) _
  · by_cases e : i = n
    · simp only [e, if_true]
      exact ⟨hu.1.keepT (hb2.mono hBb) hk2 ⟨_, h1⟩, hu.2⟩
    · simp only [e, if_false]
      exact ⟨(hV2 i (by omega)).1.keepT (hb2.mono hBb) hk2 ⟨_, h1⟩, (hV2 i (by omega)).2⟩
/-- the traffic's legs are taken anew -/
theorem tr_set {W : World} {base x n c ln lc B : Nat} {s : M.Sea} {dA tA sA A lA : Option Addr} {dc tc sc : Nat} {L' : Nat → M.Leg} (hT : TrK W base x s.nd s dA tA sA lA dc tc sc ln lc) (hO : OwnL W B base (.slice A n c) n L') (hBb : B ≤ base) :
    TrK (W.setCell ⟨x, 5, none⟩ (.slice A n c)) base x s.nd s dA tA sA A dc tc sc n c ∧ OwnL (W.setCell ⟨x, 5, none⟩ (.slice A n c)) B base (.slice A n c) n L' ∧ Below base W (W.setCell ⟨x, 5, none⟩ (.slice A n c)) := by
  obtain ⟨nA, nc, hx, hbx⟩ := hT.blk
  obtain ⟨V, h1, h2⟩ := hO
  have hb : Below base W (W.setCell ⟨x, 5, none⟩ (.slice A n c)) := (Below.refl _ _).setCell (p := ⟨x, 5, none⟩) hbx _
  have hk : KeepT 46 x W (W.setCell ⟨x, 5, none⟩ (.slice A n c)) := KeepT.refl.set_ 5 _
  exact ⟨hT.legs A n c, ⟨V, h1.setCell (p := ⟨x, 5, none⟩) (h1.ne_blk hx (by decide)) _, fun i hi => (h2 i hi).keepT (hb.mono hBb) hk ⟨_, hx⟩⟩, hb⟩
theorem plan_out {s : M.Sea} {L : Nat → M.Leg} {ln k : Nat} {R : Nat → M.Trip} {pe q : Int} (h : pe = M.planE s L ln R k) (h2 : pe = q) : ∀ i j, i < k + 1 → j < 1 → upd (ints (M.planE s L ln R)) k (fun _ => .int .i64 q) i j = ints (M.planE s L ln R) i j := by
  intro i j _ _
  unfold upd ints
  by_cases e : i = k
  · subst e
    rw [if_pos rfl, ← h, h2]
  · rw [if_neg e]
theorem OwnL.less' {W : World} {B base base' n : Nat} {v : Value} {L : Nat → M.Leg} (h : OwnL W B base v n L) (hb : base' ≤ base) : OwnL W B base' v n L := by
  obtain ⟨V, h1, h2⟩ := h
  refine ⟨V, h1.less hb, fun i hi => ⟨(h2 i hi).1, ?_⟩⟩
  rcases (h2 i hi).2 with h3 | h3
  · exact .inl h3
  · exact .inr (h3.less hb)
section
variable (s : M.Sea) (dA tA sA lA gA : Option Addr) (dc tc sc ln lc gn gc B : Nat) (L : Nat → M.Leg) (R : Nat → M.Trip) (w : World)
set_option maxRecDepth 100000 in
set_option maxHeartbeats 6400000 in
theorem Plan_ok (hs : s.Ok) (hw : Ways w) (hR : RdC w B dA tA sA s.nd s.nt s.nt s.dep s.tide s.sw) (hB : B ≤ w.heap.size) (hL : RdL w B lA ln L) (hlo : M.legsOk s ln L = true) (hG : RdT w B gA gn R) (hgn : gn ≤ 6) (hsum : ln + gn ≤ 12) (htr : ∀ k, k < gn → M.tripOk s (R k) = true) :
    Calls Tryz.prog 8 #[.agg #[.int .i64 (s.W : Int), .int .i64 (s.H : Int), .slice dA s.nd dc, .slice tA s.nt tc, .slice sA s.nt sc], .slice lA ln lc, .slice gA gn gc] w fun e w' =>
      (∃ v, e = .returned (.tuple #[v, .int .i64 0]) ∧ Own w' w.heap.size 3 1 v gn (ints (M.planE s L ln R))) ∧ Below w.heap.size w w' := by
  have hok : ∀ i, i < ln → M.LegOk s (L i) := fun i hi => by
    unfold M.legsOk at hlo
    simp only [Bool.and_eq_true] at hlo
    exact M.legOk_iff.1 (M.allTo_iff.1 hlo.2 i hi)
  have hln : ln ≤ 1048576 := by omega
  have hnt := hs.t2
  have HPO := Lib.hid (fun k (hk : k ≤ gn) => M.plan_ok (R := R) hs hok k (fun j hj => htr j (by omega)))
  have HPP := Lib.hid (fun k => M.plan_pre (s := s) (L := L) (n := ln) (R := R) k)
  have HB0 := Lib.hid (belowAlloc w (.cells #[.int .i64 (s.W : Int), .int .i64 (s.H : Int), .slice dA s.nd dc, .slice tA s.nt tc, .slice sA s.nt sc] 25))
  have C0 := Lib.hid (Blk.new w 25 #[.int .i64 (s.W : Int), .int .i64 (s.H : Int), .slice dA s.nd dc, .slice tA s.nt tc, .slice sA s.nt sc])
  have HOP := Lib.hid (lopen_any s dA tA sA lA dc tc sc ln lc w.heap.size L (w.alloc (.cells #[.int .i64 (s.W : Int), .int .i64 (s.H : Int), .slice dA s.nd dc, .slice tA s.nt tc, .slice sA s.nt sc] 25)) hs (hw.below HB0.out) ((hR.below (HB0.out.mono hB)).more hB) HB0.out.size ((hL.below (HB0.out.mono hB)).more hB) hln)
  rw [hlo] at HOP
  have HO2 := Lib.hid (by have h := HOP.out; simp only [if_true] at h; exact h)
  have HAL := Lib.hid (fun W x base (ht : TrK W base x s.nd s dA tA sA lA dc tc sc ln lc) (hb : Below w.heap.size w W) => (show Calls Tryz.prog 23 #[.slice gA gn gc, .func (.func 24) #[.pointer (some ⟨x, 0, none⟩)] #[]] W fun e w' => e = .returned (.bool true) ∧ Below W.heap.size W w' from by
    have h := alltrips_any s dA tA sA lA gA dc tc sc ln lc gn gc B base x R W hs ht (Nat.le_trans hB hb.size) (hG.below (hb.mono hB)) (by omega)
    rw [M.allTo_iff.2 htr] at h
    exact h))
  have HCL := Lib.hid (fun W (hb : Below w.heap.size w W) => clonelegs_any lA ln lc B L W (hL.below (hb.mono hB)) (Nat.le_trans hB hb.size) hln (fun e => by rcases hL with h | ⟨b, off, h, _⟩; exact h; rw [e] at h; cases h))
  have HRO := Lib.hid (fun W x base A n c L' k (hk : k < gn) (ht : TrK W base x s.nd s dA tA sA A dc tc sc n c) (hb : Below w.heap.size w W) (hl' : RdL W W.heap.size A n L') (hn : n ≤ 1048576) (hok' : ∀ i, i < n → M.LegOk s (L' i)) => route_any s dA tA sA A dc tc sc n c W.heap.size base x L' W (R k).at_ (R k).lv (R k).dr (R k).from_ (R k).to_ (R k).tail hs ht ((hR.below (hb.mono hB)).more (Nat.le_trans hB hb.size)) (Nat.le_refl _) hl' hn hok' (htr k hk))
  have HTA := Lib.hid (fun k (hk : k < gn) => (show 0 ≤ (R k).at_ ∧ (R k).at_ < s.nt from (M.tripOk_iff.1 (htr k hk)).1))
  have HGT := Lib.hid (fun W (hb : Below w.heap.size w W) => hG.below (hb.mono hB))
  have HL0 := Lib.hid (fun i (hi : i < ln) => (hok i hi).n0)
  have HBB := Lib.hid hB
  obtain ⟨i0, hi, hz0, hz1, hz2⟩ := info_parts int_info
  have MI := Lib.hid (And.intro hi (And.intro hz0 (And.intro hz1 hz2)))
  obtain ⟨j0, ji, jz0, jz1, jz2⟩ := info_parts leg_info
  have MJ := Lib.hid (And.intro ji (And.intro jz0 (And.intro jz1 jz2)))
  have hn0 := nil_nil
  have hn1 := some_nil
  have c0 := C0.out.cell 0
  have c1 := C0.out.cell 1
  have c2 := C0.out.cell 2
  have c3 := C0.out.cell 3
  have c4 := C0.out.cell 4
  have hsi : ((ln : Int) + (gn : Int)) ≤ 12 := by omega
  have g12 : decide (12 < (ln : Int) + (gn : Int)) = false := decide_eq_false (by omega)
  have g6 : decide ((6 : Int) < (gn : Int)) = false := decide_eq_false (by omega)
  have g6' : decide (6 < gn) = false := decide_eq_false (by omega)
  have hwl : IntKind.i64.wrap ((ln : Int) + (gn : Int)) = (ln : Int) + (gn : Int) := wrapi _ (by omega)
  have hwl2 : wrap64 ((ln : Int) + (gn : Int)) = (ln : Int) + (gn : Int) := IntWalk.wrap64_in _ (by omega)
  clear hi hz0 hz1 hz2 ji jz0 jz1 jz2 hs hw hR hL hlo hok hB hG htr HOP
  go_enter Tryz.func8, Tryz.ntmps8
  go_upto_region 10 with (first
    | (go_at_call 22; go_must (refine HO2.out.mono ?_); rintro e w1 ⟨⟨x, rfl, hx⟩, hb1⟩; have HB1 := Lib.hid (HB0.out.trans (hb1.mono HB0.out.size)); have X1 := Lib.hid (hx.less HB0.out.size); clear hb1 hx c0 c1 c2 c3 c4)
    | (go_at_call 23; go_must (refine (HAL.out _ _ _ X1.out HB1.out).mono ?_); rintro e w2 ⟨rfl, hb2⟩; have HB2 := Lib.hid (HB1.out.trans (hb2.mono HB1.out.size)); have X2 := Lib.hid (X1.out.below hb2); clear hb2))
  go_upto_region 11 with (go_at_call 25; go_must (refine (HCL.out _ HB2.out).mono ?_); rintro e w3 ⟨⟨v3, rfl, ho3⟩, hb3⟩; have HB3 := Lib.hid (HB2.out.trans (hb3.mono HB2.out.size)); have X3 := Lib.hid (X2.out.below hb3); obtain ⟨A3, c3, rfl⟩ := ho3.form; have O3 := Lib.hid (ho3.less' HB2.out.size); obtain ⟨nA, nc, hx3, hbx⟩ := X3.out.blk; have x5 := hx3.cell 5; have f5 := hx3.frz 5; clear hx3 ho3 hb3)
  have HST := Lib.hid (tr_set X3.out O3.out HBB.out)
  clear x5 f5
  generalize w3.setCell ⟨x, 5, none⟩ (.slice A3 ln c3) = w4 at HST ⊢
  have HB4 := Lib.hid (HB3.out.trans (HST.out.2.2.mono (Nat.le_refl _)))
  have hz4 := HB4.out.size
  have T4 := Lib.hid HST.out.1.apart
  have L4 := Lib.hid (HST.out.2.1.apart (Nat.le_trans HBB.out hz4) HL0.out)
  clear HST
  go_wp2_with fail
  go_loopw [10, 48] (fun v i wr => ∃ k : Nat, k ≤ gn ∧ i = .int .i64 (k : Int) ∧ Own wr w.heap.size 3 1 v k (ints (M.planE s L ln R)) ∧ (∃ A c, TrA wr w.heap.size x s dA tA sA A dc tc sc (M.planL s L ln R k).1 c v ∧ LegsA wr B w.heap.size (.slice A (M.planL s L ln R k).1 c) (M.planL s L ln R k).1 (M.planL s L ln R k).2 v) ∧ Below w.heap.size w wr) (fun _ i _ => gn - (intOf i).toNat)
  case atStart => exact ⟨0, Nat.zero_le _, rfl, Own.nil_, ⟨_, _, T4.out, L4.out⟩, HB4.out⟩
  case round =>
    obtain ⟨k, hk, rfl, ho, ⟨A, c, hta, hla⟩, hbw⟩ := hrel
    obtain ⟨oA, oc, rfl⟩ := ho.form
    have HO := Lib.hid ho
    have HTr := Lib.hid hta
    have HLe := Lib.hid hla
    have HW := Lib.hid hbw
    have hz := hbw.size
    clear ho hta hla hbw
    by_cases hlt : k < gn
    · have HPL := Lib.hid (show M.planL s L ln R (k + 1) = if M.hasR s (M.planL s L ln R k).2 (M.planL s L ln R k).1 (R k) then ((M.planL s L ln R k).1 + 1, fun j => if j = (M.planL s L ln R k).1 then M.firstLeg s (M.planL s L ln R k).1 (M.planL s L ln R k).2 (R k) else (M.planL s L ln R k).2 j) else ((M.planL s L ln R k).1, (M.planL s L ln R k).2) from rfl)
      have HPE := Lib.hid (show M.planE s L ln R k = if M.hasR s (M.planL s L ln R k).2 (M.planL s L ln R k).1 (R k) then (R k).at_ + M.endK s (M.planL s L ln R k).2 (M.planL s L ln R k).1 (R k) else -1 from rfl)
      have HOK := Lib.hid (HPO.out k hk)
      have hm12 : (M.planL s L ln R k).1 ≤ 12 := by have := (HPP.out k).2.1; omega
      obtain ⟨PN, hPN⟩ : ∃ PN, PN = M.planL s L ln R (k + 1) := ⟨_, rfl⟩
      have HPN := Lib.hid hPN
      rw [← hPN] at HPL
      obtain ⟨pe, hpe⟩ : ∃ pe, pe = M.planE s L ln R k := ⟨_, rfl⟩
      have HPE2 := Lib.hid hpe
      rw [← hpe] at HPE
      obtain ⟨m, hm⟩ : ∃ m, m = (M.planL s L ln R k).1 := ⟨_, rfl⟩
      obtain ⟨XL, hXL⟩ : ∃ XL, XL = (M.planL s L ln R k).2 := ⟨_, rfl⟩
      rw [← hm, ← hXL] at HPL HPE HOK HLe
      rw [← hm] at hm12 HTr
      clear hPN hpe hm hXL
      have HTK := Lib.hid (HTA.out k hlt)
      obtain ⟨b, off, rfl, hb, g0, g1, g2, g3, g4, g5⟩ := (HGT.out wr HW.out).at_ hlt
      have kx : decide (gn ≤ k) = false := decide_eq_false (by omega)
      have HRK := Lib.hid (fun W A n c L' => HRO.out W x w.heap.size A n c L' k hlt)
      obtain ⟨r, hr⟩ : ∃ r, r = R k := ⟨_, rfl⟩
      rw [← hr] at HPL HPE HTK HRK g0 g1 g2 g3 g4 g5
      have HE6 : (⟨r.at_, r.lv, r.dr, r.tail, r.from_, r.to_⟩ : M.Trip) = r := rfl
      rw [HE6] at HRK
      clear hr HE6
      obtain ⟨at', hat⟩ : ∃ a : Nat, r.at_ = (a : Int) := ⟨r.at_.toNat, by have := HTK.out; omega⟩
      have HAT := Lib.hid hat
      clear hat
      have HA1 := Lib.hid (belowAlloc wr (.cells (#[.int .i64 r.at_, .int .i64 r.lv, .int .i64 r.dr, .bool r.tail, .int .i64 r.from_, .int .i64 r.to_]) 39))
      have D1 := Lib.hid (Blk.new wr 39 (#[.int .i64 r.at_, .int .i64 r.lv, .int .i64 r.dr, .bool r.tail, .int .i64 r.from_, .int .i64 r.to_]))
      have T1 := Lib.hid (HTr.out.below HA1.out)
      have L1 := Lib.hid (HLe.out.below HA1.out (Nat.le_trans HBB.out hz))
      have O1 := Lib.hid (HO.out.alloc (.cells (#[.int .i64 r.at_, .int .i64 r.lv, .int .i64 r.dr, .bool r.tail, .int .i64 r.from_, .int .i64 r.to_]) 39))
      have HW1 := Lib.hid (HW.out.alloc hz (.cells (#[.int .i64 r.at_, .int .i64 r.lv, .int .i64 r.dr, .bool r.tail, .int .i64 r.from_, .int .i64 r.to_]) 39))
      have HRT := Lib.hid (HRK.out _ A m c XL T1.out.trK HW1.out (L1.out.own.rd (Nat.le_trans HBB.out HW1.out.size)) (by omega) HOK.out)
      go_upto_region 15 with fail
      clear g0 g1 g2 g3 g4 g5
      obtain ⟨D, hD⟩ : ∃ D, D = wr.heap.size := ⟨_, rfl⟩
      rw [← hD] at D1
      rw [← hD]
      have HDD := Lib.hid hD
      clear hD
      generalize hX1 : wr.alloc (.cells (#[.int .i64 r.at_, .int .i64 r.lv, .int .i64 r.dr, .bool r.tail, .int .i64 r.from_, .int .i64 r.to_]) 39) = w1' at HA1 D1 T1 L1 O1 HW1 HRT ⊢
      clear hX1
      have hz1 := HW1.out.size
      have d0 := D1.out.cell 0
      have d1 := D1.out.cell 1
      have d2 := D1.out.cell 2
      have d3 := D1.out.cell 3
      have d4 := D1.out.cell 4
      have d5 := D1.out.cell 5
      obtain ⟨hv, hhv⟩ : ∃ hv, hv = M.hasR s XL m r := ⟨_, rfl⟩
      have HHV := Lib.hid hhv.symm
      rw [← hhv] at HPL HPE
      clear hhv
      cases hv
      · have HPL2 := Lib.hid (show PN = (m, XL) from HPL.out)
        have HPE3 := Lib.hid (show pe = -1 from HPE.out)
        go_wp2_with (first
          | (go_at_call 26; go_must (refine HRT.out.mono ?_); rintro e w5 ⟨⟨v, rfl, hv⟩, hb5⟩; have HB5 := Lib.hid (HW1.out.trans (hb5.mono HW1.out.size)); have T5 := Lib.hid (T1.out.below hb5); have L5 := Lib.hid (L1.out.below hb5 (Nat.le_trans HBB.out HW1.out.size)); have O5 := Lib.hid (O1.out.below hb5); have hvf := RouteV.nil_ hv HHV.out; subst hvf; clear hv hb5 d0 d1 d2 d3 d4 d5)
          | (at_builtin; go_must (refine wpList_app rfl (.tmp 57) (.tmp 58) 22 rfl w.heap.size 3 1 8 Tryz.underlying22 MI.out.1 MI.out.2.1 MI.out.2.2.1 MI.out.2.2.2 rfl (by decide) (by decide) (O5.out.alloc _) rfl (by omega) (by have := HB5.out.size; simp; omega) w5.heap.size 1 (fun _ => .int .i64 (-1)) rfl (cell_last rfl) (fun _ _ => rfl) ?_); intro v7 w7 o7 hg7 hat7; have HO7 := Lib.hid o7; have HG7 := Lib.hid hg7; have HAT7 := Lib.hid hat7; clear o7 hg7 hat7))
        go_roundw
        case rel =>
          refine ⟨k + 1, by omega, by go_num, HO7.out.congr (plan_out HPE2.out HPE3.out), ⟨A, c, ?_, ?_⟩, (HB5.out.alloc HB5.out.size _).grown HG7.out (by have := HB5.out.size; simp; omega) (fun g hg => (O5.out.block hg).1)⟩
          · rw [← HPN.out, HPL2.out]
            exact (T5.out.below (belowAlloc _ _)).grew (O5.out.alloc _) HG7.out HAT7.out
          · rw [← HPN.out, HPL2.out]
            exact (L5.out.below (belowAlloc _ _) (Nat.le_trans HBB.out HB5.out.size)).grew (by have := HB5.out.size; have := HBB.out; simp; omega) (O5.out.alloc _) (by decide) HG7.out HAT7.out
        case measure => simp [intOf]; omega
      · have HEK := Lib.hid (show M.endK s XL m r < s.nt - r.at_.toNat from of_decide_eq_true HHV.out)
        have HPL2 := Lib.hid (show PN = (m + 1, fun j => if j = m then M.firstLeg s m XL r else XL j) from HPL.out)
        have HPE3 := Lib.hid (show pe = r.at_ + M.endK s XL m r from HPE.out)
        obtain ⟨K, hK⟩ : ∃ K, K = M.endK s XL m r := ⟨_, rfl⟩
        have HKE := Lib.hid hK
        rw [← hK] at HPE3
        have hK60 : K < 60 := by have := HEK.out; rw [← hK] at this; omega
        clear hK
        go_upto_region 18 with (go_at_call 26; go_must (refine HRT.out.mono ?_); rintro e w5 ⟨⟨v, rfl, hv⟩, hb5⟩; have HB5 := Lib.hid (HW1.out.trans (hb5.mono HW1.out.size)); have T5 := Lib.hid (T1.out.below hb5); have L5 := Lib.hid (L1.out.below hb5 (Nat.le_trans HBB.out HW1.out.size)); have O5 := Lib.hid (O1.out.below hb5); have D5 := Lib.hid (D1.out.below' hb5); have hpo := hv.yes HEK.out; rw [← HKE.out] at hpo; obtain ⟨gp, cp, rfl⟩ := hpo.nz (Nat.succ_pos _); have OP := Lib.hid hpo; clear hv hpo hb5 d0 d1 d2 d3 d4 d5)
        have HFL := Lib.hid (show M.firstLeg s m XL r = M.legOf r (K + 1) (M.routeF s XL m r K) by rw [HKE.out]; rfl)
        obtain ⟨kq, hkq⟩ : ∃ kq, kq = K + 1 := ⟨_, rfl⟩
        rw [← hkq] at OP HFL
        rw [← hkq]
        have HKQ := Lib.hid hkq
        have hkq60 : kq ≤ 60 := by omega
        clear hkq
        have HU := Lib.hid (show LegCells w5 B w.heap.size (.slice (some ⟨gp, 0, none⟩) kq cp) (M.firstLeg s m XL r) ∧ 0 < (M.firstLeg s m XL r).n ∧ (Value.slice (some ⟨gp, 0, none⟩) kq cp).ownBlock ≠ (Value.slice oA k oc).ownBlock by
          rw [HFL.out]
          refine ⟨⟨show kq ≤ maxLen by unfold maxLen; omega, .inr (OP.out.less hz1)⟩, show 0 < kq by have := HKQ.out; omega, fun e => ?_⟩
          have h1 := (OP.out.block rfl).1
          have h2 := (O1.out.block e.symm).2
          omega)
        have HLR := Lib.hid (show (M.firstLeg s m XL r).at_ = r.at_ ∧ (M.firstLeg s m XL r).lv = r.lv ∧ (M.firstLeg s m XL r).dr = r.dr ∧ (M.firstLeg s m XL r).tail = r.tail from ⟨rfl, rfl, rfl, rfl⟩)
        obtain ⟨fl, hfl⟩ : ∃ fl, fl = M.firstLeg s m XL r := ⟨_, rfl⟩
        rw [← hfl] at HU HLR HPL2
        clear hfl HFL
        obtain ⟨nA5, nc5, VN5, hx5, hbx5, _⟩ := T5.out
        have HX5 := Lib.hid hx5
        obtain ⟨V5, hv1, hv2⟩ := L5.out
        have HV1 := Lib.hid hv1
        have HV2 := Lib.hid hv2
        have HXN := Lib.hid (show some x ≠ (Value.slice A m c).ownBlock from fun e => hv1.ne_blk hx5 (by decide) e.symm)
        have HDN := Lib.hid (show some D ≠ (Value.slice A m c).ownBlock from fun e => hv1.ne_blk D5.out (by decide) e.symm)
        have HXB := Lib.hid (fun w7 (g7 : (w5.drew.alloc (.cells #[.int .i64 r.at_, .int .i64 r.lv, .int .i64 r.dr, .bool r.tail, .slice (some ⟨gp, 0, none⟩) kq cp] 46)).grownBy w7 (Value.slice A m c).ownBlock) => (show Blk w7 x 60 _ from (hx5.alloc (w := w5) (.cells #[.int .i64 r.at_, .int .i64 r.lv, .int .i64 r.dr, .bool r.tail, .slice (some ⟨gp, 0, none⟩) kq cp] 46)).grown (w := w5.drew.alloc (.cells #[.int .i64 r.at_, .int .i64 r.lv, .int .i64 r.dr, .bool r.tail, .slice (some ⟨gp, 0, none⟩) kq cp] 46)) g7 HXN.out))
        have x5 := hx5.cell 5
        have d0 := D5.out.cell 0
        have d1 := D5.out.cell 1
        have d2 := D5.out.cell 2
        have d3 := D5.out.cell 3
        have HTMP := Lib.hid (show ∀ j, j < 5 → (w5.drew.alloc (.cells #[.int .i64 r.at_, .int .i64 r.lv, .int .i64 r.dr, .bool r.tail, .slice (some ⟨gp, 0, none⟩) kq cp] 46)).cell? ⟨w5.heap.size, j, none⟩ = some (legRow fl (.slice (some ⟨gp, 0, none⟩) kq cp) j) from by
          obtain ⟨e1, e2, e3, e4⟩ := HLR.out
          rw [← e1, ← e2, ← e3, ← e4]
          exact leg_temp w5 fl _)
        clear hv1 hv2 hx5
        refine wp_region_T 19 (fun w' => w'.cell? ⟨x, 5, none⟩ = some (.slice A m c) ∧ w'.cell? ⟨D, 0, none⟩ = some (.int .i64 r.at_) ∧ w'.cell? ⟨D, 1, none⟩ = some (.int .i64 r.lv) ∧ w'.cell? ⟨D, 2, none⟩ = some (.int .i64 r.dr) ∧ w'.cell? ⟨D, 3, none⟩ = some (.bool r.tail)) (by kernel_rfl) ⟨x5, d0, d1, d2, d3⟩ ?_
        intro hS
        refine wpAnyT_take (i := 0) (v := ?_) rfl (by kernel_rfl) (by kernel_rfl) (by kernel_rfl) (by kernel_rfl) (by kernel_rfl) (fun _ _ _ h => h) (.inl ⟨by kernel_rfl, ?_⟩) hS ?_
        rotate_left
        · (intro w' hw; obtain ⟨h1, h2, h3, h4, h5⟩ := hw; go_simp; try with_reducible rfl)
        try simp only [put_laws]
        refine wpAnyT_take (i := 1) (v := ?_) rfl (by kernel_rfl) (by kernel_rfl) (by kernel_rfl) (by kernel_rfl) (by kernel_rfl) (fun _ _ _ h => h) (.inl ⟨by kernel_rfl, ?_⟩) hS ?_
        rotate_left
        · (intro w' hw; obtain ⟨h1, h2, h3, h4, h5⟩ := hw; go_simp; try with_reducible rfl)
        try simp only [put_laws]
        refine wpAnyT_take (i := 2) (v := ?_) rfl (by kernel_rfl) (by kernel_rfl) (by kernel_rfl) (by kernel_rfl) (by kernel_rfl) (fun _ _ _ h => h) (.inl ⟨by kernel_rfl, ?_⟩) hS ?_
        rotate_left
        · (intro w' hw; obtain ⟨h1, h2, h3, h4, h5⟩ := hw; go_simp; try with_reducible rfl)
        try simp only [put_laws]
        refine wpAnyT_take (i := 3) (v := ?_) rfl (by kernel_rfl) (by kernel_rfl) (by kernel_rfl) (by kernel_rfl) (by kernel_rfl) (fun _ _ _ h => h) (.inl ⟨by kernel_rfl, ?_⟩) hS ?_
        rotate_left
        · (intro w' hw; obtain ⟨h1, h2, h3, h4, h5⟩ := hw; go_simp; try with_reducible rfl)
        try simp only [put_laws]
        refine wpAnyT_take (i := 4) (v := ?_) rfl (by kernel_rfl) (by kernel_rfl) (by kernel_rfl) (by kernel_rfl) (by kernel_rfl) (fun _ _ _ h => h) (.inl ⟨by kernel_rfl, ?_⟩) hS ?_
        rotate_left
        · (intro w' hw; obtain ⟨h1, h2, h3, h4, h5⟩ := hw; go_simp; try with_reducible rfl)
        try simp only [put_laws]
        refine wpAnyT_take (i := 5) (v := ?_) rfl (by kernel_rfl) (by kernel_rfl) (by kernel_rfl) (by kernel_rfl) (by kernel_rfl) (fun _ _ _ h => h) (.inl ⟨by kernel_rfl, ?_⟩) hS ?_
        rotate_left
        · (intro w' hw; obtain ⟨h1, h2, h3, h4, h5⟩ := hw; go_simp; try with_reducible rfl)
        try simp only [put_laws]
        refine wpAnyT_take (i := 6) (v := ?_) rfl (by kernel_rfl) (by kernel_rfl) (by kernel_rfl) (by kernel_rfl) (by kernel_rfl) (fun _ _ _ h => h) (.inl ⟨by kernel_rfl, ?_⟩) hS ?_
        rotate_left
        · (intro w' hw; obtain ⟨h1, h2, h3, h4, h5⟩ := hw; go_simp; try with_reducible rfl)
        try simp only [put_laws]
        refine wpAnyT_take (i := 7) (v := ?_) rfl (by kernel_rfl) (by kernel_rfl) (by kernel_rfl) (by kernel_rfl) (by kernel_rfl) (fun _ _ _ h => h) (.inl ⟨by kernel_rfl, ?_⟩) hS ?_
        rotate_left
        · (intro w' hw; obtain ⟨h1, h2, h3, h4, h5⟩ := hw; go_simp; try with_reducible rfl)
        try simp only [put_laws]
        refine wpAnyT_take (i := 8) (v := ?_) rfl (by kernel_rfl) (by kernel_rfl) (by kernel_rfl) (by kernel_rfl) (by kernel_rfl) (fun _ _ _ h => h) (.inl ⟨by kernel_rfl, ?_⟩) hS ?_
        rotate_left
        · (intro w' hw; obtain ⟨h1, h2, h3, h4, h5⟩ := hw; go_simp; try with_reducible rfl)
        try simp only [put_laws]
        refine wpAnyT_take (i := 9) (v := ?_) rfl (by kernel_rfl) (by kernel_rfl) (by kernel_rfl) (by kernel_rfl) (by kernel_rfl) (fun _ _ _ h => h) (.inl ⟨by kernel_rfl, ?_⟩) hS ?_
        rotate_left
        · (intro w' hw; obtain ⟨h1, h2, h3, h4, h5⟩ := hw; go_simp; try with_reducible rfl)
        try simp only [put_laws]
        refine wpAnyT_take (i := 10) (v := ?_) rfl (by kernel_rfl) (by kernel_rfl) (by kernel_rfl) (by kernel_rfl) (by kernel_rfl) (fun _ _ _ h => h) (.inl ⟨by kernel_rfl, ?_⟩) hS ?_
        rotate_left
        · (intro w' hw; obtain ⟨h1, h2, h3, h4, h5⟩ := hw; go_simp; try with_reducible rfl)
        try simp only [put_laws]
        refine wpAnyT_take (i := 11) (v := ?_) rfl (by kernel_rfl) (by kernel_rfl) (by kernel_rfl) (by kernel_rfl) (by kernel_rfl) (fun _ _ _ h => h) (.inl ⟨by kernel_rfl, ?_⟩) hS ?_
        rotate_left
        · (intro w' hw; obtain ⟨h1, h2, h3, h4, h5⟩ := hw; go_simp; try with_reducible rfl)
        try simp only [put_laws]
        refine wpAnyT_take (i := 12) (v := ?_) rfl (by kernel_rfl) (by kernel_rfl) (by kernel_rfl) (by kernel_rfl) (by kernel_rfl) (fun _ _ _ h => h) (.inl ⟨by kernel_rfl, ?_⟩) hS ?_
        rotate_left
        · (intro w' hw; obtain ⟨h1, h2, h3, h4, h5⟩ := hw; go_simp; try with_reducible rfl)
        try simp only [put_laws]
        refine wpAnyT_take (i := 13) (v := ?_) rfl (by kernel_rfl) (by kernel_rfl) (by kernel_rfl) (by kernel_rfl) (by kernel_rfl) (fun _ _ _ h => h) (.inl ⟨by kernel_rfl, ?_⟩) hS ?_
        rotate_left
        · (intro w' hw; obtain ⟨h1, h2, h3, h4, h5⟩ := hw; go_simp; try with_reducible rfl)
        try simp only [put_laws]
        refine wpAnyT_take (i := 14) (v := ?_) rfl (by kernel_rfl) (by kernel_rfl) (by kernel_rfl) (by kernel_rfl) (by kernel_rfl) (fun _ _ _ h => h) (.inl ⟨by kernel_rfl, ?_⟩) hS ?_
        rotate_left
        · (intro w' hw; obtain ⟨h1, h2, h3, h4, h5⟩ := hw; go_simp; try with_reducible rfl)
        try simp only [put_laws]
        refine wpAnyT_one (i := 15) (by kernel_rfl) rfl ?_
        intro K' hK'
        go_simp
        have hS' := (show (w5.drew.alloc (.cells #[.int .i64 r.at_, .int .i64 r.lv, .int .i64 r.dr, .bool r.tail, .slice (some ⟨gp, 0, none⟩) kq cp] 46)).cell? ⟨x, 5, none⟩ = some (.slice A m c) ∧ (w5.drew.alloc (.cells #[.int .i64 r.at_, .int .i64 r.lv, .int .i64 r.dr, .bool r.tail, .slice (some ⟨gp, 0, none⟩) kq cp] 46)).cell? ⟨D, 0, none⟩ = some (.int .i64 r.at_) ∧ (w5.drew.alloc (.cells #[.int .i64 r.at_, .int .i64 r.lv, .int .i64 r.dr, .bool r.tail, .slice (some ⟨gp, 0, none⟩) kq cp] 46)).cell? ⟨D, 1, none⟩ = some (.int .i64 r.lv) ∧ (w5.drew.alloc (.cells #[.int .i64 r.at_, .int .i64 r.lv, .int .i64 r.dr, .bool r.tail, .slice (some ⟨gp, 0, none⟩) kq cp] 46)).cell? ⟨D, 2, none⟩ = some (.int .i64 r.dr) ∧ (w5.drew.alloc (.cells #[.int .i64 r.at_, .int .i64 r.lv, .int .i64 r.dr, .bool r.tail, .slice (some ⟨gp, 0, none⟩) kq cp] 46)).cell? ⟨D, 3, none⟩ = some (.bool r.tail) from ⟨al_cell hS.1, al_cell hS.2.1, al_cell hS.2.2.1, al_cell hS.2.2.2.1, al_cell hS.2.2.2.2⟩)
        clear hS
        have hS := hS'
        clear hS'
        refine hK'.out _ _ (.inr hS) ?_
        clear hK' K'
        try simp only [put_laws]
        refine wpAnyT_one (i := 16) (by kernel_rfl) rfl ?_
        intro K' hK'
        refine step_app (by rfl) (.tmp 64) (.tmp 75) 26 (by rfl) 46 j0 _ 5 56 Tryz.underlying26 MJ.out.1 MJ.out.2.1 MJ.out.2.2.1 MJ.out.2.2.2 rfl (by decide) (by decide) (by rfl) (HV1.out.drew.alloc _) (Nat.le_trans hm12 (by omega)) (Nat.le_trans HB5.out.size (by simp)) w5.heap.size 1 (legRow fl (.slice (some ⟨gp, 0, none⟩) kq cp)) (by rfl) HTMP.out (fun j => by unfold legRow; (repeat' split) <;> rfl) ?_
        intro v7 w7 o7 g7
        obtain ⟨A7, c7, rfl⟩ := o7.form
        have hS' := (show w7.cell? ⟨x, 5, none⟩ = some (.slice A m c) ∧ w7.cell? ⟨D, 0, none⟩ = some (.int .i64 r.at_) ∧ w7.cell? ⟨D, 1, none⟩ = some (.int .i64 r.lv) ∧ w7.cell? ⟨D, 2, none⟩ = some (.int .i64 r.dr) ∧ w7.cell? ⟨D, 3, none⟩ = some (.bool r.tail) from ⟨grown_cell g7 hS.1 HXN.out, grown_cell g7 hS.2.1 HDN.out, grown_cell g7 hS.2.2.1 HDN.out, grown_cell g7 hS.2.2.2.1 HDN.out, grown_cell g7 hS.2.2.2.2 HDN.out⟩)
        clear hS
        have hS := hS'
        clear hS'
        refine hK'.out _ _ (.inr hS) ?_
        clear hK' K'
        try simp only [put_laws]
        refine wpAnyT_one (i := 17) (by kernel_rfl) rfl ?_
        intro K' hK'
        go_simp
        refine hK'.out _ _ (.inr hS) ?_
        clear hK' K'
        try simp only [put_laws]
        refine wpAnyT_one (i := 18) (by kernel_rfl) rfl ?_
        intro K' hK'
        go_simp
        refine hK'.out _ _ (.inr hS) ?_
        clear hK' K'
        try simp only [put_laws]
        refine wpAnyT_one (i := 19) (by kernel_rfl) rfl ?_
        intro K' hK'
        have fz := (HXB.out w7 g7).frz 5
        have cz := (HXB.out w7 g7).cell 5
        go_simp
        refine hK'.out _ _ (.inl rfl) ?_
        clear hK' K'
        try simp only [put_laws]
        refine wpAnyT_done (by kernel_rfl) ?_ _
        have HDN2 := Lib.hid (tr_doneA (W := w5) (W1 := w5.drew.alloc (.cells #[.int .i64 r.at_, .int .i64 r.lv, .int .i64 r.dr, .bool r.tail, .slice (some ⟨gp, 0, none⟩) kq cp] 46)) T5.out HV1.out HV2.out HU.out ((Below.refl _ _).drew.alloc (Nat.le_refl _) _) o7 g7 HBB.out HB5.out.size)
        have D6 := Lib.hid (D5.out.keepT HDN2.out.2.2.1 (by decide) (blk_ne D5.out HX5.out (by decide)))
        have O6 := Lib.hid (O5.out.keepT HDN2.out.2.2.1 (by decide) (O5.out.ne_blk HX5.out (by decide)))
        clear o7 g7 x5 d0 d1 d2 d3
        generalize w7.setCell ⟨x, 5, none⟩ (.slice A7 (m + 1) c7) = w8 at HDN2 D6 O6 ⊢
        have HB8 := Lib.hid (HB5.out.trans HDN2.out.2.2.2)
        have hz8 := HB8.out.size
        have d0 := D6.out.cell 0
        have hr60 : 0 ≤ r.at_ ∧ r.at_ ≤ 60 := by have := HTK.out; omega
        have hwa : IntKind.i64.wrap (r.at_ + (kq : Int)) = r.at_ + (kq : Int) := wrapi _ (by omega)
        have hwb : wrap64 (r.at_ + (kq : Int)) = r.at_ + (kq : Int) := IntWalk.wrap64_in _ (by omega)
        have hwc : IntKind.i64.wrap (r.at_ + (kq : Int) - 1) = r.at_ + (kq : Int) - 1 := wrapi _ (by omega)
        have hwd : wrap64 (r.at_ + (kq : Int) - 1) = r.at_ + (kq : Int) - 1 := IntWalk.wrap64_in _ (by omega)
        go_wp2_with (at_builtin; go_must (refine wpList_app rfl (.tmp 79) (.tmp 86) 22 rfl w.heap.size 3 1 8 Tryz.underlying22 MI.out.1 MI.out.2.1 MI.out.2.2.1 MI.out.2.2.2 rfl (by decide) (by decide) (O6.out.alloc _) rfl (Nat.le_trans hk (by omega)) (Nat.le_trans hz8 (by simp)) w8.heap.size 1 (fun _ => .int .i64 (r.at_ + (kq : Int) - 1)) rfl (cell_last rfl) (fun _ _ => rfl) ?_); intro v9 w9 o9 hg9 hat9; have HO9 := Lib.hid o9; have HG9 := Lib.hid hg9; have HAT9 := Lib.hid hat9; clear o9 hg9 hat9)
        go_roundw
        case rel =>
          refine ⟨k + 1, by omega, by go_num, HO9.out.congr (plan_out HPE2.out (by have h1 := HPE3.out; have h2 := HKQ.out; omega)), ⟨A7, c7, ?_, ?_⟩, (HB8.out.alloc hz8 _).grown HG9.out (by simp; omega) (fun g hg => (O6.out.block hg).1)⟩
          · rw [← HPN.out, HPL2.out]
            exact (HDN2.out.1.below (belowAlloc _ _)).grew (O6.out.alloc _) HG9.out HAT9.out
          · rw [← HPN.out, HPL2.out]
            exact (HDN2.out.2.1.below (belowAlloc _ _) (Nat.le_trans HBB.out hz8)).grew (by have := HBB.out; simp; omega) (O6.out.alloc _) (by decide) HG9.out HAT9.out
        case measure => simp [intOf]; omega
    · obtain rfl : k = gn := by omega
      go_wp2_with fail
      go_ret2
      exact ⟨⟨_, rfl, HO.out⟩, HW.out⟩
end
end Go.Proofs.YtkdpmihdhiokkaaGreatDoor
