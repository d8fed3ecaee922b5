/- Lists of numbers of the call's own: sorted, made compact. -/
import Derived.Test.YtnbeembnnjdmdaaGreatDoorBase
import Derived.Test.YtnbeembnnjdmdaaGreatDoorD5
import Derived.Sort.OwnSortedInts
namespace Go.Proofs.YtnbeembnnjdmdaaGreatDoor
open Go.RowKit

namespace M
def leI : Int → Int → Bool := fun x y => decide (x ≤ y)
end M
section
open Lib
theorem compactUp_mem {zs : List Int} {x : Int} : ∀ m, m ≤ zs.length → (x ∈ compactUpTo zs.toArray m ↔ x ∈ zs.take m)
  | 0, _ => by simp [compactUpTo]
  | m + 1, hm => by
    have hm' : m < zs.length := by omega
    have e : (zs.toArray)[m]! = zs[m] := by simp [hm']
    rw [compactUpTo_succ, List.mem_append, compactUp_mem m (by omega), List.take_succ_eq_append_getElem hm', List.mem_append, List.mem_singleton]
    by_cases hk : keeps zs.toArray m = true
    · rw [if_pos hk, List.mem_singleton, e]
    · rw [if_neg hk]
      have h1 : m ≠ 0 ∧ (zs.toArray)[m]! = (zs.toArray)[m - 1]! := by
        unfold keeps at hk
        simp only [decide_eq_true_eq, not_or, Decidable.not_not] at hk
        exact hk
      have e2 : (zs.toArray)[m - 1]! = zs[m - 1] := by simp [show m - 1 < zs.length by omega]
      constructor
      · rintro (h | h)
        · exact .inl h
        · cases h
      · rintro (h | h)
        · exact .inl h
        · left
          rw [h, ← e, h1.2, e2]
          rw [List.mem_take_iff_getElem]
          exact ⟨m - 1, by omega, rfl⟩
theorem compact_mem {zs : List Int} {x : Int} : x ∈ compact zs ↔ x ∈ zs := by
  unfold compact
  rw [compactUp_mem _ (Nat.le_refl _), List.take_length]
theorem compactUp_asc {zs : List Int} (hz : zs.Pairwise (· ≤ ·)) : ∀ m, m ≤ zs.length → (compactUpTo zs.toArray m).Pairwise (· < ·)
  | 0, _ => by simp [compactUpTo]
  | m + 1, hm => by
    have hm' : m < zs.length := by omega
    have e : (zs.toArray)[m]! = zs[m] := by simp [hm']
    rw [compactUpTo_succ]
    by_cases hk : keeps zs.toArray m = true
    · rw [if_pos hk, List.pairwise_append]
      refine ⟨compactUp_asc hz m (by omega), List.pairwise_singleton _ _, fun a ha b hb => ?_⟩
      rw [List.mem_singleton.1 hb, e]
      rw [compactUp_mem _ (by omega), List.mem_take_iff_getElem] at ha
      obtain ⟨i, hi, rfl⟩ := ha
      rw [List.pairwise_iff_getElem] at hz
      unfold keeps at hk
      simp only [decide_eq_true_eq] at hk
      have hm0 : m ≠ 0 := by omega
      have h1 := hk.resolve_left hm0
      have e2 : (zs.toArray)[m - 1]! = zs[m - 1] := by simp [show m - 1 < zs.length by omega]
      rw [e, e2] at h1
      have h2 := hz (m - 1) m (by omega) hm' (by omega)
      have h3 : zs[i] ≤ zs[m - 1] := by
        by_cases h4 : i = m - 1
        · subst h4; exact Int.le_refl _
        · exact hz i (m - 1) (by omega) (by omega) (by omega)
      omega
    · rw [if_neg hk, List.append_nil]
      exact compactUp_asc hz m (by omega)
theorem compact_asc {zs : List Int} (hz : zs.Pairwise (· ≤ ·)) : (compact zs).Pairwise (· < ·) := compactUp_asc hz _ (Nat.le_refl _)
end
theorem sort_asc (L : List Int) : (L.mergeSort M.leI).Pairwise (· ≤ ·) := by
  have := List.pairwise_mergeSort (le := M.leI) (fun a b c h1 h2 => by unfold M.leI at *; simp at *; omega) (fun a b => by unfold M.leI; simp; omega) L
  exact this.imp fun h => by unfold M.leI at h; simpa using h
theorem sort_mem {L : List Int} {x : Int} : x ∈ L.mergeSort M.leI ↔ x ∈ L := (List.mergeSort_perm _ _).mem_iff
/-- sorted and compact: just its elements, ascending -/
theorem compact_sort {L L' : List Int} (h : L'.Pairwise (· < ·)) (hm : ∀ x, x ∈ L ↔ x ∈ L') : Lib.compact (L.mergeSort M.leI) = L' :=
  M.asc_ext (compact_asc (sort_asc L)) h fun x => by rw [compact_mem, sort_mem, hm]
abbrev lst (L : List Int) : Nat → Nat → Value := fun i _ => .int .i64 (L.getD i 0)
theorem cells_lst (L : List Int) : cellsOf L.length 1 (lst L) = L.map (Value.int .i64) := by
  apply List.ext_getElem?
  intro j
  by_cases h : j < L.length
  · simp [cellsOf, h, Nat.mod_one, List.getD]
  · simp [cellsOf, h]
section
variable {w : World} {B : Nat} {v : Value} {L : List Int}
theorem IL.own (h : IL w B v L) : Own w B 3 1 v L.length (lst L) := h
theorem IL.sort (h : IL w B v L) (hn : 0 < L.length) (hn2 : L.length ≤ 1048576) :
    Calls Tryz.prog 68 #[v] w fun e w' => e = .returned (.tuple #[]) ∧ IL w' B v (L.mergeSort M.leI) ∧ w.grownBy w' v.ownBlock := by
  have h' := h.own
  unfold Own at h'
  rw [cells_lst] at h'
  rcases h'.2 with ⟨_, h0⟩ | ⟨g, cap, cur, rfl, hb0, hb, h1, h2, h3, h4⟩
  · omega
  · rw [Nat.mul_one] at h4
    have hc := Tryz.slices_Sort_int g 0 cap L w (holds_of_blockI hb h4) (Array.getElem?_eq_some_iff.1 hb).1 (by omega)
    refine hc.mono ?_
    rintro e w' ⟨rfl, n, os, rfl⟩
    refine ⟨rfl, ?_, grownBy_sortedI _⟩
    have hls : (L.mergeSort M.leI).length = L.length := List.length_mergeSort _
    have := ownsRow_sortedI (n := n) (os := os) (ss := L) (ts := L.mergeSort M.leI) hls hb0 hb h1 h2 h3
    have e : IL (Sort.grow (Sort.putRow (Value.int .i64) (Sort.ahead w n) g 0 (L.mergeSort M.leI).toArray) os) B (.slice (some ⟨g, 0, none⟩) L.length cap) (L.mergeSort M.leI) ↔ Own (Sort.grow (Sort.putRow (Value.int .i64) (Sort.ahead w n) g 0 (L.mergeSort M.leI).toArray) os) B 3 1 (.slice (some ⟨g, 0, none⟩) L.length cap) (L.mergeSort M.leI).length (lst (L.mergeSort M.leI)) := Iff.rfl
    refine e.2 ?_
    unfold Own
    rw [cells_lst, hls]
    exact this
theorem IL.comp (h : IL w B v L) (hn : 0 < L.length) (hn2 : L.length ≤ 1048576) :
    Calls Tryz.prog 69 #[v] w fun e w' => ∃ g c, v.ownBlock = some g ∧ e = .returned (.slice (some ⟨g, 0, none⟩) (Lib.compact L).length c) ∧ IL w' B (.slice (some ⟨g, 0, none⟩) (Lib.compact L).length c) (Lib.compact L) ∧ w.grownBy w' v.ownBlock := by
  have h' := h.own
  unfold Own at h'
  rw [cells_lst] at h'
  rcases h'.2 with ⟨_, h0⟩ | ⟨g, cap, cur, rfl, hb0, hb, h1, h2, h3, h4⟩
  · omega
  · rw [Nat.mul_one] at h4
    have hc := Any.slices_Compact_int Tryz.laysNm220 g 0 cap L w (holds_of_blockI hb h4) (by omega) h1
    refine hc.mono ?_
    rintro e w' ⟨rfl, n, rfl⟩
    refine ⟨g, cap, rfl, rfl, ?_, by have := grownBy_sortedI (w := w) (g := g) (n := n) (os := #[]) (Lib.compact L ++ List.replicate (L.length - (Lib.compact L).length) 0).toArray; rw [Sort.grow_empty] at this; exact this⟩
    have hle := Lib.compact_length_le L
    have hls : (Lib.compact L ++ List.replicate (L.length - (Lib.compact L).length) 0).length = L.length := by simp; omega
    have := ownsRow_sortedI (n := n) (os := #[]) (ss := L) (ts := Lib.compact L ++ List.replicate (L.length - (Lib.compact L).length) 0) hls hb0 hb h1 h2 h3
    rw [Sort.grow_empty] at this
    obtain ⟨_, ⟨h5, _⟩ | ⟨g', cap', cur', h5, h6, h7, h8, h9, h10, h11⟩⟩ := this
    · cases h5
    · cases h5
      refine ⟨length_cellsOf _ _ _, .inr ⟨g, cap, cur', rfl, h6, h7, by omega, h9, h10, ?_⟩⟩
      show _ = cellsOf (Lib.compact L).length 1 (lst (Lib.compact L))
      rw [cells_lst, Nat.mul_one]
      rw [Nat.mul_one] at h11
      have := congrArg (List.take (Lib.compact L).length) h11
      rw [List.take_take, Nat.min_eq_left hle, List.map_append, List.take_left' (by simp)] at this
      exact this
end
end Go.Proofs.YtnbeembnnjdmdaaGreatDoor
/- drift: the map of steps, looked at and stored into. -/
namespace Go.Proofs.YtnbeembnnjdmdaaGreatDoor
open Go.RowKit Go.Maps

theorem stepsZ (w : World) : (zeroValue 22).run Tryz.prog w = .ok (.slice none 0 0) w := by kernel_rfl
theorem step_key (i : Nat) (hi : i < 77760) : ∃ l, keyOf Tryz.prog 96 (stepV i) = some l := keyStay _ _ _ (by omega) (by omega) (by omega)
def stepI (c t l : Nat) : Nat := c * 540 + t * 9 + l
theorem stepI_lt {c t l : Nat} (hc : c < 144) (ht : t < 60) (hl : l < 9) : stepI c t l < 77760 := by unfold stepI; omega
theorem stepI_parts {c t l : Nat} (ht : t < 60) (hl : l < 9) : stepI c t l / 540 = c ∧ stepI c t l / 9 % 60 = t ∧ stepI c t l % 9 = l := by unfold stepI; omega
theorem stepV_at {c t l : Nat} (ht : t < 60) (hl : l < 9) : stepV (stepI c t l) = .agg #[.int .i64 (c : Int), .int .i64 (t : Int), .int .i64 (l : Int)] := by
  obtain ⟨e1, e2, e3⟩ := stepI_parts (c := c) ht hl
  unfold stepV
  rw [e1, e2, e3]
/-- the slice that an entry names -/
def unS : Option (DataW Unit) → Value
  | some (.agg [.lit (.int .i64 b), .lit (.int .i64 _), .lit (.int .i64 n), .lit (.int .i64 c)]) => .slice (some ⟨b.toNat, 0, none⟩) n.toNat c.toNat
  | _ => .slice none 0 0
theorem unS_enc (b n c : Nat) : unS (some (encS b n c)) = .slice (some ⟨b, 0, none⟩) n c := rfl
theorem sliceR_nil_inv {v : Value} {ps : List MemPlace} (h : sliceR v = some (.agg [], ps)) : v = .slice none 0 0 := by
  unfold sliceR at h
  split at h
  · rfl
  · simp at h
  · cases h
/-- what an entry of the map of steps says -/
def StepE (d : M.Dr) (B : Nat) (T : Nat → Prop) (W : World) (i : Nat) (y : DataW Unit) : Prop :=
  ∃ g c, T g ∧ y = encS g (M.stepL d (i / 9 % 60) (i % 9 : Nat) (i / 540 : Nat)).length c ∧ IL W B (.slice (some ⟨g, 0, none⟩) (M.stepL d (i / 9 % 60) (i % 9 : Nat) (i / 540 : Nat)).length c) (M.stepL d (i / 9 % 60) (i % 9 : Nat) (i / 540 : Nat))
section
variable {d : M.Dr} {zA cA wA dA tA sA : Option Addr} {cl : Nat → Nat} {B P m1 m2 dc tc sc zc cc wc : Nat} {T : Nat → Prop} {W W' : World} {v : Nat → Option (DataW Unit)}
theorem SeaM.stepv (h : SeaM d zA cA wA dA tA sA cl B P m1 m2 #[.int .i64 (d.s.W : Int), .int .i64 (d.s.H : Int), .slice dA d.s.nd dc, .slice tA d.s.nt tc, .slice sA d.s.nt sc, .slice zA d.s.nd zc, .slice cA d.nz cc, .slice wA (d.s.nt - 1) wc, .map (some m1), .map (some m2)] T W) : ∃ v : Nat → Option (DataW Unit), MemoM W Tryz.prog 96 sliceR m1 77760 stepV v ∧ ∀ i y, v i = some y → StepE d B T W i y := h.steps
theorem step_look (hm : MemoM W Tryz.prog 96 sliceR m1 77760 stepV v) (hv : ∀ i y, v i = some y → StepE d B T W' i y) {c t l : Nat} (hc : c < 144) (ht : t < 60) (hl : l < 9) :
    (Instr.lookup 127 (.map (some m1)) (.agg #[.int .i64 (c : Int), .int .i64 (t : Int), .int .i64 (l : Int)]) true).run Tryz.prog W = .ok (.tuple #[unS (v (stepI c t l)), .bool (v (stepI c t l)).isSome]) W := by
  obtain ⟨x, ps, hrun, hx⟩ := hm.look stepsK stepsT (stepsZ W) sliceR_nil (stepI_lt hc ht hl) (step_key _ (stepI_lt hc ht hl))
  rw [stepV_at ht hl] at hrun
  rw [hrun]
  cases hvi : v (stepI c t l) with
  | none =>
    rw [hvi] at hx
    rw [sliceR_nil_inv hx]; rfl
  | some y =>
    obtain ⟨g, cc, _, e, _⟩ := hv _ _ hvi
    rw [hvi, Option.getD_some, e] at hx
    rw [sliceR_inv hx, e, unS_enc]
theorem SeaM.mv1 {T' : Nat → Prop} (h : SeaM d zA cA wA dA tA sA cl B P m1 m2 #[.int .i64 (d.s.W : Int), .int .i64 (d.s.H : Int), .slice dA d.s.nd dc, .slice tA d.s.nt tc, .slice sA d.s.nt sc, .slice zA d.s.nd zc, .slice cA d.nz cc, .slice wA (d.s.nt - 1) wc, .map (some m1), .map (some m2)] T W) (hg : W.grownBy W' (some m1)) (hT : ∀ k, T k → T' k) (hT' : ∀ k, T' k → B ≤ k ∧ k < W.heap.size) (hm : MemoM W' Tryz.prog 96 sliceR m1 77760 stepV v) (hv : ∀ i y, v i = some y → StepE d B T' W i y) :
    SeaM d zA cA wA dA tA sA cl B P m1 m2 #[.int .i64 (d.s.W : Int), .int .i64 (d.s.H : Int), .slice dA d.s.nd dc, .slice tA d.s.nt tc, .slice sA d.s.nt sc, .slice zA d.s.nd zc, .slice cA d.nz cc, .slice wA (d.s.nt - 1) wc, .map (some m1), .map (some m2)] T' W' := by
  obtain ⟨b1, b2, b3, b4, b5⟩ := h.b
  obtain ⟨t1, t2, t3, t4⟩ := h.t
  have hB : Below B W W' := (Below.refl B W).grown hg b5 fun k e => by cases e; exact b2
  refine ⟨h.box.grown hg (by simpa using h.map1.ne h.box), h.rd.below hB, h.cl, ⟨b1, b2, b3, b4, Nat.le_trans b5 hg.size⟩, ⟨hT _ t1, hT _ t2, hT _ t3, fun k hk => ⟨(hT' k hk).1, Nat.lt_of_lt_of_le (hT' k hk).2 hg.size⟩⟩, ⟨⟨h.way.1.1.below (hB.mono h.way.2), Nat.lt_of_lt_of_le h.way.1.2 hg.size⟩, h.way.2⟩, ?_, ⟨v, hm, fun i y hy => ?_⟩⟩
  · obtain ⟨u, h1, h2⟩ := h.near
    exact ⟨u, h1.kept hg (by simpa using b4.symm), h2⟩
  · obtain ⟨g, c, e1, e2, e3⟩ := hv i y hy
    obtain ⟨cs', hb⟩ := Own.blk e3
    exact ⟨g, c, e1, e2, Own.grown e3 hg (.inr (by simpa [Value.ownBlock] using h.map1.ne hb))⟩
/-- a larger set of own blocks -/
theorem SeaM.more {T' : Nat → Prop} (h : SeaM d zA cA wA dA tA sA cl B P m1 m2 #[.int .i64 (d.s.W : Int), .int .i64 (d.s.H : Int), .slice dA d.s.nd dc, .slice tA d.s.nt tc, .slice sA d.s.nt sc, .slice zA d.s.nd zc, .slice cA d.nz cc, .slice wA (d.s.nt - 1) wc, .map (some m1), .map (some m2)] T W) (hT : ∀ k, T k → T' k) (hT' : ∀ k, T' k → B ≤ k ∧ k < W.heap.size) : SeaM d zA cA wA dA tA sA cl B P m1 m2 #[.int .i64 (d.s.W : Int), .int .i64 (d.s.H : Int), .slice dA d.s.nd dc, .slice tA d.s.nt tc, .slice sA d.s.nt sc, .slice zA d.s.nd zc, .slice cA d.nz cc, .slice wA (d.s.nt - 1) wc, .map (some m1), .map (some m2)] T' W := by
  obtain ⟨t1, t2, t3, t4⟩ := h.t
  refine ⟨h.box, h.rd, h.cl, h.b, ⟨hT _ t1, hT _ t2, hT _ t3, hT'⟩, h.way, h.near, ?_⟩
  obtain ⟨v, h1, h2⟩ := h.steps
  refine ⟨v, h1, fun i y hy => ?_⟩
  obtain ⟨g, c, e1, e2⟩ := h2 i y hy
  exact ⟨g, c, hT _ e1, e2⟩
theorem step_store (h : SeaM d zA cA wA dA tA sA cl B P m1 m2 #[.int .i64 (d.s.W : Int), .int .i64 (d.s.H : Int), .slice dA d.s.nd dc, .slice tA d.s.nt tc, .slice sA d.s.nt sc, .slice zA d.s.nd zc, .slice cA d.nz cc, .slice wA (d.s.nt - 1) wc, .map (some m1), .map (some m2)] T W) (hm : MemoM W Tryz.prog 96 sliceR m1 77760 stepV v) (hv : ∀ i y, v i = some y → StepE d B T W i y) {c t l : Nat} (hc : c < 144) (ht : t < 60) (hl : l < 9) (hn : v (stepI c t l) = none) {g cp : Nat}
    (hL : IL W B (.slice (some ⟨g, 0, none⟩) (M.stepL d t l c).length cp) (M.stepL d t l c)) :
    ∃ W', (Instr.mapUpdate 127 (.map (some m1)) (.agg #[.int .i64 (c : Int), .int .i64 (t : Int), .int .i64 (l : Int)]) (.slice (some ⟨g, 0, none⟩) (M.stepL d t l c).length cp)).run Tryz.prog W = .ok () W' ∧ SeaM d zA cA wA dA tA sA cl B P m1 m2 #[.int .i64 (d.s.W : Int), .int .i64 (d.s.H : Int), .slice dA d.s.nd dc, .slice tA d.s.nt tc, .slice sA d.s.nt sc, .slice zA d.s.nd zc, .slice cA d.nz cc, .slice wA (d.s.nt - 1) wc, .map (some m1), .map (some m2)] (fun k => T k ∨ k = g) W' ∧ W.grownBy W' (some m1) ∧
      ∀ n, (Instr.lookup 127 (.map (some m1)) (.agg #[.int .i64 (c : Int), .int .i64 (t : Int), .int .i64 (l : Int)]) false).run Tryz.prog (W'.drewN n) = .ok (.slice (some ⟨g, 0, none⟩) (M.stepL d t l c).length cp) (W'.drewN n) := by
  have hlt := stepI_lt hc ht hl
  obtain ⟨e1, e2, e3⟩ := stepI_parts (c := c) ht hl
  obtain ⟨W', hrun, h1, h2⟩ := hm.store stepsK stepsT (by unfold maxLen; omega) hlt (fun j hj => step_key j hj) (fun j _ e => stepV_inj e) hn (x := .slice (some ⟨g, 0, none⟩) (M.stepL d t l c).length cp) (sliceR_mk g _ cp)
  rw [stepV_at ht hl] at hrun
  have hgB := Own.block hL (g := g) rfl
  refine ⟨W', hrun, h.mv1 h2 (fun k hk => .inl hk) (fun k hk => ?_) h1 (fun i y hy => ?_), h2, fun n => ?_⟩
  · rcases hk with hk | rfl
    · exact h.t.2.2.2 k hk
    · exact hgB
  · by_cases e : i = stepI c t l
    · simp only [e, if_true, Option.some.injEq] at hy
      subst e
      refine ⟨g, cp, .inr rfl, ?_, ?_⟩
      · rw [e1, e2, e3]; exact hy.symm
      · rw [e1, e2, e3]; exact hL
    · simp only [e, if_false] at hy
      obtain ⟨g', c', k1, k2, k3⟩ := hv i y hy
      exact ⟨g', c', .inl k1, k2, k3⟩
  · obtain ⟨x, ps, hrun2, hx⟩ := (h1.kept (W' := W'.drewN n) (below_grown ((Below.refl _ W').drewN n) none) (by simp)).look1 stepsK stepsT (stepsZ _) sliceR_nil hlt (step_key _ hlt) (y := encS g (M.stepL d t l c).length cp) (by simp only [if_true])
    rw [stepV_at ht hl] at hrun2
    rw [hrun2, sliceR_inv hx]
end
end Go.Proofs.YtnbeembnnjdmdaaGreatDoor
