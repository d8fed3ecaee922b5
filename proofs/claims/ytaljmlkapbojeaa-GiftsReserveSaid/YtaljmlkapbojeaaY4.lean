/- gifts.lasts, gifts.Lasts. -/
import Derived.Test.YtaljmlkapbojeaaY3
import Derived.Test.YtaljmlkapbojeaaSeq
namespace Go.Proofs.Ytaljmlkapbojeaa
open Go.RowKit Go.Shelf

attribute [local go_sem] Oper.semAt_some

theorem mem_upto {n : Nat} {x : Fin n} : ∀ k, k ≤ n → (x ∈ upto n k ↔ x.1 < k)
  | 0, _ => by simp [upto]
  | k + 1, h => by
    rw [upto_succ (by omega), List.mem_append, mem_upto k (by omega)]
    simp only [List.mem_singleton, Fin.ext_iff]
    omega
theorem dOf_bd {best : Bool} {n : Nat} {m : Nat → Nat → Int} (hm : ∀ i, i < n → 0 ≤ m i 0 ∧ m i 0 ≤ m i 1 ∧ m i 1 ≤ 1000000 ∧ 0 ≤ m i 2 ∧ m i 2 ≤ m i 3 ∧ m i 3 ≤ 1000000) : ∀ i, i < n → -1000000 ≤ dOf best m i ∧ dOf best m i ≤ 1000000 := fun i hi => by
  have := hm i hi
  cases best
  · show -1000000 ≤ M.worst m i ∧ _; unfold M.worst; show _ ∧ M.worst m i ≤ _; unfold M.worst; omega
  · show -1000000 ≤ M.best m i ∧ _; unfold M.best; show _ ∧ M.best m i ≤ _; unfold M.best; omega

set_option maxRecDepth 100000 in
set_option maxHeartbeats 4000000 in
theorem lasts_any (best : Bool) (r le : Int) (A : Option Addr) (n c B : Nat) (m : Nat → Nat → Int) (w : World) (hR : Rd w B A 4 n m) (hB : B ≤ w.heap.size) (hok : M.okY r le n m = true) :
    Calls Try.prog 36 #[.agg #[.int .i64 r, .int .i64 le, .slice A n c], .func (.func (gOf best)) #[] #[]] w fun e w' => e = .returned (.int .i64 (M.lastTo (M.over (r - le) (dOf best m)) n : Nat)) ∧ Below w.heap.size w w' := by
  have ok := M.okY_iff.1 hok
  have hn := ok.2.2.2.2.1
  have hm := ok.2.2.2.2.2
  obtain ⟨ov, hov⟩ : ∃ ov, ov = M.over (r - le) (dOf best m) := ⟨_, rfl⟩
  rw [← hov]
  have HOV := Lib.hid hov
  clear hov
  refine (callsIn_wide (n := 4)).1 ?_
  refine callsIn_of_wp_marks Try.func36 rfl trivial ?_ rfl
  simp only [Try.ntmps36, List.size_toArray, List.length_cons, List.length_nil, Nat.reduceAdd, Nat.reduceSub, Array.replicate_succ, Array.replicate_zero, List.push_toArray, List.append_toArray, List.nil_append, List.cons_append]
  have HM := Lib.hid hm
  clear hm
  gi_wp2_with fail
  obtain ⟨w1, hw1⟩ : ∃ w1, w1 = (w.alloc (.cells #[.int .i64 r, .int .i64 le, .slice A n c] 43)).alloc (.cells #[.int .i64 0] 3) := ⟨_, rfl⟩
  rw [← hw1]
  have K1 : Blk w1 (w.heap.size + 1) 3 #[.int .i64 0] := by rw [hw1]; exact Blk.new1 _ _ _ _
  have K0 : Blk w1 w.heap.size 43 #[.int .i64 r, .int .i64 le, .slice A n c] := by rw [hw1]; exact (Blk.new _ _ _).alloc _
  have hW1 : Below w.heap.size w w1 := by rw [hw1]; exact belowAlloc2 _ _ _
  have hs1 : w.heap.size + 2 = w1.heap.size := by rw [hw1]; simp
  clear hw1
  refine ⟨trivial, ?_⟩
  refine (callsIn_wide.2 (reserves_in best r le A n c w1)).mono ?_
  rintro e w2 ⟨rfl, hw2⟩
  have r2 : Rd w2 B A 4 n m := by rw [← hw2]; exact hR.below ((hW1.alloc (by omega) _ |>.alloc (by simp; omega) _).mono hB)
  have W2 : Below w.heap.size w w2 := by rw [← hw2]; exact (hW1.alloc (by omega) _).alloc (by simp; omega) _
  have z2 : w2.heap.size = w1.heap.size + 2 := by rw [← hw2]; simp
  have y0 : w2.cell? ⟨w1.heap.size, 0, none⟩ = some (.int .i64 r) := by rw [← hw2]; simp
  have y1 : w2.cell? ⟨w1.heap.size, 1, none⟩ = some (.int .i64 le) := by rw [← hw2]; simp
  have y2 : w2.cell? ⟨w1.heap.size, 2, none⟩ = some (.slice A n c) := by rw [← hw2]; simp
  have yg : w2.cell? ⟨w1.heap.size + 1, 0, none⟩ = some (.func (.func (gOf best)) #[] #[]) := by rw [← hw2]; simp
  have b12 : Below w1.heap.size w1 w2 := by rw [← hw2]; exact belowAlloc2 _ _ _
  have o2 : w2.cell? ⟨w.heap.size + 1, 0, none⟩ = some (.int .i64 0) := (K1.below b12 K1.lt).cell 0
  have o3 : w2.frozen? ⟨w.heap.size + 1, 0, none⟩ = false := (K1.below b12 K1.lt).frz 0
  have p0 : w2.cell? ⟨w.heap.size, 2, none⟩ = some (.slice A n c) := (K0.below b12 K0.lt).cell 2
  clear hw2 hW1 K1 K0 b12
  have hst := reserves_stops best w1.heap.size (w1.heap.size + 1) B r le A n c m hn HM.out (by omega) w2 (by omega) (by omega) (by omega) y0 y1 y2 yg r2
  rw [← HOV.out] at hst
  have HST := Lib.hid hst
  clear hst y0 y1 y2 yg r2
  gi_wp2_with fail
  refine wpIn_rangeFunc_ownF (w := w2) rfl (by omega) (gf := 58) (lb := #[.pointer (some ⟨w1.heap.size, 0, none⟩), .pointer (some ⟨w1.heap.size + 1, 0, none⟩)]) rfl trivial (enters_of Try.func58 (by kernel_rfl) rfl)
    HST.out (fun h k => h.trans k) (KeepG.put (by omega) (by omega)) (Below.refl _ _) (fun _ => rfl)
    (fun pre W => ((∀ x ∈ pre, 0 ≤ ov x.1) ∧ W.cell? ⟨w.heap.size + 1, 0, none⟩ = some (.int .i64 0) ∧ W.frozen? ⟨w.heap.size + 1, 0, none⟩ = false ∧ W.cell? ⟨w.heap.size, 2, none⟩ = some (.slice A n c)) ∧ Below w.heap.size w W)
    (fun c pre W => (c = .ret ∧ ∃ ini last, pre = ini ++ [last] ∧ (∀ x ∈ ini, 0 ≤ ov x.1) ∧ ov last.1 < 0 ∧ W.cell? ⟨w.heap.size + 1, 0, none⟩ = some (.int .i64 (last.1 : Int))) ∧ Below w.heap.size w W)
    (OwnFrom.and (_root_.Go.Own.from (fun s A B row hs hg hr => ⟨hs.1, cell_kept hs.2.1 hg hr, (frozen_kept hs.2.1 hg hr).trans hs.2.2.1, cell_kept hs.2.2.2 hg hr⟩) _) (ownFrom_below (Nat.le_refl _) (by omega)))
    (fun c => OwnFrom.and (_root_.Go.Own.from (fun s A B row hs hg hr => by obtain ⟨hc, ini, last, e1, e2, e3, e4⟩ := hs; exact ⟨hc, ini, last, e1, e2, e3, cell_kept e4 hg hr⟩) _) (ownFrom_below (Nat.le_refl _) (by omega)))
    ⟨⟨by simp, o2, o3, p0⟩, W2⟩
    (fun x => { tmps := #[.agg #[.int .i64 r, .int .i64 le, .slice A n c], .func (.func (gOf best)) #[] #[], .pointer (some ⟨w.heap.size, 0, none⟩), undef, .pointer (some ⟨w.heap.size + 1, 0, none⟩), .int .i64 (x.1 : Int), .int .i64 (ov x.1),
      .agg #[.int .i64 r, .int .i64 le, .slice A n c], .func (.func (gOf best)) #[] #[], .func (.func 58) #[] #[.pointer (some ⟨w1.heap.size, 0, none⟩), .pointer (some ⟨w1.heap.size + 1, 0, none⟩)], .int .i64 (x.1 : Int), .int .i64 (ov x.1), undef, undef, undef, undef, undef, undef], defers := [] }) ?assign ?body ?done ?stop
  case assign =>
    intro l x W K hK
    gi_wp2
    exact hK
  case body =>
    rintro l pre x W ⟨⟨hp, c1, c2, c3⟩, hB1⟩ _
    by_cases hx : ov x.1 < 0
    · gi_wp2
      refine ⟨KeepsOthers.setCell _ _ _, ⟨rfl, pre, x, rfl, hp, hx, World.cell?_setCell_same' _ _ _ (by rw [c1]; rfl)⟩, hB1.setCell (p := ⟨w.heap.size + 1, 0, none⟩) (by simp) _⟩
    · gi_wp2
      refine ⟨KeepsOthers.refl _, KeepG.refl B (w1.heap.size + 1) W, ⟨fun y hy => ?_, c1, c2, c3⟩, hB1⟩
      rcases List.mem_append.1 hy with hy | hy
      · exact hp y hy
      · simp only [List.mem_singleton] at hy
        subst hy
        omega
  case done =>
    rintro D ys W hD rfl ⟨⟨hp, c1, c2, c3⟩, hB1⟩ hK
    gi_wp2
    have hK' := (KeepsOthers.setCell W ⟨w.heap.size + 1, 0, none⟩ (.int .i64 (n : Int))).same D _ hK rfl
    refine ⟨by simp, .inl ⟨_, _, rfl, run_takeDeferred hK', ?_⟩⟩
    have g1 := cell_kept (World.cell?_setCell_same' W ⟨w.heap.size + 1, 0, none⟩ (.int .i64 (n : Int)) (by rw [c1]; rfl)) (grownBy_putObj' _ D (.deferred none)) (fun r e => by cases e; exact ⟨_, hK', rfl⟩)
    have e : M.lastTo ov n = n := M.lastTo_eq.2 fun i hi => hp ⟨i, hi⟩ ((mem_upto n (Nat.le_refl _)).2 hi)
    rw [e]
    refine ⟨.int .i64 (n : Int), ?_, rfl, (hB1.setCell (p := ⟨w.heap.size + 1, 0, none⟩) (by simp) _).trans (belowK_b (w := w) (Nat.le_refl _) _ D _ _ (by omega) hK' rfl rfl)⟩
    simp [results, Try.f36, go_sem, g1]
  case stop =>
    rintro D c pre W hD ⟨k, hk, rfl⟩ ⟨⟨rfl, ini, last, e1, e2, e3, hcr⟩, hB1⟩ hK
    gi_wp2
    refine ⟨by simp, .inl ⟨_, _, rfl, run_takeDeferred hK, ?_⟩⟩
    have g1 := cell_kept hcr (grownBy_putObj' _ D (.deferred none)) (fun r e => by cases e; exact ⟨_, hK, rfl⟩)
    obtain ⟨k', rfl⟩ : ∃ k', k = k' + 1 := by
      cases k with
      | zero => simp [upto] at e1
      | succ k' => exact ⟨k', rfl⟩
    rw [upto_succ (by omega)] at e1
    obtain ⟨rfl, e5⟩ := List.append_inj' e1 rfl
    have e6 : last.1 = k' := by
      have := congrArg (fun l => l.map Fin.val) e5
      simp at this
      exact this.symm
    have e : M.lastTo ov n = k' := M.lastTo_stop (fun i hi => e2 ⟨i, by omega⟩ ((mem_upto k' (by omega)).2 hi)) (by rw [← e6]; exact e3) n (by omega)
    rw [e]
    refine ⟨.int .i64 (k' : Int), ?_, rfl, hB1.trans (belowK_b (w := w) (Nat.le_refl _) W D _ _ (by omega) hK rfl rfl)⟩
    rw [e6] at g1
    simp [results, Try.f36, go_sem, g1]
end Go.Proofs.Ytaljmlkapbojeaa
