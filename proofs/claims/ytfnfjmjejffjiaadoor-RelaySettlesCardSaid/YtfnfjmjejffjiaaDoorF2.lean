/- The reference's Copy. -/
import Derived.Test.YtfnfjmjejffjiaaDoorF1
namespace Go.Proofs.YtfnfjmjejffjiaaDoor
open Go.RowKit

theorem blk_dr' {W : World} {g : Nat} {t : TypeId} {cs : Array Value} (h : Blk W g t cs) : Blk W.drew g t cs := h
set_option maxRecDepth 100000 in
set_option maxHeartbeats 6400000 in
theorem rcopy_any (n base : Nat) (s : M.St) (v : Value) (w : World) (hv : CallV n s base v w) (hn : n ≤ 4) (hk6 : s.k ≤ 6) :
    Calls Tryd.prog 22 #[v] w fun e w' => (∃ v', e = .returned v' ∧ CallV n s w.heap.size v' w') ∧ Below w.heap.size w w' := by
  obtain ⟨gA, gc, bA, bc, rfl, o1, o2⟩ := hv
  obtain ⟨gi, hi, hz0, hz1, hz2⟩ := info_parts cen_info
  obtain ⟨bi, ki, kz0, kz1, kz2⟩ := info_parts msg_info3
  have GI := Lib.hid (And.intro hi (And.intro hz0 (And.intro hz1 hz2)))
  have BI := Lib.hid (And.intro ki (And.intro kz0 (And.intro kz1 kz2)))
  have RC := Lib.hid o1.rdI
  have RM := Lib.hid o2.rdI
  clear hi hz0 hz1 hz2 ki kz0 kz1 kz2 o1 o2
  go_enter Tryd.func22, Tryd.ntmps22
  go_wp2_with fail
  go_region_held3 (fun w' => w'.cell? ⟨w.heap.size, 0, none⟩ = some (.slice gA n gc) ∧ w'.cell? ⟨w.heap.size, 1, none⟩ = some (.slice bA s.k bc) ∧ Below w.heap.size w w' ∧ w.heap.size + 1 + 1 ≤ w'.heap.size ∧
      w'.cell? ⟨w.heap.size + 1, 0, none⟩ = some (cur w' ⟨w.heap.size + 1, 0, none⟩) ∧ w'.cell? ⟨w.heap.size + 1, 1, none⟩ = some (cur w' ⟨w.heap.size + 1, 1, none⟩) ∧ w'.frozen? ⟨w.heap.size + 1, 0, none⟩ = false ∧ w'.frozen? ⟨w.heap.size + 1, 1, none⟩ = false)
    (first
      | assumption
      | exact Kept0.start
      | exact Kept0.alloc_drew (w := w) (by assumption)
      | exact Kept0.alloc (w := w) (by assumption) _
      | exact Kept0.store (w := w) (by assumption) _ _
      | exact Kept0.keep (w := w) (by assumption) hbx
      | fail)
    (first
      | (refine step_copy (by rfl) (.tmp 3) (.tmp 5) 28 (by rfl) 51 gi _ 3 24 Tryd.underlying28 GI.out.1 GI.out.2.1 GI.out.2.2.1 GI.out.2.2.2 rfl (by omega) (by omega) (by rfl) (by first | exact Blk.new _ _ _ | exact Blk.new2 _ _ _ _ _ | exact (Blk.new2 _ _ _ _ _).alloc _ | exact Blk.new3 _ _ _ _ _ _ | exact Blk.below (Blk.new3 _ _ _ _ _ _ : Blk (World.drew _) _ _ _) hbx (by simp) | fail) (F := ints2 s.c) (fun _ _ => rfl) (by rfl) (RC.out.below (by go_split_ands; assumption)).v (by omega) ?_; intro A1 c1 w1 ho1 hbx)
      | (refine step_copy (by rfl) (.tmp 7) (.tmp 9) 29 (by rfl) 54 bi _ 4 32 Tryd.underlying29 BI.out.1 BI.out.2.1 BI.out.2.2.1 BI.out.2.2.2 rfl (by omega) (by omega) (by rfl) (by first | exact Blk.new _ _ _ | exact Blk.new2 _ _ _ _ _ | exact (Blk.new2 _ _ _ _ _).alloc _ | exact Blk.new3 _ _ _ _ _ _ | exact (blk_dr'  (Blk.new3 _ _ _ _ _ _)).below hbx (by simp) | exact (blk_dr' ((Blk.new2 _ _ _ _ _).alloc _)).below hbx (by simp) | fail) (F := ints2 s.m) (fun _ _ => rfl) (by rfl) (RM.out.below (by go_split_ands; assumption)).v (by omega) ?_; intro A2 c2 w2 ho2 hbx))
  all_goals
    go_split_ands
    rename_i e1 e2 e3 e4 e5 e6 e7 e8
    obtain ⟨q0, q1⟩ := st_two e5 e6
    clear e1 e2 e4 e5 e6 e7 e8 GI BI RC RM
    go_wp2
    refine bodyPost_ret (v := .agg #[.slice A1 n c1, .slice A2 s.k c2]) ?_ rfl ⟨⟨_, rfl, _, _, _, _, rfl, ?_, ?_⟩, e3⟩
    · simp [results, Tryd.results22, go_sem, q0, q1]
    · refine ((Own.setCell (Own.setCell (Own.below ?_ hbx) ?_ _) ?_ _))
      · first | exact ho1.less (by omega) | exact (ho1.alloc _).less (by omega)
      · intro e; have h := (ho1.block e).1; dsimp only at h; omega
      · intro e; have h := (ho1.block e).1; dsimp only at h; omega
    · have hs1 : w.heap.size + 1 + 1 ≤ w1.heap.size := by
        have h := Below.size ‹Below _ _ w1›
        simp at h; omega
      refine ((Own.setCell (Own.setCell (ho2.less ?_) ?_ _) ?_ _))
      · omega
      · intro e; have h := (ho2.block e).1; dsimp only at h; omega
      · intro e; have h := (ho2.block e).1; dsimp only at h; omega
end Go.Proofs.YtfnfjmjejffjiaaDoor
/- The reference's without. -/
namespace Go.Proofs.YtfnfjmjejffjiaaDoor
open Go.RowKit

set_option maxRecDepth 100000 in
set_option maxHeartbeats 3200000 in
theorem without_any (g k c a B : Nat) (s : M.St) (w : World) (ha : a < k) (hk : k = s.k) (hk6 : k ≤ 6) (hc : k ≤ c) (hR : Rd w B (some ⟨g, 0, none⟩) 4 k s.m) (hB : B ≤ w.heap.size) (hg : g < B) :
    Calls Tryd.prog 24 #[.slice (some ⟨g, 0, none⟩) k c, .int .i64 (a : Int)] w (OwnV 54 4 (k - 1) (ints2 (M.drop s a).m) w) := by
  have HR := Lib.hid (fun W (hb : Below w.heap.size w W) => hR.below (hb.mono hB))
  obtain ⟨si, hi, hz0, hz1, hz2⟩ := info_parts msg_info3
  have SI := Lib.hid (And.intro hi (And.intro hz0 (And.intro hz1 hz2)))
  have x1 := slice_rest g k c a ha
  have x2 := slice_head g k c a (by omega)
  have HK := Lib.hid hk
  have i1 : (0 : Int) ≤ (a : Int) := by omega
  have i2 : (a : Int) + 1 ≤ (k : Int) := by omega
  have i3 : (a : Int) ≤ (c : Int) := by omega
  have i4 : IntKind.i64.wrap ((a : Int) + 1) = (a : Int) + 1 := by rw [IntKind.wrap_i64]; omega
  clear hi hz0 hz1 hz2 hR hk
  go_enter Tryd.func24, Tryd.ntmps24
  go_wp2_with fail
  go_region_held3 (fun w' => Below w.heap.size w w' ∧ w.heap.size ≤ w'.heap.size)
    (first
      | assumption
      | exact hS2
      | exact KeptB.start
      | exact KeptB.alloc_drew (by assumption)
      | exact KeptB.alloc (by assumption) _
      | exact KeptB.below (by assumption) hbx
      | fail)
    (first
      | (refine step_copy (by rfl) (.tmp 5) (.tmp 8) 29 (by rfl) 54 si _ 4 32 Tryd.underlying29 SI.out.1 SI.out.2.1 SI.out.2.2.1 SI.out.2.2.2 rfl (by omega) (by omega) (by rfl) (by simp [blk_al, blk_dr]) (F := ints2 s.m) (fun _ _ => rfl) (by rfl) ((HR.out _ (by go_split_ands; assumption)).less (by omega)).v (by omega) ?_; intro A3 d1 w3 ho1 hbx)
      | (refine step_cat (by rfl) (.tmp 9) (.tmp 13) 29 (by rfl) 54 si _ 4 32 Tryd.underlying29 SI.out.1 SI.out.2.1 SI.out.2.2.1 SI.out.2.2.2 rfl (by omega) (by omega) (by rfl) ho1 (by omega) (by have h := (Below.size hbx); simp at h; omega) (G := ints2 fun i => s.m (a + 1 + i)) (fun _ _ => rfl) (by rfl) (rest_rd (HR.out _ (by go_split_ands; assumption)) hc hg).v (by omega) ?_; intro v' w4 ho2 hg2 hat; obtain ⟨A4, d4, rfl⟩ := ho2.form; have hS2 := KeptB.grown (w := w) (by assumption) hg2 (fun q hq => by have h := (ho1.block hq).1; first | omega | (simp at h; omega)))
      | fail)
  have HS2 := Lib.hid hS2
  have HO2 := Lib.hid ho2
  go_split_ands
  go_wp2_with fail
  go_ret
  have e : a + (k - (a + 1)) = k - 1 := by omega
  refine ⟨A4, d4, by rw [e]; rfl, ?_, HS2.out.1⟩
  have h := HO2.out
  rw [e] at h
  refine (h.less (by omega)).congr fun i j hi _ => ?_
  show catF a (ints2 s.m) (ints2 fun i => s.m (a + 1 + i)) i j = .int .i64 ((if i < a then s.m i else if i + 1 < s.k then s.m (i + 1) else fun _ => 0) j)
  have hk := HK.out
  unfold catF
  by_cases hia : i < a
  · rw [if_pos hia, if_pos hia]
  · rw [if_neg hia, if_neg hia, if_pos (by omega)]
    show Value.int .i64 (s.m (a + 1 + (i - a)) j) = _
    rw [show a + 1 + (i - a) = i + 1 by omega]
end Go.Proofs.YtfnfjmjejffjiaaDoor
