/- Appeal. -/
import Derived.Test.YtaljmlkapbojeaaDoorY2
import Derived.Test.YtaljmlkapbojeaaDoorStill
namespace Go.Proofs.YtaljmlkapbojeaaDoor
open Go.RowKit Go.Shelf

attribute [local go_sem] Oper.semAt_some

set_option maxHeartbeats 1000000 in
theorem appeal_bad (r le : Int) (A : Option Addr) (n c B : Nat) (m : Nat → Nat → Int) (w : World) (hn : n ≤ maxLen) (hR : Rd w B A 4 n m) (hB : B ≤ w.heap.size) (hok : M.okY r le n m = false) :
    Calls Tryd.prog 24 #[.agg #[.int .i64 r, .int .i64 le, .slice A n c]] w fun e w' => e = .returned (.tuple #[.int .i64 0, .int .i64 0, .int .i64 111]) ∧ Below w.heap.size w w' := by
  have hk : M.chkY r le n m = 111 := by simp [M.chkY, hok]
  refine (callsIn_wide (n := 4)).1 ?_
  refine callsIn_of_wp_marks Tryd.func24 rfl trivial ?_ rfl
  simp only [Tryd.ntmps24, List.size_toArray, List.length_cons, List.length_nil, Nat.reduceAdd, Nat.reduceSub, Array.replicate_succ, Array.replicate_zero, List.push_toArray, List.append_toArray, List.nil_append, List.cons_append]
  gi_wp2_with (refine ⟨trivial, ?_⟩; gi_at_call 43; refine (callsIn_wide.2 (checkYear_any _ _ _ _ _ B _ _ hn (by exact hR.below ((belowAlloc3 _ _ _ _).mono hB)) (by simp; omega))).mono ?_; rw [hk]; rintro e w1 ⟨rfl, hb1⟩; obtain ⟨hc, hf⟩ := bcell hb1; have HB1 := Lib.hid hb1; clear hb1)
  refine ⟨.tuple #[.int .i64 0, .int .i64 0, .int .i64 111], ?_, rfl, ?_⟩
  · simp [results, Tryd.f24, go_sem, hc]
  · exact ((((belowAlloc3 _ _ _ _).trans (HB1.out.mono (by simp; omega))).setCell (by simp) _).setCell (by simp; omega) _)

/-- what the rounds gather -/
def onceL {n : Nat} (o : Nat → Int) (l : List (Fin n)) : Int := l.foldl (fun s x => max s (M.lackOf o x.1)) 0
def monL {n : Nat} (o : Nat → Int) (l : List (Fin n)) : Int := l.foldl (fun s x => max s ((M.lackOf o x.1 + x.1) / (x.1 + 1))) 0
theorem onceL_snoc {n : Nat} (o : Nat → Int) (l : List (Fin n)) (x : Fin n) : onceL o (l ++ [x]) = max (onceL o l) (M.lackOf o x.1) := by simp [onceL]
theorem monL_snoc {n : Nat} (o : Nat → Int) (l : List (Fin n)) (x : Fin n) : monL o (l ++ [x]) = max (monL o l) ((M.lackOf o x.1 + x.1) / (x.1 + 1)) := by simp [monL]
theorem onceL_upto {n : Nat} (o : Nat → Int) : ∀ k, k ≤ n → onceL o (upto n k) = M.onceTo o k
  | 0, _ => by simp [upto, onceL, M.onceTo]
  | k + 1, h => by rw [upto_succ (by omega), onceL_snoc, onceL_upto o k (by omega)]; rfl
theorem monL_upto {n : Nat} (o : Nat → Int) : ∀ k, k ≤ n → monL o (upto n k) = M.monTo o k
  | 0, _ => by simp [upto, monL, M.monTo]
  | k + 1, h => by rw [upto_succ (by omega), monL_snoc, monL_upto o k (by omega)]; rfl

set_option maxRecDepth 100000 in
set_option maxHeartbeats 4000000 in
theorem appeal_ok (r le : Int) (A : Option Addr) (n c B : Nat) (m : Nat → Nat → Int) (w : World) (hR : Rd w B A 4 n m) (hB : B ≤ w.heap.size) (hok : M.okY r le n m = true) :
    Calls Tryd.prog 24 #[.agg #[.int .i64 r, .int .i64 le, .slice A n c]] w fun e w' =>
      e = .returned (.tuple #[.int .i64 (M.onceTo (M.over (r - le) (M.worst m)) n), .int .i64 (M.monTo (M.over (r - le) (M.worst m)) n), .int .i64 0]) ∧ Below w.heap.size w w' := by
  have hk : M.chkY r le n m = 0 := by simp [M.chkY, hok]
  have ok := M.okY_iff.1 hok
  have hn := ok.2.2.2.2.1
  have hm := ok.2.2.2.2.2
  obtain ⟨ov, hov⟩ : ∃ ov, ov = M.over (r - le) (M.worst m) := ⟨_, rfl⟩
  rw [← hov]
  have HOV := Lib.hid hov
  clear hov
  refine (callsIn_wide (n := 4)).1 ?_
  refine callsIn_of_wp_marks Tryd.func24 rfl trivial ?_ rfl
  simp only [Tryd.ntmps24, List.size_toArray, List.length_cons, List.length_nil, Nat.reduceAdd, Nat.reduceSub, Array.replicate_succ, Array.replicate_zero, List.push_toArray, List.append_toArray, List.nil_append, List.cons_append]
  have HM := Lib.hid hm
  have HK := Lib.hid hk
  clear hm hk
  gi_wp2_with (refine ⟨trivial, ?_⟩; gi_at_call 43; refine (callsIn_wide.2 (checkYear_any _ _ _ _ _ B _ _ (by unfold maxLen; omega) (by exact hR.below ((belowAlloc3 _ _ _ _).mono hB)) (by simp; omega))).mono ?_; rw [HK.out]; rintro e w1 ⟨rfl, hb1⟩; obtain ⟨hc, hf⟩ := bcell hb1; have HB1 := Lib.hid hb1; clear hb1)
  refine ⟨trivial, ?_⟩
  refine (callsIn_wide.2 (reserves_in false r le A n c w1)).mono ?_
  rintro e w2 ⟨rfl, hw2⟩
  have hW1 : Below w.heap.size w w1 := (belowAlloc3 _ _ _ _).trans (HB1.out.mono (by simp; omega))
  have hs1 : w.heap.size + 3 ≤ w1.heap.size := by have := HB1.out.size; simpa using this
  have K1 := (((Blk.new1 w (.cells #[.int .i64 r, .int .i64 le, .slice A n c] 58) 3 #[.int .i64 0]).alloc (.cells #[.int .i64 0] 3)).below HB1.out (by simp))
  have K2 := ((Blk.new2 w (.cells #[.int .i64 r, .int .i64 le, .slice A n c] 58) (.cells #[.int .i64 0] 3) 3 #[.int .i64 0]).below HB1.out (by simp))
  clear hc hf HB1
  have r2 : Rd w2 B A 4 n m := by rw [← hw2]; exact hR.below ((hW1.alloc (by omega) _ |>.alloc (by simp; omega) _).mono hB)
  have W2 : Below w.heap.size w w2 := by rw [← hw2]; exact (hW1.alloc (by omega) _).alloc (by simp; omega) _
  have z2 : w2.heap.size = w1.heap.size + 2 := by rw [← hw2]; simp
  have y0 : w2.cell? ⟨w1.heap.size, 0, none⟩ = some (.int .i64 r) := by rw [← hw2]; simp
  have y1 : w2.cell? ⟨w1.heap.size, 1, none⟩ = some (.int .i64 le) := by rw [← hw2]; simp
  have y2 : w2.cell? ⟨w1.heap.size, 2, none⟩ = some (.slice A n c) := by rw [← hw2]; simp
  have yg : w2.cell? ⟨w1.heap.size + 1, 0, none⟩ = some (.func (.func (gOf false)) #[] #[]) := by rw [← hw2]; simp
  have b12 : Below w1.heap.size w1 w2 := by rw [← hw2]; exact belowAlloc2 _ _ _
  have o2 : w2.cell? ⟨w.heap.size + 1, 0, none⟩ = some (.int .i64 0) := (K1.below b12 K1.lt).cell 0
  have p2 : w2.cell? ⟨w.heap.size + 1 + 1, 0, none⟩ = some (.int .i64 0) := (K2.below b12 K2.lt).cell 0
  have o3 : w2.frozen? ⟨w.heap.size + 1, 0, none⟩ = false := (K1.below b12 K1.lt).frz 0
  have p3 : w2.frozen? ⟨w.heap.size + 1 + 1, 0, none⟩ = false := (K2.below b12 K2.lt).frz 0
  clear hw2 hW1 K1 K2 b12
  have hbd : ∀ k, k < n → -70000000 ≤ ov k ∧ ov k ≤ 70000000 := fun k hk => by
    have := M.sumTo_bd2 (n := k + 1) (f := M.worst m) (c := 1000000) fun i hi => by have := HM.out i (by omega); unfold M.worst; omega
    rw [HOV.out]; unfold M.over; omega
  have HBD := Lib.hid hbd
  have hst := reserves_stops false w1.heap.size (w1.heap.size + 1) B r le A n c m hn HM.out (by omega) w2 (by omega) (by omega) (by omega) y0 y1 y2 yg r2
  have ed : dOf false m = M.worst m := rfl
  rw [ed, ← HOV.out] at hst
  have HST := Lib.hid hst
  clear hbd hst ed y0 y1 y2 yg r2
  gi_wp2_with fail
  refine wpIn_rangeFunc_ownF (w := w2) rfl (by omega) (gf := 55) (lb := #[.pointer (some ⟨w1.heap.size, 0, none⟩), .pointer (some ⟨w1.heap.size + 1, 0, none⟩)]) rfl trivial (enters_of Tryd.func55 (by kernel_rfl) rfl)
    HST.out (fun h k => h.trans k) (KeepG.put (by omega) (by omega)) (Below.refl _ _) (fun _ => rfl)
    (fun pre W => (W.cell? ⟨w.heap.size + 1, 0, none⟩ = some (.int .i64 (onceL ov pre)) ∧ W.frozen? ⟨w.heap.size + 1, 0, none⟩ = false ∧ W.cell? ⟨w.heap.size + 1 + 1, 0, none⟩ = some (.int .i64 (monL ov pre)) ∧ W.frozen? ⟨w.heap.size + 1 + 1, 0, none⟩ = false) ∧ Below w.heap.size w W)
    (fun _ _ _ => False)
    (OwnFrom.and (_root_.Go.Own.from (fun s A B row hs hg hr => ⟨cell_kept hs.1 hg hr, (frozen_kept hs.1 hg hr).trans hs.2.1, cell_kept hs.2.2.1 hg hr, (frozen_kept hs.2.2.1 hg hr).trans hs.2.2.2⟩) _) (ownFrom_below (Nat.le_refl _) (by omega)))
    (fun _ _ _ _ _ hs _ _ => hs)
    ⟨⟨o2, o3, p2, p3⟩, W2⟩
    (fun x => { tmps := #[.agg #[.int .i64 r, .int .i64 le, .slice A n c], .pointer (some ⟨w.heap.size, 0, none⟩), .pointer (some ⟨w.heap.size + 1, 0, none⟩), .pointer (some ⟨w.heap.size + 1 + 1, 0, none⟩), .int .i64 0, .int .i64 0, .int .i64 (x.1 : Int), .int .i64 (ov x.1), undef,
      .agg #[.int .i64 r, .int .i64 le, .slice A n c], .int .i64 0, .int .i64 0, .bool false, undef, .agg #[.int .i64 r, .int .i64 le, .slice A n c], .func (.func 55) #[] #[.pointer (some ⟨w1.heap.size, 0, none⟩), .pointer (some ⟨w1.heap.size + 1, 0, none⟩)], .int .i64 (x.1 : Int), .int .i64 (ov x.1), undef, undef, undef, undef, undef, undef, undef, undef, undef, undef, undef, undef, undef, undef, undef, undef], defers := [] }) ?assign ?body ?done ?stop
  case assign =>
    intro l x W K hK
    gi_wp2
    exact hK
  case body =>
    rintro l pre x W ⟨⟨c1, c2, c3, c4⟩, hB1⟩ _
    have hx := x.2
    have hb := HBD.out x.1 hx
    have e1 : IntKind.i64.wrap ((x.1 : Int) + 1) = (x.1 : Int) + 1 := by rw [IntKind.wrap_i64]; omega
    have e2 : IntKind.i64.wrap (max 0 (-ov x.1) + (x.1 : Int)) = max 0 (-ov x.1) + (x.1 : Int) := by rw [IntKind.wrap_i64]; omega
    have hq : ∀ W : World, (Op.intDiv .quo .i64 (max 0 (-ov x.1) + (x.1 : Int)) ((x.1 : Int) + 1)).run Tryd.prog W = .ok (.int .i64 ((max 0 (-ov x.1) + (x.1 : Int)) / ((x.1 : Int) + 1))) W := fun _ => run_quo _ _ ⟨by omega, by omega, by omega⟩
    gi_wp2
    refine wpIn_region_still_tail 8 (by kernel_rfl) (by kernel_rfl) (by kernel_rfl) ?_
    simp only [List.take_succ_cons, List.take_zero, List.drop_succ_cons, List.drop_zero]
    still_step
    still_step
    still_step
    still_step
    still_step
    still_step
    refine wpStill_step (fun K hK => ?_)
    go_simp
    refine ⟨rfl, hK _ ?_⟩
    clear hK K hq
    repeat still_step
    try refine wpStill_nil ?_
    gi_wp2
    have q1 : (W.setCell ⟨w.heap.size + 1, 0, none⟩ (.int .i64 (max (onceL ov pre) (max 0 (-ov x.1))))).cell? ⟨w.heap.size + 1, 0, none⟩ = some (.int .i64 (max (onceL ov pre) (max 0 (-ov x.1)))) := World.cell?_setCell_same' _ _ _ (by rw [c1]; rfl)
    have q2 : (W.setCell ⟨w.heap.size + 1, 0, none⟩ (.int .i64 (max (onceL ov pre) (max 0 (-ov x.1))))).cell? ⟨w.heap.size + 1 + 1, 0, none⟩ = some (.int .i64 (monL ov pre)) := by
      rw [World.cell?_setCell_other _ _ _ _ (by simp)]; exact c3
    refine ⟨(((KeepsOthers.setCell _ _ _).trans (KeepsOthers.drew _)).trans (KeepsOthers.setCell _ _ _)), ?_, ⟨?_, ?_, ?_, ?_⟩, ?_⟩
    · exact ((KeepG.refl B (w1.heap.size + 1) W).set_ (p := ⟨w.heap.size + 1, 0, none⟩) (by simp; omega) _ |>.set_ (p := ⟨w.heap.size + 1 + 1, 0, none⟩) (by simp; omega) _)
    · rw [World.cell?_drew, World.cell?_setCell_other _ _ _ _ (by simp), q1, onceL_snoc]; rfl
    · rw [World.frozen?_drew, World.frozen?_setCell, World.frozen?_setCell]; exact c2
    · rw [World.cell?_drew, World.cell?_setCell_same' _ _ _ (by rw [q2]; rfl), monL_snoc]; rfl
    · rw [World.frozen?_drew, World.frozen?_setCell, World.frozen?_setCell]; exact c4
    · exact ((hB1.setCell (p := ⟨w.heap.size + 1, 0, none⟩) (by simp) _).setCell (p := ⟨w.heap.size + 1 + 1, 0, none⟩) (by simp; omega) _).drew
  case done =>
    rintro D ys W hD rfl ⟨⟨c1, c2, c3, c4⟩, hB1⟩ hK
    gi_wp2
    refine wpIn_wide.2 ?_
    have c3' : (W.setCell ⟨w.heap.size + 1, 0, none⟩ (.int .i64 (onceL ov (upto n n)))).cell? ⟨w.heap.size + 1 + 1, 0, none⟩ = some (.int .i64 (monL ov (upto n n))) := by
      rw [World.cell?_setCell_other _ _ _ _ (by simp)]; exact c3
    go_region
    gi_wp2
    have hKO : KeepsOthers W (((W.setCell ⟨w.heap.size + 1, 0, none⟩ (.int .i64 (onceL ov (upto n n)))).setCell ⟨w.heap.size + 1 + 1, 0, none⟩ (.int .i64 (monL ov (upto n n)))).drew) := ((KeepsOthers.setCell _ _ _).trans (KeepsOthers.setCell _ _ _)).trans (KeepsOthers.drew _)
    have hB' : Below w.heap.size w (((W.setCell ⟨w.heap.size + 1, 0, none⟩ (.int .i64 (onceL ov (upto n n)))).setCell ⟨w.heap.size + 1 + 1, 0, none⟩ (.int .i64 (monL ov (upto n n)))).drew) := ((hB1.setCell (p := ⟨w.heap.size + 1, 0, none⟩) (by simp) _).setCell (p := ⟨w.heap.size + 1 + 1, 0, none⟩) (by simp; omega) _).drew
    have d1 : (((W.setCell ⟨w.heap.size + 1, 0, none⟩ (.int .i64 (onceL ov (upto n n)))).setCell ⟨w.heap.size + 1 + 1, 0, none⟩ (.int .i64 (monL ov (upto n n)))).drew).cell? ⟨w.heap.size + 1, 0, none⟩ = some (.int .i64 (onceL ov (upto n n))) := by
      rw [World.cell?_drew, World.cell?_setCell_other _ _ _ _ (by simp), World.cell?_setCell_same' _ _ _ (by rw [c1]; rfl)]
    have d2 : (((W.setCell ⟨w.heap.size + 1, 0, none⟩ (.int .i64 (onceL ov (upto n n)))).setCell ⟨w.heap.size + 1 + 1, 0, none⟩ (.int .i64 (monL ov (upto n n)))).drew).cell? ⟨w.heap.size + 1 + 1, 0, none⟩ = some (.int .i64 (monL ov (upto n n))) := by
      rw [World.cell?_drew, World.cell?_setCell_same' _ _ _ (by rw [c3']; rfl)]
    generalize ((W.setCell ⟨w.heap.size + 1, 0, none⟩ (.int .i64 (onceL ov (upto n n)))).setCell ⟨w.heap.size + 1 + 1, 0, none⟩ (.int .i64 (monL ov (upto n n)))).drew = W' at *
    have hK' := hKO.same D _ hK rfl
    refine ⟨by simp, .inl ⟨_, _, rfl, run_takeDeferred hK', ?_⟩⟩
    have g1 := cell_kept d1 (grownBy_putObj' _ D (.deferred none)) (fun r e => by cases e; exact ⟨_, hK', rfl⟩)
    have g2 := cell_kept d2 (grownBy_putObj' _ D (.deferred none)) (fun r e => by cases e; exact ⟨_, hK', rfl⟩)
    refine ⟨.tuple #[.int .i64 (M.onceTo ov n), .int .i64 (M.monTo ov n), .int .i64 0], ?_, rfl, hB'.trans (belowK_b (w := w) (Nat.le_refl _) _ D _ _ (by omega) hK' rfl rfl)⟩
    rw [← onceL_upto ov n (Nat.le_refl _), ← monL_upto ov n (Nat.le_refl _)]
    simp [results, Tryd.f24, go_sem, g1, g2]
  case stop =>
    rintro D c pre W _ _ h _
    exact h.elim
end Go.Proofs.YtaljmlkapbojeaaDoor
