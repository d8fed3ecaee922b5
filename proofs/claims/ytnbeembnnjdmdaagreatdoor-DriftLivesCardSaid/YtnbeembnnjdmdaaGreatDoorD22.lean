/- drift: tracks. -/
import Derived.Test.YtnbeembnnjdmdaaGreatDoorD21
import Derived.Laws.OwnMore
namespace Go.Proofs.YtnbeembnnjdmdaaGreatDoor
open Go.RowKit Go.Maps

attribute [local go_sem] run_store_fn
theorem row_info : (Tryz.prog.info? 22).map (fun i => (i.zero, i.size, i.bytes)) = some (some (.slice none 0 0), 1, 24) := by kernel_rfl
theorem mk_rows (n : Nat) (hn : n ≤ 60) (W : World) (z : Int) (hz : z = (n : Int)) : ∃ W', (Instr.makeSlice 62 (.int .i64 z) (.int .i64 z)).run Tryz.prog W = .ok (.slice (some ⟨W.heap.size, 0, none⟩) n n) W' ∧ Own W' W.heap.size 22 1 (.slice (some ⟨W.heap.size, 0, none⟩) n n) n (fun _ _ => Value.slice none 0 0) ∧ W.grownBy W' none ∧ W'.heap.size = W.heap.size + 1 := by
 subst hz
 obtain ⟨i0, h1, h2, h3, h4⟩ := info_parts row_info
 obtain ⟨W', hr, ho, hg⟩ := run_makeSlice_full W.heap.size 62 22 i0 (.slice none 0 0) 1 Tryz.underlying62 h1 h2 h3 .i64 .i64 n (w := W) (by omega) (by rw [h4]; omega) (by unfold maxLen; omega) (Nat.le_refl _)
 have hr2 := run_makeSlice (w := W) 62 22 i0 (.slice none 0 0) Tryz.underlying62 h1 h2 .i64 .i64 (n : Int) (n : Int) (by omega) (Int.le_refl _) (by rw [h3, Int.toNat_natCast]; omega) (by rw [h4]; omega) (by omega)
 have e := hr.symm.trans hr2
 simp only [Result.ok.injEq] at e
 exact ⟨W', hr, own_made ho, hg, by rw [e.2]; simp⟩
section
variable {d : M.Dr} {zA cA wA dA tA sA : Option Addr} {cl : Nat → Nat} {B P m1 m2 dc tc sc zc cc wc : Nat} {T : Nat → Prop} {W W' : World} {hn hc xc ta ln n : Nat} {lo hi ft fc fl : Int} {xL : List Int} {xA hA : Option Addr} {Xs : Nat → SgV} {W0 : World}
set_option maxRecDepth 100000 in
set_option maxHeartbeats 16000000 in
theorem tracks_any (hd : d.Ok) (hM0 : SeaM d zA cA wA dA tA sA cl B P m1 m2 #[.int .i64 (d.s.W : Int), .int .i64 (d.s.H : Int), .slice dA d.s.nd dc, .slice tA d.s.nt tc, .slice sA d.s.nt sc, .slice zA d.s.nd zc, .slice cA d.nz cc, .slice wA (d.s.nt - 1) wc, .map (some m1), .map (some m2)] T W0) (hRS : RdS W0 W0.heap.size hA hn Xs) (hhn : hn ≤ maxLen) (hx1 : xL.Pairwise (· < ·)) (hx2 : ∀ x, x ∈ xL → 0 ≤ x ∧ x < d.s.nd) (hx3 : Rd1 W0 W0.heap.size xA xL.length (fun k => xL.getD k 0)) (hx4 : xL.length ≤ 1048576)
  (hl : ln ≤ 8) (htn : ta + n = d.s.nt) (hn1 : 1 ≤ n) :
  Calls Tryz.prog 103 #[.agg #[.pointer (some ⟨P, 0, none⟩), .int .i64 (ta : Int), .slice xA xL.length xc, .int .i64 lo, .int .i64 hi, .slice hA hn hc], .int .i64 (ln : Int), .agg #[.int .i64 fc, .int .i64 ft, .int .i64 fl]] W0 (TracksR d zA cA wA dA tA sA cl B P m1 m2 dc tc sc zc cc wc T W0 ta n (ln : Int) (fun c => xL.contains c) (trFit Xs hn ta ft fc)) := by
 have h60 := hd.s.t2
 have hnz : (d.s.nt : Int) - 1 - (ta : Int) + 1 = (n : Int) := by omega
 have HD := Lib.hid hd
 have HM0 := Lib.hid hM0
 have HRS := Lib.hid hRS
 have HNZ := Lib.hid hnz
 obtain ⟨Post, hPost⟩ : ∃ Post, Post = TracksR d zA cA wA dA tA sA cl B P m1 m2 dc tc sc zc cc wc T W0 ta n (ln : Int) (fun c => xL.contains c) (trFit Xs hn ta ft fc) := ⟨_, rfl⟩
 rw [← hPost]
 have HPO := Lib.hid hPost
 clear hd hM0 hRS hnz hPost
 go_enter Tryz.func103, Tryz.ntmps103
 go_upto_region 2 with fail
 simp only [Nat.add_assoc, Nat.reduceAdd]
 have H3 := Lib.hid ((((blk_at (W := W0) rfl 105 #[.pointer (some ⟨P, 0, none⟩), .int .i64 (ta : Int), .slice xA xL.length xc, .int .i64 lo, .int .i64 hi, .slice hA hn hc]).alloc (.cells #[.int .i64 (ln : Int)] 3)).alloc (.cells #[.int .i64 fc, .int .i64 ft, .int .i64 fl] 96)).alloc (.cells #[.func (.func 121) #[] #[.pointer (some ⟨W0.heap.size, 0, none⟩), .pointer (some ⟨W0.heap.size + 2, 0, none⟩)]] 114))
 have H4 := Lib.hid (((blk_at (W := W0.alloc (.cells #[.pointer (some ⟨P, 0, none⟩), .int .i64 (ta : Int), .slice xA xL.length xc, .int .i64 lo, .int .i64 hi, .slice hA hn hc] 105)) (size_alloc _ _) 3 #[.int .i64 (ln : Int)]).alloc (.cells #[.int .i64 fc, .int .i64 ft, .int .i64 fl] 96)).alloc (.cells #[.func (.func 121) #[] #[.pointer (some ⟨W0.heap.size, 0, none⟩), .pointer (some ⟨W0.heap.size + 2, 0, none⟩)]] 114))
 have H5 := Lib.hid ((blk_at (W := (W0.alloc (.cells #[.pointer (some ⟨P, 0, none⟩), .int .i64 (ta : Int), .slice xA xL.length xc, .int .i64 lo, .int .i64 hi, .slice hA hn hc] 105)).alloc (.cells #[.int .i64 (ln : Int)] 3)) (n := W0.heap.size + 2) (by simp) 96 #[.int .i64 fc, .int .i64 ft, .int .i64 fl]).alloc (.cells #[.func (.func 121) #[] #[.pointer (some ⟨W0.heap.size, 0, none⟩), .pointer (some ⟨W0.heap.size + 2, 0, none⟩)]] 114))
 have H7 := Lib.hid (blk_at (W := ((W0.alloc (.cells #[.pointer (some ⟨P, 0, none⟩), .int .i64 (ta : Int), .slice xA xL.length xc, .int .i64 lo, .int .i64 hi, .slice hA hn hc] 105)).alloc (.cells #[.int .i64 (ln : Int)] 3)).alloc (.cells #[.int .i64 fc, .int .i64 ft, .int .i64 fl] 96)) (n := W0.heap.size + 3) (by simp) 114 #[.func (.func 121) #[] #[.pointer (some ⟨W0.heap.size, 0, none⟩), .pointer (some ⟨W0.heap.size + 2, 0, none⟩)]])
 have HX := Lib.hid ((belowAlloc3 W0 (.cells #[.pointer (some ⟨P, 0, none⟩), .int .i64 (ta : Int), .slice xA xL.length xc, .int .i64 lo, .int .i64 hi, .slice hA hn hc] 105) (.cells #[.int .i64 (ln : Int)] 3) (.cells #[.int .i64 fc, .int .i64 ft, .int .i64 fl] 96)).alloc (by simp; omega) (.cells #[.func (.func 121) #[] #[.pointer (some ⟨W0.heap.size, 0, none⟩), .pointer (some ⟨W0.heap.size + 2, 0, none⟩)]] 114))
 have hsz : ((((W0.alloc (.cells #[.pointer (some ⟨P, 0, none⟩), .int .i64 (ta : Int), .slice xA xL.length xc, .int .i64 lo, .int .i64 hi, .slice hA hn hc] 105)).alloc (.cells #[.int .i64 (ln : Int)] 3)).alloc (.cells #[.int .i64 fc, .int .i64 ft, .int .i64 fl] 96)).alloc (.cells #[.func (.func 121) #[] #[.pointer (some ⟨W0.heap.size, 0, none⟩), .pointer (some ⟨W0.heap.size + 2, 0, none⟩)]] 114)).heap.size = W0.heap.size + 4 := by simp
 generalize (((W0.alloc (.cells #[.pointer (some ⟨P, 0, none⟩), .int .i64 (ta : Int), .slice xA xL.length xc, .int .i64 lo, .int .i64 hi, .slice hA hn hc] 105)).alloc (.cells #[.int .i64 (ln : Int)] 3)).alloc (.cells #[.int .i64 fc, .int .i64 ft, .int .i64 fl] 96)).alloc (.cells #[.func (.func 121) #[] #[.pointer (some ⟨W0.heap.size, 0, none⟩), .pointer (some ⟨W0.heap.size + 2, 0, none⟩)]] 114) = X at H3 H4 H5 H7 HX hsz ⊢
 have HL := Lib.hid (fun Z (hb : Below X.heap.size X Z) => dlast_any P d.s.nt tc tA Z ((HM0.out.below (HX.out.trans (hb.mono HX.out.size))).box.cell 3) (by unfold maxLen; omega))
 refine wp_nopanic ?_
 refine wp_region_T 10 (fun w' => Below X.heap.size X w') (by kernel_rfl) ((Below.refl _ X).drew) ?_
 intro hS
 refine tkA (i := 0) (v := ?_) rfl (by kernel_rfl) (.inl ⟨by kernel_rfl, ?_⟩) hS ?_
 rotate_left
 · (intro w' hw; obtain ⟨x0, x1⟩ := (H3.out.below' hw).c2; go_simp; try with_reducible rfl)
 try simp only [put_laws]
 refine tkA (i := 1) (v := ?_) rfl (by kernel_rfl) (.inl ⟨by kernel_rfl, ?_⟩) hS ?_
 rotate_left
 · (intro w' hw; obtain ⟨x0, x1⟩ := (H3.out.below' hw).c2; go_simp; try with_reducible rfl)
 try simp only [put_laws]
 refine tkA (i := 3) (v := ?_) rfl (by kernel_rfl) (.inl ⟨by kernel_rfl, ?_⟩) hS ?_
 rotate_left
 · (intro w' hw; obtain ⟨x0, x1⟩ := (H3.out.below' hw).c2; go_simp; try with_reducible rfl)
 try simp only [put_laws]
 refine tkA (i := 4) (v := ?_) rfl (by kernel_rfl) (.inl ⟨by kernel_rfl, ?_⟩) hS ?_
 rotate_left
 · (intro w' hw; obtain ⟨x0, x1⟩ := (H3.out.below' hw).c2; go_simp; try with_reducible rfl)
 try simp only [put_laws]
 refine tkA (i := 5) (v := ?_) rfl (by kernel_rfl) (.inl ⟨by kernel_rfl, ?_⟩) hS ?_
 rotate_left
 · (intro w' hw; obtain ⟨x0, x1⟩ := (H3.out.below' hw).c2; go_simp; try with_reducible rfl)
 try simp only [put_laws]
 refine wpAnyT_two (i := 2) (j := 9) (by kernel_rfl) rfl rfl ?_ ?_
 ·
  intro K' hK'
  go_simp
  refine (HL.out _ hS).mono ?_
  rintro e w9 ⟨rfl, rfl⟩
  refine hK'.out _ _ (.inr hS) ?_
  clear hK' K'
  try simp only [put_laws]
  refine tkA (i := 6) (v := ?_) rfl (by kernel_rfl) (.inl ⟨by kernel_rfl, ?_⟩) hS ?_
  rotate_left
  · (intro w' hw; obtain ⟨x0, x1⟩ := (H3.out.below' hw).c2; have q1 : IntKind.i64.wrap ((d.s.nt : Int) - 1 - (ta : Int)) = (d.s.nt : Int) - 1 - (ta : Int) := (by rw [IntKind.wrap_i64]; omega); have q2 : IntKind.i64.wrap ((d.s.nt : Int) - 1 - (ta : Int) + 1) = (d.s.nt : Int) - 1 - (ta : Int) + 1 := (by rw [IntKind.wrap_i64]; omega); go_simp; try with_reducible rfl)
  try simp only [put_laws]
  refine tkA (i := 7) (v := ?_) rfl (by kernel_rfl) (.inl ⟨by kernel_rfl, ?_⟩) hS ?_
  rotate_left
  · (intro w' hw; obtain ⟨x0, x1⟩ := (H3.out.below' hw).c2; have q1 : IntKind.i64.wrap ((d.s.nt : Int) - 1 - (ta : Int)) = (d.s.nt : Int) - 1 - (ta : Int) := (by rw [IntKind.wrap_i64]; omega); have q2 : IntKind.i64.wrap ((d.s.nt : Int) - 1 - (ta : Int) + 1) = (d.s.nt : Int) - 1 - (ta : Int) + 1 := (by rw [IntKind.wrap_i64]; omega); go_simp; try with_reducible rfl)
  try simp only [put_laws]
  refine wpAnyT_two (i := 8) (j := 9) (by kernel_rfl) rfl rfl ?_ ?_
  ·
   intro K' hK'
   have hnz := HNZ.out
   obtain ⟨yA, hrunA, hownA, hgA, hzA⟩ := mk_rows n (by omega) (X.drew) ((d.s.nt : Int) - 1 - (ta : Int) + 1) hnz
   rw [show (X.drew).heap.size = W0.heap.size + 4 from by simp [hsz]] at hrunA hownA hzA
   have HBA := Lib.hid (grown_below hgA)
   have HOA := Lib.hid hownA
   clear hownA hgA
   clear hnz
   go_simp
   refine hK'.out _ _ (.inr (hS.trans (HBA.out.mono (Nat.le_refl _)))) ?_
   clear hK' K'
   try simp only [put_laws]
   have hS2 := hS.trans (HBA.out.mono (show X.heap.size ≤ X.drew.heap.size from Nat.le_refl _))
   clear hS
   have hS := hS2
   refine wpAnyT_one (i := 9) (by kernel_rfl) rfl ?_
   intro K' hK'
   go_simp
   refine hK'.out _ _ (.inr (hS.alloc hS.size _)) ?_
   clear hK' K'
   try simp only [put_laws]
   refine wpAnyT_one (i := 10) (by kernel_rfl) rfl ?_
   intro K' hK'
   go_simp
   refine hK'.out _ _ (.inl rfl) ?_
   clear hK' K'
   try simp only [put_laws]
   refine wpAnyT_done (by kernel_rfl) ?_ _
   refine ⟨fun x e => (by cases e), ?_⟩
   have HBF := Lib.hid (show Below X.heap.size X (yA.alloc (.cells #[.slice (some ⟨W0.heap.size + 4, 0, none⟩) n n] 62)) from ((Below.refl _ X).drew.trans HBA.out).alloc (show X.heap.size ≤ yA.heap.size by omega) _)
   have HK8 := Lib.hid (show Blk (yA.alloc (.cells #[.slice (some ⟨W0.heap.size + 4, 0, none⟩) n n] 62)) (W0.heap.size + 4 + 1) 62 #[.slice (some ⟨W0.heap.size + 4, 0, none⟩) n n] from blk_at hzA _ _)
   have HRS2 := Lib.hid (show Own (yA.alloc (.cells #[.slice (some ⟨W0.heap.size + 4, 0, none⟩) n n] 62)) W0.heap.size 22 1 (.slice (some ⟨W0.heap.size + 4, 0, none⟩) n n) n (fun _ _ => Value.slice none 0 0) from Own.alloc (Own.less HOA.out (by omega)) _)
   generalize yA.alloc (.cells #[.slice (some ⟨W0.heap.size + 4, 0, none⟩) n n] 62) = wf at HBF HK8 HRS2 ⊢
   (try simp only [Exit.then])
   apply_assumption
   have hp := HPO.out
   subst hp
   exact tracks_tail HD.out HM0.out HRS.out hhn hx1 hx2 hx3 hx4 hl htn hn1 (rb := W0.heap.size + 4 + 1) (rw := W0.heap.size + 4) (by omega) (by omega) (by omega) (by omega) rfl rfl (V0 := fun _ => Value.slice none 0 0) (R0 := fun _ => []) { sm := ⟨HM0.out.below (HX.out.trans (HBF.out.mono HX.out.size)), fun _ h => h, fun _ h => .inl h⟩, tt := fun g h => .inl (HM0.out.t.2.2.2 g h).2, sz := by have := HK8.out.lt; have : W0.heap.size + 4 < wf.heap.size := (Own.block HRS2.out rfl).2; omega, mv := Mv.of_below (HX.out.trans (HBF.out.mono HX.out.size)), k3 := H3.out.below' HBF.out, k4 := H4.out.below' HBF.out, k5 := H5.out.below' HBF.out, k7 := H7.out.below' HBF.out, k8 := HK8.out, rs := HRS2.out, ro := fun _ _ h => h.elim, rt := fun _ _ h => h.elim, rd := fun _ _ _ _ h => h.elim }
  ·
   intro K' hK'
   go_simp
   refine hK'.out _ _ (.inr (hS.alloc hS.size _)) ?_
   clear hK' K'
   try simp only [put_laws]
   have hS2 := hS.alloc hS.size (.cells #[Value.slice none 0 0] 62)
   clear hS
   have hS := hS2
   have hnz := HNZ.out
   obtain ⟨yB, hrunB, hownB, hgB, hzB⟩ := mk_rows n (by omega) ((X.alloc (.cells #[Value.slice none 0 0] 62)).drew) ((d.s.nt : Int) - 1 - (ta : Int) + 1) hnz
   rw [show ((X.alloc (.cells #[Value.slice none 0 0] 62)).drew).heap.size = W0.heap.size + 5 from by simp [hsz]] at hrunB hownB hzB
   have HBB := Lib.hid (grown_below hgB)
   have HOB := Lib.hid hownB
   clear hownB hgB
   clear hnz
   refine wpAnyT_one (i := 8) (by kernel_rfl) rfl ?_
   intro K' hK'
   go_simp
   refine hK'.out _ _ (.inr (hS.trans (HBB.out.mono (by simp)))) ?_
   clear hK' K'
   try simp only [put_laws]
   have HK8B := Lib.hid (show Blk yB (W0.heap.size + 4) 62 #[Value.slice none 0 0] from (show Blk ((X.alloc (.cells #[Value.slice none 0 0] 62)).drew) (W0.heap.size + 4) 62 #[Value.slice none 0 0] from hsz ▸ Blk.new _ _ _).below' HBB.out)
   have x8 := HK8B.out.cell 0
   have f8 := HK8B.out.frz 0
   refine wpAnyT_one (i := 10) (by kernel_rfl) rfl ?_
   intro K' hK'
   go_simp
   refine hK'.out _ _ (.inl rfl) ?_
   clear hK' K'
   try simp only [put_laws]
   refine wpAnyT_done (by kernel_rfl) ?_ _
   refine ⟨fun x e => (by cases e), ?_⟩
   have HBF := Lib.hid (show Below X.heap.size X (yB.setCell ⟨W0.heap.size + 4, 0, none⟩ (.slice (some ⟨W0.heap.size + 5, 0, none⟩) n n)) from (((Below.refl _ X).drew.alloc (Nat.le_refl _) (.cells #[Value.slice none 0 0] 62)).trans (HBB.out.mono (by simp))).grown (grownBy_setCell' _ _ _) (show X.heap.size ≤ yB.heap.size by omega) (fun k e => by cases e; exact Nat.le_of_eq hsz))
   have HK8 := Lib.hid (show Blk (yB.setCell ⟨W0.heap.size + 4, 0, none⟩ (.slice (some ⟨W0.heap.size + 5, 0, none⟩) n n)) (W0.heap.size + 4) 62 #[.slice (some ⟨W0.heap.size + 5, 0, none⟩) n n] from HK8B.out.set_ 0 _)
   have HRS2 := Lib.hid (show Own (yB.setCell ⟨W0.heap.size + 4, 0, none⟩ (.slice (some ⟨W0.heap.size + 5, 0, none⟩) n n)) W0.heap.size 22 1 (.slice (some ⟨W0.heap.size + 5, 0, none⟩) n n) n (fun _ _ => Value.slice none 0 0) from Own.setCell (Own.less HOB.out (by omega)) (by simp [Value.ownBlock]) _)
   generalize yB.setCell ⟨W0.heap.size + 4, 0, none⟩ (.slice (some ⟨W0.heap.size + 5, 0, none⟩) n n) = wf at HBF HK8 HRS2 ⊢
   (try simp only [Exit.then])
   apply_assumption
   have hp := HPO.out
   subst hp
   exact tracks_tail HD.out HM0.out HRS.out hhn hx1 hx2 hx3 hx4 hl htn hn1 (rb := W0.heap.size + 4) (rw := W0.heap.size + 5) (by omega) (by omega) (by omega) (by omega) rfl rfl (V0 := fun _ => Value.slice none 0 0) (R0 := fun _ => []) { sm := ⟨HM0.out.below (HX.out.trans (HBF.out.mono HX.out.size)), fun _ h => h, fun _ h => .inl h⟩, tt := fun g h => .inl (HM0.out.t.2.2.2 g h).2, sz := by have := HK8.out.lt; have : W0.heap.size + 5 < wf.heap.size := (Own.block HRS2.out rfl).2; omega, mv := Mv.of_below (HX.out.trans (HBF.out.mono HX.out.size)), k3 := H3.out.below' HBF.out, k4 := H4.out.below' HBF.out, k5 := H5.out.below' HBF.out, k7 := H7.out.below' HBF.out, k8 := HK8.out, rs := HRS2.out, ro := fun _ _ h => h.elim, rt := fun _ _ h => h.elim, rd := fun _ _ _ _ h => h.elim }
 ·
  intro K' hK'
  go_simp
  refine hK'.out _ _ (.inr (hS.alloc hS.size _)) ?_
  clear hK' K'
  try simp only [put_laws]
  have hS2 := hS.alloc hS.size (.cells #[Value.slice none 0 0] 62)
  clear hS
  have hS := hS2
  refine wpAnyT_one (i := 2) (by kernel_rfl) rfl ?_
  intro K' hK'
  go_simp
  refine (HL.out _ hS).mono ?_
  rintro e w9 ⟨rfl, rfl⟩
  refine hK'.out _ _ ( .inr hS) ?_
  clear hK' K'
  try simp only [put_laws]
  refine tkA (i := 6) (v := ?_) rfl (by kernel_rfl) (.inl ⟨by kernel_rfl, ?_⟩) hS ?_
  rotate_left
  · (intro w' hw; obtain ⟨x0, x1⟩ := (H3.out.below' hw).c2; have q1 : IntKind.i64.wrap ((d.s.nt : Int) - 1 - (ta : Int)) = (d.s.nt : Int) - 1 - (ta : Int) := (by rw [IntKind.wrap_i64]; omega); have q2 : IntKind.i64.wrap ((d.s.nt : Int) - 1 - (ta : Int) + 1) = (d.s.nt : Int) - 1 - (ta : Int) + 1 := (by rw [IntKind.wrap_i64]; omega); go_simp; try with_reducible rfl)
  try simp only [put_laws]
  refine tkA (i := 7) (v := ?_) rfl (by kernel_rfl) (.inl ⟨by kernel_rfl, ?_⟩) hS ?_
  rotate_left
  · (intro w' hw; obtain ⟨x0, x1⟩ := (H3.out.below' hw).c2; have q1 : IntKind.i64.wrap ((d.s.nt : Int) - 1 - (ta : Int)) = (d.s.nt : Int) - 1 - (ta : Int) := (by rw [IntKind.wrap_i64]; omega); have q2 : IntKind.i64.wrap ((d.s.nt : Int) - 1 - (ta : Int) + 1) = (d.s.nt : Int) - 1 - (ta : Int) + 1 := (by rw [IntKind.wrap_i64]; omega); go_simp; try with_reducible rfl)
  try simp only [put_laws]
  have hnz := HNZ.out
  obtain ⟨yB, hrunB, hownB, hgB, hzB⟩ := mk_rows n (by omega) ((X.alloc (.cells #[Value.slice none 0 0] 62)).drew) ((d.s.nt : Int) - 1 - (ta : Int) + 1) hnz
  rw [show ((X.alloc (.cells #[Value.slice none 0 0] 62)).drew).heap.size = W0.heap.size + 5 from by simp [hsz]] at hrunB hownB hzB
  have HBB := Lib.hid (grown_below hgB)
  have HOB := Lib.hid hownB
  clear hownB hgB
  clear hnz
  refine wpAnyT_one (i := 8) (by kernel_rfl) rfl ?_
  intro K' hK'
  go_simp
  refine hK'.out _ _ (.inr (hS.trans (HBB.out.mono (by simp)))) ?_
  clear hK' K'
  try simp only [put_laws]
  have HK8B := Lib.hid (show Blk yB (W0.heap.size + 4) 62 #[Value.slice none 0 0] from (show Blk ((X.alloc (.cells #[Value.slice none 0 0] 62)).drew) (W0.heap.size + 4) 62 #[Value.slice none 0 0] from hsz ▸ Blk.new _ _ _).below' HBB.out)
  have x8 := HK8B.out.cell 0
  have f8 := HK8B.out.frz 0
  refine wpAnyT_one (i := 10) (by kernel_rfl) rfl ?_
  intro K' hK'
  go_simp
  refine hK'.out _ _ (.inl rfl) ?_
  clear hK' K'
  try simp only [put_laws]
  refine wpAnyT_done (by kernel_rfl) ?_ _
  refine ⟨fun x e => (by cases e), ?_⟩
  have HBF := Lib.hid (show Below X.heap.size X (yB.setCell ⟨W0.heap.size + 4, 0, none⟩ (.slice (some ⟨W0.heap.size + 5, 0, none⟩) n n)) from (((Below.refl _ X).drew.alloc (Nat.le_refl _) (.cells #[Value.slice none 0 0] 62)).trans (HBB.out.mono (by simp))).grown (grownBy_setCell' _ _ _) (show X.heap.size ≤ yB.heap.size by omega) (fun k e => by cases e; exact Nat.le_of_eq hsz))
  have HK8 := Lib.hid (show Blk (yB.setCell ⟨W0.heap.size + 4, 0, none⟩ (.slice (some ⟨W0.heap.size + 5, 0, none⟩) n n)) (W0.heap.size + 4) 62 #[.slice (some ⟨W0.heap.size + 5, 0, none⟩) n n] from HK8B.out.set_ 0 _)
  have HRS2 := Lib.hid (show Own (yB.setCell ⟨W0.heap.size + 4, 0, none⟩ (.slice (some ⟨W0.heap.size + 5, 0, none⟩) n n)) W0.heap.size 22 1 (.slice (some ⟨W0.heap.size + 5, 0, none⟩) n n) n (fun _ _ => Value.slice none 0 0) from Own.setCell (Own.less HOB.out (by omega)) (by simp [Value.ownBlock]) _)
  generalize yB.setCell ⟨W0.heap.size + 4, 0, none⟩ (.slice (some ⟨W0.heap.size + 5, 0, none⟩) n n) = wf at HBF HK8 HRS2 ⊢
  (try simp only [Exit.then])
  apply_assumption
  have hp := HPO.out
  subst hp
  exact tracks_tail HD.out HM0.out HRS.out hhn hx1 hx2 hx3 hx4 hl htn hn1 (rb := W0.heap.size + 4) (rw := W0.heap.size + 5) (by omega) (by omega) (by omega) (by omega) rfl rfl (V0 := fun _ => Value.slice none 0 0) (R0 := fun _ => []) { sm := ⟨HM0.out.below (HX.out.trans (HBF.out.mono HX.out.size)), fun _ h => h, fun _ h => .inl h⟩, tt := fun g h => .inl (HM0.out.t.2.2.2 g h).2, sz := by have := HK8.out.lt; have : W0.heap.size + 5 < wf.heap.size := (Own.block HRS2.out rfl).2; omega, mv := Mv.of_below (HX.out.trans (HBF.out.mono HX.out.size)), k3 := H3.out.below' HBF.out, k4 := H4.out.below' HBF.out, k5 := H5.out.below' HBF.out, k7 := H7.out.below' HBF.out, k8 := HK8.out, rs := HRS2.out, ro := fun _ _ h => h.elim, rt := fun _ _ h => h.elim, rd := fun _ _ _ _ h => h.elim }
end
end Go.Proofs.YtnbeembnnjdmdaaGreatDoor
