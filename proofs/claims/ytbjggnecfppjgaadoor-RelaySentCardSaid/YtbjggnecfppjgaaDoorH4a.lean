/- RelaySent: the region that puts one reception behind the others, as a theorem of its own. -/
import Derived.Test.YtbjggnecfppjgaaDoorCapM
import Derived.Test.YtbjggnecfppjgaaDoorHB
import Derived.Test.YtbjggnecfppjgaaDoorC4
import Derived.Test.YtbjggnecfppjgaaDoorT4
namespace Go.Proofs.YtbjggnecfppjgaaDoor
open Go.RowKit

def fstC' : Code → Code
  | .seq a _ => a
  | c => c
/-- a statement of a function's text -/
def codeAt' (f : Func) (n : Nat) : Code :=
  match f.body with
  | some b => fstC' (sndN n b)
  | none => .skip
theorem blk_drew' {W : World} {g : Nat} {t : TypeId} {cs : Array Value} (h : Blk W g t cs) : Blk W.drew g t cs := h
theorem cat_more (gn : Nat) (g : Nat → ByteArray) (m : ByteArray) : catF gn (strs g) (fun _ _ => .string m) = strs (more gn g m) := by
  funext i j
  unfold catF more
  by_cases h : i < gn <;> simp [h]
set_option maxRecDepth 100000 in
set_option maxHeartbeats 51200000 in
theorem sent_seg (gA : Option Addr) (gn gc B : Nat) (e : Int) (g : Nat → ByteArray) (m : ByteArray) (w Y : World) (post : Ending → World → Prop) (K' : Act → World → Prop) (hgn : gn ≤ 60)
    (RB : Blk Y w.heap.size 24 #[.slice gA gn gc, .int .i64 e]) (hGY : ∀ W : World, Below Y.heap.size Y W → RdS W B gA gn g)
    {v0 v1 v2 v3 v5 v6 v7 v9 v10 v11 v12 v13 v14 v15 v16 v17 v18 v19 v20 v21 v22 v23 v24 v25 v26 v27 v28 v29 v30 v31 v32 v33 v34 v35 v36 v37 v38 v39 v40 v41 v42 v43 v44 v45 v46 v47 v48 v49 v50 v51 v52 v53 v54 v55 v56 v57 v58 v59 v60 v61 v62 v63 v64 v65 v66 v67 v68 v69 v70 v71 v72 v73 v74 v75 v76 v77 v78 v79 v80 v81 v82 v83 v84 v85 v86 v87 v88 v89 v90 v91 v92 v93 v94 v95 v96 v97 v98 v99 v100 v101 v102 v103 v104 v105 v106 v107 v108 v109 v110 v111 v112 v113 v114 v115 v116 v117 v118 v119 v120 v121 v122 v123 v124 v125 v126 v127 v128 v129 : Value}
    (hK : ∀ (g13 : Nat) (A4 : Option Addr) (d4 : Nat) (wx : World) (x89 x90 x91 x92 x93 x94 x95 x96 x97 x98 : Value), Blk wx g13 24 #[.slice A4 (gn + 1) d4, .int .i64 e] → Own wx Y.heap.size 9 1 (.slice A4 (gn + 1) d4) (gn + 1) (strs (more gn g m)) → Below Y.heap.size Y wx → K' { tmps := #[v0, v1, v2, v3, .pointer (some ⟨w.heap.size, 0, none⟩), v5, v6, v7, .string m, v9, v10, v11, v12, .pointer (some ⟨g13, 0, none⟩), v14, v15, v16, v17, v18, v19, v20, v21, v22, v23, v24, v25, v26, v27, v28, v29, v30, v31, v32, v33, v34, v35, v36, v37, v38, v39, v40, v41, v42, v43, v44, v45, v46, v47, v48, v49, v50, v51, v52, v53, v54, v55, v56, v57, v58, v59, v60, v61, v62, v63, v64, v65, v66, v67, v68, v69, v70, v71, v72, v73, v74, v75, v76, v77, v78, v79, v80, v81, v82, v83, v84, v85, v86, v87, v88, x89, x90, x91, x92, x93, x94, x95, x96, x97, x98, v99, v100, v101, v102, v103, v104, v105, v106, v107, v108, v109, v110, v111, v112, v113, v114, v115, v116, v117, v118, v119, v120, v121, v122, v123, v124, v125, v126, v127, v128, v129], defers := [] } wx) :
    Code.wp Tryd.prog (codeAt' Tryd.f3 6) (Exit.then K' (bodyPost Tryd.prog Tryd.f3 post)) { tmps := #[v0, v1, v2, v3, .pointer (some ⟨w.heap.size, 0, none⟩), v5, v6, v7, .string m, v9, v10, v11, v12, v13, v14, v15, v16, v17, v18, v19, v20, v21, v22, v23, v24, v25, v26, v27, v28, v29, v30, v31, v32, v33, v34, v35, v36, v37, v38, v39, v40, v41, v42, v43, v44, v45, v46, v47, v48, v49, v50, v51, v52, v53, v54, v55, v56, v57, v58, v59, v60, v61, v62, v63, v64, v65, v66, v67, v68, v69, v70, v71, v72, v73, v74, v75, v76, v77, v78, v79, v80, v81, v82, v83, v84, v85, v86, v87, v88, v89, v90, v91, v92, v93, v94, v95, v96, v97, v98, v99, v100, v101, v102, v103, v104, v105, v106, v107, v108, v109, v110, v111, v112, v113, v114, v115, v116, v117, v118, v119, v120, v121, v122, v123, v124, v125, v126, v127, v128, v129], defers := [] } Y := by
  have HK' := Lib.hid hK
  have HGY := Lib.hid hGY
  have hpE : w.heap.size < Y.heap.size := RB.lt
  have q0 := RB.cell 0
  have q1 := RB.cell 1
  obtain ⟨si, hi, hz0, hz1, hz2⟩ := info_parts str_info
  have SI := Lib.hid (And.intro hi (And.intro hz0 (And.intro hz1 hz2)))
  clear hK hGY hi hz0 hz1 hz2 RB
  conv in codeAt' _ _ => whnf
  go_region_held3 (fun w' => w'.cell? ⟨w.heap.size, 0, none⟩ = some (.slice gA gn gc) ∧ w'.cell? ⟨w.heap.size, 1, none⟩ = some (.int .i64 e) ∧ Below Y.heap.size Y w')
    (first
      | assumption
      | exact Kept2.start q0 q1
      | exact hS5
      | exact Kept2.alloc (Y := Y) hS5 _ hpE hpE
      | exact Kept2.store (Y := Y) hS5 (by omega) _ _ hpE hpE
      | exact Kept2.alloc_drew (Y := Y) (by assumption) hpE hpE
      | exact Kept2.alloc (Y := Y) (by assumption) _ hpE hpE
      | exact Kept2.below (Y := Y) (by assumption) hbx hpE hpE
      | fail)
    (first
      | (refine step_copy (by rfl) (.tmp 89) (.tmp 91) 22 (by rfl) 9 si _ 1 16 Tryd.underlying22 SI.out.1 SI.out.2.1 SI.out.2.2.1 SI.out.2.2.2 rfl (by omega) (by omega) (by rfl) (by simp [blk_al, blk_dr] <;> omega) (F := strs g) (fun _ _ => rfl) (by rfl) (HGY.out _ (by go_split_ands; assumption)).v (by omega) ?_; intro A3 d1 w3 ho1 hbx; have hz3 := Below.size hbx; (try simp at hz3); (first | (have mP := Blk.below' (Blk.new Y 24 #[.slice none 0 0, .int .i64 0]) hbx) | (have mP := Blk.below' ((Blk.new Y 24 #[.slice none 0 0, .int .i64 0]).alloc _) hbx) | (have mP := Blk.below' (((Blk.new Y 24 #[.slice none 0 0, .int .i64 0]).alloc _).alloc _) hbx) | (have mP := Blk.below' (Blk.new1 Y _ 24 #[.slice none 0 0, .int .i64 0]) hbx) | (have mP := Blk.below' ((Blk.new1 Y _ 24 #[.slice none 0 0, .int .i64 0]).alloc _) hbx) | (have mP := Blk.below' (Blk.new2 Y _ _ 24 #[.slice none 0 0, .int .i64 0]) hbx) | (have mP := Blk.below' (blk_drew' (Blk.new Y 24 #[.slice none 0 0, .int .i64 0])) hbx) | (have mP := Blk.below' (blk_drew' ((Blk.new Y 24 #[.slice none 0 0, .int .i64 0]).alloc _)) hbx) | (have mP := Blk.below' (blk_drew' (((Blk.new Y 24 #[.slice none 0 0, .int .i64 0]).alloc _).alloc _)) hbx) | (have mP := Blk.below' (blk_drew' (Blk.new1 Y _ 24 #[.slice none 0 0, .int .i64 0])) hbx) | (have mP := Blk.below' (blk_drew' ((Blk.new1 Y _ 24 #[.slice none 0 0, .int .i64 0]).alloc _)) hbx) | (have mP := Blk.below' (blk_drew' (Blk.new2 Y _ _ 24 #[.slice none 0 0, .int .i64 0])) hbx) | skip); (first | (have mE := Blk.below' (Blk.new Y 9 #[.string m]) hbx) | (have mE := Blk.below' ((Blk.new Y 9 #[.string m]).alloc _) hbx) | (have mE := Blk.below' (((Blk.new Y 9 #[.string m]).alloc _).alloc _) hbx) | (have mE := Blk.below' (Blk.new1 Y _ 9 #[.string m]) hbx) | (have mE := Blk.below' ((Blk.new1 Y _ 9 #[.string m]).alloc _) hbx) | (have mE := Blk.below' (Blk.new2 Y _ _ 9 #[.string m]) hbx) | (have mE := Blk.below' (blk_drew' (Blk.new Y 9 #[.string m])) hbx) | (have mE := Blk.below' (blk_drew' ((Blk.new Y 9 #[.string m]).alloc _)) hbx) | (have mE := Blk.below' (blk_drew' (((Blk.new Y 9 #[.string m]).alloc _).alloc _)) hbx) | (have mE := Blk.below' (blk_drew' (Blk.new1 Y _ 9 #[.string m])) hbx) | (have mE := Blk.below' (blk_drew' ((Blk.new1 Y _ 9 #[.string m]).alloc _)) hbx) | (have mE := Blk.below' (blk_drew' (Blk.new2 Y _ _ 9 #[.string m])) hbx) | skip))
      | (refine step_cat (by rfl) (.tmp 92) (.tmp 94) 22 (by rfl) 9 si _ 1 16 Tryd.underlying22 SI.out.1 SI.out.2.1 SI.out.2.2.1 SI.out.2.2.2 rfl (by omega) (by omega) (by rfl) (by first | exact ho1 | exact ho1.alloc _ | exact (ho1.alloc _).alloc _ | fail) (by omega) (by have h := (Below.size hbx); simp at h; first | omega | (simp; omega)) (k := 1) (G := fun _ _ => .string m) (fun _ _ => rfl) (by rfl) (by first | exact rdV_blk (Blk.new w3 9 #[.string m]) (fun i j hi hj => by obtain rfl : i = 0 := (by omega); obtain rfl : j = 0 := (by omega); rfl) | exact rdV_blk ((Blk.new w3 9 #[.string m]).alloc _) (fun i j hi hj => by obtain rfl : i = 0 := (by omega); obtain rfl : j = 0 := (by omega); rfl) | exact rdV_blk (Blk.new1 w3 _ 9 #[.string m]) (fun i j hi hj => by obtain rfl : i = 0 := (by omega); obtain rfl : j = 0 := (by omega); rfl) | exact rdV_blk mE (fun i j hi hj => by obtain rfl : i = 0 := (by omega); obtain rfl : j = 0 := (by omega); rfl) | exact rdV_blk (mE.alloc _) (fun i j hi hj => by obtain rfl : i = 0 := (by omega); obtain rfl : j = 0 := (by omega); rfl) | fail) (by omega) ?_; intro v' w4 ho2 hg hat; rw [cat_more] at ho2; obtain ⟨A4, d4, rfl⟩ := ho2.form; have hz4 := hg.size; (try simp at hz4); have hS5 := Kept2.grown (Y := Y) (p := ⟨w.heap.size, 0, none⟩) (q := ⟨w.heap.size, 1, none⟩) (x := .slice gA gn gc) (y := .int .i64 e) (by assumption) hg (fun q hq => by have h := (ho1.block hq).1; first | omega | (simp at h; omega)) hpE hpE; (first | (have mP := Blk.grown_own mP ho1 (by decide) hg; have p0 := mP.cell 0; have p1 := mP.cell 1; have f0 := mP.frz 0; have f1 := mP.frz 1) | (have mP := Blk.grown_own (mP.alloc _) (ho1.alloc _) (by decide) hg; have p0 := mP.cell 0; have p1 := mP.cell 1; have f0 := mP.frz 0; have f1 := mP.frz 1) | (have mP := Blk.grown_own ((mP.alloc _).alloc _) ((ho1.alloc _).alloc _) (by decide) hg; have p0 := mP.cell 0; have p1 := mP.cell 1; have f0 := mP.frz 0; have f1 := mP.frz 1) | (have mP := Blk.grown_own (Blk.new w3 24 #[.slice none 0 0, .int .i64 0]) (ho1.alloc _) (by decide) hg; have p0 := mP.cell 0; have p1 := mP.cell 1; have f0 := mP.frz 0; have f1 := mP.frz 1) | (have mP := Blk.grown_own ((Blk.new w3 24 #[.slice none 0 0, .int .i64 0]).alloc _) ((ho1.alloc _).alloc _) (by decide) hg; have p0 := mP.cell 0; have p1 := mP.cell 1; have f0 := mP.frz 0; have f1 := mP.frz 1) | (have mP := Blk.grown_own (Blk.new1 w3 _ 24 #[.slice none 0 0, .int .i64 0]) ((ho1.alloc _).alloc _) (by decide) hg; have p0 := mP.cell 0; have p1 := mP.cell 1; have f0 := mP.frz 0; have f1 := mP.frz 1) | skip))
      | fail)
  all_goals
    have hz5 := Below.size hS5.2.2
    first
      | exact HK'.out _ A4 d4 _ _ _ _ _ _ _ _ _ _ _ (Blk.new w4 _ _) ((ho2.alloc _).less (by first | omega | (simp; omega))) (hS5.2.2.alloc hz5 _)
      | exact HK'.out _ A4 d4 _ _ _ _ _ _ _ _ _ _ _ ((mP.set_ 0 _).set_ 1 _) ((ho2.set2 mP (by decide) _ _).less (by first | omega | (simp; omega))) ((hS5.2.2.setCell (by dsimp only; omega) _).setCell (by dsimp only; omega) _)
end Go.Proofs.YtbjggnecfppjgaaDoor
