/- RelayLosses: the region that puts the event behind the events, runs and stores, as a theorem of its own. -/
import Derived.Test.YtjdkcfnipkdmgaaDoorH8
import Derived.Test.YtjdkcfnipkdmgaaDoorC3
namespace Go.Proofs.YtjdkcfnipkdmgaaDoor
open Go.RowKit

def fstC : Code → Code
  | .seq a _ => a
  | c => c
/-- a statement of a function's text -/
def codeAt (f : Func) (n : Nat) : Code :=
  match f.body with
  | some b => fstC (sndN n b)
  | none => .skip
theorem blk_drew {W : World} {g : Nat} {t : TypeId} {cs : Array Value} (h : Blk W g t cs) : Blk W.drew g t cs := h
set_option maxRecDepth 100000 in
set_option maxHeartbeats 51200000 in
theorem losses_seg (A : Option Addr) (en ec B n o : Nat) (a b c : Int) (E : Nat → Nat → Int) (s' : M.St) (w Y : World) (post : Ending → World → Prop) (K' : Act → World → Prop) (hen : en ≤ 60)
    (EB : Blk Y (w.heap.size + 1) 54 #[.int .i64 a, .int .i64 b, .int .i64 c]) (hRY : ∀ W : World, Below Y.heap.size Y W → Rd W B A 3 en E)
    (hEV : ∀ W A' c', Rd W W.heap.size A' 3 (en + 1) (catE en E (oneG a b c)) → Calls Tryd.prog 29 #[.int .i64 (n : Int), .int .i64 (o : Int), .slice A' (en + 1) c'] W fun e w' => (∃ v bv, e = .returned (.tuple #[v, bv, .int .i64 0]) ∧ CallV n s' W.heap.size v w' ∧ Own w' W.heap.size 4 1 bv (en + 1) (bools (M.done n o (catE en E (oneG a b c))))) ∧ Below W.heap.size W w')
    {v0 v2 v3 v4 v6 v9 v10 v11 v12 v13 v14 v15 v16 v17 v18 v19 v20 v21 v22 v23 v24 v25 v26 v27 v28 v29 v30 v31 v32 v33 v34 v35 v36 v37 v38 v39 v40 v41 v42 v43 v44 v45 v46 v47 v48 v49 v50 v51 v52 v53 v54 v55 v56 v57 v58 v59 v60 v61 v62 v63 v64 v65 v66 v67 v68 v69 v70 v71 v72 v73 v74 v75 v76 v77 v78 v79 v80 v81 v82 v83 v84 v85 v86 v87 v88 v89 v90 v91 v92 v93 v94 v95 v96 v97 v98 v99 v100 v101 v102 v103 v104 v105 v106 v107 v108 v109 v110 v111 v112 v113 v114 v115 v116 v117 v118 v119 v120 v121 v122 : Value}
    (hK : ∀ (g12 : Nat) (A5 : Option Addr) (c5 : Nat) (A6 : Option Addr) (c6 : Nat) (bA : Option Addr) (bc : Nat) (wx : World) (x53 x54 x55 x56 x57 x58 x59 x60 x61 x62 x63 x64 x65 : Value), Blk wx g12 48 #[.slice A5 n c5, .slice A6 s'.k c6] → Rd wx wx.heap.size A5 3 n s'.c →
        Own wx Y.heap.size 4 1 (.slice bA (en + 1) bc) (en + 1) (bools (M.done n o (catE en E (oneG a b c)))) → Below Y.heap.size Y wx → K' { tmps := #[v0, .slice A en ec, v2, v3, v4, .pointer (some ⟨w.heap.size + 1, 0, none⟩), v6, .int .i64 (n : Int), .int .i64 (o : Int), v9, v10, v11, .pointer (some ⟨g12, 0, none⟩), .slice bA (en + 1) bc, .int .i64 0, v15, v16, v17, v18, v19, v20, v21, v22, v23, v24, v25, v26, v27, v28, v29, v30, v31, v32, v33, v34, v35, v36, v37, v38, v39, v40, v41, v42, v43, v44, v45, v46, v47, v48, v49, v50, v51, v52, x53, x54, x55, x56, x57, x58, x59, x60, x61, x62, x63, x64, x65, v66, v67, v68, v69, v70, v71, v72, v73, v74, v75, v76, v77, v78, v79, v80, v81, v82, v83, v84, v85, v86, v87, v88, v89, v90, v91, v92, v93, v94, v95, v96, v97, v98, v99, v100, v101, v102, v103, v104, v105, v106, v107, v108, v109, v110, v111, v112, v113, v114, v115, v116, v117, v118, v119, v120, v121, v122], defers := [] } wx) :
    Code.wp Tryd.prog (codeAt Tryd.f9 4) (Exit.then K' (bodyPost Tryd.prog Tryd.f9 post)) { tmps := #[v0, .slice A en ec, v2, v3, v4, .pointer (some ⟨w.heap.size + 1, 0, none⟩), v6, .int .i64 (n : Int), .int .i64 (o : Int), v9, v10, v11, v12, v13, v14, v15, v16, v17, v18, v19, v20, v21, v22, v23, v24, v25, v26, v27, v28, v29, v30, v31, v32, v33, v34, v35, v36, v37, v38, v39, v40, v41, v42, v43, v44, v45, v46, v47, v48, v49, v50, v51, v52, v53, v54, v55, v56, v57, v58, v59, v60, v61, v62, v63, v64, v65, v66, v67, v68, v69, v70, v71, v72, v73, v74, v75, v76, v77, v78, v79, v80, v81, v82, v83, v84, v85, v86, v87, v88, v89, v90, v91, v92, v93, v94, v95, v96, v97, v98, v99, v100, v101, v102, v103, v104, v105, v106, v107, v108, v109, v110, v111, v112, v113, v114, v115, v116, v117, v118, v119, v120, v121, v122], defers := [] } Y := by
  have HK' := Lib.hid hK
  have HRY := Lib.hid hRY
  have HEV := Lib.hid hEV
  have hpE : w.heap.size + 1 < Y.heap.size := EB.lt
  have q0 := EB.cell 0
  have q1 := EB.cell 1
  have q2 := EB.cell 2
  obtain ⟨si, hi, hz0, hz1, hz2⟩ := info_parts evt_info
  have SI := Lib.hid (And.intro hi (And.intro hz0 (And.intro hz1 hz2)))
  clear hK hRY hEV hi hz0 hz1 hz2 EB
  conv in codeAt _ _ => whnf
  go_region_held3 (fun w' => w'.cell? ⟨w.heap.size + 1, 0, none⟩ = some (.int .i64 a) ∧ w'.cell? ⟨w.heap.size + 1, 1, none⟩ = some (.int .i64 b) ∧ w'.cell? ⟨w.heap.size + 1, 2, none⟩ = some (.int .i64 c) ∧ Below Y.heap.size Y w')
    (first
      | assumption
      | exact Kept3.start q0 q1 q2
      | exact hS5
      | exact Kept3.alloc (Y := Y) hS5 _ hpE hpE hpE
      | exact Kept3.store (Y := Y) hS5 (by omega) _ _ hpE hpE hpE
      | exact Kept3.alloc_drew (Y := Y) (by assumption) hpE hpE hpE
      | exact Kept3.alloc (Y := Y) (by assumption) _ hpE hpE hpE
      | exact Kept3.below (Y := Y) (by assumption) hbx hpE hpE hpE
      | exact Kept3.grown (Y := Y) (by assumption) hg (fun q hq => by have h := (ho1.block hq).1; first | omega | (simp at h; omega)) hpE hpE hpE
      | fail)
    (first
      | (refine step_copy (by rfl) (.tmp 56) (.tmp 57) 43 (by rfl) 54 si _ 3 24 Tryd.underlying43 SI.out.1 SI.out.2.1 SI.out.2.2.1 SI.out.2.2.2 rfl (by omega) (by omega) (by rfl) (by simp [blk_al, blk_dr] <;> omega) (F := ints2 E) (fun _ _ => rfl) (by rfl) (HRY.out _ (by go_split_ands; assumption)).v (by omega) ?_; intro A3 d1 w3 ho1 hbx; have hz3 := Below.size hbx; (try simp at hz3); (first | (have mP := Blk.below' (Blk.new Y 48 #[.slice none 0 0, .slice none 0 0]) hbx) | (have mP := Blk.below' ((Blk.new Y 48 #[.slice none 0 0, .slice none 0 0]).alloc _) hbx) | (have mP := Blk.below' (((Blk.new Y 48 #[.slice none 0 0, .slice none 0 0]).alloc _).alloc _) hbx) | (have mP := Blk.below' (Blk.new1 Y _ 48 #[.slice none 0 0, .slice none 0 0]) hbx) | (have mP := Blk.below' ((Blk.new1 Y _ 48 #[.slice none 0 0, .slice none 0 0]).alloc _) hbx) | (have mP := Blk.below' (Blk.new2 Y _ _ 48 #[.slice none 0 0, .slice none 0 0]) hbx) | (have mP := Blk.below' (blk_drew (Blk.new Y 48 #[.slice none 0 0, .slice none 0 0])) hbx) | (have mP := Blk.below' (blk_drew ((Blk.new Y 48 #[.slice none 0 0, .slice none 0 0]).alloc _)) hbx) | (have mP := Blk.below' (blk_drew (((Blk.new Y 48 #[.slice none 0 0, .slice none 0 0]).alloc _).alloc _)) hbx) | (have mP := Blk.below' (blk_drew (Blk.new1 Y _ 48 #[.slice none 0 0, .slice none 0 0])) hbx) | (have mP := Blk.below' (blk_drew ((Blk.new1 Y _ 48 #[.slice none 0 0, .slice none 0 0]).alloc _)) hbx) | (have mP := Blk.below' (blk_drew (Blk.new2 Y _ _ 48 #[.slice none 0 0, .slice none 0 0])) hbx) | skip); (first | (have mE := Blk.below' (Blk.new Y 54 #[.int .i64 a, .int .i64 b, .int .i64 c]) hbx) | (have mE := Blk.below' ((Blk.new Y 54 #[.int .i64 a, .int .i64 b, .int .i64 c]).alloc _) hbx) | (have mE := Blk.below' (((Blk.new Y 54 #[.int .i64 a, .int .i64 b, .int .i64 c]).alloc _).alloc _) hbx) | (have mE := Blk.below' (Blk.new1 Y _ 54 #[.int .i64 a, .int .i64 b, .int .i64 c]) hbx) | (have mE := Blk.below' ((Blk.new1 Y _ 54 #[.int .i64 a, .int .i64 b, .int .i64 c]).alloc _) hbx) | (have mE := Blk.below' (Blk.new2 Y _ _ 54 #[.int .i64 a, .int .i64 b, .int .i64 c]) hbx) | (have mE := Blk.below' (blk_drew (Blk.new Y 54 #[.int .i64 a, .int .i64 b, .int .i64 c])) hbx) | (have mE := Blk.below' (blk_drew ((Blk.new Y 54 #[.int .i64 a, .int .i64 b, .int .i64 c]).alloc _)) hbx) | (have mE := Blk.below' (blk_drew (((Blk.new Y 54 #[.int .i64 a, .int .i64 b, .int .i64 c]).alloc _).alloc _)) hbx) | (have mE := Blk.below' (blk_drew (Blk.new1 Y _ 54 #[.int .i64 a, .int .i64 b, .int .i64 c])) hbx) | (have mE := Blk.below' (blk_drew ((Blk.new1 Y _ 54 #[.int .i64 a, .int .i64 b, .int .i64 c]).alloc _)) hbx) | (have mE := Blk.below' (blk_drew (Blk.new2 Y _ _ 54 #[.int .i64 a, .int .i64 b, .int .i64 c])) hbx) | skip))
      | (refine step_cat (by rfl) (.tmp 58) (.tmp 60) 43 (by rfl) 54 si _ 3 24 Tryd.underlying43 SI.out.1 SI.out.2.1 SI.out.2.2.1 SI.out.2.2.2 rfl (by omega) (by omega) (by rfl) (by first | exact ho1 | exact ho1.alloc _ | exact (ho1.alloc _).alloc _ | fail) (by omega) (by have h := (Below.size hbx); simp at h; first | omega | (simp; omega)) (k := 1) (G := ints2 (oneG a b c)) (fun _ _ => rfl) (by rfl) (by first | exact rdV_blk (Blk.new w3 54 #[.int .i64 a, .int .i64 b, .int .i64 c]) (fun i j hi hj => by obtain rfl : i = 0 := (by omega); obtain rfl | rfl | rfl : j = 0 ∨ j = 1 ∨ j = 2 := (by omega); all_goals rfl) | exact rdV_blk ((Blk.new w3 54 #[.int .i64 a, .int .i64 b, .int .i64 c]).alloc _) (fun i j hi hj => by obtain rfl : i = 0 := (by omega); obtain rfl | rfl | rfl : j = 0 ∨ j = 1 ∨ j = 2 := (by omega); all_goals rfl) | exact rdV_blk (Blk.new1 w3 _ 54 #[.int .i64 a, .int .i64 b, .int .i64 c]) (fun i j hi hj => by obtain rfl : i = 0 := (by omega); obtain rfl | rfl | rfl : j = 0 ∨ j = 1 ∨ j = 2 := (by omega); all_goals rfl) | exact rdV_blk mE (fun i j hi hj => by obtain rfl : i = 0 := (by omega); obtain rfl | rfl | rfl : j = 0 ∨ j = 1 ∨ j = 2 := (by omega); all_goals rfl) | exact rdV_blk (mE.alloc _) (fun i j hi hj => by obtain rfl : i = 0 := (by omega); obtain rfl | rfl | rfl : j = 0 ∨ j = 1 ∨ j = 2 := (by omega); all_goals rfl) | fail) (by omega) ?_; intro v' w4 ho2 hg hat; rw [catF_ints] at ho2; obtain ⟨A4, d4, rfl⟩ := ho2.form; have hz4 := hg.size; (try simp at hz4); (first | (have mP := Blk.grown_own mP ho1 (by decide) hg) | (have mP := Blk.grown_own (mP.alloc _) (ho1.alloc _) (by decide) hg) | (have mP := Blk.grown_own ((mP.alloc _).alloc _) ((ho1.alloc _).alloc _) (by decide) hg) | (have mP := Blk.grown_own (Blk.new w3 48 #[.slice none 0 0, .slice none 0 0]) (ho1.alloc _) (by decide) hg) | (have mP := Blk.grown_own ((Blk.new w3 48 #[.slice none 0 0, .slice none 0 0]).alloc _) ((ho1.alloc _).alloc _) (by decide) hg) | (have mP := Blk.grown_own (Blk.new1 w3 _ 48 #[.slice none 0 0, .slice none 0 0]) ((ho1.alloc _).alloc _) (by decide) hg) | skip))
      | (go_at_call 29; refine (HEV.out _ A4 _ (by first | exact ho2.rdI | exact (ho2.alloc _).rdI | fail)).mono ?_; rintro e w5 ⟨⟨v, bv, rfl, ⟨A5, c5, A6, c6, rfl, o1, o2⟩, o3⟩, hbx⟩; obtain ⟨bA, bc, rfl⟩ := o3.form; clear o2; have hS5 := Kept3.below (Y := Y) (p := ⟨w.heap.size + 1, 0, none⟩) (q := ⟨w.heap.size + 1, 1, none⟩) (r := ⟨w.heap.size + 1, 2, none⟩) (x := .int .i64 a) (y := .int .i64 b) (z := .int .i64 c) (by assumption) hbx hpE hpE hpE; (first | (have mP := Blk.below' mP hbx; have p0 := mP.cell 0; have p1 := mP.cell 1; have f0 := mP.frz 0; have f1 := mP.frz 1) | (have mP := Blk.below' (mP.alloc _) hbx; have p0 := mP.cell 0; have p1 := mP.cell 1; have f0 := mP.frz 0; have f1 := mP.frz 1) | (have mP := Blk.below' (Blk.new w4 48 #[.slice none 0 0, .slice none 0 0]) hbx; have p0 := mP.cell 0; have p1 := mP.cell 1; have f0 := mP.frz 0; have f1 := mP.frz 1) | skip))
      | fail)
  all_goals
    have hz5 := Below.size hS5.2.2.2
    first
      | exact HK'.out _ A5 c5 A6 c6 bA bc _ _ _ _ _ _ _ _ _ _ _ _ _ _ (Blk.new w5 _ _) ((o1.alloc _).rdI) ((o3.alloc _).less (by first | omega | (simp; omega))) (hS5.2.2.2.alloc hz5 _)
      | exact HK'.out _ A5 c5 A6 c6 bA bc _ _ _ _ _ _ _ _ _ _ _ _ _ _ ((mP.set_ 0 _).set_ 1 _) ((o1.set2 mP (by decide) _ _).rdI) ((o3.set2 mP (by decide) _ _).less (by first | omega | (simp; omega))) ((hS5.2.2.2.setCell (by dsimp only; omega) _).setCell (by dsimp only; omega) _)
end Go.Proofs.YtjdkcfnipkdmgaaDoor
