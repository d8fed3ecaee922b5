/- The handling of a message. -/
import Derived.Test.YtfnfjmjejffjiaaDoorT2
import Derived.BigQuiet
namespace Go.Proofs.YtfnfjmjejffjiaaDoor
open Go.RowKit

def sndN : Nat → Code → Code
  | 0, c => c
  | n + 1, .seq _ b => sndN n b
  | _, c => c
/-- the statements of a function's text from the n-th on -/
def restAt (f : Func) (n : Nat) : Code :=
  match f.body with
  | some b => sndN n b
  | none => .skip
theorem stF_set {n : Nat} {s : M.St} {o : Nat} {v : Nat → Int} {F' : Nat → Int} (ho : o < 4) (h0 : ∀ i, i < 38 → (∀ j, j < 3 → i ≠ 1 + o * 3 + j) → F' i = stF n s i) (h1 : ∀ j, j < 3 → F' (1 + o * 3 + j) = v j) (i : Nat) (hi : i < 38) : F' i = stF n (M.setC s o v) i := by
  rcases split_at hi with rfl | ⟨a, j, ha, hj, rfl⟩ | ⟨a, j, ha, hj, rfl⟩ | rfl
  · rw [h0 0 (by omega) (fun j hj => by omega)]; rfl
  · rw [stF_c n (M.setC s o v) ha hj]
    show _ = (if a = o then v else s.c a) j
    by_cases e : a = o
    · rw [if_pos e, e]; exact h1 j hj
    · rw [if_neg e, h0 _ (by omega) (fun j' hj' => by omega), stF_c n s ha hj]
  · rw [stF_m n (M.setC s o v) ha hj, h0 _ (by omega) (fun j' hj' => by omega), stF_m n s ha hj]; rfl
  · rw [h0 37 (by omega) (fun j hj => by omega)]; rfl
theorem Sf.drewN {w : World} {g : Nat} {F : Nat → Int} (h : Sf w g F) (q : Nat) : Sf (w.drewN q) g F := h
theorem grown_drewN (w : World) (g q : Nat) : w.grownBy (w.drewN q) (some g) := ⟨rfl, rfl, rfl, Nat.le_refl _, fun _ _ _ => rfl⟩
theorem Sf.set3 {w : World} {g n : Nat} {s : M.St} (h : Sf w g (stF n s)) {o : Nat} (ho : o < 4) (a b c : Int) : Sf (((w.setCell ⟨g, 1 + o * 3, none⟩ (.int .i64 a)).setCell ⟨g, 1 + o * 3 + 1, none⟩ (.int .i64 b)).setCell ⟨g, 1 + o * 3 + 2, none⟩ (.int .i64 c)) g (stF n (M.setC s o (M.v3 a b c))) := by
  refine (((h.set_ (i := 1 + o * 3) (by omega) a).set_ (i := 1 + o * 3 + 1) (by omega) b).set_ (i := 1 + o * 3 + 2) (by omega) c).congr (stF_set ho (fun i _ hne => ?_) (fun j hj => ?_))
  · have e0 := hne 0 (by omega)
    have e1 := hne 1 (by omega)
    have e2 := hne 2 (by omega)
    show (if i = 1 + o * 3 + 2 then c else if i = 1 + o * 3 + 1 then b else if i = 1 + o * 3 then a else stF n s i) = stF n s i
    rw [if_neg e2, if_neg e1, if_neg (by omega)]
  · show (if 1 + o * 3 + j = 1 + o * 3 + 2 then c else if 1 + o * 3 + j = 1 + o * 3 + 1 then b else if 1 + o * 3 + j = 1 + o * 3 then a else stF n s (1 + o * 3 + j)) = M.v3 a b c j
    obtain rfl | rfl | rfl : j = 0 ∨ j = 1 ∨ j = 2 := by omega
    · rw [if_neg (by omega), if_neg (by omega), if_pos (by omega)]; rfl
    · rw [if_neg (by omega), if_pos (by omega)]; rfl
    · rw [if_pos (by omega)]; rfl
theorem Sf.set1 {w : World} {g n : Nat} {s : M.St} (h : Sf w g (stF n s)) {o : Nat} (ho : o < 4) (a : Int) : Sf (w.setCell ⟨g, 1 + o * 3, none⟩ (.int .i64 a)) g (stF n (M.setC s o (M.v3 a (s.c o 1) (s.c o 2)))) := by
  refine (h.set_ (i := 1 + o * 3) (by omega) a).congr (stF_set ho (fun i _ hne => ?_) (fun j hj => ?_))
  · have e0 := hne 0 (by omega)
    show (if i = 1 + o * 3 then a else stF n s i) = stF n s i
    rw [if_neg (by omega)]
  · show (if 1 + o * 3 + j = 1 + o * 3 then a else stF n s (1 + o * 3 + j)) = M.v3 a (s.c o 1) (s.c o 2) j
    obtain rfl | rfl | rfl : j = 0 ∨ j = 1 ∨ j = 2 := by omega
    · rw [if_pos (by omega)]; rfl
    · rw [if_neg (by omega), stF_c n s ho (by omega)]; rfl
    · rw [if_neg (by omega), stF_c n s ho (by omega)]; rfl
theorem Sf.set2 {w : World} {g n : Nat} {s : M.St} (h : Sf w g (stF n s)) {o : Nat} (ho : o < 4) (a b : Int) : Sf ((w.setCell ⟨g, 1 + o * 3, none⟩ (.int .i64 a)).setCell ⟨g, 1 + o * 3 + 1, none⟩ (.int .i64 b)) g (stF n (M.setC s o (M.v3 a b (s.c o 2)))) := by
  refine ((h.set_ (i := 1 + o * 3) (by omega) a).set_ (i := 1 + o * 3 + 1) (by omega) b).congr (stF_set ho (fun i _ hne => ?_) (fun j hj => ?_))
  · have e0 := hne 0 (by omega)
    have e1 := hne 1 (by omega)
    show (if i = 1 + o * 3 + 1 then b else if i = 1 + o * 3 then a else stF n s i) = stF n s i
    rw [if_neg e1, if_neg (by omega)]
  · show (if 1 + o * 3 + j = 1 + o * 3 + 1 then b else if 1 + o * 3 + j = 1 + o * 3 then a else stF n s (1 + o * 3 + j)) = M.v3 a b (s.c o 2) j
    obtain rfl | rfl | rfl : j = 0 ∨ j = 1 ∨ j = 2 := by omega
    · rw [if_neg (by omega), if_pos (by omega)]; rfl
    · rw [if_pos (by omega)]; rfl
    · rw [if_neg (by omega), if_neg (by omega), stF_c n s ho (by omega)]; rfl
theorem grown_set3 (w : World) (g i j k : Nat) (a b c : Value) : w.grownBy (((w.setCell ⟨g, i, none⟩ a).setCell ⟨g, j, none⟩ b).setCell ⟨g, k, none⟩ c) (some g) := ((grown_set w g i a).trans (grown_set _ g j b)).trans (grown_set _ g k c)
section
variable (n g B o : Nat) (s : M.St) (x0 x1 x3 : Int) (sm : Bool) (w : World)
/-- what the handling leaves -/
def HandV (n g : Nat) (t : M.St) (w : World) (e : Ending) (w' : World) : Prop := (∃ v, e = .returned v) ∧ Sf w' g (stF n t) ∧ w.grownBy w' (some g)
set_option maxRecDepth 100000 in
set_option maxHeartbeats 3200000 in
theorem hand_skip {v1 v2 v6 v7 v8 v9 v10 v11 v12 v13 v14 v15 v16 v17 v18 v19 v20 v21 v22 v23 v24 v25 v26 v27 v28 v29 v30 v31 v32 v33 v34 v35 v36 v37 v38 v39 v40 v41 v42 v43 v44 v45 v46 v47 v48 v49 v50 v51 v52 v53 v54 v55 v56 v57 v58 v59 v60 v61 v62 v63 v64 v65 v66 v67 v68 v69 v70 v71 v72 v73 v74 v75 v76 v77 v78 v79 v80 v81 v82 v83 v84 v85 v86 v87 v88 v89 v90 v91 v92 v93 v94 v95 v96 v97 v98 v99 v100 v101 v102 v103 v104 v105 v106 v107 v108 v109 v110 v111 v112 v113 v114 v115 v116 v117 v118 v119 v120 v121 v122 v123 v124 v125 v126 v127 v128 v129 v130 v131 v132 v133 v134 v135 v136 v137 : Value} (t : M.St) (hs : Sf w g (stF n s)) (hb : Blk w B 54 #[.int .i64 x0, .int .i64 x1, .int .i64 (o : Int), .int .i64 x3]) (hgB : g ≠ B) (ho : o < 4) (_hk6 : s.k < 6)
    (ht : t = s) (hx : x0 ≠ 1 ∧ x0 ≠ 2 ∧ x0 ≠ 3) :
    Code.wp Tryd.prog (restAt Tryd.f39 3) (bodyPost Tryd.prog Tryd.f39 (HandV n g t w))  { tmps := List.toArray (.pointer (some ⟨g, 0, none⟩) :: v1 :: v2 :: .pointer (some ⟨B, 0, none⟩) :: .pointer (some ⟨g, 1 + o * 3, none⟩) :: .bool sm :: v6 :: v7 :: v8 :: v9 :: v10 :: v11 :: v12 :: v13 :: v14 :: v15 :: v16 :: v17 :: v18 :: v19 :: v20 :: v21 :: v22 :: v23 :: v24 :: v25 :: v26 :: v27 :: v28 :: v29 :: v30 :: v31 :: v32 :: v33 :: v34 :: v35 :: v36 :: v37 :: v38 :: v39 :: v40 :: v41 :: v42 :: v43 :: v44 :: v45 :: v46 :: v47 :: v48 :: v49 :: v50 :: v51 :: v52 :: v53 :: v54 :: v55 :: v56 :: v57 :: v58 :: v59 :: v60 :: v61 :: v62 :: v63 :: v64 :: v65 :: v66 :: v67 :: v68 :: v69 :: v70 :: v71 :: v72 :: v73 :: v74 :: v75 :: v76 :: v77 :: v78 :: v79 :: v80 :: v81 :: v82 :: v83 :: v84 :: v85 :: v86 :: v87 :: v88 :: v89 :: v90 :: v91 :: v92 :: v93 :: v94 :: v95 :: v96 :: v97 :: v98 :: v99 :: v100 :: v101 :: v102 :: v103 :: v104 :: v105 :: v106 :: v107 :: v108 :: v109 :: v110 :: v111 :: v112 :: v113 :: v114 :: v115 :: v116 :: v117 :: v118 :: v119 :: v120 :: v121 :: v122 :: v123 :: v124 :: v125 :: v126 :: v127 :: v128 :: v129 :: v130 :: v131 :: v132 :: v133 :: v134 :: v135 :: v136 :: v137 :: []), defers := [] } w := by
  have hgw := hs.lt
  have hBw := hb.lt
  obtain ⟨c0, c1, c2⟩ := hs.cen (a := o) ho
  have y0 := hb.cell 0
  have y1 := hb.cell 1
  have y2 := hb.cell 2
  have y3 := hb.cell 3
  have z0 := hs.frz (1 + o * 3)
  have z1 := hs.frz (1 + o * 3 + 1)
  have z2 := hs.frz (1 + o * 3 + 2)
  have H := Lib.hid hs
  have HB := Lib.hid hb
  have hBg : B ≠ g := Ne.symm hgB
  clear hs hb
  have HT := Lib.hid ht
  have e1 : (x0 == 1) = false := by rw [beq_eq_false_iff_ne]; exact hx.1
  have e2 : (x0 == 2) = false := by rw [beq_eq_false_iff_ne]; exact hx.2.1
  have e3 : (x0 == 3) = false := by rw [beq_eq_false_iff_ne]; exact hx.2.2
  clear ht hx
  conv in restAt _ _ => whnf
  go_wp2_with fail
  go_quiet (fail)
  go_wp2_with fail
  go_end0
  exact ⟨⟨_, rfl⟩, by rw [HT.out]; exact H.out.drewN _, grown_drewN _ _ _⟩
set_option maxRecDepth 100000 in
set_option maxHeartbeats 3200000 in
theorem hand_1_0_no {v1 v2 v6 v7 v8 v9 v10 v11 v12 v13 v14 v15 v16 v17 v18 v19 v20 v21 v22 v23 v24 v25 v26 v27 v28 v29 v30 v31 v32 v33 v34 v35 v36 v37 v38 v39 v40 v41 v42 v43 v44 v45 v46 v47 v48 v49 v50 v51 v52 v53 v54 v55 v56 v57 v58 v59 v60 v61 v62 v63 v64 v65 v66 v67 v68 v69 v70 v71 v72 v73 v74 v75 v76 v77 v78 v79 v80 v81 v82 v83 v84 v85 v86 v87 v88 v89 v90 v91 v92 v93 v94 v95 v96 v97 v98 v99 v100 v101 v102 v103 v104 v105 v106 v107 v108 v109 v110 v111 v112 v113 v114 v115 v116 v117 v118 v119 v120 v121 v122 v123 v124 v125 v126 v127 v128 v129 v130 v131 v132 v133 v134 v135 v136 v137 : Value} (t : M.St) (hs : Sf w g (stF n s)) (hb : Blk w B 54 #[.int .i64 x0, .int .i64 x1, .int .i64 (o : Int), .int .i64 x3]) (hgB : g ≠ B) (ho : o < 4) (_hk6 : s.k < 6)
    (ht : t = s) (hx0 : x0 = 1) (hi : s.c o 0 = 0) (hl : ¬ s.c o 2 < x3) :
    Code.wp Tryd.prog (restAt Tryd.f39 3) (bodyPost Tryd.prog Tryd.f39 (HandV n g t w))  { tmps := List.toArray (.pointer (some ⟨g, 0, none⟩) :: v1 :: v2 :: .pointer (some ⟨B, 0, none⟩) :: .pointer (some ⟨g, 1 + o * 3, none⟩) :: .bool sm :: v6 :: v7 :: v8 :: v9 :: v10 :: v11 :: v12 :: v13 :: v14 :: v15 :: v16 :: v17 :: v18 :: v19 :: v20 :: v21 :: v22 :: v23 :: v24 :: v25 :: v26 :: v27 :: v28 :: v29 :: v30 :: v31 :: v32 :: v33 :: v34 :: v35 :: v36 :: v37 :: v38 :: v39 :: v40 :: v41 :: v42 :: v43 :: v44 :: v45 :: v46 :: v47 :: v48 :: v49 :: v50 :: v51 :: v52 :: v53 :: v54 :: v55 :: v56 :: v57 :: v58 :: v59 :: v60 :: v61 :: v62 :: v63 :: v64 :: v65 :: v66 :: v67 :: v68 :: v69 :: v70 :: v71 :: v72 :: v73 :: v74 :: v75 :: v76 :: v77 :: v78 :: v79 :: v80 :: v81 :: v82 :: v83 :: v84 :: v85 :: v86 :: v87 :: v88 :: v89 :: v90 :: v91 :: v92 :: v93 :: v94 :: v95 :: v96 :: v97 :: v98 :: v99 :: v100 :: v101 :: v102 :: v103 :: v104 :: v105 :: v106 :: v107 :: v108 :: v109 :: v110 :: v111 :: v112 :: v113 :: v114 :: v115 :: v116 :: v117 :: v118 :: v119 :: v120 :: v121 :: v122 :: v123 :: v124 :: v125 :: v126 :: v127 :: v128 :: v129 :: v130 :: v131 :: v132 :: v133 :: v134 :: v135 :: v136 :: v137 :: []), defers := [] } w := by
  have hgw := hs.lt
  have hBw := hb.lt
  obtain ⟨c0, c1, c2⟩ := hs.cen (a := o) ho
  have y0 := hb.cell 0
  have y1 := hb.cell 1
  have y2 := hb.cell 2
  have y3 := hb.cell 3
  have z0 := hs.frz (1 + o * 3)
  have z1 := hs.frz (1 + o * 3 + 1)
  have z2 := hs.frz (1 + o * 3 + 2)
  have H := Lib.hid hs
  have HB := Lib.hid hb
  have hBg : B ≠ g := Ne.symm hgB
  clear hs hb
  have HT := Lib.hid ht
  have e1 : (x0 == 1) = true := by rw [hx0]; decide
  have e2 : (x0 == 2) = false := by rw [hx0]; decide
  have e3 : (x0 == 3) = false := by rw [hx0]; decide
  have i0 : (s.c o 0 == 0) = true := by rw [hi]; decide
  have i2 : (s.c o 0 == 2) = false := by rw [hi]; decide
  have i3 : (s.c o 0 == 3) = false := by rw [hi]; decide
  have i4 : (s.c o 0 == 4) = false := by rw [hi]; decide
  have lt : decide (s.c o 2 < x3) = false := decide_eq_false hl
  clear hl
  clear ht hx0 hi
  conv in restAt _ _ => whnf
  go_wp2_with fail
  go_quiet (fail)
  go_wp2_with fail
  go_end0
  exact ⟨⟨_, rfl⟩, by rw [HT.out]; exact H.out.drewN _, grown_drewN _ _ _⟩
set_option maxRecDepth 100000 in
set_option maxHeartbeats 3200000 in
theorem hand_1_4_no {v1 v2 v6 v7 v8 v9 v10 v11 v12 v13 v14 v15 v16 v17 v18 v19 v20 v21 v22 v23 v24 v25 v26 v27 v28 v29 v30 v31 v32 v33 v34 v35 v36 v37 v38 v39 v40 v41 v42 v43 v44 v45 v46 v47 v48 v49 v50 v51 v52 v53 v54 v55 v56 v57 v58 v59 v60 v61 v62 v63 v64 v65 v66 v67 v68 v69 v70 v71 v72 v73 v74 v75 v76 v77 v78 v79 v80 v81 v82 v83 v84 v85 v86 v87 v88 v89 v90 v91 v92 v93 v94 v95 v96 v97 v98 v99 v100 v101 v102 v103 v104 v105 v106 v107 v108 v109 v110 v111 v112 v113 v114 v115 v116 v117 v118 v119 v120 v121 v122 v123 v124 v125 v126 v127 v128 v129 v130 v131 v132 v133 v134 v135 v136 v137 : Value} (t : M.St) (hs : Sf w g (stF n s)) (hb : Blk w B 54 #[.int .i64 x0, .int .i64 x1, .int .i64 (o : Int), .int .i64 x3]) (hgB : g ≠ B) (ho : o < 4) (_hk6 : s.k < 6)
    (ht : t = s) (hx0 : x0 = 1) (hi : s.c o 0 = 4) (hl : ¬ s.c o 2 < x3) :
    Code.wp Tryd.prog (restAt Tryd.f39 3) (bodyPost Tryd.prog Tryd.f39 (HandV n g t w))  { tmps := List.toArray (.pointer (some ⟨g, 0, none⟩) :: v1 :: v2 :: .pointer (some ⟨B, 0, none⟩) :: .pointer (some ⟨g, 1 + o * 3, none⟩) :: .bool sm :: v6 :: v7 :: v8 :: v9 :: v10 :: v11 :: v12 :: v13 :: v14 :: v15 :: v16 :: v17 :: v18 :: v19 :: v20 :: v21 :: v22 :: v23 :: v24 :: v25 :: v26 :: v27 :: v28 :: v29 :: v30 :: v31 :: v32 :: v33 :: v34 :: v35 :: v36 :: v37 :: v38 :: v39 :: v40 :: v41 :: v42 :: v43 :: v44 :: v45 :: v46 :: v47 :: v48 :: v49 :: v50 :: v51 :: v52 :: v53 :: v54 :: v55 :: v56 :: v57 :: v58 :: v59 :: v60 :: v61 :: v62 :: v63 :: v64 :: v65 :: v66 :: v67 :: v68 :: v69 :: v70 :: v71 :: v72 :: v73 :: v74 :: v75 :: v76 :: v77 :: v78 :: v79 :: v80 :: v81 :: v82 :: v83 :: v84 :: v85 :: v86 :: v87 :: v88 :: v89 :: v90 :: v91 :: v92 :: v93 :: v94 :: v95 :: v96 :: v97 :: v98 :: v99 :: v100 :: v101 :: v102 :: v103 :: v104 :: v105 :: v106 :: v107 :: v108 :: v109 :: v110 :: v111 :: v112 :: v113 :: v114 :: v115 :: v116 :: v117 :: v118 :: v119 :: v120 :: v121 :: v122 :: v123 :: v124 :: v125 :: v126 :: v127 :: v128 :: v129 :: v130 :: v131 :: v132 :: v133 :: v134 :: v135 :: v136 :: v137 :: []), defers := [] } w := by
  have hgw := hs.lt
  have hBw := hb.lt
  obtain ⟨c0, c1, c2⟩ := hs.cen (a := o) ho
  have y0 := hb.cell 0
  have y1 := hb.cell 1
  have y2 := hb.cell 2
  have y3 := hb.cell 3
  have z0 := hs.frz (1 + o * 3)
  have z1 := hs.frz (1 + o * 3 + 1)
  have z2 := hs.frz (1 + o * 3 + 2)
  have H := Lib.hid hs
  have HB := Lib.hid hb
  have hBg : B ≠ g := Ne.symm hgB
  clear hs hb
  have HT := Lib.hid ht
  have e1 : (x0 == 1) = true := by rw [hx0]; decide
  have e2 : (x0 == 2) = false := by rw [hx0]; decide
  have e3 : (x0 == 3) = false := by rw [hx0]; decide
  have i0 : (s.c o 0 == 0) = false := by rw [hi]; decide
  have i2 : (s.c o 0 == 2) = false := by rw [hi]; decide
  have i3 : (s.c o 0 == 3) = false := by rw [hi]; decide
  have i4 : (s.c o 0 == 4) = true := by rw [hi]; decide
  have lt : decide (s.c o 2 < x3) = false := decide_eq_false hl
  clear hl
  clear ht hx0 hi
  conv in restAt _ _ => whnf
  go_wp2_with fail
  go_quiet (fail)
  go_wp2_with fail
  go_end0
  exact ⟨⟨_, rfl⟩, by rw [HT.out]; exact H.out.drewN _, grown_drewN _ _ _⟩
set_option maxRecDepth 100000 in
set_option maxHeartbeats 3200000 in
theorem hand_1_1 {v1 v2 v6 v7 v8 v9 v10 v11 v12 v13 v14 v15 v16 v17 v18 v19 v20 v21 v22 v23 v24 v25 v26 v27 v28 v29 v30 v31 v32 v33 v34 v35 v36 v37 v38 v39 v40 v41 v42 v43 v44 v45 v46 v47 v48 v49 v50 v51 v52 v53 v54 v55 v56 v57 v58 v59 v60 v61 v62 v63 v64 v65 v66 v67 v68 v69 v70 v71 v72 v73 v74 v75 v76 v77 v78 v79 v80 v81 v82 v83 v84 v85 v86 v87 v88 v89 v90 v91 v92 v93 v94 v95 v96 v97 v98 v99 v100 v101 v102 v103 v104 v105 v106 v107 v108 v109 v110 v111 v112 v113 v114 v115 v116 v117 v118 v119 v120 v121 v122 v123 v124 v125 v126 v127 v128 v129 v130 v131 v132 v133 v134 v135 v136 v137 : Value} (t : M.St) (hs : Sf w g (stF n s)) (hb : Blk w B 54 #[.int .i64 x0, .int .i64 x1, .int .i64 (o : Int), .int .i64 x3]) (hgB : g ≠ B) (ho : o < 4) (_hk6 : s.k < 6)
    (ht : t = s) (hx0 : x0 = 1) (hi : s.c o 0 = 1) :
    Code.wp Tryd.prog (restAt Tryd.f39 3) (bodyPost Tryd.prog Tryd.f39 (HandV n g t w))  { tmps := List.toArray (.pointer (some ⟨g, 0, none⟩) :: v1 :: v2 :: .pointer (some ⟨B, 0, none⟩) :: .pointer (some ⟨g, 1 + o * 3, none⟩) :: .bool sm :: v6 :: v7 :: v8 :: v9 :: v10 :: v11 :: v12 :: v13 :: v14 :: v15 :: v16 :: v17 :: v18 :: v19 :: v20 :: v21 :: v22 :: v23 :: v24 :: v25 :: v26 :: v27 :: v28 :: v29 :: v30 :: v31 :: v32 :: v33 :: v34 :: v35 :: v36 :: v37 :: v38 :: v39 :: v40 :: v41 :: v42 :: v43 :: v44 :: v45 :: v46 :: v47 :: v48 :: v49 :: v50 :: v51 :: v52 :: v53 :: v54 :: v55 :: v56 :: v57 :: v58 :: v59 :: v60 :: v61 :: v62 :: v63 :: v64 :: v65 :: v66 :: v67 :: v68 :: v69 :: v70 :: v71 :: v72 :: v73 :: v74 :: v75 :: v76 :: v77 :: v78 :: v79 :: v80 :: v81 :: v82 :: v83 :: v84 :: v85 :: v86 :: v87 :: v88 :: v89 :: v90 :: v91 :: v92 :: v93 :: v94 :: v95 :: v96 :: v97 :: v98 :: v99 :: v100 :: v101 :: v102 :: v103 :: v104 :: v105 :: v106 :: v107 :: v108 :: v109 :: v110 :: v111 :: v112 :: v113 :: v114 :: v115 :: v116 :: v117 :: v118 :: v119 :: v120 :: v121 :: v122 :: v123 :: v124 :: v125 :: v126 :: v127 :: v128 :: v129 :: v130 :: v131 :: v132 :: v133 :: v134 :: v135 :: v136 :: v137 :: []), defers := [] } w := by
  have hgw := hs.lt
  have hBw := hb.lt
  obtain ⟨c0, c1, c2⟩ := hs.cen (a := o) ho
  have y0 := hb.cell 0
  have y1 := hb.cell 1
  have y2 := hb.cell 2
  have y3 := hb.cell 3
  have z0 := hs.frz (1 + o * 3)
  have z1 := hs.frz (1 + o * 3 + 1)
  have z2 := hs.frz (1 + o * 3 + 2)
  have H := Lib.hid hs
  have HB := Lib.hid hb
  have hBg : B ≠ g := Ne.symm hgB
  clear hs hb
  have HT := Lib.hid ht
  have e1 : (x0 == 1) = true := by rw [hx0]; decide
  have e2 : (x0 == 2) = false := by rw [hx0]; decide
  have e3 : (x0 == 3) = false := by rw [hx0]; decide
  have i0 : (s.c o 0 == 0) = false := by rw [hi]; decide
  have i2 : (s.c o 0 == 2) = false := by rw [hi]; decide
  have i3 : (s.c o 0 == 3) = false := by rw [hi]; decide
  have i4 : (s.c o 0 == 4) = false := by rw [hi]; decide
  clear ht hx0 hi
  conv in restAt _ _ => whnf
  go_wp2_with fail
  go_quiet (fail)
  go_wp2_with fail
  go_end0
  exact ⟨⟨_, rfl⟩, by rw [HT.out]; exact H.out.drewN _, grown_drewN _ _ _⟩
set_option maxRecDepth 100000 in
set_option maxHeartbeats 3200000 in
theorem hand_1_2 {v1 v2 v6 v7 v8 v9 v10 v11 v12 v13 v14 v15 v16 v17 v18 v19 v20 v21 v22 v23 v24 v25 v26 v27 v28 v29 v30 v31 v32 v33 v34 v35 v36 v37 v38 v39 v40 v41 v42 v43 v44 v45 v46 v47 v48 v49 v50 v51 v52 v53 v54 v55 v56 v57 v58 v59 v60 v61 v62 v63 v64 v65 v66 v67 v68 v69 v70 v71 v72 v73 v74 v75 v76 v77 v78 v79 v80 v81 v82 v83 v84 v85 v86 v87 v88 v89 v90 v91 v92 v93 v94 v95 v96 v97 v98 v99 v100 v101 v102 v103 v104 v105 v106 v107 v108 v109 v110 v111 v112 v113 v114 v115 v116 v117 v118 v119 v120 v121 v122 v123 v124 v125 v126 v127 v128 v129 v130 v131 v132 v133 v134 v135 v136 v137 : Value} (t : M.St) (hs : Sf w g (stF n s)) (hb : Blk w B 54 #[.int .i64 x0, .int .i64 x1, .int .i64 (o : Int), .int .i64 x3]) (hgB : g ≠ B) (ho : o < 4) (_hk6 : s.k < 6)
    (ht : t = s) (hx0 : x0 = 1) (hi : s.c o 0 = 2) :
    Code.wp Tryd.prog (restAt Tryd.f39 3) (bodyPost Tryd.prog Tryd.f39 (HandV n g t w))  { tmps := List.toArray (.pointer (some ⟨g, 0, none⟩) :: v1 :: v2 :: .pointer (some ⟨B, 0, none⟩) :: .pointer (some ⟨g, 1 + o * 3, none⟩) :: .bool sm :: v6 :: v7 :: v8 :: v9 :: v10 :: v11 :: v12 :: v13 :: v14 :: v15 :: v16 :: v17 :: v18 :: v19 :: v20 :: v21 :: v22 :: v23 :: v24 :: v25 :: v26 :: v27 :: v28 :: v29 :: v30 :: v31 :: v32 :: v33 :: v34 :: v35 :: v36 :: v37 :: v38 :: v39 :: v40 :: v41 :: v42 :: v43 :: v44 :: v45 :: v46 :: v47 :: v48 :: v49 :: v50 :: v51 :: v52 :: v53 :: v54 :: v55 :: v56 :: v57 :: v58 :: v59 :: v60 :: v61 :: v62 :: v63 :: v64 :: v65 :: v66 :: v67 :: v68 :: v69 :: v70 :: v71 :: v72 :: v73 :: v74 :: v75 :: v76 :: v77 :: v78 :: v79 :: v80 :: v81 :: v82 :: v83 :: v84 :: v85 :: v86 :: v87 :: v88 :: v89 :: v90 :: v91 :: v92 :: v93 :: v94 :: v95 :: v96 :: v97 :: v98 :: v99 :: v100 :: v101 :: v102 :: v103 :: v104 :: v105 :: v106 :: v107 :: v108 :: v109 :: v110 :: v111 :: v112 :: v113 :: v114 :: v115 :: v116 :: v117 :: v118 :: v119 :: v120 :: v121 :: v122 :: v123 :: v124 :: v125 :: v126 :: v127 :: v128 :: v129 :: v130 :: v131 :: v132 :: v133 :: v134 :: v135 :: v136 :: v137 :: []), defers := [] } w := by
  have hgw := hs.lt
  have hBw := hb.lt
  obtain ⟨c0, c1, c2⟩ := hs.cen (a := o) ho
  have y0 := hb.cell 0
  have y1 := hb.cell 1
  have y2 := hb.cell 2
  have y3 := hb.cell 3
  have z0 := hs.frz (1 + o * 3)
  have z1 := hs.frz (1 + o * 3 + 1)
  have z2 := hs.frz (1 + o * 3 + 2)
  have H := Lib.hid hs
  have HB := Lib.hid hb
  have hBg : B ≠ g := Ne.symm hgB
  clear hs hb
  have HT := Lib.hid ht
  have e1 : (x0 == 1) = true := by rw [hx0]; decide
  have e2 : (x0 == 2) = false := by rw [hx0]; decide
  have e3 : (x0 == 3) = false := by rw [hx0]; decide
  have i0 : (s.c o 0 == 0) = false := by rw [hi]; decide
  have i2 : (s.c o 0 == 2) = true := by rw [hi]; decide
  have i3 : (s.c o 0 == 3) = false := by rw [hi]; decide
  have i4 : (s.c o 0 == 4) = false := by rw [hi]; decide
  clear ht hx0 hi
  conv in restAt _ _ => whnf
  go_wp2_with fail
  go_quiet (fail)
  go_wp2_with fail
  go_end0
  exact ⟨⟨_, rfl⟩, by rw [HT.out]; exact H.out.drewN _, grown_drewN _ _ _⟩
set_option maxRecDepth 100000 in
set_option maxHeartbeats 3200000 in
theorem hand_1_3_no {v1 v2 v6 v7 v8 v9 v10 v11 v12 v13 v14 v15 v16 v17 v18 v19 v20 v21 v22 v23 v24 v25 v26 v27 v28 v29 v30 v31 v32 v33 v34 v35 v36 v37 v38 v39 v40 v41 v42 v43 v44 v45 v46 v47 v48 v49 v50 v51 v52 v53 v54 v55 v56 v57 v58 v59 v60 v61 v62 v63 v64 v65 v66 v67 v68 v69 v70 v71 v72 v73 v74 v75 v76 v77 v78 v79 v80 v81 v82 v83 v84 v85 v86 v87 v88 v89 v90 v91 v92 v93 v94 v95 v96 v97 v98 v99 v100 v101 v102 v103 v104 v105 v106 v107 v108 v109 v110 v111 v112 v113 v114 v115 v116 v117 v118 v119 v120 v121 v122 v123 v124 v125 v126 v127 v128 v129 v130 v131 v132 v133 v134 v135 v136 v137 : Value} (t : M.St) (hs : Sf w g (stF n s)) (hb : Blk w B 54 #[.int .i64 x0, .int .i64 x1, .int .i64 (o : Int), .int .i64 x3]) (hgB : g ≠ B) (ho : o < 4) (_hk6 : s.k < 6)
    (ht : t = s) (hx0 : x0 = 1) (hi : s.c o 0 = 3) (hsm : sm = false) :
    Code.wp Tryd.prog (restAt Tryd.f39 3) (bodyPost Tryd.prog Tryd.f39 (HandV n g t w))  { tmps := List.toArray (.pointer (some ⟨g, 0, none⟩) :: v1 :: v2 :: .pointer (some ⟨B, 0, none⟩) :: .pointer (some ⟨g, 1 + o * 3, none⟩) :: .bool sm :: v6 :: v7 :: v8 :: v9 :: v10 :: v11 :: v12 :: v13 :: v14 :: v15 :: v16 :: v17 :: v18 :: v19 :: v20 :: v21 :: v22 :: v23 :: v24 :: v25 :: v26 :: v27 :: v28 :: v29 :: v30 :: v31 :: v32 :: v33 :: v34 :: v35 :: v36 :: v37 :: v38 :: v39 :: v40 :: v41 :: v42 :: v43 :: v44 :: v45 :: v46 :: v47 :: v48 :: v49 :: v50 :: v51 :: v52 :: v53 :: v54 :: v55 :: v56 :: v57 :: v58 :: v59 :: v60 :: v61 :: v62 :: v63 :: v64 :: v65 :: v66 :: v67 :: v68 :: v69 :: v70 :: v71 :: v72 :: v73 :: v74 :: v75 :: v76 :: v77 :: v78 :: v79 :: v80 :: v81 :: v82 :: v83 :: v84 :: v85 :: v86 :: v87 :: v88 :: v89 :: v90 :: v91 :: v92 :: v93 :: v94 :: v95 :: v96 :: v97 :: v98 :: v99 :: v100 :: v101 :: v102 :: v103 :: v104 :: v105 :: v106 :: v107 :: v108 :: v109 :: v110 :: v111 :: v112 :: v113 :: v114 :: v115 :: v116 :: v117 :: v118 :: v119 :: v120 :: v121 :: v122 :: v123 :: v124 :: v125 :: v126 :: v127 :: v128 :: v129 :: v130 :: v131 :: v132 :: v133 :: v134 :: v135 :: v136 :: v137 :: []), defers := [] } w := by
  have hgw := hs.lt
  have hBw := hb.lt
  obtain ⟨c0, c1, c2⟩ := hs.cen (a := o) ho
  have y0 := hb.cell 0
  have y1 := hb.cell 1
  have y2 := hb.cell 2
  have y3 := hb.cell 3
  have z0 := hs.frz (1 + o * 3)
  have z1 := hs.frz (1 + o * 3 + 1)
  have z2 := hs.frz (1 + o * 3 + 2)
  have H := Lib.hid hs
  have HB := Lib.hid hb
  have hBg : B ≠ g := Ne.symm hgB
  clear hs hb
  have HT := Lib.hid ht
  have e1 : (x0 == 1) = true := by rw [hx0]; decide
  have e2 : (x0 == 2) = false := by rw [hx0]; decide
  have e3 : (x0 == 3) = false := by rw [hx0]; decide
  have i0 : (s.c o 0 == 0) = false := by rw [hi]; decide
  have i2 : (s.c o 0 == 2) = false := by rw [hi]; decide
  have i3 : (s.c o 0 == 3) = true := by rw [hi]; decide
  have i4 : (s.c o 0 == 4) = false := by rw [hi]; decide
  subst hsm
  clear ht hx0 hi
  conv in restAt _ _ => whnf
  go_wp2_with fail
  go_quiet (fail)
  go_wp2_with fail
  go_end0
  exact ⟨⟨_, rfl⟩, by rw [HT.out]; exact H.out.drewN _, grown_drewN _ _ _⟩
set_option maxRecDepth 100000 in
set_option maxHeartbeats 3200000 in
theorem hand_2_0 {v1 v2 v6 v7 v8 v9 v10 v11 v12 v13 v14 v15 v16 v17 v18 v19 v20 v21 v22 v23 v24 v25 v26 v27 v28 v29 v30 v31 v32 v33 v34 v35 v36 v37 v38 v39 v40 v41 v42 v43 v44 v45 v46 v47 v48 v49 v50 v51 v52 v53 v54 v55 v56 v57 v58 v59 v60 v61 v62 v63 v64 v65 v66 v67 v68 v69 v70 v71 v72 v73 v74 v75 v76 v77 v78 v79 v80 v81 v82 v83 v84 v85 v86 v87 v88 v89 v90 v91 v92 v93 v94 v95 v96 v97 v98 v99 v100 v101 v102 v103 v104 v105 v106 v107 v108 v109 v110 v111 v112 v113 v114 v115 v116 v117 v118 v119 v120 v121 v122 v123 v124 v125 v126 v127 v128 v129 v130 v131 v132 v133 v134 v135 v136 v137 : Value} (t : M.St) (hs : Sf w g (stF n s)) (hb : Blk w B 54 #[.int .i64 x0, .int .i64 x1, .int .i64 (o : Int), .int .i64 x3]) (hgB : g ≠ B) (ho : o < 4) (_hk6 : s.k < 6)
    (ht : t = s) (hx0 : x0 = 2) (hi : s.c o 0 = 0) :
    Code.wp Tryd.prog (restAt Tryd.f39 3) (bodyPost Tryd.prog Tryd.f39 (HandV n g t w))  { tmps := List.toArray (.pointer (some ⟨g, 0, none⟩) :: v1 :: v2 :: .pointer (some ⟨B, 0, none⟩) :: .pointer (some ⟨g, 1 + o * 3, none⟩) :: .bool sm :: v6 :: v7 :: v8 :: v9 :: v10 :: v11 :: v12 :: v13 :: v14 :: v15 :: v16 :: v17 :: v18 :: v19 :: v20 :: v21 :: v22 :: v23 :: v24 :: v25 :: v26 :: v27 :: v28 :: v29 :: v30 :: v31 :: v32 :: v33 :: v34 :: v35 :: v36 :: v37 :: v38 :: v39 :: v40 :: v41 :: v42 :: v43 :: v44 :: v45 :: v46 :: v47 :: v48 :: v49 :: v50 :: v51 :: v52 :: v53 :: v54 :: v55 :: v56 :: v57 :: v58 :: v59 :: v60 :: v61 :: v62 :: v63 :: v64 :: v65 :: v66 :: v67 :: v68 :: v69 :: v70 :: v71 :: v72 :: v73 :: v74 :: v75 :: v76 :: v77 :: v78 :: v79 :: v80 :: v81 :: v82 :: v83 :: v84 :: v85 :: v86 :: v87 :: v88 :: v89 :: v90 :: v91 :: v92 :: v93 :: v94 :: v95 :: v96 :: v97 :: v98 :: v99 :: v100 :: v101 :: v102 :: v103 :: v104 :: v105 :: v106 :: v107 :: v108 :: v109 :: v110 :: v111 :: v112 :: v113 :: v114 :: v115 :: v116 :: v117 :: v118 :: v119 :: v120 :: v121 :: v122 :: v123 :: v124 :: v125 :: v126 :: v127 :: v128 :: v129 :: v130 :: v131 :: v132 :: v133 :: v134 :: v135 :: v136 :: v137 :: []), defers := [] } w := by
  have hgw := hs.lt
  have hBw := hb.lt
  obtain ⟨c0, c1, c2⟩ := hs.cen (a := o) ho
  have y0 := hb.cell 0
  have y1 := hb.cell 1
  have y2 := hb.cell 2
  have y3 := hb.cell 3
  have z0 := hs.frz (1 + o * 3)
  have z1 := hs.frz (1 + o * 3 + 1)
  have z2 := hs.frz (1 + o * 3 + 2)
  have H := Lib.hid hs
  have HB := Lib.hid hb
  have hBg : B ≠ g := Ne.symm hgB
  clear hs hb
  have HT := Lib.hid ht
  have e1 : (x0 == 1) = false := by rw [hx0]; decide
  have e2 : (x0 == 2) = true := by rw [hx0]; decide
  have e3 : (x0 == 3) = false := by rw [hx0]; decide
  have i0 : (s.c o 0 == 0) = true := by rw [hi]; decide
  have i2 : (s.c o 0 == 2) = false := by rw [hi]; decide
  have i3 : (s.c o 0 == 3) = false := by rw [hi]; decide
  have i4 : (s.c o 0 == 4) = false := by rw [hi]; decide
  clear ht hx0 hi
  conv in restAt _ _ => whnf
  go_wp2_with fail
  go_quiet (fail)
  go_wp2_with fail
  go_end0
  exact ⟨⟨_, rfl⟩, by rw [HT.out]; exact H.out.drewN _, grown_drewN _ _ _⟩
set_option maxRecDepth 100000 in
set_option maxHeartbeats 3200000 in
theorem hand_2_1 {v1 v2 v6 v7 v8 v9 v10 v11 v12 v13 v14 v15 v16 v17 v18 v19 v20 v21 v22 v23 v24 v25 v26 v27 v28 v29 v30 v31 v32 v33 v34 v35 v36 v37 v38 v39 v40 v41 v42 v43 v44 v45 v46 v47 v48 v49 v50 v51 v52 v53 v54 v55 v56 v57 v58 v59 v60 v61 v62 v63 v64 v65 v66 v67 v68 v69 v70 v71 v72 v73 v74 v75 v76 v77 v78 v79 v80 v81 v82 v83 v84 v85 v86 v87 v88 v89 v90 v91 v92 v93 v94 v95 v96 v97 v98 v99 v100 v101 v102 v103 v104 v105 v106 v107 v108 v109 v110 v111 v112 v113 v114 v115 v116 v117 v118 v119 v120 v121 v122 v123 v124 v125 v126 v127 v128 v129 v130 v131 v132 v133 v134 v135 v136 v137 : Value} (t : M.St) (hs : Sf w g (stF n s)) (hb : Blk w B 54 #[.int .i64 x0, .int .i64 x1, .int .i64 (o : Int), .int .i64 x3]) (hgB : g ≠ B) (ho : o < 4) (_hk6 : s.k < 6)
    (ht : t = s) (hx0 : x0 = 2) (hi : s.c o 0 = 1) :
    Code.wp Tryd.prog (restAt Tryd.f39 3) (bodyPost Tryd.prog Tryd.f39 (HandV n g t w))  { tmps := List.toArray (.pointer (some ⟨g, 0, none⟩) :: v1 :: v2 :: .pointer (some ⟨B, 0, none⟩) :: .pointer (some ⟨g, 1 + o * 3, none⟩) :: .bool sm :: v6 :: v7 :: v8 :: v9 :: v10 :: v11 :: v12 :: v13 :: v14 :: v15 :: v16 :: v17 :: v18 :: v19 :: v20 :: v21 :: v22 :: v23 :: v24 :: v25 :: v26 :: v27 :: v28 :: v29 :: v30 :: v31 :: v32 :: v33 :: v34 :: v35 :: v36 :: v37 :: v38 :: v39 :: v40 :: v41 :: v42 :: v43 :: v44 :: v45 :: v46 :: v47 :: v48 :: v49 :: v50 :: v51 :: v52 :: v53 :: v54 :: v55 :: v56 :: v57 :: v58 :: v59 :: v60 :: v61 :: v62 :: v63 :: v64 :: v65 :: v66 :: v67 :: v68 :: v69 :: v70 :: v71 :: v72 :: v73 :: v74 :: v75 :: v76 :: v77 :: v78 :: v79 :: v80 :: v81 :: v82 :: v83 :: v84 :: v85 :: v86 :: v87 :: v88 :: v89 :: v90 :: v91 :: v92 :: v93 :: v94 :: v95 :: v96 :: v97 :: v98 :: v99 :: v100 :: v101 :: v102 :: v103 :: v104 :: v105 :: v106 :: v107 :: v108 :: v109 :: v110 :: v111 :: v112 :: v113 :: v114 :: v115 :: v116 :: v117 :: v118 :: v119 :: v120 :: v121 :: v122 :: v123 :: v124 :: v125 :: v126 :: v127 :: v128 :: v129 :: v130 :: v131 :: v132 :: v133 :: v134 :: v135 :: v136 :: v137 :: []), defers := [] } w := by
  have hgw := hs.lt
  have hBw := hb.lt
  obtain ⟨c0, c1, c2⟩ := hs.cen (a := o) ho
  have y0 := hb.cell 0
  have y1 := hb.cell 1
  have y2 := hb.cell 2
  have y3 := hb.cell 3
  have z0 := hs.frz (1 + o * 3)
  have z1 := hs.frz (1 + o * 3 + 1)
  have z2 := hs.frz (1 + o * 3 + 2)
  have H := Lib.hid hs
  have HB := Lib.hid hb
  have hBg : B ≠ g := Ne.symm hgB
  clear hs hb
  have HT := Lib.hid ht
  have e1 : (x0 == 1) = false := by rw [hx0]; decide
  have e2 : (x0 == 2) = true := by rw [hx0]; decide
  have e3 : (x0 == 3) = false := by rw [hx0]; decide
  have i0 : (s.c o 0 == 0) = false := by rw [hi]; decide
  have i2 : (s.c o 0 == 2) = false := by rw [hi]; decide
  have i3 : (s.c o 0 == 3) = false := by rw [hi]; decide
  have i4 : (s.c o 0 == 4) = false := by rw [hi]; decide
  clear ht hx0 hi
  conv in restAt _ _ => whnf
  go_wp2_with fail
  go_quiet (fail)
  go_wp2_with fail
  go_end0
  exact ⟨⟨_, rfl⟩, by rw [HT.out]; exact H.out.drewN _, grown_drewN _ _ _⟩
set_option maxRecDepth 100000 in
set_option maxHeartbeats 3200000 in
theorem hand_2_3 {v1 v2 v6 v7 v8 v9 v10 v11 v12 v13 v14 v15 v16 v17 v18 v19 v20 v21 v22 v23 v24 v25 v26 v27 v28 v29 v30 v31 v32 v33 v34 v35 v36 v37 v38 v39 v40 v41 v42 v43 v44 v45 v46 v47 v48 v49 v50 v51 v52 v53 v54 v55 v56 v57 v58 v59 v60 v61 v62 v63 v64 v65 v66 v67 v68 v69 v70 v71 v72 v73 v74 v75 v76 v77 v78 v79 v80 v81 v82 v83 v84 v85 v86 v87 v88 v89 v90 v91 v92 v93 v94 v95 v96 v97 v98 v99 v100 v101 v102 v103 v104 v105 v106 v107 v108 v109 v110 v111 v112 v113 v114 v115 v116 v117 v118 v119 v120 v121 v122 v123 v124 v125 v126 v127 v128 v129 v130 v131 v132 v133 v134 v135 v136 v137 : Value} (t : M.St) (hs : Sf w g (stF n s)) (hb : Blk w B 54 #[.int .i64 x0, .int .i64 x1, .int .i64 (o : Int), .int .i64 x3]) (hgB : g ≠ B) (ho : o < 4) (_hk6 : s.k < 6)
    (ht : t = s) (hx0 : x0 = 2) (hi : s.c o 0 = 3) :
    Code.wp Tryd.prog (restAt Tryd.f39 3) (bodyPost Tryd.prog Tryd.f39 (HandV n g t w))  { tmps := List.toArray (.pointer (some ⟨g, 0, none⟩) :: v1 :: v2 :: .pointer (some ⟨B, 0, none⟩) :: .pointer (some ⟨g, 1 + o * 3, none⟩) :: .bool sm :: v6 :: v7 :: v8 :: v9 :: v10 :: v11 :: v12 :: v13 :: v14 :: v15 :: v16 :: v17 :: v18 :: v19 :: v20 :: v21 :: v22 :: v23 :: v24 :: v25 :: v26 :: v27 :: v28 :: v29 :: v30 :: v31 :: v32 :: v33 :: v34 :: v35 :: v36 :: v37 :: v38 :: v39 :: v40 :: v41 :: v42 :: v43 :: v44 :: v45 :: v46 :: v47 :: v48 :: v49 :: v50 :: v51 :: v52 :: v53 :: v54 :: v55 :: v56 :: v57 :: v58 :: v59 :: v60 :: v61 :: v62 :: v63 :: v64 :: v65 :: v66 :: v67 :: v68 :: v69 :: v70 :: v71 :: v72 :: v73 :: v74 :: v75 :: v76 :: v77 :: v78 :: v79 :: v80 :: v81 :: v82 :: v83 :: v84 :: v85 :: v86 :: v87 :: v88 :: v89 :: v90 :: v91 :: v92 :: v93 :: v94 :: v95 :: v96 :: v97 :: v98 :: v99 :: v100 :: v101 :: v102 :: v103 :: v104 :: v105 :: v106 :: v107 :: v108 :: v109 :: v110 :: v111 :: v112 :: v113 :: v114 :: v115 :: v116 :: v117 :: v118 :: v119 :: v120 :: v121 :: v122 :: v123 :: v124 :: v125 :: v126 :: v127 :: v128 :: v129 :: v130 :: v131 :: v132 :: v133 :: v134 :: v135 :: v136 :: v137 :: []), defers := [] } w := by
  have hgw := hs.lt
  have hBw := hb.lt
  obtain ⟨c0, c1, c2⟩ := hs.cen (a := o) ho
  have y0 := hb.cell 0
  have y1 := hb.cell 1
  have y2 := hb.cell 2
  have y3 := hb.cell 3
  have z0 := hs.frz (1 + o * 3)
  have z1 := hs.frz (1 + o * 3 + 1)
  have z2 := hs.frz (1 + o * 3 + 2)
  have H := Lib.hid hs
  have HB := Lib.hid hb
  have hBg : B ≠ g := Ne.symm hgB
  clear hs hb
  have HT := Lib.hid ht
  have e1 : (x0 == 1) = false := by rw [hx0]; decide
  have e2 : (x0 == 2) = true := by rw [hx0]; decide
  have e3 : (x0 == 3) = false := by rw [hx0]; decide
  have i0 : (s.c o 0 == 0) = false := by rw [hi]; decide
  have i2 : (s.c o 0 == 2) = false := by rw [hi]; decide
  have i3 : (s.c o 0 == 3) = true := by rw [hi]; decide
  have i4 : (s.c o 0 == 4) = false := by rw [hi]; decide
  clear ht hx0 hi
  conv in restAt _ _ => whnf
  go_wp2_with fail
  go_quiet (fail)
  go_wp2_with fail
  go_end0
  exact ⟨⟨_, rfl⟩, by rw [HT.out]; exact H.out.drewN _, grown_drewN _ _ _⟩
set_option maxRecDepth 100000 in
set_option maxHeartbeats 3200000 in
theorem hand_2_2_no {v1 v2 v6 v7 v8 v9 v10 v11 v12 v13 v14 v15 v16 v17 v18 v19 v20 v21 v22 v23 v24 v25 v26 v27 v28 v29 v30 v31 v32 v33 v34 v35 v36 v37 v38 v39 v40 v41 v42 v43 v44 v45 v46 v47 v48 v49 v50 v51 v52 v53 v54 v55 v56 v57 v58 v59 v60 v61 v62 v63 v64 v65 v66 v67 v68 v69 v70 v71 v72 v73 v74 v75 v76 v77 v78 v79 v80 v81 v82 v83 v84 v85 v86 v87 v88 v89 v90 v91 v92 v93 v94 v95 v96 v97 v98 v99 v100 v101 v102 v103 v104 v105 v106 v107 v108 v109 v110 v111 v112 v113 v114 v115 v116 v117 v118 v119 v120 v121 v122 v123 v124 v125 v126 v127 v128 v129 v130 v131 v132 v133 v134 v135 v136 v137 : Value} (t : M.St) (hs : Sf w g (stF n s)) (hb : Blk w B 54 #[.int .i64 x0, .int .i64 x1, .int .i64 (o : Int), .int .i64 x3]) (hgB : g ≠ B) (ho : o < 4) (_hk6 : s.k < 6)
    (ht : t = s) (hx0 : x0 = 2) (hi : s.c o 0 = 2) (hsm : sm = false) :
    Code.wp Tryd.prog (restAt Tryd.f39 3) (bodyPost Tryd.prog Tryd.f39 (HandV n g t w))  { tmps := List.toArray (.pointer (some ⟨g, 0, none⟩) :: v1 :: v2 :: .pointer (some ⟨B, 0, none⟩) :: .pointer (some ⟨g, 1 + o * 3, none⟩) :: .bool sm :: v6 :: v7 :: v8 :: v9 :: v10 :: v11 :: v12 :: v13 :: v14 :: v15 :: v16 :: v17 :: v18 :: v19 :: v20 :: v21 :: v22 :: v23 :: v24 :: v25 :: v26 :: v27 :: v28 :: v29 :: v30 :: v31 :: v32 :: v33 :: v34 :: v35 :: v36 :: v37 :: v38 :: v39 :: v40 :: v41 :: v42 :: v43 :: v44 :: v45 :: v46 :: v47 :: v48 :: v49 :: v50 :: v51 :: v52 :: v53 :: v54 :: v55 :: v56 :: v57 :: v58 :: v59 :: v60 :: v61 :: v62 :: v63 :: v64 :: v65 :: v66 :: v67 :: v68 :: v69 :: v70 :: v71 :: v72 :: v73 :: v74 :: v75 :: v76 :: v77 :: v78 :: v79 :: v80 :: v81 :: v82 :: v83 :: v84 :: v85 :: v86 :: v87 :: v88 :: v89 :: v90 :: v91 :: v92 :: v93 :: v94 :: v95 :: v96 :: v97 :: v98 :: v99 :: v100 :: v101 :: v102 :: v103 :: v104 :: v105 :: v106 :: v107 :: v108 :: v109 :: v110 :: v111 :: v112 :: v113 :: v114 :: v115 :: v116 :: v117 :: v118 :: v119 :: v120 :: v121 :: v122 :: v123 :: v124 :: v125 :: v126 :: v127 :: v128 :: v129 :: v130 :: v131 :: v132 :: v133 :: v134 :: v135 :: v136 :: v137 :: []), defers := [] } w := by
  have hgw := hs.lt
  have hBw := hb.lt
  obtain ⟨c0, c1, c2⟩ := hs.cen (a := o) ho
  have y0 := hb.cell 0
  have y1 := hb.cell 1
  have y2 := hb.cell 2
  have y3 := hb.cell 3
  have z0 := hs.frz (1 + o * 3)
  have z1 := hs.frz (1 + o * 3 + 1)
  have z2 := hs.frz (1 + o * 3 + 2)
  have H := Lib.hid hs
  have HB := Lib.hid hb
  have hBg : B ≠ g := Ne.symm hgB
  clear hs hb
  have HT := Lib.hid ht
  have e1 : (x0 == 1) = false := by rw [hx0]; decide
  have e2 : (x0 == 2) = true := by rw [hx0]; decide
  have e3 : (x0 == 3) = false := by rw [hx0]; decide
  have i0 : (s.c o 0 == 0) = false := by rw [hi]; decide
  have i2 : (s.c o 0 == 2) = true := by rw [hi]; decide
  have i3 : (s.c o 0 == 3) = false := by rw [hi]; decide
  have i4 : (s.c o 0 == 4) = false := by rw [hi]; decide
  subst hsm
  clear ht hx0 hi
  conv in restAt _ _ => whnf
  go_wp2_with fail
  go_quiet (fail)
  go_wp2_with fail
  go_end0
  exact ⟨⟨_, rfl⟩, by rw [HT.out]; exact H.out.drewN _, grown_drewN _ _ _⟩
set_option maxRecDepth 100000 in
set_option maxHeartbeats 3200000 in
theorem hand_2_4_no {v1 v2 v6 v7 v8 v9 v10 v11 v12 v13 v14 v15 v16 v17 v18 v19 v20 v21 v22 v23 v24 v25 v26 v27 v28 v29 v30 v31 v32 v33 v34 v35 v36 v37 v38 v39 v40 v41 v42 v43 v44 v45 v46 v47 v48 v49 v50 v51 v52 v53 v54 v55 v56 v57 v58 v59 v60 v61 v62 v63 v64 v65 v66 v67 v68 v69 v70 v71 v72 v73 v74 v75 v76 v77 v78 v79 v80 v81 v82 v83 v84 v85 v86 v87 v88 v89 v90 v91 v92 v93 v94 v95 v96 v97 v98 v99 v100 v101 v102 v103 v104 v105 v106 v107 v108 v109 v110 v111 v112 v113 v114 v115 v116 v117 v118 v119 v120 v121 v122 v123 v124 v125 v126 v127 v128 v129 v130 v131 v132 v133 v134 v135 v136 v137 : Value} (t : M.St) (hs : Sf w g (stF n s)) (hb : Blk w B 54 #[.int .i64 x0, .int .i64 x1, .int .i64 (o : Int), .int .i64 x3]) (hgB : g ≠ B) (ho : o < 4) (_hk6 : s.k < 6)
    (ht : t = s) (hx0 : x0 = 2) (hi : s.c o 0 = 4) (hsm : sm = false) :
    Code.wp Tryd.prog (restAt Tryd.f39 3) (bodyPost Tryd.prog Tryd.f39 (HandV n g t w))  { tmps := List.toArray (.pointer (some ⟨g, 0, none⟩) :: v1 :: v2 :: .pointer (some ⟨B, 0, none⟩) :: .pointer (some ⟨g, 1 + o * 3, none⟩) :: .bool sm :: v6 :: v7 :: v8 :: v9 :: v10 :: v11 :: v12 :: v13 :: v14 :: v15 :: v16 :: v17 :: v18 :: v19 :: v20 :: v21 :: v22 :: v23 :: v24 :: v25 :: v26 :: v27 :: v28 :: v29 :: v30 :: v31 :: v32 :: v33 :: v34 :: v35 :: v36 :: v37 :: v38 :: v39 :: v40 :: v41 :: v42 :: v43 :: v44 :: v45 :: v46 :: v47 :: v48 :: v49 :: v50 :: v51 :: v52 :: v53 :: v54 :: v55 :: v56 :: v57 :: v58 :: v59 :: v60 :: v61 :: v62 :: v63 :: v64 :: v65 :: v66 :: v67 :: v68 :: v69 :: v70 :: v71 :: v72 :: v73 :: v74 :: v75 :: v76 :: v77 :: v78 :: v79 :: v80 :: v81 :: v82 :: v83 :: v84 :: v85 :: v86 :: v87 :: v88 :: v89 :: v90 :: v91 :: v92 :: v93 :: v94 :: v95 :: v96 :: v97 :: v98 :: v99 :: v100 :: v101 :: v102 :: v103 :: v104 :: v105 :: v106 :: v107 :: v108 :: v109 :: v110 :: v111 :: v112 :: v113 :: v114 :: v115 :: v116 :: v117 :: v118 :: v119 :: v120 :: v121 :: v122 :: v123 :: v124 :: v125 :: v126 :: v127 :: v128 :: v129 :: v130 :: v131 :: v132 :: v133 :: v134 :: v135 :: v136 :: v137 :: []), defers := [] } w := by
  have hgw := hs.lt
  have hBw := hb.lt
  obtain ⟨c0, c1, c2⟩ := hs.cen (a := o) ho
  have y0 := hb.cell 0
  have y1 := hb.cell 1
  have y2 := hb.cell 2
  have y3 := hb.cell 3
  have z0 := hs.frz (1 + o * 3)
  have z1 := hs.frz (1 + o * 3 + 1)
  have z2 := hs.frz (1 + o * 3 + 2)
  have H := Lib.hid hs
  have HB := Lib.hid hb
  have hBg : B ≠ g := Ne.symm hgB
  clear hs hb
  have HT := Lib.hid ht
  have e1 : (x0 == 1) = false := by rw [hx0]; decide
  have e2 : (x0 == 2) = true := by rw [hx0]; decide
  have e3 : (x0 == 3) = false := by rw [hx0]; decide
  have i0 : (s.c o 0 == 0) = false := by rw [hi]; decide
  have i2 : (s.c o 0 == 2) = false := by rw [hi]; decide
  have i3 : (s.c o 0 == 3) = false := by rw [hi]; decide
  have i4 : (s.c o 0 == 4) = true := by rw [hi]; decide
  subst hsm
  clear ht hx0 hi
  conv in restAt _ _ => whnf
  go_wp2_with fail
  go_quiet (fail)
  go_wp2_with fail
  go_end0
  exact ⟨⟨_, rfl⟩, by rw [HT.out]; exact H.out.drewN _, grown_drewN _ _ _⟩
set_option maxRecDepth 100000 in
set_option maxHeartbeats 3200000 in
theorem hand_3_0 {v1 v2 v6 v7 v8 v9 v10 v11 v12 v13 v14 v15 v16 v17 v18 v19 v20 v21 v22 v23 v24 v25 v26 v27 v28 v29 v30 v31 v32 v33 v34 v35 v36 v37 v38 v39 v40 v41 v42 v43 v44 v45 v46 v47 v48 v49 v50 v51 v52 v53 v54 v55 v56 v57 v58 v59 v60 v61 v62 v63 v64 v65 v66 v67 v68 v69 v70 v71 v72 v73 v74 v75 v76 v77 v78 v79 v80 v81 v82 v83 v84 v85 v86 v87 v88 v89 v90 v91 v92 v93 v94 v95 v96 v97 v98 v99 v100 v101 v102 v103 v104 v105 v106 v107 v108 v109 v110 v111 v112 v113 v114 v115 v116 v117 v118 v119 v120 v121 v122 v123 v124 v125 v126 v127 v128 v129 v130 v131 v132 v133 v134 v135 v136 v137 : Value} (t : M.St) (hs : Sf w g (stF n s)) (hb : Blk w B 54 #[.int .i64 x0, .int .i64 x1, .int .i64 (o : Int), .int .i64 x3]) (hgB : g ≠ B) (ho : o < 4) (_hk6 : s.k < 6)
    (ht : t = s) (hx0 : x0 = 3) (hi : s.c o 0 = 0) :
    Code.wp Tryd.prog (restAt Tryd.f39 3) (bodyPost Tryd.prog Tryd.f39 (HandV n g t w))  { tmps := List.toArray (.pointer (some ⟨g, 0, none⟩) :: v1 :: v2 :: .pointer (some ⟨B, 0, none⟩) :: .pointer (some ⟨g, 1 + o * 3, none⟩) :: .bool sm :: v6 :: v7 :: v8 :: v9 :: v10 :: v11 :: v12 :: v13 :: v14 :: v15 :: v16 :: v17 :: v18 :: v19 :: v20 :: v21 :: v22 :: v23 :: v24 :: v25 :: v26 :: v27 :: v28 :: v29 :: v30 :: v31 :: v32 :: v33 :: v34 :: v35 :: v36 :: v37 :: v38 :: v39 :: v40 :: v41 :: v42 :: v43 :: v44 :: v45 :: v46 :: v47 :: v48 :: v49 :: v50 :: v51 :: v52 :: v53 :: v54 :: v55 :: v56 :: v57 :: v58 :: v59 :: v60 :: v61 :: v62 :: v63 :: v64 :: v65 :: v66 :: v67 :: v68 :: v69 :: v70 :: v71 :: v72 :: v73 :: v74 :: v75 :: v76 :: v77 :: v78 :: v79 :: v80 :: v81 :: v82 :: v83 :: v84 :: v85 :: v86 :: v87 :: v88 :: v89 :: v90 :: v91 :: v92 :: v93 :: v94 :: v95 :: v96 :: v97 :: v98 :: v99 :: v100 :: v101 :: v102 :: v103 :: v104 :: v105 :: v106 :: v107 :: v108 :: v109 :: v110 :: v111 :: v112 :: v113 :: v114 :: v115 :: v116 :: v117 :: v118 :: v119 :: v120 :: v121 :: v122 :: v123 :: v124 :: v125 :: v126 :: v127 :: v128 :: v129 :: v130 :: v131 :: v132 :: v133 :: v134 :: v135 :: v136 :: v137 :: []), defers := [] } w := by
  have hgw := hs.lt
  have hBw := hb.lt
  obtain ⟨c0, c1, c2⟩ := hs.cen (a := o) ho
  have y0 := hb.cell 0
  have y1 := hb.cell 1
  have y2 := hb.cell 2
  have y3 := hb.cell 3
  have z0 := hs.frz (1 + o * 3)
  have z1 := hs.frz (1 + o * 3 + 1)
  have z2 := hs.frz (1 + o * 3 + 2)
  have H := Lib.hid hs
  have HB := Lib.hid hb
  have hBg : B ≠ g := Ne.symm hgB
  clear hs hb
  have HT := Lib.hid ht
  have e1 : (x0 == 1) = false := by rw [hx0]; decide
  have e2 : (x0 == 2) = false := by rw [hx0]; decide
  have e3 : (x0 == 3) = true := by rw [hx0]; decide
  have i0 : (s.c o 0 == 0) = true := by rw [hi]; decide
  have i2 : (s.c o 0 == 2) = false := by rw [hi]; decide
  have i3 : (s.c o 0 == 3) = false := by rw [hi]; decide
  have i4 : (s.c o 0 == 4) = false := by rw [hi]; decide
  clear ht hx0 hi
  conv in restAt _ _ => whnf
  go_wp2_with fail
  go_quiet (fail)
  go_wp2_with fail
  go_end0
  exact ⟨⟨_, rfl⟩, by rw [HT.out]; exact H.out.drewN _, grown_drewN _ _ _⟩
set_option maxRecDepth 100000 in
set_option maxHeartbeats 3200000 in
theorem hand_3_1 {v1 v2 v6 v7 v8 v9 v10 v11 v12 v13 v14 v15 v16 v17 v18 v19 v20 v21 v22 v23 v24 v25 v26 v27 v28 v29 v30 v31 v32 v33 v34 v35 v36 v37 v38 v39 v40 v41 v42 v43 v44 v45 v46 v47 v48 v49 v50 v51 v52 v53 v54 v55 v56 v57 v58 v59 v60 v61 v62 v63 v64 v65 v66 v67 v68 v69 v70 v71 v72 v73 v74 v75 v76 v77 v78 v79 v80 v81 v82 v83 v84 v85 v86 v87 v88 v89 v90 v91 v92 v93 v94 v95 v96 v97 v98 v99 v100 v101 v102 v103 v104 v105 v106 v107 v108 v109 v110 v111 v112 v113 v114 v115 v116 v117 v118 v119 v120 v121 v122 v123 v124 v125 v126 v127 v128 v129 v130 v131 v132 v133 v134 v135 v136 v137 : Value} (t : M.St) (hs : Sf w g (stF n s)) (hb : Blk w B 54 #[.int .i64 x0, .int .i64 x1, .int .i64 (o : Int), .int .i64 x3]) (hgB : g ≠ B) (ho : o < 4) (_hk6 : s.k < 6)
    (ht : t = s) (hx0 : x0 = 3) (hi : s.c o 0 = 1) :
    Code.wp Tryd.prog (restAt Tryd.f39 3) (bodyPost Tryd.prog Tryd.f39 (HandV n g t w))  { tmps := List.toArray (.pointer (some ⟨g, 0, none⟩) :: v1 :: v2 :: .pointer (some ⟨B, 0, none⟩) :: .pointer (some ⟨g, 1 + o * 3, none⟩) :: .bool sm :: v6 :: v7 :: v8 :: v9 :: v10 :: v11 :: v12 :: v13 :: v14 :: v15 :: v16 :: v17 :: v18 :: v19 :: v20 :: v21 :: v22 :: v23 :: v24 :: v25 :: v26 :: v27 :: v28 :: v29 :: v30 :: v31 :: v32 :: v33 :: v34 :: v35 :: v36 :: v37 :: v38 :: v39 :: v40 :: v41 :: v42 :: v43 :: v44 :: v45 :: v46 :: v47 :: v48 :: v49 :: v50 :: v51 :: v52 :: v53 :: v54 :: v55 :: v56 :: v57 :: v58 :: v59 :: v60 :: v61 :: v62 :: v63 :: v64 :: v65 :: v66 :: v67 :: v68 :: v69 :: v70 :: v71 :: v72 :: v73 :: v74 :: v75 :: v76 :: v77 :: v78 :: v79 :: v80 :: v81 :: v82 :: v83 :: v84 :: v85 :: v86 :: v87 :: v88 :: v89 :: v90 :: v91 :: v92 :: v93 :: v94 :: v95 :: v96 :: v97 :: v98 :: v99 :: v100 :: v101 :: v102 :: v103 :: v104 :: v105 :: v106 :: v107 :: v108 :: v109 :: v110 :: v111 :: v112 :: v113 :: v114 :: v115 :: v116 :: v117 :: v118 :: v119 :: v120 :: v121 :: v122 :: v123 :: v124 :: v125 :: v126 :: v127 :: v128 :: v129 :: v130 :: v131 :: v132 :: v133 :: v134 :: v135 :: v136 :: v137 :: []), defers := [] } w := by
  have hgw := hs.lt
  have hBw := hb.lt
  obtain ⟨c0, c1, c2⟩ := hs.cen (a := o) ho
  have y0 := hb.cell 0
  have y1 := hb.cell 1
  have y2 := hb.cell 2
  have y3 := hb.cell 3
  have z0 := hs.frz (1 + o * 3)
  have z1 := hs.frz (1 + o * 3 + 1)
  have z2 := hs.frz (1 + o * 3 + 2)
  have H := Lib.hid hs
  have HB := Lib.hid hb
  have hBg : B ≠ g := Ne.symm hgB
  clear hs hb
  have HT := Lib.hid ht
  have e1 : (x0 == 1) = false := by rw [hx0]; decide
  have e2 : (x0 == 2) = false := by rw [hx0]; decide
  have e3 : (x0 == 3) = true := by rw [hx0]; decide
  have i0 : (s.c o 0 == 0) = false := by rw [hi]; decide
  have i2 : (s.c o 0 == 2) = false := by rw [hi]; decide
  have i3 : (s.c o 0 == 3) = false := by rw [hi]; decide
  have i4 : (s.c o 0 == 4) = false := by rw [hi]; decide
  clear ht hx0 hi
  conv in restAt _ _ => whnf
  go_wp2_with fail
  go_quiet (fail)
  go_wp2_with fail
  go_end0
  exact ⟨⟨_, rfl⟩, by rw [HT.out]; exact H.out.drewN _, grown_drewN _ _ _⟩
set_option maxRecDepth 100000 in
set_option maxHeartbeats 3200000 in
theorem hand_3_2 {v1 v2 v6 v7 v8 v9 v10 v11 v12 v13 v14 v15 v16 v17 v18 v19 v20 v21 v22 v23 v24 v25 v26 v27 v28 v29 v30 v31 v32 v33 v34 v35 v36 v37 v38 v39 v40 v41 v42 v43 v44 v45 v46 v47 v48 v49 v50 v51 v52 v53 v54 v55 v56 v57 v58 v59 v60 v61 v62 v63 v64 v65 v66 v67 v68 v69 v70 v71 v72 v73 v74 v75 v76 v77 v78 v79 v80 v81 v82 v83 v84 v85 v86 v87 v88 v89 v90 v91 v92 v93 v94 v95 v96 v97 v98 v99 v100 v101 v102 v103 v104 v105 v106 v107 v108 v109 v110 v111 v112 v113 v114 v115 v116 v117 v118 v119 v120 v121 v122 v123 v124 v125 v126 v127 v128 v129 v130 v131 v132 v133 v134 v135 v136 v137 : Value} (t : M.St) (hs : Sf w g (stF n s)) (hb : Blk w B 54 #[.int .i64 x0, .int .i64 x1, .int .i64 (o : Int), .int .i64 x3]) (hgB : g ≠ B) (ho : o < 4) (_hk6 : s.k < 6)
    (ht : t = s) (hx0 : x0 = 3) (hi : s.c o 0 = 2) :
    Code.wp Tryd.prog (restAt Tryd.f39 3) (bodyPost Tryd.prog Tryd.f39 (HandV n g t w))  { tmps := List.toArray (.pointer (some ⟨g, 0, none⟩) :: v1 :: v2 :: .pointer (some ⟨B, 0, none⟩) :: .pointer (some ⟨g, 1 + o * 3, none⟩) :: .bool sm :: v6 :: v7 :: v8 :: v9 :: v10 :: v11 :: v12 :: v13 :: v14 :: v15 :: v16 :: v17 :: v18 :: v19 :: v20 :: v21 :: v22 :: v23 :: v24 :: v25 :: v26 :: v27 :: v28 :: v29 :: v30 :: v31 :: v32 :: v33 :: v34 :: v35 :: v36 :: v37 :: v38 :: v39 :: v40 :: v41 :: v42 :: v43 :: v44 :: v45 :: v46 :: v47 :: v48 :: v49 :: v50 :: v51 :: v52 :: v53 :: v54 :: v55 :: v56 :: v57 :: v58 :: v59 :: v60 :: v61 :: v62 :: v63 :: v64 :: v65 :: v66 :: v67 :: v68 :: v69 :: v70 :: v71 :: v72 :: v73 :: v74 :: v75 :: v76 :: v77 :: v78 :: v79 :: v80 :: v81 :: v82 :: v83 :: v84 :: v85 :: v86 :: v87 :: v88 :: v89 :: v90 :: v91 :: v92 :: v93 :: v94 :: v95 :: v96 :: v97 :: v98 :: v99 :: v100 :: v101 :: v102 :: v103 :: v104 :: v105 :: v106 :: v107 :: v108 :: v109 :: v110 :: v111 :: v112 :: v113 :: v114 :: v115 :: v116 :: v117 :: v118 :: v119 :: v120 :: v121 :: v122 :: v123 :: v124 :: v125 :: v126 :: v127 :: v128 :: v129 :: v130 :: v131 :: v132 :: v133 :: v134 :: v135 :: v136 :: v137 :: []), defers := [] } w := by
  have hgw := hs.lt
  have hBw := hb.lt
  obtain ⟨c0, c1, c2⟩ := hs.cen (a := o) ho
  have y0 := hb.cell 0
  have y1 := hb.cell 1
  have y2 := hb.cell 2
  have y3 := hb.cell 3
  have z0 := hs.frz (1 + o * 3)
  have z1 := hs.frz (1 + o * 3 + 1)
  have z2 := hs.frz (1 + o * 3 + 2)
  have H := Lib.hid hs
  have HB := Lib.hid hb
  have hBg : B ≠ g := Ne.symm hgB
  clear hs hb
  have HT := Lib.hid ht
  have e1 : (x0 == 1) = false := by rw [hx0]; decide
  have e2 : (x0 == 2) = false := by rw [hx0]; decide
  have e3 : (x0 == 3) = true := by rw [hx0]; decide
  have i0 : (s.c o 0 == 0) = false := by rw [hi]; decide
  have i2 : (s.c o 0 == 2) = true := by rw [hi]; decide
  have i3 : (s.c o 0 == 3) = false := by rw [hi]; decide
  have i4 : (s.c o 0 == 4) = false := by rw [hi]; decide
  clear ht hx0 hi
  conv in restAt _ _ => whnf
  go_wp2_with fail
  go_quiet (fail)
  go_wp2_with fail
  go_end0
  exact ⟨⟨_, rfl⟩, by rw [HT.out]; exact H.out.drewN _, grown_drewN _ _ _⟩
set_option maxRecDepth 100000 in
set_option maxHeartbeats 3200000 in
theorem hand_3_4 {v1 v2 v6 v7 v8 v9 v10 v11 v12 v13 v14 v15 v16 v17 v18 v19 v20 v21 v22 v23 v24 v25 v26 v27 v28 v29 v30 v31 v32 v33 v34 v35 v36 v37 v38 v39 v40 v41 v42 v43 v44 v45 v46 v47 v48 v49 v50 v51 v52 v53 v54 v55 v56 v57 v58 v59 v60 v61 v62 v63 v64 v65 v66 v67 v68 v69 v70 v71 v72 v73 v74 v75 v76 v77 v78 v79 v80 v81 v82 v83 v84 v85 v86 v87 v88 v89 v90 v91 v92 v93 v94 v95 v96 v97 v98 v99 v100 v101 v102 v103 v104 v105 v106 v107 v108 v109 v110 v111 v112 v113 v114 v115 v116 v117 v118 v119 v120 v121 v122 v123 v124 v125 v126 v127 v128 v129 v130 v131 v132 v133 v134 v135 v136 v137 : Value} (t : M.St) (hs : Sf w g (stF n s)) (hb : Blk w B 54 #[.int .i64 x0, .int .i64 x1, .int .i64 (o : Int), .int .i64 x3]) (hgB : g ≠ B) (ho : o < 4) (_hk6 : s.k < 6)
    (ht : t = s) (hx0 : x0 = 3) (hi : s.c o 0 = 4) :
    Code.wp Tryd.prog (restAt Tryd.f39 3) (bodyPost Tryd.prog Tryd.f39 (HandV n g t w))  { tmps := List.toArray (.pointer (some ⟨g, 0, none⟩) :: v1 :: v2 :: .pointer (some ⟨B, 0, none⟩) :: .pointer (some ⟨g, 1 + o * 3, none⟩) :: .bool sm :: v6 :: v7 :: v8 :: v9 :: v10 :: v11 :: v12 :: v13 :: v14 :: v15 :: v16 :: v17 :: v18 :: v19 :: v20 :: v21 :: v22 :: v23 :: v24 :: v25 :: v26 :: v27 :: v28 :: v29 :: v30 :: v31 :: v32 :: v33 :: v34 :: v35 :: v36 :: v37 :: v38 :: v39 :: v40 :: v41 :: v42 :: v43 :: v44 :: v45 :: v46 :: v47 :: v48 :: v49 :: v50 :: v51 :: v52 :: v53 :: v54 :: v55 :: v56 :: v57 :: v58 :: v59 :: v60 :: v61 :: v62 :: v63 :: v64 :: v65 :: v66 :: v67 :: v68 :: v69 :: v70 :: v71 :: v72 :: v73 :: v74 :: v75 :: v76 :: v77 :: v78 :: v79 :: v80 :: v81 :: v82 :: v83 :: v84 :: v85 :: v86 :: v87 :: v88 :: v89 :: v90 :: v91 :: v92 :: v93 :: v94 :: v95 :: v96 :: v97 :: v98 :: v99 :: v100 :: v101 :: v102 :: v103 :: v104 :: v105 :: v106 :: v107 :: v108 :: v109 :: v110 :: v111 :: v112 :: v113 :: v114 :: v115 :: v116 :: v117 :: v118 :: v119 :: v120 :: v121 :: v122 :: v123 :: v124 :: v125 :: v126 :: v127 :: v128 :: v129 :: v130 :: v131 :: v132 :: v133 :: v134 :: v135 :: v136 :: v137 :: []), defers := [] } w := by
  have hgw := hs.lt
  have hBw := hb.lt
  obtain ⟨c0, c1, c2⟩ := hs.cen (a := o) ho
  have y0 := hb.cell 0
  have y1 := hb.cell 1
  have y2 := hb.cell 2
  have y3 := hb.cell 3
  have z0 := hs.frz (1 + o * 3)
  have z1 := hs.frz (1 + o * 3 + 1)
  have z2 := hs.frz (1 + o * 3 + 2)
  have H := Lib.hid hs
  have HB := Lib.hid hb
  have hBg : B ≠ g := Ne.symm hgB
  clear hs hb
  have HT := Lib.hid ht
  have e1 : (x0 == 1) = false := by rw [hx0]; decide
  have e2 : (x0 == 2) = false := by rw [hx0]; decide
  have e3 : (x0 == 3) = true := by rw [hx0]; decide
  have i0 : (s.c o 0 == 0) = false := by rw [hi]; decide
  have i2 : (s.c o 0 == 2) = false := by rw [hi]; decide
  have i3 : (s.c o 0 == 3) = false := by rw [hi]; decide
  have i4 : (s.c o 0 == 4) = true := by rw [hi]; decide
  clear ht hx0 hi
  conv in restAt _ _ => whnf
  go_wp2_with fail
  go_quiet (fail)
  go_wp2_with fail
  go_end0
  exact ⟨⟨_, rfl⟩, by rw [HT.out]; exact H.out.drewN _, grown_drewN _ _ _⟩
set_option maxRecDepth 100000 in
set_option maxHeartbeats 3200000 in
theorem hand_3_3_no {v1 v2 v6 v7 v8 v9 v10 v11 v12 v13 v14 v15 v16 v17 v18 v19 v20 v21 v22 v23 v24 v25 v26 v27 v28 v29 v30 v31 v32 v33 v34 v35 v36 v37 v38 v39 v40 v41 v42 v43 v44 v45 v46 v47 v48 v49 v50 v51 v52 v53 v54 v55 v56 v57 v58 v59 v60 v61 v62 v63 v64 v65 v66 v67 v68 v69 v70 v71 v72 v73 v74 v75 v76 v77 v78 v79 v80 v81 v82 v83 v84 v85 v86 v87 v88 v89 v90 v91 v92 v93 v94 v95 v96 v97 v98 v99 v100 v101 v102 v103 v104 v105 v106 v107 v108 v109 v110 v111 v112 v113 v114 v115 v116 v117 v118 v119 v120 v121 v122 v123 v124 v125 v126 v127 v128 v129 v130 v131 v132 v133 v134 v135 v136 v137 : Value} (t : M.St) (hs : Sf w g (stF n s)) (hb : Blk w B 54 #[.int .i64 x0, .int .i64 x1, .int .i64 (o : Int), .int .i64 x3]) (hgB : g ≠ B) (ho : o < 4) (_hk6 : s.k < 6)
    (ht : t = s) (hx0 : x0 = 3) (hi : s.c o 0 = 3) (hsm : sm = false) :
    Code.wp Tryd.prog (restAt Tryd.f39 3) (bodyPost Tryd.prog Tryd.f39 (HandV n g t w))  { tmps := List.toArray (.pointer (some ⟨g, 0, none⟩) :: v1 :: v2 :: .pointer (some ⟨B, 0, none⟩) :: .pointer (some ⟨g, 1 + o * 3, none⟩) :: .bool sm :: v6 :: v7 :: v8 :: v9 :: v10 :: v11 :: v12 :: v13 :: v14 :: v15 :: v16 :: v17 :: v18 :: v19 :: v20 :: v21 :: v22 :: v23 :: v24 :: v25 :: v26 :: v27 :: v28 :: v29 :: v30 :: v31 :: v32 :: v33 :: v34 :: v35 :: v36 :: v37 :: v38 :: v39 :: v40 :: v41 :: v42 :: v43 :: v44 :: v45 :: v46 :: v47 :: v48 :: v49 :: v50 :: v51 :: v52 :: v53 :: v54 :: v55 :: v56 :: v57 :: v58 :: v59 :: v60 :: v61 :: v62 :: v63 :: v64 :: v65 :: v66 :: v67 :: v68 :: v69 :: v70 :: v71 :: v72 :: v73 :: v74 :: v75 :: v76 :: v77 :: v78 :: v79 :: v80 :: v81 :: v82 :: v83 :: v84 :: v85 :: v86 :: v87 :: v88 :: v89 :: v90 :: v91 :: v92 :: v93 :: v94 :: v95 :: v96 :: v97 :: v98 :: v99 :: v100 :: v101 :: v102 :: v103 :: v104 :: v105 :: v106 :: v107 :: v108 :: v109 :: v110 :: v111 :: v112 :: v113 :: v114 :: v115 :: v116 :: v117 :: v118 :: v119 :: v120 :: v121 :: v122 :: v123 :: v124 :: v125 :: v126 :: v127 :: v128 :: v129 :: v130 :: v131 :: v132 :: v133 :: v134 :: v135 :: v136 :: v137 :: []), defers := [] } w := by
  have hgw := hs.lt
  have hBw := hb.lt
  obtain ⟨c0, c1, c2⟩ := hs.cen (a := o) ho
  have y0 := hb.cell 0
  have y1 := hb.cell 1
  have y2 := hb.cell 2
  have y3 := hb.cell 3
  have z0 := hs.frz (1 + o * 3)
  have z1 := hs.frz (1 + o * 3 + 1)
  have z2 := hs.frz (1 + o * 3 + 2)
  have H := Lib.hid hs
  have HB := Lib.hid hb
  have hBg : B ≠ g := Ne.symm hgB
  clear hs hb
  have HT := Lib.hid ht
  have e1 : (x0 == 1) = false := by rw [hx0]; decide
  have e2 : (x0 == 2) = false := by rw [hx0]; decide
  have e3 : (x0 == 3) = true := by rw [hx0]; decide
  have i0 : (s.c o 0 == 0) = false := by rw [hi]; decide
  have i2 : (s.c o 0 == 2) = false := by rw [hi]; decide
  have i3 : (s.c o 0 == 3) = true := by rw [hi]; decide
  have i4 : (s.c o 0 == 4) = false := by rw [hi]; decide
  subst hsm
  clear ht hx0 hi
  conv in restAt _ _ => whnf
  go_wp2_with fail
  go_quiet (fail)
  go_wp2_with fail
  go_end0
  exact ⟨⟨_, rfl⟩, by rw [HT.out]; exact H.out.drewN _, grown_drewN _ _ _⟩
end
end Go.Proofs.YtfnfjmjejffjiaaDoor
