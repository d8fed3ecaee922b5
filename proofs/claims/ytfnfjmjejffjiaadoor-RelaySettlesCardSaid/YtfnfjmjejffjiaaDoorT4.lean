/- The handling of a message: where something is done. -/
import Derived.Test.YtfnfjmjejffjiaaDoorT3
import Derived.Deep.DeepCutAuto
import Derived.Deep.CutBlock
namespace Go.Proofs.YtfnfjmjejffjiaaDoor
open Go.RowKit

theorem Blk.drewN {w : World} {g : Nat} {ty : TypeId} {cs : Array Value} (h : Blk w g ty cs) (q : Nat) : Blk (w.drewN q) g ty cs := h
section
variable (n g B o : Nat) (s : M.St) (x0 x1 x3 : Int) (sm : Bool) (w : World)
set_option maxRecDepth 100000 in
set_option maxHeartbeats 3200000 in
theorem hand_1_0_go {v1 v2 v6 v7 v8 v9 v10 v11 v12 v13 v14 v15 v16 v17 v18 v19 v20 v21 v22 v23 v24 v25 v26 v27 v28 v29 v30 v31 v32 v33 v34 v35 v36 v37 v38 v39 v40 v41 v42 v43 v44 v45 v46 v47 v48 v49 v50 v51 v52 v53 v54 v55 v56 v57 v58 v59 v60 v61 v62 v63 v64 v65 v66 v67 v68 v69 v70 v71 v72 v73 v74 v75 v76 v77 v78 v79 v80 v81 v82 v83 v84 v85 v86 v87 v88 v89 v90 v91 v92 v93 v94 v95 v96 v97 v98 v99 v100 v101 v102 v103 v104 v105 v106 v107 v108 v109 v110 v111 v112 v113 v114 v115 v116 v117 v118 v119 v120 v121 v122 v123 v124 v125 v126 v127 v128 v129 v130 v131 v132 v133 v134 v135 v136 v137 : Value} (t : M.St) (hs : Sf w g (stF n s)) (hb : Blk w B 54 #[.int .i64 x0, .int .i64 x1, .int .i64 (o : Int), .int .i64 x3]) (hgB : g ≠ B) (ho : o < 4) (hk6 : s.k < 6)
    (ht : t = M.send (M.setC s o (M.v3 3 x1 x3)) 2 (o : Int) x1) (hx0 : x0 = 1) (hi : s.c o 0 = 0) (hl : s.c o 2 < x3) :
    Code.wp Tryd.prog (restAt Tryd.f39 3) (bodyPost Tryd.prog Tryd.f39 (HandV n g t w))  { tmps := List.toArray (.pointer (some ⟨g, 0, none⟩) :: v1 :: v2 :: .pointer (some ⟨B, 0, none⟩) :: .pointer (some ⟨g, 1 + o * 3, none⟩) :: .bool sm :: v6 :: v7 :: v8 :: v9 :: v10 :: v11 :: v12 :: v13 :: v14 :: v15 :: v16 :: v17 :: v18 :: v19 :: v20 :: v21 :: v22 :: v23 :: v24 :: v25 :: v26 :: v27 :: v28 :: v29 :: v30 :: v31 :: v32 :: v33 :: v34 :: v35 :: v36 :: v37 :: v38 :: v39 :: v40 :: v41 :: v42 :: v43 :: v44 :: v45 :: v46 :: v47 :: v48 :: v49 :: v50 :: v51 :: v52 :: v53 :: v54 :: v55 :: v56 :: v57 :: v58 :: v59 :: v60 :: v61 :: v62 :: v63 :: v64 :: v65 :: v66 :: v67 :: v68 :: v69 :: v70 :: v71 :: v72 :: v73 :: v74 :: v75 :: v76 :: v77 :: v78 :: v79 :: v80 :: v81 :: v82 :: v83 :: v84 :: v85 :: v86 :: v87 :: v88 :: v89 :: v90 :: v91 :: v92 :: v93 :: v94 :: v95 :: v96 :: v97 :: v98 :: v99 :: v100 :: v101 :: v102 :: v103 :: v104 :: v105 :: v106 :: v107 :: v108 :: v109 :: v110 :: v111 :: v112 :: v113 :: v114 :: v115 :: v116 :: v117 :: v118 :: v119 :: v120 :: v121 :: v122 :: v123 :: v124 :: v125 :: v126 :: v127 :: v128 :: v129 :: v130 :: v131 :: v132 :: v133 :: v134 :: v135 :: v136 :: v137 :: []), defers := [] } w := by
  have hgw := hs.lt
  have hBw := hb.lt
  obtain ⟨c0, c1, c2⟩ := hs.cen (a := o) ho
  have y0 := hb.cell 0
  have y1 := hb.cell 1
  have y2 := hb.cell 2
  have y3 := hb.cell 3
  have z0 := hs.frz (1 + o * 3)
  have z1 := hs.frz (1 + o * 3 + 1)
  have z2 := hs.frz (1 + o * 3 + 2)
  have H := Lib.hid hs
  have HB := Lib.hid hb
  have hBg : B ≠ g := Ne.symm hgB
  clear hs hb
  have HT := Lib.hid ht
  have e1 : (x0 == 1) = true := by rw [hx0]; decide
  have e2 : (x0 == 2) = false := by rw [hx0]; decide
  have e3 : (x0 == 3) = false := by rw [hx0]; decide
  have i0 : (s.c o 0 == 0) = true := by rw [hi]; decide
  have i2 : (s.c o 0 == 2) = false := by rw [hi]; decide
  have i3 : (s.c o 0 == 3) = false := by rw [hi]; decide
  have i4 : (s.c o 0 == 4) = false := by rw [hi]; decide
  have lt : decide (s.c o 2 < x3) = true := decide_eq_true hl
  clear hl
  clear ht hx0 hi
  conv in restAt _ _ => whnf
  go_wp2_with fail
  go_quiet (fail)
  go_upto_region 5 with fail
  obtain ⟨X, hX⟩ : ∃ X, X = (((w.drewN nq).setCell ⟨g, 1 + o * 3, none⟩ (.int .i64 3)).setCell ⟨g, 1 + o * 3 + 1, none⟩ (.int .i64 x1)).setCell ⟨g, 1 + o * 3 + 2, none⟩ (.int .i64 x3) := ⟨_, rfl⟩
  have SX := Lib.hid (show Sf X g (stF n (M.setC s o (M.v3 3 x1 x3))) by rw [hX]; exact (H.out.drewN nq).set3 ho 3 x1 x3)
  have BX := Lib.hid (show Blk X B 54 #[.int .i64 x0, .int .i64 x1, .int .i64 (o : Int), .int .i64 x3] by rw [hX]; exact (((HB.out.drewN nq).far hBg _).far hBg _).far hBg _)
  have GX := Lib.hid (show w.grownBy X (some g) by rw [hX]; exact (grown_drewN w g nq).trans (grown_set3 (w.drewN nq) g _ _ _ _ _ _))
  rw [← hX]
  clear hX y0 y1 y2 y3 c0 c1 c2 z0 z1 z2
  have y0 := BX.out.cell 0
  have y1 := BX.out.cell 1
  have y2 := BX.out.cell 2
  have y3 := BX.out.cell 3
  go_wp2_with (go_at_call 47; refine (send_any n g (M.setC s o (M.v3 3 x1 x3)) 2 (o : Int) x1 _ SX.out (by omega) hk6).mono ?_; rintro e w9 ⟨⟨rv, rfl⟩, h9, g9⟩; have H9 := Lib.hid h9; have G9 := Lib.hid g9; clear h9 g9)
  go_end0
  exact ⟨⟨_, rfl⟩, by rw [HT.out]; exact H9.out, GX.out.trans G9.out⟩
set_option maxRecDepth 100000 in
set_option maxHeartbeats 3200000 in
theorem hand_1_4_go {v1 v2 v6 v7 v8 v9 v10 v11 v12 v13 v14 v15 v16 v17 v18 v19 v20 v21 v22 v23 v24 v25 v26 v27 v28 v29 v30 v31 v32 v33 v34 v35 v36 v37 v38 v39 v40 v41 v42 v43 v44 v45 v46 v47 v48 v49 v50 v51 v52 v53 v54 v55 v56 v57 v58 v59 v60 v61 v62 v63 v64 v65 v66 v67 v68 v69 v70 v71 v72 v73 v74 v75 v76 v77 v78 v79 v80 v81 v82 v83 v84 v85 v86 v87 v88 v89 v90 v91 v92 v93 v94 v95 v96 v97 v98 v99 v100 v101 v102 v103 v104 v105 v106 v107 v108 v109 v110 v111 v112 v113 v114 v115 v116 v117 v118 v119 v120 v121 v122 v123 v124 v125 v126 v127 v128 v129 v130 v131 v132 v133 v134 v135 v136 v137 : Value} (t : M.St) (hs : Sf w g (stF n s)) (hb : Blk w B 54 #[.int .i64 x0, .int .i64 x1, .int .i64 (o : Int), .int .i64 x3]) (hgB : g ≠ B) (ho : o < 4) (hk6 : s.k < 6)
    (ht : t = M.send (M.setC s o (M.v3 3 x1 x3)) 2 (o : Int) x1) (hx0 : x0 = 1) (hi : s.c o 0 = 4) (hl : s.c o 2 < x3) :
    Code.wp Tryd.prog (restAt Tryd.f39 3) (bodyPost Tryd.prog Tryd.f39 (HandV n g t w))  { tmps := List.toArray (.pointer (some ⟨g, 0, none⟩) :: v1 :: v2 :: .pointer (some ⟨B, 0, none⟩) :: .pointer (some ⟨g, 1 + o * 3, none⟩) :: .bool sm :: v6 :: v7 :: v8 :: v9 :: v10 :: v11 :: v12 :: v13 :: v14 :: v15 :: v16 :: v17 :: v18 :: v19 :: v20 :: v21 :: v22 :: v23 :: v24 :: v25 :: v26 :: v27 :: v28 :: v29 :: v30 :: v31 :: v32 :: v33 :: v34 :: v35 :: v36 :: v37 :: v38 :: v39 :: v40 :: v41 :: v42 :: v43 :: v44 :: v45 :: v46 :: v47 :: v48 :: v49 :: v50 :: v51 :: v52 :: v53 :: v54 :: v55 :: v56 :: v57 :: v58 :: v59 :: v60 :: v61 :: v62 :: v63 :: v64 :: v65 :: v66 :: v67 :: v68 :: v69 :: v70 :: v71 :: v72 :: v73 :: v74 :: v75 :: v76 :: v77 :: v78 :: v79 :: v80 :: v81 :: v82 :: v83 :: v84 :: v85 :: v86 :: v87 :: v88 :: v89 :: v90 :: v91 :: v92 :: v93 :: v94 :: v95 :: v96 :: v97 :: v98 :: v99 :: v100 :: v101 :: v102 :: v103 :: v104 :: v105 :: v106 :: v107 :: v108 :: v109 :: v110 :: v111 :: v112 :: v113 :: v114 :: v115 :: v116 :: v117 :: v118 :: v119 :: v120 :: v121 :: v122 :: v123 :: v124 :: v125 :: v126 :: v127 :: v128 :: v129 :: v130 :: v131 :: v132 :: v133 :: v134 :: v135 :: v136 :: v137 :: []), defers := [] } w := by
  have hgw := hs.lt
  have hBw := hb.lt
  obtain ⟨c0, c1, c2⟩ := hs.cen (a := o) ho
  have y0 := hb.cell 0
  have y1 := hb.cell 1
  have y2 := hb.cell 2
  have y3 := hb.cell 3
  have z0 := hs.frz (1 + o * 3)
  have z1 := hs.frz (1 + o * 3 + 1)
  have z2 := hs.frz (1 + o * 3 + 2)
  have H := Lib.hid hs
  have HB := Lib.hid hb
  have hBg : B ≠ g := Ne.symm hgB
  clear hs hb
  have HT := Lib.hid ht
  have e1 : (x0 == 1) = true := by rw [hx0]; decide
  have e2 : (x0 == 2) = false := by rw [hx0]; decide
  have e3 : (x0 == 3) = false := by rw [hx0]; decide
  have i0 : (s.c o 0 == 0) = false := by rw [hi]; decide
  have i2 : (s.c o 0 == 2) = false := by rw [hi]; decide
  have i3 : (s.c o 0 == 3) = false := by rw [hi]; decide
  have i4 : (s.c o 0 == 4) = true := by rw [hi]; decide
  have lt : decide (s.c o 2 < x3) = true := decide_eq_true hl
  clear hl
  clear ht hx0 hi
  conv in restAt _ _ => whnf
  go_wp2_with fail
  go_quiet (fail)
  go_upto_region 5 with fail
  obtain ⟨X, hX⟩ : ∃ X, X = (((w.drewN nq).setCell ⟨g, 1 + o * 3, none⟩ (.int .i64 3)).setCell ⟨g, 1 + o * 3 + 1, none⟩ (.int .i64 x1)).setCell ⟨g, 1 + o * 3 + 2, none⟩ (.int .i64 x3) := ⟨_, rfl⟩
  have SX := Lib.hid (show Sf X g (stF n (M.setC s o (M.v3 3 x1 x3))) by rw [hX]; exact (H.out.drewN nq).set3 ho 3 x1 x3)
  have BX := Lib.hid (show Blk X B 54 #[.int .i64 x0, .int .i64 x1, .int .i64 (o : Int), .int .i64 x3] by rw [hX]; exact (((HB.out.drewN nq).far hBg _).far hBg _).far hBg _)
  have GX := Lib.hid (show w.grownBy X (some g) by rw [hX]; exact (grown_drewN w g nq).trans (grown_set3 (w.drewN nq) g _ _ _ _ _ _))
  rw [← hX]
  clear hX y0 y1 y2 y3 c0 c1 c2 z0 z1 z2
  have y0 := BX.out.cell 0
  have y1 := BX.out.cell 1
  have y2 := BX.out.cell 2
  have y3 := BX.out.cell 3
  go_wp2_with (go_at_call 47; refine (send_any n g (M.setC s o (M.v3 3 x1 x3)) 2 (o : Int) x1 _ SX.out (by omega) hk6).mono ?_; rintro e w9 ⟨⟨rv, rfl⟩, h9, g9⟩; have H9 := Lib.hid h9; have G9 := Lib.hid g9; clear h9 g9)
  go_end0
  exact ⟨⟨_, rfl⟩, by rw [HT.out]; exact H9.out, GX.out.trans G9.out⟩
set_option maxRecDepth 100000 in
set_option maxHeartbeats 3200000 in
theorem hand_1_3_go {v1 v2 v6 v7 v8 v9 v10 v11 v12 v13 v14 v15 v16 v17 v18 v19 v20 v21 v22 v23 v24 v25 v26 v27 v28 v29 v30 v31 v32 v33 v34 v35 v36 v37 v38 v39 v40 v41 v42 v43 v44 v45 v46 v47 v48 v49 v50 v51 v52 v53 v54 v55 v56 v57 v58 v59 v60 v61 v62 v63 v64 v65 v66 v67 v68 v69 v70 v71 v72 v73 v74 v75 v76 v77 v78 v79 v80 v81 v82 v83 v84 v85 v86 v87 v88 v89 v90 v91 v92 v93 v94 v95 v96 v97 v98 v99 v100 v101 v102 v103 v104 v105 v106 v107 v108 v109 v110 v111 v112 v113 v114 v115 v116 v117 v118 v119 v120 v121 v122 v123 v124 v125 v126 v127 v128 v129 v130 v131 v132 v133 v134 v135 v136 v137 : Value} (t : M.St) (hs : Sf w g (stF n s)) (hb : Blk w B 54 #[.int .i64 x0, .int .i64 x1, .int .i64 (o : Int), .int .i64 x3]) (hgB : g ≠ B) (ho : o < 4) (hk6 : s.k < 6)
    (ht : t = M.send (s) 2 (o : Int) x1) (hx0 : x0 = 1) (hi : s.c o 0 = 3) (hsm : sm = true) :
    Code.wp Tryd.prog (restAt Tryd.f39 3) (bodyPost Tryd.prog Tryd.f39 (HandV n g t w))  { tmps := List.toArray (.pointer (some ⟨g, 0, none⟩) :: v1 :: v2 :: .pointer (some ⟨B, 0, none⟩) :: .pointer (some ⟨g, 1 + o * 3, none⟩) :: .bool sm :: v6 :: v7 :: v8 :: v9 :: v10 :: v11 :: v12 :: v13 :: v14 :: v15 :: v16 :: v17 :: v18 :: v19 :: v20 :: v21 :: v22 :: v23 :: v24 :: v25 :: v26 :: v27 :: v28 :: v29 :: v30 :: v31 :: v32 :: v33 :: v34 :: v35 :: v36 :: v37 :: v38 :: v39 :: v40 :: v41 :: v42 :: v43 :: v44 :: v45 :: v46 :: v47 :: v48 :: v49 :: v50 :: v51 :: v52 :: v53 :: v54 :: v55 :: v56 :: v57 :: v58 :: v59 :: v60 :: v61 :: v62 :: v63 :: v64 :: v65 :: v66 :: v67 :: v68 :: v69 :: v70 :: v71 :: v72 :: v73 :: v74 :: v75 :: v76 :: v77 :: v78 :: v79 :: v80 :: v81 :: v82 :: v83 :: v84 :: v85 :: v86 :: v87 :: v88 :: v89 :: v90 :: v91 :: v92 :: v93 :: v94 :: v95 :: v96 :: v97 :: v98 :: v99 :: v100 :: v101 :: v102 :: v103 :: v104 :: v105 :: v106 :: v107 :: v108 :: v109 :: v110 :: v111 :: v112 :: v113 :: v114 :: v115 :: v116 :: v117 :: v118 :: v119 :: v120 :: v121 :: v122 :: v123 :: v124 :: v125 :: v126 :: v127 :: v128 :: v129 :: v130 :: v131 :: v132 :: v133 :: v134 :: v135 :: v136 :: v137 :: []), defers := [] } w := by
  have hgw := hs.lt
  have hBw := hb.lt
  obtain ⟨c0, c1, c2⟩ := hs.cen (a := o) ho
  have y0 := hb.cell 0
  have y1 := hb.cell 1
  have y2 := hb.cell 2
  have y3 := hb.cell 3
  have z0 := hs.frz (1 + o * 3)
  have z1 := hs.frz (1 + o * 3 + 1)
  have z2 := hs.frz (1 + o * 3 + 2)
  have H := Lib.hid hs
  have HB := Lib.hid hb
  have hBg : B ≠ g := Ne.symm hgB
  clear hs hb
  have HT := Lib.hid ht
  have e1 : (x0 == 1) = true := by rw [hx0]; decide
  have e2 : (x0 == 2) = false := by rw [hx0]; decide
  have e3 : (x0 == 3) = false := by rw [hx0]; decide
  have i0 : (s.c o 0 == 0) = false := by rw [hi]; decide
  have i2 : (s.c o 0 == 2) = false := by rw [hi]; decide
  have i3 : (s.c o 0 == 3) = true := by rw [hi]; decide
  have i4 : (s.c o 0 == 4) = false := by rw [hi]; decide
  subst hsm
  clear ht hx0 hi
  conv in restAt _ _ => whnf
  go_wp2_with fail
  go_quiet (fail)
  go_wp2_with (go_at_call 47; refine (send_any n g s 2 (o : Int) x1 _ (H.out.drewN _) (by omega) hk6).mono ?_; rintro e w9 ⟨⟨rv, rfl⟩, h9, g9⟩; have H9 := Lib.hid h9; have G9 := Lib.hid g9; clear h9 g9)
  go_end0
  exact ⟨⟨_, rfl⟩, by rw [HT.out]; exact H9.out, (grown_drewN w g nq).trans G9.out⟩
set_option maxRecDepth 100000 in
set_option maxHeartbeats 3200000 in
theorem hand_2_2_go {v1 v2 v6 v7 v8 v9 v10 v11 v12 v13 v14 v15 v16 v17 v18 v19 v20 v21 v22 v23 v24 v25 v26 v27 v28 v29 v30 v31 v32 v33 v34 v35 v36 v37 v38 v39 v40 v41 v42 v43 v44 v45 v46 v47 v48 v49 v50 v51 v52 v53 v54 v55 v56 v57 v58 v59 v60 v61 v62 v63 v64 v65 v66 v67 v68 v69 v70 v71 v72 v73 v74 v75 v76 v77 v78 v79 v80 v81 v82 v83 v84 v85 v86 v87 v88 v89 v90 v91 v92 v93 v94 v95 v96 v97 v98 v99 v100 v101 v102 v103 v104 v105 v106 v107 v108 v109 v110 v111 v112 v113 v114 v115 v116 v117 v118 v119 v120 v121 v122 v123 v124 v125 v126 v127 v128 v129 v130 v131 v132 v133 v134 v135 v136 v137 : Value} (t : M.St) (hs : Sf w g (stF n s)) (hb : Blk w B 54 #[.int .i64 x0, .int .i64 x1, .int .i64 (o : Int), .int .i64 x3]) (hgB : g ≠ B) (ho : o < 4) (hk6 : s.k < 6)
    (ht : t = M.send (M.setC s o (M.v3 4 (s.c o 1) (s.c o 2))) 3 (o : Int) x1) (hx0 : x0 = 2) (hi : s.c o 0 = 2) (hsm : sm = true) :
    Code.wp Tryd.prog (restAt Tryd.f39 3) (bodyPost Tryd.prog Tryd.f39 (HandV n g t w))  { tmps := List.toArray (.pointer (some ⟨g, 0, none⟩) :: v1 :: v2 :: .pointer (some ⟨B, 0, none⟩) :: .pointer (some ⟨g, 1 + o * 3, none⟩) :: .bool sm :: v6 :: v7 :: v8 :: v9 :: v10 :: v11 :: v12 :: v13 :: v14 :: v15 :: v16 :: v17 :: v18 :: v19 :: v20 :: v21 :: v22 :: v23 :: v24 :: v25 :: v26 :: v27 :: v28 :: v29 :: v30 :: v31 :: v32 :: v33 :: v34 :: v35 :: v36 :: v37 :: v38 :: v39 :: v40 :: v41 :: v42 :: v43 :: v44 :: v45 :: v46 :: v47 :: v48 :: v49 :: v50 :: v51 :: v52 :: v53 :: v54 :: v55 :: v56 :: v57 :: v58 :: v59 :: v60 :: v61 :: v62 :: v63 :: v64 :: v65 :: v66 :: v67 :: v68 :: v69 :: v70 :: v71 :: v72 :: v73 :: v74 :: v75 :: v76 :: v77 :: v78 :: v79 :: v80 :: v81 :: v82 :: v83 :: v84 :: v85 :: v86 :: v87 :: v88 :: v89 :: v90 :: v91 :: v92 :: v93 :: v94 :: v95 :: v96 :: v97 :: v98 :: v99 :: v100 :: v101 :: v102 :: v103 :: v104 :: v105 :: v106 :: v107 :: v108 :: v109 :: v110 :: v111 :: v112 :: v113 :: v114 :: v115 :: v116 :: v117 :: v118 :: v119 :: v120 :: v121 :: v122 :: v123 :: v124 :: v125 :: v126 :: v127 :: v128 :: v129 :: v130 :: v131 :: v132 :: v133 :: v134 :: v135 :: v136 :: v137 :: []), defers := [] } w := by
  have hgw := hs.lt
  have hBw := hb.lt
  obtain ⟨c0, c1, c2⟩ := hs.cen (a := o) ho
  have y0 := hb.cell 0
  have y1 := hb.cell 1
  have y2 := hb.cell 2
  have y3 := hb.cell 3
  have z0 := hs.frz (1 + o * 3)
  have z1 := hs.frz (1 + o * 3 + 1)
  have z2 := hs.frz (1 + o * 3 + 2)
  have H := Lib.hid hs
  have HB := Lib.hid hb
  have hBg : B ≠ g := Ne.symm hgB
  clear hs hb
  have HT := Lib.hid ht
  have e1 : (x0 == 1) = false := by rw [hx0]; decide
  have e2 : (x0 == 2) = true := by rw [hx0]; decide
  have e3 : (x0 == 3) = false := by rw [hx0]; decide
  have i0 : (s.c o 0 == 0) = false := by rw [hi]; decide
  have i2 : (s.c o 0 == 2) = true := by rw [hi]; decide
  have i3 : (s.c o 0 == 3) = false := by rw [hi]; decide
  have i4 : (s.c o 0 == 4) = false := by rw [hi]; decide
  subst hsm
  clear ht hx0 hi
  conv in restAt _ _ => whnf
  go_wp2_with fail
  go_quiet (fail)
  go_upto_region 10 with fail
  obtain ⟨X, hX⟩ : ∃ X, X = (w.drewN nq).setCell ⟨g, 1 + o * 3, none⟩ (.int .i64 4) := ⟨_, rfl⟩
  have SX := Lib.hid (show Sf X g (stF n (M.setC s o (M.v3 4 (s.c o 1) (s.c o 2)))) by rw [hX]; exact (H.out.drewN nq).set1 ho 4)
  have BX := Lib.hid (show Blk X B 54 #[.int .i64 x0, .int .i64 x1, .int .i64 (o : Int), .int .i64 x3] by rw [hX]; exact (HB.out.drewN nq).far hBg _)
  have GX := Lib.hid (show w.grownBy X (some g) by rw [hX]; exact (grown_drewN w g nq).trans (grown_set (w.drewN nq) g _ _))
  rw [← hX]
  clear hX y0 y1 y2 y3 c0 c1 c2 z0 z1 z2
  have y0 := BX.out.cell 0
  have y1 := BX.out.cell 1
  have y2 := BX.out.cell 2
  have y3 := BX.out.cell 3
  go_wp2_with (go_at_call 47; refine (send_any n g (M.setC s o (M.v3 4 (s.c o 1) (s.c o 2))) 3 (o : Int) x1 _ SX.out (by omega) hk6).mono ?_; rintro e w9 ⟨⟨rv, rfl⟩, h9, g9⟩; have H9 := Lib.hid h9; have G9 := Lib.hid g9; clear h9 g9)
  go_end0
  exact ⟨⟨_, rfl⟩, by rw [HT.out]; exact H9.out, GX.out.trans G9.out⟩
set_option maxRecDepth 100000 in
set_option maxHeartbeats 3200000 in
theorem hand_2_4_go {v1 v2 v6 v7 v8 v9 v10 v11 v12 v13 v14 v15 v16 v17 v18 v19 v20 v21 v22 v23 v24 v25 v26 v27 v28 v29 v30 v31 v32 v33 v34 v35 v36 v37 v38 v39 v40 v41 v42 v43 v44 v45 v46 v47 v48 v49 v50 v51 v52 v53 v54 v55 v56 v57 v58 v59 v60 v61 v62 v63 v64 v65 v66 v67 v68 v69 v70 v71 v72 v73 v74 v75 v76 v77 v78 v79 v80 v81 v82 v83 v84 v85 v86 v87 v88 v89 v90 v91 v92 v93 v94 v95 v96 v97 v98 v99 v100 v101 v102 v103 v104 v105 v106 v107 v108 v109 v110 v111 v112 v113 v114 v115 v116 v117 v118 v119 v120 v121 v122 v123 v124 v125 v126 v127 v128 v129 v130 v131 v132 v133 v134 v135 v136 v137 : Value} (t : M.St) (hs : Sf w g (stF n s)) (hb : Blk w B 54 #[.int .i64 x0, .int .i64 x1, .int .i64 (o : Int), .int .i64 x3]) (hgB : g ≠ B) (ho : o < 4) (hk6 : s.k < 6)
    (ht : t = M.send (s) 3 (o : Int) x1) (hx0 : x0 = 2) (hi : s.c o 0 = 4) (hsm : sm = true) :
    Code.wp Tryd.prog (restAt Tryd.f39 3) (bodyPost Tryd.prog Tryd.f39 (HandV n g t w))  { tmps := List.toArray (.pointer (some ⟨g, 0, none⟩) :: v1 :: v2 :: .pointer (some ⟨B, 0, none⟩) :: .pointer (some ⟨g, 1 + o * 3, none⟩) :: .bool sm :: v6 :: v7 :: v8 :: v9 :: v10 :: v11 :: v12 :: v13 :: v14 :: v15 :: v16 :: v17 :: v18 :: v19 :: v20 :: v21 :: v22 :: v23 :: v24 :: v25 :: v26 :: v27 :: v28 :: v29 :: v30 :: v31 :: v32 :: v33 :: v34 :: v35 :: v36 :: v37 :: v38 :: v39 :: v40 :: v41 :: v42 :: v43 :: v44 :: v45 :: v46 :: v47 :: v48 :: v49 :: v50 :: v51 :: v52 :: v53 :: v54 :: v55 :: v56 :: v57 :: v58 :: v59 :: v60 :: v61 :: v62 :: v63 :: v64 :: v65 :: v66 :: v67 :: v68 :: v69 :: v70 :: v71 :: v72 :: v73 :: v74 :: v75 :: v76 :: v77 :: v78 :: v79 :: v80 :: v81 :: v82 :: v83 :: v84 :: v85 :: v86 :: v87 :: v88 :: v89 :: v90 :: v91 :: v92 :: v93 :: v94 :: v95 :: v96 :: v97 :: v98 :: v99 :: v100 :: v101 :: v102 :: v103 :: v104 :: v105 :: v106 :: v107 :: v108 :: v109 :: v110 :: v111 :: v112 :: v113 :: v114 :: v115 :: v116 :: v117 :: v118 :: v119 :: v120 :: v121 :: v122 :: v123 :: v124 :: v125 :: v126 :: v127 :: v128 :: v129 :: v130 :: v131 :: v132 :: v133 :: v134 :: v135 :: v136 :: v137 :: []), defers := [] } w := by
  have hgw := hs.lt
  have hBw := hb.lt
  obtain ⟨c0, c1, c2⟩ := hs.cen (a := o) ho
  have y0 := hb.cell 0
  have y1 := hb.cell 1
  have y2 := hb.cell 2
  have y3 := hb.cell 3
  have z0 := hs.frz (1 + o * 3)
  have z1 := hs.frz (1 + o * 3 + 1)
  have z2 := hs.frz (1 + o * 3 + 2)
  have H := Lib.hid hs
  have HB := Lib.hid hb
  have hBg : B ≠ g := Ne.symm hgB
  clear hs hb
  have HT := Lib.hid ht
  have e1 : (x0 == 1) = false := by rw [hx0]; decide
  have e2 : (x0 == 2) = true := by rw [hx0]; decide
  have e3 : (x0 == 3) = false := by rw [hx0]; decide
  have i0 : (s.c o 0 == 0) = false := by rw [hi]; decide
  have i2 : (s.c o 0 == 2) = false := by rw [hi]; decide
  have i3 : (s.c o 0 == 3) = false := by rw [hi]; decide
  have i4 : (s.c o 0 == 4) = true := by rw [hi]; decide
  subst hsm
  have HI := Lib.hid hi
  clear ht hx0 hi
  conv in restAt _ _ => whnf
  go_wp2_with fail
  go_quiet (fail)
  go_upto_region 10 with fail
  obtain ⟨X, hX⟩ : ∃ X, X = (w.drewN nq).setCell ⟨g, 1 + o * 3, none⟩ (.int .i64 4) := ⟨_, rfl⟩
  have SX := Lib.hid (show Sf X g (stF n (s)) by rw [hX]; exact ((H.out.drewN nq).set_ (i := 1 + o * 3) (by omega) 4).congr (fun i _ => by by_cases e : i = 1 + o * 3; (rw [e]; show (if 1 + o * 3 = 1 + o * 3 then (4 : Int) else _) = _; rw [if_pos rfl]; have := stF_c n s (a := o) ho (show 0 < 3 by omega); rw [Nat.add_zero] at this; rw [this, HI.out]); (show (if i = 1 + o * 3 then (4 : Int) else _) = _; rw [if_neg e])))
  have BX := Lib.hid (show Blk X B 54 #[.int .i64 x0, .int .i64 x1, .int .i64 (o : Int), .int .i64 x3] by rw [hX]; exact (HB.out.drewN nq).far hBg _)
  have GX := Lib.hid (show w.grownBy X (some g) by rw [hX]; exact (grown_drewN w g nq).trans (grown_set (w.drewN nq) g _ _))
  rw [← hX]
  clear hX y0 y1 y2 y3 c0 c1 c2 z0 z1 z2
  have y0 := BX.out.cell 0
  have y1 := BX.out.cell 1
  have y2 := BX.out.cell 2
  have y3 := BX.out.cell 3
  go_wp2_with (go_at_call 47; refine (send_any n g (s) 3 (o : Int) x1 _ SX.out (by omega) hk6).mono ?_; rintro e w9 ⟨⟨rv, rfl⟩, h9, g9⟩; have H9 := Lib.hid h9; have G9 := Lib.hid g9; clear h9 g9)
  go_end0
  exact ⟨⟨_, rfl⟩, by rw [HT.out]; exact H9.out, GX.out.trans G9.out⟩
set_option maxRecDepth 100000 in
set_option maxHeartbeats 3200000 in
theorem hand_3_3_go {v1 v2 v6 v7 v8 v9 v10 v11 v12 v13 v14 v15 v16 v17 v18 v19 v20 v21 v22 v23 v24 v25 v26 v27 v28 v29 v30 v31 v32 v33 v34 v35 v36 v37 v38 v39 v40 v41 v42 v43 v44 v45 v46 v47 v48 v49 v50 v51 v52 v53 v54 v55 v56 v57 v58 v59 v60 v61 v62 v63 v64 v65 v66 v67 v68 v69 v70 v71 v72 v73 v74 v75 v76 v77 v78 v79 v80 v81 v82 v83 v84 v85 v86 v87 v88 v89 v90 v91 v92 v93 v94 v95 v96 v97 v98 v99 v100 v101 v102 v103 v104 v105 v106 v107 v108 v109 v110 v111 v112 v113 v114 v115 v116 v117 v118 v119 v120 v121 v122 v123 v124 v125 v126 v127 v128 v129 v130 v131 v132 v133 v134 v135 v136 v137 : Value} (t : M.St) (hs : Sf w g (stF n s)) (hb : Blk w B 54 #[.int .i64 x0, .int .i64 x1, .int .i64 (o : Int), .int .i64 x3]) (hgB : g ≠ B) (ho : o < 4) (_hk6 : s.k < 6)
    (ht : t = M.setC s o (M.v3 1 0 (s.c o 2))) (hx0 : x0 = 3) (hi : s.c o 0 = 3) (hsm : sm = true) :
    Code.wp Tryd.prog (restAt Tryd.f39 3) (bodyPost Tryd.prog Tryd.f39 (HandV n g t w))  { tmps := List.toArray (.pointer (some ⟨g, 0, none⟩) :: v1 :: v2 :: .pointer (some ⟨B, 0, none⟩) :: .pointer (some ⟨g, 1 + o * 3, none⟩) :: .bool sm :: v6 :: v7 :: v8 :: v9 :: v10 :: v11 :: v12 :: v13 :: v14 :: v15 :: v16 :: v17 :: v18 :: v19 :: v20 :: v21 :: v22 :: v23 :: v24 :: v25 :: v26 :: v27 :: v28 :: v29 :: v30 :: v31 :: v32 :: v33 :: v34 :: v35 :: v36 :: v37 :: v38 :: v39 :: v40 :: v41 :: v42 :: v43 :: v44 :: v45 :: v46 :: v47 :: v48 :: v49 :: v50 :: v51 :: v52 :: v53 :: v54 :: v55 :: v56 :: v57 :: v58 :: v59 :: v60 :: v61 :: v62 :: v63 :: v64 :: v65 :: v66 :: v67 :: v68 :: v69 :: v70 :: v71 :: v72 :: v73 :: v74 :: v75 :: v76 :: v77 :: v78 :: v79 :: v80 :: v81 :: v82 :: v83 :: v84 :: v85 :: v86 :: v87 :: v88 :: v89 :: v90 :: v91 :: v92 :: v93 :: v94 :: v95 :: v96 :: v97 :: v98 :: v99 :: v100 :: v101 :: v102 :: v103 :: v104 :: v105 :: v106 :: v107 :: v108 :: v109 :: v110 :: v111 :: v112 :: v113 :: v114 :: v115 :: v116 :: v117 :: v118 :: v119 :: v120 :: v121 :: v122 :: v123 :: v124 :: v125 :: v126 :: v127 :: v128 :: v129 :: v130 :: v131 :: v132 :: v133 :: v134 :: v135 :: v136 :: v137 :: []), defers := [] } w := by
  have hgw := hs.lt
  have hBw := hb.lt
  obtain ⟨c0, c1, c2⟩ := hs.cen (a := o) ho
  have y0 := hb.cell 0
  have y1 := hb.cell 1
  have y2 := hb.cell 2
  have y3 := hb.cell 3
  have z0 := hs.frz (1 + o * 3)
  have z1 := hs.frz (1 + o * 3 + 1)
  have z2 := hs.frz (1 + o * 3 + 2)
  have H := Lib.hid hs
  have HB := Lib.hid hb
  have hBg : B ≠ g := Ne.symm hgB
  clear hs hb
  have HT := Lib.hid ht
  have e1 : (x0 == 1) = false := by rw [hx0]; decide
  have e2 : (x0 == 2) = false := by rw [hx0]; decide
  have e3 : (x0 == 3) = true := by rw [hx0]; decide
  have i0 : (s.c o 0 == 0) = false := by rw [hi]; decide
  have i2 : (s.c o 0 == 2) = false := by rw [hi]; decide
  have i3 : (s.c o 0 == 3) = true := by rw [hi]; decide
  have i4 : (s.c o 0 == 4) = false := by rw [hi]; decide
  subst hsm
  clear ht hx0 hi
  conv in restAt _ _ => whnf
  go_wp2_with fail
  go_quiet (fail)
  go_wp2_with fail
  go_end0
  exact ⟨⟨_, rfl⟩, by rw [HT.out]; exact (H.out.drewN nq).set2 ho 1 0, (grown_drewN w g nq).trans ((grown_set _ g _ _).trans (grown_set _ g _ _))⟩
end
end Go.Proofs.YtfnfjmjejffjiaaDoor
/- The handling of a message, joined. -/
namespace Go.Proofs.YtfnfjmjejffjiaaDoor
open Go.RowKit

theorem handle_eq (s : M.St) (x0 x1 x3 : Int) (o : Nat) : M.handle s (M.v4 x0 x1 o x3) =
    if x0 = 1 ∧ (s.c o 0 = 0 ∨ s.c o 0 = 4) ∧ s.c o 2 < x3 then M.send (M.setC s o (M.v3 3 x1 x3)) 2 o x1
    else if x0 = 1 ∧ s.c o 0 = 3 ∧ s.c o 1 = x1 ∧ s.c o 2 = x3 then M.send s 2 o x1
    else if x0 = 2 ∧ s.c o 0 = 2 ∧ s.c o 1 = x1 ∧ s.c o 2 = x3 then M.send (M.setC s o (M.v3 4 (s.c o 1) (s.c o 2))) 3 o x1
    else if x0 = 2 ∧ s.c o 0 = 4 ∧ s.c o 1 = x1 ∧ s.c o 2 = x3 then M.send s 3 o x1
    else if x0 = 3 ∧ s.c o 0 = 3 ∧ s.c o 1 = x1 ∧ s.c o 2 = x3 then M.setC s o (M.v3 1 0 (s.c o 2))
    else s := rfl
section
variable (n g B o : Nat) (s : M.St) (x0 x1 x3 : Int) (sm : Bool) (w : World)
set_option maxRecDepth 100000 in
set_option maxHeartbeats 3200000 in
theorem hand_all {v1 v2 v6 v7 v8 v9 v10 v11 v12 v13 v14 v15 v16 v17 v18 v19 v20 v21 v22 v23 v24 v25 v26 v27 v28 v29 v30 v31 v32 v33 v34 v35 v36 v37 v38 v39 v40 v41 v42 v43 v44 v45 v46 v47 v48 v49 v50 v51 v52 v53 v54 v55 v56 v57 v58 v59 v60 v61 v62 v63 v64 v65 v66 v67 v68 v69 v70 v71 v72 v73 v74 v75 v76 v77 v78 v79 v80 v81 v82 v83 v84 v85 v86 v87 v88 v89 v90 v91 v92 v93 v94 v95 v96 v97 v98 v99 v100 v101 v102 v103 v104 v105 v106 v107 v108 v109 v110 v111 v112 v113 v114 v115 v116 v117 v118 v119 v120 v121 v122 v123 v124 v125 v126 v127 v128 v129 v130 v131 v132 v133 v134 v135 v136 v137 : Value} (t : M.St) (hs : Sf w g (stF n s)) (hb : Blk w B 54 #[.int .i64 x0, .int .i64 x1, .int .i64 (o : Int), .int .i64 x3]) (hgB : g ≠ B) (ho : o < 4) (hk6 : s.k < 6)
    (hi : 0 ≤ s.c o 0 ∧ s.c o 0 ≤ 4) (ht : t = M.handle s (M.v4 x0 x1 o x3)) (hsm : sm = decide (s.c o 1 = x1 ∧ s.c o 2 = x3)) :
    Code.wp Tryd.prog (restAt Tryd.f39 3) (bodyPost Tryd.prog Tryd.f39 (HandV n g t w))  { tmps := List.toArray (.pointer (some ⟨g, 0, none⟩) :: v1 :: v2 :: .pointer (some ⟨B, 0, none⟩) :: .pointer (some ⟨g, 1 + o * 3, none⟩) :: .bool sm :: v6 :: v7 :: v8 :: v9 :: v10 :: v11 :: v12 :: v13 :: v14 :: v15 :: v16 :: v17 :: v18 :: v19 :: v20 :: v21 :: v22 :: v23 :: v24 :: v25 :: v26 :: v27 :: v28 :: v29 :: v30 :: v31 :: v32 :: v33 :: v34 :: v35 :: v36 :: v37 :: v38 :: v39 :: v40 :: v41 :: v42 :: v43 :: v44 :: v45 :: v46 :: v47 :: v48 :: v49 :: v50 :: v51 :: v52 :: v53 :: v54 :: v55 :: v56 :: v57 :: v58 :: v59 :: v60 :: v61 :: v62 :: v63 :: v64 :: v65 :: v66 :: v67 :: v68 :: v69 :: v70 :: v71 :: v72 :: v73 :: v74 :: v75 :: v76 :: v77 :: v78 :: v79 :: v80 :: v81 :: v82 :: v83 :: v84 :: v85 :: v86 :: v87 :: v88 :: v89 :: v90 :: v91 :: v92 :: v93 :: v94 :: v95 :: v96 :: v97 :: v98 :: v99 :: v100 :: v101 :: v102 :: v103 :: v104 :: v105 :: v106 :: v107 :: v108 :: v109 :: v110 :: v111 :: v112 :: v113 :: v114 :: v115 :: v116 :: v117 :: v118 :: v119 :: v120 :: v121 :: v122 :: v123 :: v124 :: v125 :: v126 :: v127 :: v128 :: v129 :: v130 :: v131 :: v132 :: v133 :: v134 :: v135 :: v136 :: v137 :: []), defers := [] } w := by
  have hh : s.c o 0 = 0 ∨ s.c o 0 = 1 ∨ s.c o 0 = 2 ∨ s.c o 0 = 3 ∨ s.c o 0 = 4 := by omega
  by_cases k1 : x0 = 1
  · rcases hh with i | i | i | i | i
    · by_cases hl : s.c o 2 < x3
      · exact hand_1_0_go n g B o s x0 x1 x3 sm w t hs hb hgB ho hk6 (ht.trans ((handle_eq s x0 x1 x3 o).trans (by rw [if_pos (by omega)]))) k1 i hl
      · exact hand_1_0_no n g B o s x0 x1 x3 sm w t hs hb hgB ho hk6 (ht.trans ((handle_eq s x0 x1 x3 o).trans (by rw [if_neg (by omega), if_neg (by omega), if_neg (by omega), if_neg (by omega), if_neg (by omega)]))) k1 i hl
    · exact hand_1_1 n g B o s x0 x1 x3 sm w t hs hb hgB ho hk6 (ht.trans ((handle_eq s x0 x1 x3 o).trans (by rw [if_neg (by omega), if_neg (by omega), if_neg (by omega), if_neg (by omega), if_neg (by omega)]))) k1 i
    · exact hand_1_2 n g B o s x0 x1 x3 sm w t hs hb hgB ho hk6 (ht.trans ((handle_eq s x0 x1 x3 o).trans (by rw [if_neg (by omega), if_neg (by omega), if_neg (by omega), if_neg (by omega), if_neg (by omega)]))) k1 i
    · by_cases hq : s.c o 1 = x1 ∧ s.c o 2 = x3
      · exact hand_1_3_go n g B o s x0 x1 x3 sm w t hs hb hgB ho hk6 (ht.trans ((handle_eq s x0 x1 x3 o).trans (by rw [if_neg (by omega), if_pos (by omega)]))) k1 i (hsm.trans (decide_eq_true hq))
      · exact hand_1_3_no n g B o s x0 x1 x3 sm w t hs hb hgB ho hk6 (ht.trans ((handle_eq s x0 x1 x3 o).trans (by rw [if_neg (by omega), if_neg (by omega), if_neg (by omega), if_neg (by omega), if_neg (by omega)]))) k1 i (hsm.trans (decide_eq_false hq))
    · by_cases hl : s.c o 2 < x3
      · exact hand_1_4_go n g B o s x0 x1 x3 sm w t hs hb hgB ho hk6 (ht.trans ((handle_eq s x0 x1 x3 o).trans (by rw [if_pos (by omega)]))) k1 i hl
      · exact hand_1_4_no n g B o s x0 x1 x3 sm w t hs hb hgB ho hk6 (ht.trans ((handle_eq s x0 x1 x3 o).trans (by rw [if_neg (by omega), if_neg (by omega), if_neg (by omega), if_neg (by omega), if_neg (by omega)]))) k1 i hl
  · by_cases k2 : x0 = 2
    · rcases hh with i | i | i | i | i
      · exact hand_2_0 n g B o s x0 x1 x3 sm w t hs hb hgB ho hk6 (ht.trans ((handle_eq s x0 x1 x3 o).trans (by rw [if_neg (by omega), if_neg (by omega), if_neg (by omega), if_neg (by omega), if_neg (by omega)]))) k2 i
      · exact hand_2_1 n g B o s x0 x1 x3 sm w t hs hb hgB ho hk6 (ht.trans ((handle_eq s x0 x1 x3 o).trans (by rw [if_neg (by omega), if_neg (by omega), if_neg (by omega), if_neg (by omega), if_neg (by omega)]))) k2 i
      · by_cases hq : s.c o 1 = x1 ∧ s.c o 2 = x3
        · exact hand_2_2_go n g B o s x0 x1 x3 sm w t hs hb hgB ho hk6 (ht.trans ((handle_eq s x0 x1 x3 o).trans (by rw [if_neg (by omega), if_neg (by omega), if_pos (by omega)]))) k2 i (hsm.trans (decide_eq_true hq))
        · exact hand_2_2_no n g B o s x0 x1 x3 sm w t hs hb hgB ho hk6 (ht.trans ((handle_eq s x0 x1 x3 o).trans (by rw [if_neg (by omega), if_neg (by omega), if_neg (by omega), if_neg (by omega), if_neg (by omega)]))) k2 i (hsm.trans (decide_eq_false hq))
      · exact hand_2_3 n g B o s x0 x1 x3 sm w t hs hb hgB ho hk6 (ht.trans ((handle_eq s x0 x1 x3 o).trans (by rw [if_neg (by omega), if_neg (by omega), if_neg (by omega), if_neg (by omega), if_neg (by omega)]))) k2 i
      · by_cases hq : s.c o 1 = x1 ∧ s.c o 2 = x3
        · exact hand_2_4_go n g B o s x0 x1 x3 sm w t hs hb hgB ho hk6 (ht.trans ((handle_eq s x0 x1 x3 o).trans (by rw [if_neg (by omega), if_neg (by omega), if_neg (by omega), if_pos (by omega)]))) k2 i (hsm.trans (decide_eq_true hq))
        · exact hand_2_4_no n g B o s x0 x1 x3 sm w t hs hb hgB ho hk6 (ht.trans ((handle_eq s x0 x1 x3 o).trans (by rw [if_neg (by omega), if_neg (by omega), if_neg (by omega), if_neg (by omega), if_neg (by omega)]))) k2 i (hsm.trans (decide_eq_false hq))
    · by_cases k3 : x0 = 3
      · rcases hh with i | i | i | i | i
        · exact hand_3_0 n g B o s x0 x1 x3 sm w t hs hb hgB ho hk6 (ht.trans ((handle_eq s x0 x1 x3 o).trans (by rw [if_neg (by omega), if_neg (by omega), if_neg (by omega), if_neg (by omega), if_neg (by omega)]))) k3 i
        · exact hand_3_1 n g B o s x0 x1 x3 sm w t hs hb hgB ho hk6 (ht.trans ((handle_eq s x0 x1 x3 o).trans (by rw [if_neg (by omega), if_neg (by omega), if_neg (by omega), if_neg (by omega), if_neg (by omega)]))) k3 i
        · exact hand_3_2 n g B o s x0 x1 x3 sm w t hs hb hgB ho hk6 (ht.trans ((handle_eq s x0 x1 x3 o).trans (by rw [if_neg (by omega), if_neg (by omega), if_neg (by omega), if_neg (by omega), if_neg (by omega)]))) k3 i
        · by_cases hq : s.c o 1 = x1 ∧ s.c o 2 = x3
          · exact hand_3_3_go n g B o s x0 x1 x3 sm w t hs hb hgB ho hk6 (ht.trans ((handle_eq s x0 x1 x3 o).trans (by rw [if_neg (by omega), if_neg (by omega), if_neg (by omega), if_neg (by omega), if_pos (by omega)]))) k3 i (hsm.trans (decide_eq_true hq))
          · exact hand_3_3_no n g B o s x0 x1 x3 sm w t hs hb hgB ho hk6 (ht.trans ((handle_eq s x0 x1 x3 o).trans (by rw [if_neg (by omega), if_neg (by omega), if_neg (by omega), if_neg (by omega), if_neg (by omega)]))) k3 i (hsm.trans (decide_eq_false hq))
        · exact hand_3_4 n g B o s x0 x1 x3 sm w t hs hb hgB ho hk6 (ht.trans ((handle_eq s x0 x1 x3 o).trans (by rw [if_neg (by omega), if_neg (by omega), if_neg (by omega), if_neg (by omega), if_neg (by omega)]))) k3 i
      · exact hand_skip n g B o s x0 x1 x3 sm w t hs hb hgB ho hk6 (ht.trans ((handle_eq s x0 x1 x3 o).trans (by rw [if_neg (by omega), if_neg (by omega), if_neg (by omega), if_neg (by omega), if_neg (by omega)]))) ⟨k1, k2, k3⟩
end
theorem hand_up {P : Program} {fn : Func} {c : Code} {a : Act} {W w : World} {n g : Nat} {t : M.St} (hg : w.grownBy W (some g)) (h : Code.wp P c (bodyPost P fn (HandV n g t W)) a W) : Code.wp P c (bodyPost P fn (HandV n g t w)) a W := by
  refine Code.wp_mono (fun e a w' q => ?_) h
  have hR : ∀ e w', HandV n g t W e w' → HandV n g t w e w' := fun e w' h => ⟨h.1, h.2.1, hg.trans h.2.2⟩
  cases e <;> simp only [bodyPost] at q ⊢ <;> first
    | exact q
    | exact hR _ _ q
    | exact ⟨q.1, hR _ _ q.2⟩
    | exact ⟨q.1, q.2.choose, q.2.choose_spec.1, hR _ _ q.2.choose_spec.2⟩
set_option maxRecDepth 100000 in
set_option maxHeartbeats 3200000 in
theorem handle_any (n g o : Nat) (s : M.St) (x0 x1 x3 : Int) (w : World) (hs : Sf w g (stF n s)) (ho : o < 4) (hk6 : s.k < 6) (hi : 0 ≤ s.c o 0 ∧ s.c o 0 ≤ 4) :
    Calls Tryd.prog 39 #[.pointer (some ⟨g, 0, none⟩), .agg #[.int .i64 x0, .int .i64 x1, .int .i64 (o : Int), .int .i64 x3]] w (HandV n g (M.handle s (M.v4 x0 x1 o x3)) w) := by
  have hgw := hs.lt
  obtain ⟨t, ht⟩ : ∃ t, t = M.handle s (M.v4 x0 x1 o x3) := ⟨_, rfl⟩
  rw [← ht]
  have HT := Lib.hid ht
  have H := Lib.hid hs
  have HI := Lib.hid hi
  have p1 := idx_cen g o ho
  obtain ⟨c0, c1, c2⟩ := hs.cen (a := o) ho
  clear ht hs hi
  have GW := fun q => (World.grownBy_alloc w (.cells #[.int .i64 x0, .int .i64 x1, .int .i64 (o : Int), .int .i64 x3] 54) (some g)).trans (grown_drewN (w.alloc (.cells #[.int .i64 x0, .int .i64 x1, .int .i64 (o : Int), .int .i64 x3] 54)) g q)
  have HG := Lib.hid GW
  clear GW
  by_cases h1 : s.c o 1 = x1
  · have e1 : (s.c o 1 == x1) = true := by rw [h1]; simp
    by_cases h2 : s.c o 2 = x3
    · have e2 : (s.c o 2 == x3) = true := by rw [h2]; simp
      have HS := Lib.hid (show true = decide (s.c o 1 = x1 ∧ s.c o 2 = x3) from (decide_eq_true ⟨h1, h2⟩).symm)
      clear h1 h2
      go_enter Tryd.func39, Tryd.ntmps39
      go_wp2_with fail
      go_quiet (fail)
      go_wp2_with fail
      go_quiet (fail)
      go_upto_block 0 with fail
      refine hand_up ?_ (hand_all n g w.heap.size o s x0 x1 x3 _ _ t ?_ ?_ (by omega) ho hk6 HI.out HT.out HS.out)
      · first | exact HG.out _ | exact (HG.out _).trans (grown_drewN _ _ _)
      · exact H.out.alloc _
      · exact Blk.new w _ _
    · have e2 : (s.c o 2 == x3) = false := by rw [beq_eq_false_iff_ne]; exact h2
      have HS := Lib.hid (show false = decide (s.c o 1 = x1 ∧ s.c o 2 = x3) from (decide_eq_false fun h => h2 h.2).symm)
      clear h1 h2
      go_enter Tryd.func39, Tryd.ntmps39
      go_wp2_with fail
      go_quiet (fail)
      go_wp2_with fail
      go_quiet (fail)
      go_upto_block 0 with fail
      refine hand_up ?_ (hand_all n g w.heap.size o s x0 x1 x3 _ _ t ?_ ?_ (by omega) ho hk6 HI.out HT.out HS.out)
      · first | exact HG.out _ | exact (HG.out _).trans (grown_drewN _ _ _)
      · exact H.out.alloc _
      · exact Blk.new w _ _
  · have e1 : (s.c o 1 == x1) = false := by rw [beq_eq_false_iff_ne]; exact h1
    have HS := Lib.hid (show false = decide (s.c o 1 = x1 ∧ s.c o 2 = x3) from (decide_eq_false fun h => h1 h.1).symm)
    clear h1
    go_enter Tryd.func39, Tryd.ntmps39
    go_wp2_with fail
    go_quiet (fail)
    go_wp2_with fail
    go_quiet (fail)
    go_upto_block 0 with fail
    refine hand_up ?_ (hand_all n g w.heap.size o s x0 x1 x3 _ _ t ?_ ?_ (by omega) ho hk6 HI.out HT.out HS.out)
    · first | exact HG.out _ | exact (HG.out _).trans (grown_drewN _ _ _)
    · exact H.out.alloc _
    · exact Blk.new w _ _
end Go.Proofs.YtfnfjmjejffjiaaDoor
