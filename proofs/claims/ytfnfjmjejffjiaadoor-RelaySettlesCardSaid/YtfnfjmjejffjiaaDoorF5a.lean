/- The reference's handling of a message: where nothing is done. -/
import Derived.Test.YtfnfjmjejffjiaaDoorF1
import Derived.Deep.DeepCutAuto
import Derived.Deep.CutBlock
namespace Go.Proofs.YtfnfjmjejffjiaaDoor
open Go.RowKit

section
variable (n base g c c' B Bm Br Bx o : Nat) (A' : Option Addr) (s : M.St) (x0 x1 x3 : Int) (sm : Bool) (w : World)
/-- what the handling leaves -/
def HandR (n base : Nat) (t : M.St) (w : World) (e : Ending) (w' : World) : Prop := (∃ v', e = .returned v' ∧ CallV n t base v' w') ∧ Below base w w'
/-- the store of the result, and its reading -/
theorem hand_end {tmps : Array Value} {w W : World} {n base g c c' Br : Nat} {A' : Option Addr} {t : M.St} (h4 : tmps.getD 4 undef = .pointer (some ⟨Br, 0, none⟩))
    (hr : Blk W Br 31 #[.slice none 0 0, .slice none 0 0]) (hA : Own W base 51 3 (.slice (some ⟨g, 0, none⟩) n c) n (ints2 t.c)) (hM : Own W base 54 4 (.slice A' t.k c') t.k (ints2 t.m)) (hb : Below base w W) (hbr : base ≤ Br) :
    bodyPost Tryd.prog Tryd.f25 (HandR n base t w) .ret { tmps := tmps, defers := [] } ((W.setCell ⟨Br, 0, none⟩ (.slice (some ⟨g, 0, none⟩) n c)).setCell ⟨Br, 1, none⟩ (.slice A' t.k c')) :=
  bodyPost_ret (results_cell_row rfl _ _ Br 31 #[.slice (some ⟨g, 0, none⟩) n c, .slice A' t.k c'] (0, 0) _ h4 ((hr.set_ 0 _).set_ 1 _) Tryd.underlying31 rfl call_size) rfl
    ⟨⟨_, rfl, _, _, _, _, rfl, hA.set2 hr (by decide) _ _, hM.set2 hr (by decide) _ _⟩, (hb.setCell (p := ⟨Br, 0, none⟩) hbr _).setCell (p := ⟨Br, 1, none⟩) hbr _⟩
set_option maxRecDepth 100000 in
set_option maxHeartbeats 3200000 in
theorem rhand_skip {v0 v1 v7 v8 v9 v10 v11 v12 v13 v14 v15 v16 v17 v18 v19 v20 v21 v22 v23 v24 v25 v26 v27 v28 v29 v30 v31 v32 v33 v34 v35 v36 v37 v38 v39 v40 v41 v42 v43 v44 v45 v46 v47 v48 v49 v50 v51 v52 v53 v54 v55 v56 v57 v58 v59 v60 v61 v62 v63 v64 v65 v66 v67 v68 v69 v70 v71 v72 v73 v74 v75 v76 v77 v78 v79 v80 v81 v82 v83 v84 v85 v86 v87 v88 v89 v90 v91 v92 v93 v94 v95 v96 v97 v98 v99 v100 v101 v102 v103 v104 v105 v106 v107 v108 v109 v110 v111 v112 v113 v114 v115 v116 v117 v118 v119 v120 v121 v122 v123 v124 v125 v126 v127 v128 v129 v130 v131 v132 v133 v134 v135 v136 v137 v138 v139 v140 v141 v142 : Value} (t : M.St) (hA : Own w base 51 3 (.slice (some ⟨g, 0, none⟩) n c) n (ints2 s.c)) (hM : Own w base 54 4 (.slice A' s.k c') s.k (ints2 s.m)) (hb : Blk w B 31 #[.slice (some ⟨g, 0, none⟩) n c, .slice A' s.k c']) (hm : Blk w Bm 54 #[.int .i64 x0, .int .i64 x1, .int .i64 (o : Int), .int .i64 x3]) (hr : Blk w Br 31 #[.slice none 0 0, .slice none 0 0]) (hx : Blk w Bx 51 #[.int .i64 (s.c o 0), .int .i64 (s.c o 1), .int .i64 (s.c o 2)]) (hd : g < B ∧ g < Bm ∧ g < Br ∧ g < Bx) (hbs : base ≤ Br ∧ base ≤ w.heap.size ∧ base ≤ g) (ho : o < n) (hk6 : s.k < 6)
    (ht : t = s) (hx0 : x0 ≠ 1 ∧ x0 ≠ 2 ∧ x0 ≠ 3) :
    Code.wp Tryd.prog (restAt Tryd.f25 3) (bodyPost Tryd.prog Tryd.f25 (HandR n base t w)) { tmps := List.toArray (v0 :: v1 :: .pointer (some ⟨B, 0, none⟩) :: .pointer (some ⟨Bm, 0, none⟩) :: .pointer (some ⟨Br, 0, none⟩) :: .pointer (some ⟨Bx, 0, none⟩) :: .bool sm :: v7 :: v8 :: v9 :: v10 :: v11 :: v12 :: v13 :: v14 :: v15 :: v16 :: v17 :: v18 :: v19 :: v20 :: v21 :: v22 :: v23 :: v24 :: v25 :: v26 :: v27 :: v28 :: v29 :: v30 :: v31 :: v32 :: v33 :: v34 :: v35 :: v36 :: v37 :: v38 :: v39 :: v40 :: v41 :: v42 :: v43 :: v44 :: v45 :: v46 :: v47 :: v48 :: v49 :: v50 :: v51 :: v52 :: v53 :: v54 :: v55 :: v56 :: v57 :: v58 :: v59 :: v60 :: v61 :: v62 :: v63 :: v64 :: v65 :: v66 :: v67 :: v68 :: v69 :: v70 :: v71 :: v72 :: v73 :: v74 :: v75 :: v76 :: v77 :: v78 :: v79 :: v80 :: v81 :: v82 :: v83 :: v84 :: v85 :: v86 :: v87 :: v88 :: v89 :: v90 :: v91 :: v92 :: v93 :: v94 :: v95 :: v96 :: v97 :: v98 :: v99 :: v100 :: v101 :: v102 :: v103 :: v104 :: v105 :: v106 :: v107 :: v108 :: v109 :: v110 :: v111 :: v112 :: v113 :: v114 :: v115 :: v116 :: v117 :: v118 :: v119 :: v120 :: v121 :: v122 :: v123 :: v124 :: v125 :: v126 :: v127 :: v128 :: v129 :: v130 :: v131 :: v132 :: v133 :: v134 :: v135 :: v136 :: v137 :: v138 :: v139 :: v140 :: v141 :: v142 :: []), defers := [] } w := by
  have hgw := (hA.block rfl).2
  have c0 := hA.cell (i := o) (j := 0) ho (by omega)
  have z0 := hA.frz (o * 3 + 0)
  have z1 := hA.frz (o * 3 + 1)
  have z2 := hA.frz (o * 3 + 2)
  have c1 := hA.cell (i := o) (j := 1) ho (by omega)
  have c2 := hA.cell (i := o) (j := 2) ho (by omega)
  rw [Nat.add_zero] at c0 z0
  have k1 : decide (n ≤ o) = false := decide_eq_false (by omega)
  have b0 := hb.cell 0
  have b1 := hb.cell 1
  have y0 := hm.cell 0
  have y1 := hm.cell 1
  have y2 := hm.cell 2
  have y3 := hm.cell 3
  have u0 := hx.cell 0
  have u1 := hx.cell 1
  have u2 := hx.cell 2
  have r0 := hr.cell 0
  have r1 := hr.cell 1
  have q0 := hr.frz 0
  have q1 := hr.frz 1
  have HA := Lib.hid hA
  have HM := Lib.hid hM
  have HB := Lib.hid hb
  have HMs := Lib.hid hm
  have HR := Lib.hid hr
  obtain ⟨d0, d1, d2, d3⟩ := hd
  obtain ⟨bs0, bs1, bs2⟩ := hbs
  have n0 : g ≠ B := Nat.ne_of_lt d0
  have n1 : g ≠ Bm := Nat.ne_of_lt d1
  have n2 : g ≠ Br := Nat.ne_of_lt d2
  have n3 : g ≠ Bx := Nat.ne_of_lt d3
  clear hA hM hb hm hx hr d0 d1 d2 d3
  have HT := Lib.hid ht
  have e1 : (x0 == 1) = false := by rw [beq_eq_false_iff_ne]; exact hx0.1
  have e2 : (x0 == 2) = false := by rw [beq_eq_false_iff_ne]; exact hx0.2.1
  have e3 : (x0 == 3) = false := by rw [beq_eq_false_iff_ne]; exact hx0.2.2
  clear ht hx0
  conv in restAt _ _ => whnf
  rw [HT.out]
  go_wp2_with fail
  exact hand_end rfl HR.out HA.out HM.out (Below.refl _ _) bs0
set_option maxRecDepth 100000 in
set_option maxHeartbeats 3200000 in
theorem rhand_1_0_no {v0 v1 v7 v8 v9 v10 v11 v12 v13 v14 v15 v16 v17 v18 v19 v20 v21 v22 v23 v24 v25 v26 v27 v28 v29 v30 v31 v32 v33 v34 v35 v36 v37 v38 v39 v40 v41 v42 v43 v44 v45 v46 v47 v48 v49 v50 v51 v52 v53 v54 v55 v56 v57 v58 v59 v60 v61 v62 v63 v64 v65 v66 v67 v68 v69 v70 v71 v72 v73 v74 v75 v76 v77 v78 v79 v80 v81 v82 v83 v84 v85 v86 v87 v88 v89 v90 v91 v92 v93 v94 v95 v96 v97 v98 v99 v100 v101 v102 v103 v104 v105 v106 v107 v108 v109 v110 v111 v112 v113 v114 v115 v116 v117 v118 v119 v120 v121 v122 v123 v124 v125 v126 v127 v128 v129 v130 v131 v132 v133 v134 v135 v136 v137 v138 v139 v140 v141 v142 : Value} (t : M.St) (hA : Own w base 51 3 (.slice (some ⟨g, 0, none⟩) n c) n (ints2 s.c)) (hM : Own w base 54 4 (.slice A' s.k c') s.k (ints2 s.m)) (hb : Blk w B 31 #[.slice (some ⟨g, 0, none⟩) n c, .slice A' s.k c']) (hm : Blk w Bm 54 #[.int .i64 x0, .int .i64 x1, .int .i64 (o : Int), .int .i64 x3]) (hr : Blk w Br 31 #[.slice none 0 0, .slice none 0 0]) (hx : Blk w Bx 51 #[.int .i64 (s.c o 0), .int .i64 (s.c o 1), .int .i64 (s.c o 2)]) (hd : g < B ∧ g < Bm ∧ g < Br ∧ g < Bx) (hbs : base ≤ Br ∧ base ≤ w.heap.size ∧ base ≤ g) (ho : o < n) (hk6 : s.k < 6)
    (ht : t = s) (hx0 : x0 = 1) (hi : s.c o 0 = 0) (hl : ¬ s.c o 2 < x3) :
    Code.wp Tryd.prog (restAt Tryd.f25 3) (bodyPost Tryd.prog Tryd.f25 (HandR n base t w)) { tmps := List.toArray (v0 :: v1 :: .pointer (some ⟨B, 0, none⟩) :: .pointer (some ⟨Bm, 0, none⟩) :: .pointer (some ⟨Br, 0, none⟩) :: .pointer (some ⟨Bx, 0, none⟩) :: .bool sm :: v7 :: v8 :: v9 :: v10 :: v11 :: v12 :: v13 :: v14 :: v15 :: v16 :: v17 :: v18 :: v19 :: v20 :: v21 :: v22 :: v23 :: v24 :: v25 :: v26 :: v27 :: v28 :: v29 :: v30 :: v31 :: v32 :: v33 :: v34 :: v35 :: v36 :: v37 :: v38 :: v39 :: v40 :: v41 :: v42 :: v43 :: v44 :: v45 :: v46 :: v47 :: v48 :: v49 :: v50 :: v51 :: v52 :: v53 :: v54 :: v55 :: v56 :: v57 :: v58 :: v59 :: v60 :: v61 :: v62 :: v63 :: v64 :: v65 :: v66 :: v67 :: v68 :: v69 :: v70 :: v71 :: v72 :: v73 :: v74 :: v75 :: v76 :: v77 :: v78 :: v79 :: v80 :: v81 :: v82 :: v83 :: v84 :: v85 :: v86 :: v87 :: v88 :: v89 :: v90 :: v91 :: v92 :: v93 :: v94 :: v95 :: v96 :: v97 :: v98 :: v99 :: v100 :: v101 :: v102 :: v103 :: v104 :: v105 :: v106 :: v107 :: v108 :: v109 :: v110 :: v111 :: v112 :: v113 :: v114 :: v115 :: v116 :: v117 :: v118 :: v119 :: v120 :: v121 :: v122 :: v123 :: v124 :: v125 :: v126 :: v127 :: v128 :: v129 :: v130 :: v131 :: v132 :: v133 :: v134 :: v135 :: v136 :: v137 :: v138 :: v139 :: v140 :: v141 :: v142 :: []), defers := [] } w := by
  have hgw := (hA.block rfl).2
  have c0 := hA.cell (i := o) (j := 0) ho (by omega)
  have z0 := hA.frz (o * 3 + 0)
  have z1 := hA.frz (o * 3 + 1)
  have z2 := hA.frz (o * 3 + 2)
  have c1 := hA.cell (i := o) (j := 1) ho (by omega)
  have c2 := hA.cell (i := o) (j := 2) ho (by omega)
  rw [Nat.add_zero] at c0 z0
  have k1 : decide (n ≤ o) = false := decide_eq_false (by omega)
  have b0 := hb.cell 0
  have b1 := hb.cell 1
  have y0 := hm.cell 0
  have y1 := hm.cell 1
  have y2 := hm.cell 2
  have y3 := hm.cell 3
  have u0 := hx.cell 0
  have u1 := hx.cell 1
  have u2 := hx.cell 2
  have r0 := hr.cell 0
  have r1 := hr.cell 1
  have q0 := hr.frz 0
  have q1 := hr.frz 1
  have HA := Lib.hid hA
  have HM := Lib.hid hM
  have HB := Lib.hid hb
  have HMs := Lib.hid hm
  have HR := Lib.hid hr
  obtain ⟨d0, d1, d2, d3⟩ := hd
  obtain ⟨bs0, bs1, bs2⟩ := hbs
  have n0 : g ≠ B := Nat.ne_of_lt d0
  have n1 : g ≠ Bm := Nat.ne_of_lt d1
  have n2 : g ≠ Br := Nat.ne_of_lt d2
  have n3 : g ≠ Bx := Nat.ne_of_lt d3
  clear hA hM hb hm hx hr d0 d1 d2 d3
  have HT := Lib.hid ht
  have e1 : (x0 == 1) = true := by rw [hx0]; decide
  have e2 : (x0 == 2) = false := by rw [hx0]; decide
  have e3 : (x0 == 3) = false := by rw [hx0]; decide
  have i0 : (s.c o 0 == 0) = true := by rw [hi]; decide
  have i2 : (s.c o 0 == 2) = false := by rw [hi]; decide
  have i3 : (s.c o 0 == 3) = false := by rw [hi]; decide
  have i4 : (s.c o 0 == 4) = false := by rw [hi]; decide
  have lt : decide (s.c o 2 < x3) = false := decide_eq_false hl
  clear hl
  clear ht hx0 hi
  conv in restAt _ _ => whnf
  rw [HT.out]
  go_wp2_with fail
  exact hand_end rfl HR.out HA.out HM.out (Below.refl _ _) bs0
set_option maxRecDepth 100000 in
set_option maxHeartbeats 3200000 in
theorem rhand_1_4_no {v0 v1 v7 v8 v9 v10 v11 v12 v13 v14 v15 v16 v17 v18 v19 v20 v21 v22 v23 v24 v25 v26 v27 v28 v29 v30 v31 v32 v33 v34 v35 v36 v37 v38 v39 v40 v41 v42 v43 v44 v45 v46 v47 v48 v49 v50 v51 v52 v53 v54 v55 v56 v57 v58 v59 v60 v61 v62 v63 v64 v65 v66 v67 v68 v69 v70 v71 v72 v73 v74 v75 v76 v77 v78 v79 v80 v81 v82 v83 v84 v85 v86 v87 v88 v89 v90 v91 v92 v93 v94 v95 v96 v97 v98 v99 v100 v101 v102 v103 v104 v105 v106 v107 v108 v109 v110 v111 v112 v113 v114 v115 v116 v117 v118 v119 v120 v121 v122 v123 v124 v125 v126 v127 v128 v129 v130 v131 v132 v133 v134 v135 v136 v137 v138 v139 v140 v141 v142 : Value} (t : M.St) (hA : Own w base 51 3 (.slice (some ⟨g, 0, none⟩) n c) n (ints2 s.c)) (hM : Own w base 54 4 (.slice A' s.k c') s.k (ints2 s.m)) (hb : Blk w B 31 #[.slice (some ⟨g, 0, none⟩) n c, .slice A' s.k c']) (hm : Blk w Bm 54 #[.int .i64 x0, .int .i64 x1, .int .i64 (o : Int), .int .i64 x3]) (hr : Blk w Br 31 #[.slice none 0 0, .slice none 0 0]) (hx : Blk w Bx 51 #[.int .i64 (s.c o 0), .int .i64 (s.c o 1), .int .i64 (s.c o 2)]) (hd : g < B ∧ g < Bm ∧ g < Br ∧ g < Bx) (hbs : base ≤ Br ∧ base ≤ w.heap.size ∧ base ≤ g) (ho : o < n) (hk6 : s.k < 6)
    (ht : t = s) (hx0 : x0 = 1) (hi : s.c o 0 = 4) (hl : ¬ s.c o 2 < x3) :
    Code.wp Tryd.prog (restAt Tryd.f25 3) (bodyPost Tryd.prog Tryd.f25 (HandR n base t w)) { tmps := List.toArray (v0 :: v1 :: .pointer (some ⟨B, 0, none⟩) :: .pointer (some ⟨Bm, 0, none⟩) :: .pointer (some ⟨Br, 0, none⟩) :: .pointer (some ⟨Bx, 0, none⟩) :: .bool sm :: v7 :: v8 :: v9 :: v10 :: v11 :: v12 :: v13 :: v14 :: v15 :: v16 :: v17 :: v18 :: v19 :: v20 :: v21 :: v22 :: v23 :: v24 :: v25 :: v26 :: v27 :: v28 :: v29 :: v30 :: v31 :: v32 :: v33 :: v34 :: v35 :: v36 :: v37 :: v38 :: v39 :: v40 :: v41 :: v42 :: v43 :: v44 :: v45 :: v46 :: v47 :: v48 :: v49 :: v50 :: v51 :: v52 :: v53 :: v54 :: v55 :: v56 :: v57 :: v58 :: v59 :: v60 :: v61 :: v62 :: v63 :: v64 :: v65 :: v66 :: v67 :: v68 :: v69 :: v70 :: v71 :: v72 :: v73 :: v74 :: v75 :: v76 :: v77 :: v78 :: v79 :: v80 :: v81 :: v82 :: v83 :: v84 :: v85 :: v86 :: v87 :: v88 :: v89 :: v90 :: v91 :: v92 :: v93 :: v94 :: v95 :: v96 :: v97 :: v98 :: v99 :: v100 :: v101 :: v102 :: v103 :: v104 :: v105 :: v106 :: v107 :: v108 :: v109 :: v110 :: v111 :: v112 :: v113 :: v114 :: v115 :: v116 :: v117 :: v118 :: v119 :: v120 :: v121 :: v122 :: v123 :: v124 :: v125 :: v126 :: v127 :: v128 :: v129 :: v130 :: v131 :: v132 :: v133 :: v134 :: v135 :: v136 :: v137 :: v138 :: v139 :: v140 :: v141 :: v142 :: []), defers := [] } w := by
  have hgw := (hA.block rfl).2
  have c0 := hA.cell (i := o) (j := 0) ho (by omega)
  have z0 := hA.frz (o * 3 + 0)
  have z1 := hA.frz (o * 3 + 1)
  have z2 := hA.frz (o * 3 + 2)
  have c1 := hA.cell (i := o) (j := 1) ho (by omega)
  have c2 := hA.cell (i := o) (j := 2) ho (by omega)
  rw [Nat.add_zero] at c0 z0
  have k1 : decide (n ≤ o) = false := decide_eq_false (by omega)
  have b0 := hb.cell 0
  have b1 := hb.cell 1
  have y0 := hm.cell 0
  have y1 := hm.cell 1
  have y2 := hm.cell 2
  have y3 := hm.cell 3
  have u0 := hx.cell 0
  have u1 := hx.cell 1
  have u2 := hx.cell 2
  have r0 := hr.cell 0
  have r1 := hr.cell 1
  have q0 := hr.frz 0
  have q1 := hr.frz 1
  have HA := Lib.hid hA
  have HM := Lib.hid hM
  have HB := Lib.hid hb
  have HMs := Lib.hid hm
  have HR := Lib.hid hr
  obtain ⟨d0, d1, d2, d3⟩ := hd
  obtain ⟨bs0, bs1, bs2⟩ := hbs
  have n0 : g ≠ B := Nat.ne_of_lt d0
  have n1 : g ≠ Bm := Nat.ne_of_lt d1
  have n2 : g ≠ Br := Nat.ne_of_lt d2
  have n3 : g ≠ Bx := Nat.ne_of_lt d3
  clear hA hM hb hm hx hr d0 d1 d2 d3
  have HT := Lib.hid ht
  have e1 : (x0 == 1) = true := by rw [hx0]; decide
  have e2 : (x0 == 2) = false := by rw [hx0]; decide
  have e3 : (x0 == 3) = false := by rw [hx0]; decide
  have i0 : (s.c o 0 == 0) = false := by rw [hi]; decide
  have i2 : (s.c o 0 == 2) = false := by rw [hi]; decide
  have i3 : (s.c o 0 == 3) = false := by rw [hi]; decide
  have i4 : (s.c o 0 == 4) = true := by rw [hi]; decide
  have lt : decide (s.c o 2 < x3) = false := decide_eq_false hl
  clear hl
  clear ht hx0 hi
  conv in restAt _ _ => whnf
  rw [HT.out]
  go_wp2_with fail
  exact hand_end rfl HR.out HA.out HM.out (Below.refl _ _) bs0
set_option maxRecDepth 100000 in
set_option maxHeartbeats 3200000 in
theorem rhand_1_1 {v0 v1 v7 v8 v9 v10 v11 v12 v13 v14 v15 v16 v17 v18 v19 v20 v21 v22 v23 v24 v25 v26 v27 v28 v29 v30 v31 v32 v33 v34 v35 v36 v37 v38 v39 v40 v41 v42 v43 v44 v45 v46 v47 v48 v49 v50 v51 v52 v53 v54 v55 v56 v57 v58 v59 v60 v61 v62 v63 v64 v65 v66 v67 v68 v69 v70 v71 v72 v73 v74 v75 v76 v77 v78 v79 v80 v81 v82 v83 v84 v85 v86 v87 v88 v89 v90 v91 v92 v93 v94 v95 v96 v97 v98 v99 v100 v101 v102 v103 v104 v105 v106 v107 v108 v109 v110 v111 v112 v113 v114 v115 v116 v117 v118 v119 v120 v121 v122 v123 v124 v125 v126 v127 v128 v129 v130 v131 v132 v133 v134 v135 v136 v137 v138 v139 v140 v141 v142 : Value} (t : M.St) (hA : Own w base 51 3 (.slice (some ⟨g, 0, none⟩) n c) n (ints2 s.c)) (hM : Own w base 54 4 (.slice A' s.k c') s.k (ints2 s.m)) (hb : Blk w B 31 #[.slice (some ⟨g, 0, none⟩) n c, .slice A' s.k c']) (hm : Blk w Bm 54 #[.int .i64 x0, .int .i64 x1, .int .i64 (o : Int), .int .i64 x3]) (hr : Blk w Br 31 #[.slice none 0 0, .slice none 0 0]) (hx : Blk w Bx 51 #[.int .i64 (s.c o 0), .int .i64 (s.c o 1), .int .i64 (s.c o 2)]) (hd : g < B ∧ g < Bm ∧ g < Br ∧ g < Bx) (hbs : base ≤ Br ∧ base ≤ w.heap.size ∧ base ≤ g) (ho : o < n) (hk6 : s.k < 6)
    (ht : t = s) (hx0 : x0 = 1) (hi : s.c o 0 = 1) :
    Code.wp Tryd.prog (restAt Tryd.f25 3) (bodyPost Tryd.prog Tryd.f25 (HandR n base t w)) { tmps := List.toArray (v0 :: v1 :: .pointer (some ⟨B, 0, none⟩) :: .pointer (some ⟨Bm, 0, none⟩) :: .pointer (some ⟨Br, 0, none⟩) :: .pointer (some ⟨Bx, 0, none⟩) :: .bool sm :: v7 :: v8 :: v9 :: v10 :: v11 :: v12 :: v13 :: v14 :: v15 :: v16 :: v17 :: v18 :: v19 :: v20 :: v21 :: v22 :: v23 :: v24 :: v25 :: v26 :: v27 :: v28 :: v29 :: v30 :: v31 :: v32 :: v33 :: v34 :: v35 :: v36 :: v37 :: v38 :: v39 :: v40 :: v41 :: v42 :: v43 :: v44 :: v45 :: v46 :: v47 :: v48 :: v49 :: v50 :: v51 :: v52 :: v53 :: v54 :: v55 :: v56 :: v57 :: v58 :: v59 :: v60 :: v61 :: v62 :: v63 :: v64 :: v65 :: v66 :: v67 :: v68 :: v69 :: v70 :: v71 :: v72 :: v73 :: v74 :: v75 :: v76 :: v77 :: v78 :: v79 :: v80 :: v81 :: v82 :: v83 :: v84 :: v85 :: v86 :: v87 :: v88 :: v89 :: v90 :: v91 :: v92 :: v93 :: v94 :: v95 :: v96 :: v97 :: v98 :: v99 :: v100 :: v101 :: v102 :: v103 :: v104 :: v105 :: v106 :: v107 :: v108 :: v109 :: v110 :: v111 :: v112 :: v113 :: v114 :: v115 :: v116 :: v117 :: v118 :: v119 :: v120 :: v121 :: v122 :: v123 :: v124 :: v125 :: v126 :: v127 :: v128 :: v129 :: v130 :: v131 :: v132 :: v133 :: v134 :: v135 :: v136 :: v137 :: v138 :: v139 :: v140 :: v141 :: v142 :: []), defers := [] } w := by
  have hgw := (hA.block rfl).2
  have c0 := hA.cell (i := o) (j := 0) ho (by omega)
  have z0 := hA.frz (o * 3 + 0)
  have z1 := hA.frz (o * 3 + 1)
  have z2 := hA.frz (o * 3 + 2)
  have c1 := hA.cell (i := o) (j := 1) ho (by omega)
  have c2 := hA.cell (i := o) (j := 2) ho (by omega)
  rw [Nat.add_zero] at c0 z0
  have k1 : decide (n ≤ o) = false := decide_eq_false (by omega)
  have b0 := hb.cell 0
  have b1 := hb.cell 1
  have y0 := hm.cell 0
  have y1 := hm.cell 1
  have y2 := hm.cell 2
  have y3 := hm.cell 3
  have u0 := hx.cell 0
  have u1 := hx.cell 1
  have u2 := hx.cell 2
  have r0 := hr.cell 0
  have r1 := hr.cell 1
  have q0 := hr.frz 0
  have q1 := hr.frz 1
  have HA := Lib.hid hA
  have HM := Lib.hid hM
  have HB := Lib.hid hb
  have HMs := Lib.hid hm
  have HR := Lib.hid hr
  obtain ⟨d0, d1, d2, d3⟩ := hd
  obtain ⟨bs0, bs1, bs2⟩ := hbs
  have n0 : g ≠ B := Nat.ne_of_lt d0
  have n1 : g ≠ Bm := Nat.ne_of_lt d1
  have n2 : g ≠ Br := Nat.ne_of_lt d2
  have n3 : g ≠ Bx := Nat.ne_of_lt d3
  clear hA hM hb hm hx hr d0 d1 d2 d3
  have HT := Lib.hid ht
  have e1 : (x0 == 1) = true := by rw [hx0]; decide
  have e2 : (x0 == 2) = false := by rw [hx0]; decide
  have e3 : (x0 == 3) = false := by rw [hx0]; decide
  have i0 : (s.c o 0 == 0) = false := by rw [hi]; decide
  have i2 : (s.c o 0 == 2) = false := by rw [hi]; decide
  have i3 : (s.c o 0 == 3) = false := by rw [hi]; decide
  have i4 : (s.c o 0 == 4) = false := by rw [hi]; decide
  clear ht hx0 hi
  conv in restAt _ _ => whnf
  rw [HT.out]
  go_wp2_with fail
  exact hand_end rfl HR.out HA.out HM.out (Below.refl _ _) bs0
set_option maxRecDepth 100000 in
set_option maxHeartbeats 3200000 in
theorem rhand_1_2 {v0 v1 v7 v8 v9 v10 v11 v12 v13 v14 v15 v16 v17 v18 v19 v20 v21 v22 v23 v24 v25 v26 v27 v28 v29 v30 v31 v32 v33 v34 v35 v36 v37 v38 v39 v40 v41 v42 v43 v44 v45 v46 v47 v48 v49 v50 v51 v52 v53 v54 v55 v56 v57 v58 v59 v60 v61 v62 v63 v64 v65 v66 v67 v68 v69 v70 v71 v72 v73 v74 v75 v76 v77 v78 v79 v80 v81 v82 v83 v84 v85 v86 v87 v88 v89 v90 v91 v92 v93 v94 v95 v96 v97 v98 v99 v100 v101 v102 v103 v104 v105 v106 v107 v108 v109 v110 v111 v112 v113 v114 v115 v116 v117 v118 v119 v120 v121 v122 v123 v124 v125 v126 v127 v128 v129 v130 v131 v132 v133 v134 v135 v136 v137 v138 v139 v140 v141 v142 : Value} (t : M.St) (hA : Own w base 51 3 (.slice (some ⟨g, 0, none⟩) n c) n (ints2 s.c)) (hM : Own w base 54 4 (.slice A' s.k c') s.k (ints2 s.m)) (hb : Blk w B 31 #[.slice (some ⟨g, 0, none⟩) n c, .slice A' s.k c']) (hm : Blk w Bm 54 #[.int .i64 x0, .int .i64 x1, .int .i64 (o : Int), .int .i64 x3]) (hr : Blk w Br 31 #[.slice none 0 0, .slice none 0 0]) (hx : Blk w Bx 51 #[.int .i64 (s.c o 0), .int .i64 (s.c o 1), .int .i64 (s.c o 2)]) (hd : g < B ∧ g < Bm ∧ g < Br ∧ g < Bx) (hbs : base ≤ Br ∧ base ≤ w.heap.size ∧ base ≤ g) (ho : o < n) (hk6 : s.k < 6)
    (ht : t = s) (hx0 : x0 = 1) (hi : s.c o 0 = 2) :
    Code.wp Tryd.prog (restAt Tryd.f25 3) (bodyPost Tryd.prog Tryd.f25 (HandR n base t w)) { tmps := List.toArray (v0 :: v1 :: .pointer (some ⟨B, 0, none⟩) :: .pointer (some ⟨Bm, 0, none⟩) :: .pointer (some ⟨Br, 0, none⟩) :: .pointer (some ⟨Bx, 0, none⟩) :: .bool sm :: v7 :: v8 :: v9 :: v10 :: v11 :: v12 :: v13 :: v14 :: v15 :: v16 :: v17 :: v18 :: v19 :: v20 :: v21 :: v22 :: v23 :: v24 :: v25 :: v26 :: v27 :: v28 :: v29 :: v30 :: v31 :: v32 :: v33 :: v34 :: v35 :: v36 :: v37 :: v38 :: v39 :: v40 :: v41 :: v42 :: v43 :: v44 :: v45 :: v46 :: v47 :: v48 :: v49 :: v50 :: v51 :: v52 :: v53 :: v54 :: v55 :: v56 :: v57 :: v58 :: v59 :: v60 :: v61 :: v62 :: v63 :: v64 :: v65 :: v66 :: v67 :: v68 :: v69 :: v70 :: v71 :: v72 :: v73 :: v74 :: v75 :: v76 :: v77 :: v78 :: v79 :: v80 :: v81 :: v82 :: v83 :: v84 :: v85 :: v86 :: v87 :: v88 :: v89 :: v90 :: v91 :: v92 :: v93 :: v94 :: v95 :: v96 :: v97 :: v98 :: v99 :: v100 :: v101 :: v102 :: v103 :: v104 :: v105 :: v106 :: v107 :: v108 :: v109 :: v110 :: v111 :: v112 :: v113 :: v114 :: v115 :: v116 :: v117 :: v118 :: v119 :: v120 :: v121 :: v122 :: v123 :: v124 :: v125 :: v126 :: v127 :: v128 :: v129 :: v130 :: v131 :: v132 :: v133 :: v134 :: v135 :: v136 :: v137 :: v138 :: v139 :: v140 :: v141 :: v142 :: []), defers := [] } w := by
  have hgw := (hA.block rfl).2
  have c0 := hA.cell (i := o) (j := 0) ho (by omega)
  have z0 := hA.frz (o * 3 + 0)
  have z1 := hA.frz (o * 3 + 1)
  have z2 := hA.frz (o * 3 + 2)
  have c1 := hA.cell (i := o) (j := 1) ho (by omega)
  have c2 := hA.cell (i := o) (j := 2) ho (by omega)
  rw [Nat.add_zero] at c0 z0
  have k1 : decide (n ≤ o) = false := decide_eq_false (by omega)
  have b0 := hb.cell 0
  have b1 := hb.cell 1
  have y0 := hm.cell 0
  have y1 := hm.cell 1
  have y2 := hm.cell 2
  have y3 := hm.cell 3
  have u0 := hx.cell 0
  have u1 := hx.cell 1
  have u2 := hx.cell 2
  have r0 := hr.cell 0
  have r1 := hr.cell 1
  have q0 := hr.frz 0
  have q1 := hr.frz 1
  have HA := Lib.hid hA
  have HM := Lib.hid hM
  have HB := Lib.hid hb
  have HMs := Lib.hid hm
  have HR := Lib.hid hr
  obtain ⟨d0, d1, d2, d3⟩ := hd
  obtain ⟨bs0, bs1, bs2⟩ := hbs
  have n0 : g ≠ B := Nat.ne_of_lt d0
  have n1 : g ≠ Bm := Nat.ne_of_lt d1
  have n2 : g ≠ Br := Nat.ne_of_lt d2
  have n3 : g ≠ Bx := Nat.ne_of_lt d3
  clear hA hM hb hm hx hr d0 d1 d2 d3
  have HT := Lib.hid ht
  have e1 : (x0 == 1) = true := by rw [hx0]; decide
  have e2 : (x0 == 2) = false := by rw [hx0]; decide
  have e3 : (x0 == 3) = false := by rw [hx0]; decide
  have i0 : (s.c o 0 == 0) = false := by rw [hi]; decide
  have i2 : (s.c o 0 == 2) = true := by rw [hi]; decide
  have i3 : (s.c o 0 == 3) = false := by rw [hi]; decide
  have i4 : (s.c o 0 == 4) = false := by rw [hi]; decide
  clear ht hx0 hi
  conv in restAt _ _ => whnf
  rw [HT.out]
  go_wp2_with fail
  exact hand_end rfl HR.out HA.out HM.out (Below.refl _ _) bs0
set_option maxRecDepth 100000 in
set_option maxHeartbeats 3200000 in
theorem rhand_1_3_no {v0 v1 v7 v8 v9 v10 v11 v12 v13 v14 v15 v16 v17 v18 v19 v20 v21 v22 v23 v24 v25 v26 v27 v28 v29 v30 v31 v32 v33 v34 v35 v36 v37 v38 v39 v40 v41 v42 v43 v44 v45 v46 v47 v48 v49 v50 v51 v52 v53 v54 v55 v56 v57 v58 v59 v60 v61 v62 v63 v64 v65 v66 v67 v68 v69 v70 v71 v72 v73 v74 v75 v76 v77 v78 v79 v80 v81 v82 v83 v84 v85 v86 v87 v88 v89 v90 v91 v92 v93 v94 v95 v96 v97 v98 v99 v100 v101 v102 v103 v104 v105 v106 v107 v108 v109 v110 v111 v112 v113 v114 v115 v116 v117 v118 v119 v120 v121 v122 v123 v124 v125 v126 v127 v128 v129 v130 v131 v132 v133 v134 v135 v136 v137 v138 v139 v140 v141 v142 : Value} (t : M.St) (hA : Own w base 51 3 (.slice (some ⟨g, 0, none⟩) n c) n (ints2 s.c)) (hM : Own w base 54 4 (.slice A' s.k c') s.k (ints2 s.m)) (hb : Blk w B 31 #[.slice (some ⟨g, 0, none⟩) n c, .slice A' s.k c']) (hm : Blk w Bm 54 #[.int .i64 x0, .int .i64 x1, .int .i64 (o : Int), .int .i64 x3]) (hr : Blk w Br 31 #[.slice none 0 0, .slice none 0 0]) (hx : Blk w Bx 51 #[.int .i64 (s.c o 0), .int .i64 (s.c o 1), .int .i64 (s.c o 2)]) (hd : g < B ∧ g < Bm ∧ g < Br ∧ g < Bx) (hbs : base ≤ Br ∧ base ≤ w.heap.size ∧ base ≤ g) (ho : o < n) (hk6 : s.k < 6)
    (ht : t = s) (hx0 : x0 = 1) (hi : s.c o 0 = 3) (hsm : sm = false) :
    Code.wp Tryd.prog (restAt Tryd.f25 3) (bodyPost Tryd.prog Tryd.f25 (HandR n base t w)) { tmps := List.toArray (v0 :: v1 :: .pointer (some ⟨B, 0, none⟩) :: .pointer (some ⟨Bm, 0, none⟩) :: .pointer (some ⟨Br, 0, none⟩) :: .pointer (some ⟨Bx, 0, none⟩) :: .bool sm :: v7 :: v8 :: v9 :: v10 :: v11 :: v12 :: v13 :: v14 :: v15 :: v16 :: v17 :: v18 :: v19 :: v20 :: v21 :: v22 :: v23 :: v24 :: v25 :: v26 :: v27 :: v28 :: v29 :: v30 :: v31 :: v32 :: v33 :: v34 :: v35 :: v36 :: v37 :: v38 :: v39 :: v40 :: v41 :: v42 :: v43 :: v44 :: v45 :: v46 :: v47 :: v48 :: v49 :: v50 :: v51 :: v52 :: v53 :: v54 :: v55 :: v56 :: v57 :: v58 :: v59 :: v60 :: v61 :: v62 :: v63 :: v64 :: v65 :: v66 :: v67 :: v68 :: v69 :: v70 :: v71 :: v72 :: v73 :: v74 :: v75 :: v76 :: v77 :: v78 :: v79 :: v80 :: v81 :: v82 :: v83 :: v84 :: v85 :: v86 :: v87 :: v88 :: v89 :: v90 :: v91 :: v92 :: v93 :: v94 :: v95 :: v96 :: v97 :: v98 :: v99 :: v100 :: v101 :: v102 :: v103 :: v104 :: v105 :: v106 :: v107 :: v108 :: v109 :: v110 :: v111 :: v112 :: v113 :: v114 :: v115 :: v116 :: v117 :: v118 :: v119 :: v120 :: v121 :: v122 :: v123 :: v124 :: v125 :: v126 :: v127 :: v128 :: v129 :: v130 :: v131 :: v132 :: v133 :: v134 :: v135 :: v136 :: v137 :: v138 :: v139 :: v140 :: v141 :: v142 :: []), defers := [] } w := by
  have hgw := (hA.block rfl).2
  have c0 := hA.cell (i := o) (j := 0) ho (by omega)
  have z0 := hA.frz (o * 3 + 0)
  have z1 := hA.frz (o * 3 + 1)
  have z2 := hA.frz (o * 3 + 2)
  have c1 := hA.cell (i := o) (j := 1) ho (by omega)
  have c2 := hA.cell (i := o) (j := 2) ho (by omega)
  rw [Nat.add_zero] at c0 z0
  have k1 : decide (n ≤ o) = false := decide_eq_false (by omega)
  have b0 := hb.cell 0
  have b1 := hb.cell 1
  have y0 := hm.cell 0
  have y1 := hm.cell 1
  have y2 := hm.cell 2
  have y3 := hm.cell 3
  have u0 := hx.cell 0
  have u1 := hx.cell 1
  have u2 := hx.cell 2
  have r0 := hr.cell 0
  have r1 := hr.cell 1
  have q0 := hr.frz 0
  have q1 := hr.frz 1
  have HA := Lib.hid hA
  have HM := Lib.hid hM
  have HB := Lib.hid hb
  have HMs := Lib.hid hm
  have HR := Lib.hid hr
  obtain ⟨d0, d1, d2, d3⟩ := hd
  obtain ⟨bs0, bs1, bs2⟩ := hbs
  have n0 : g ≠ B := Nat.ne_of_lt d0
  have n1 : g ≠ Bm := Nat.ne_of_lt d1
  have n2 : g ≠ Br := Nat.ne_of_lt d2
  have n3 : g ≠ Bx := Nat.ne_of_lt d3
  clear hA hM hb hm hx hr d0 d1 d2 d3
  have HT := Lib.hid ht
  have e1 : (x0 == 1) = true := by rw [hx0]; decide
  have e2 : (x0 == 2) = false := by rw [hx0]; decide
  have e3 : (x0 == 3) = false := by rw [hx0]; decide
  have i0 : (s.c o 0 == 0) = false := by rw [hi]; decide
  have i2 : (s.c o 0 == 2) = false := by rw [hi]; decide
  have i3 : (s.c o 0 == 3) = true := by rw [hi]; decide
  have i4 : (s.c o 0 == 4) = false := by rw [hi]; decide
  subst hsm
  clear ht hx0 hi
  conv in restAt _ _ => whnf
  rw [HT.out]
  go_wp2_with fail
  exact hand_end rfl HR.out HA.out HM.out (Below.refl _ _) bs0
set_option maxRecDepth 100000 in
set_option maxHeartbeats 3200000 in
theorem rhand_2_0 {v0 v1 v7 v8 v9 v10 v11 v12 v13 v14 v15 v16 v17 v18 v19 v20 v21 v22 v23 v24 v25 v26 v27 v28 v29 v30 v31 v32 v33 v34 v35 v36 v37 v38 v39 v40 v41 v42 v43 v44 v45 v46 v47 v48 v49 v50 v51 v52 v53 v54 v55 v56 v57 v58 v59 v60 v61 v62 v63 v64 v65 v66 v67 v68 v69 v70 v71 v72 v73 v74 v75 v76 v77 v78 v79 v80 v81 v82 v83 v84 v85 v86 v87 v88 v89 v90 v91 v92 v93 v94 v95 v96 v97 v98 v99 v100 v101 v102 v103 v104 v105 v106 v107 v108 v109 v110 v111 v112 v113 v114 v115 v116 v117 v118 v119 v120 v121 v122 v123 v124 v125 v126 v127 v128 v129 v130 v131 v132 v133 v134 v135 v136 v137 v138 v139 v140 v141 v142 : Value} (t : M.St) (hA : Own w base 51 3 (.slice (some ⟨g, 0, none⟩) n c) n (ints2 s.c)) (hM : Own w base 54 4 (.slice A' s.k c') s.k (ints2 s.m)) (hb : Blk w B 31 #[.slice (some ⟨g, 0, none⟩) n c, .slice A' s.k c']) (hm : Blk w Bm 54 #[.int .i64 x0, .int .i64 x1, .int .i64 (o : Int), .int .i64 x3]) (hr : Blk w Br 31 #[.slice none 0 0, .slice none 0 0]) (hx : Blk w Bx 51 #[.int .i64 (s.c o 0), .int .i64 (s.c o 1), .int .i64 (s.c o 2)]) (hd : g < B ∧ g < Bm ∧ g < Br ∧ g < Bx) (hbs : base ≤ Br ∧ base ≤ w.heap.size ∧ base ≤ g) (ho : o < n) (hk6 : s.k < 6)
    (ht : t = s) (hx0 : x0 = 2) (hi : s.c o 0 = 0) :
    Code.wp Tryd.prog (restAt Tryd.f25 3) (bodyPost Tryd.prog Tryd.f25 (HandR n base t w)) { tmps := List.toArray (v0 :: v1 :: .pointer (some ⟨B, 0, none⟩) :: .pointer (some ⟨Bm, 0, none⟩) :: .pointer (some ⟨Br, 0, none⟩) :: .pointer (some ⟨Bx, 0, none⟩) :: .bool sm :: v7 :: v8 :: v9 :: v10 :: v11 :: v12 :: v13 :: v14 :: v15 :: v16 :: v17 :: v18 :: v19 :: v20 :: v21 :: v22 :: v23 :: v24 :: v25 :: v26 :: v27 :: v28 :: v29 :: v30 :: v31 :: v32 :: v33 :: v34 :: v35 :: v36 :: v37 :: v38 :: v39 :: v40 :: v41 :: v42 :: v43 :: v44 :: v45 :: v46 :: v47 :: v48 :: v49 :: v50 :: v51 :: v52 :: v53 :: v54 :: v55 :: v56 :: v57 :: v58 :: v59 :: v60 :: v61 :: v62 :: v63 :: v64 :: v65 :: v66 :: v67 :: v68 :: v69 :: v70 :: v71 :: v72 :: v73 :: v74 :: v75 :: v76 :: v77 :: v78 :: v79 :: v80 :: v81 :: v82 :: v83 :: v84 :: v85 :: v86 :: v87 :: v88 :: v89 :: v90 :: v91 :: v92 :: v93 :: v94 :: v95 :: v96 :: v97 :: v98 :: v99 :: v100 :: v101 :: v102 :: v103 :: v104 :: v105 :: v106 :: v107 :: v108 :: v109 :: v110 :: v111 :: v112 :: v113 :: v114 :: v115 :: v116 :: v117 :: v118 :: v119 :: v120 :: v121 :: v122 :: v123 :: v124 :: v125 :: v126 :: v127 :: v128 :: v129 :: v130 :: v131 :: v132 :: v133 :: v134 :: v135 :: v136 :: v137 :: v138 :: v139 :: v140 :: v141 :: v142 :: []), defers := [] } w := by
  have hgw := (hA.block rfl).2
  have c0 := hA.cell (i := o) (j := 0) ho (by omega)
  have z0 := hA.frz (o * 3 + 0)
  have z1 := hA.frz (o * 3 + 1)
  have z2 := hA.frz (o * 3 + 2)
  have c1 := hA.cell (i := o) (j := 1) ho (by omega)
  have c2 := hA.cell (i := o) (j := 2) ho (by omega)
  rw [Nat.add_zero] at c0 z0
  have k1 : decide (n ≤ o) = false := decide_eq_false (by omega)
  have b0 := hb.cell 0
  have b1 := hb.cell 1
  have y0 := hm.cell 0
  have y1 := hm.cell 1
  have y2 := hm.cell 2
  have y3 := hm.cell 3
  have u0 := hx.cell 0
  have u1 := hx.cell 1
  have u2 := hx.cell 2
  have r0 := hr.cell 0
  have r1 := hr.cell 1
  have q0 := hr.frz 0
  have q1 := hr.frz 1
  have HA := Lib.hid hA
  have HM := Lib.hid hM
  have HB := Lib.hid hb
  have HMs := Lib.hid hm
  have HR := Lib.hid hr
  obtain ⟨d0, d1, d2, d3⟩ := hd
  obtain ⟨bs0, bs1, bs2⟩ := hbs
  have n0 : g ≠ B := Nat.ne_of_lt d0
  have n1 : g ≠ Bm := Nat.ne_of_lt d1
  have n2 : g ≠ Br := Nat.ne_of_lt d2
  have n3 : g ≠ Bx := Nat.ne_of_lt d3
  clear hA hM hb hm hx hr d0 d1 d2 d3
  have HT := Lib.hid ht
  have e1 : (x0 == 1) = false := by rw [hx0]; decide
  have e2 : (x0 == 2) = true := by rw [hx0]; decide
  have e3 : (x0 == 3) = false := by rw [hx0]; decide
  have i0 : (s.c o 0 == 0) = true := by rw [hi]; decide
  have i2 : (s.c o 0 == 2) = false := by rw [hi]; decide
  have i3 : (s.c o 0 == 3) = false := by rw [hi]; decide
  have i4 : (s.c o 0 == 4) = false := by rw [hi]; decide
  clear ht hx0 hi
  conv in restAt _ _ => whnf
  rw [HT.out]
  go_wp2_with fail
  exact hand_end rfl HR.out HA.out HM.out (Below.refl _ _) bs0
set_option maxRecDepth 100000 in
set_option maxHeartbeats 3200000 in
theorem rhand_2_1 {v0 v1 v7 v8 v9 v10 v11 v12 v13 v14 v15 v16 v17 v18 v19 v20 v21 v22 v23 v24 v25 v26 v27 v28 v29 v30 v31 v32 v33 v34 v35 v36 v37 v38 v39 v40 v41 v42 v43 v44 v45 v46 v47 v48 v49 v50 v51 v52 v53 v54 v55 v56 v57 v58 v59 v60 v61 v62 v63 v64 v65 v66 v67 v68 v69 v70 v71 v72 v73 v74 v75 v76 v77 v78 v79 v80 v81 v82 v83 v84 v85 v86 v87 v88 v89 v90 v91 v92 v93 v94 v95 v96 v97 v98 v99 v100 v101 v102 v103 v104 v105 v106 v107 v108 v109 v110 v111 v112 v113 v114 v115 v116 v117 v118 v119 v120 v121 v122 v123 v124 v125 v126 v127 v128 v129 v130 v131 v132 v133 v134 v135 v136 v137 v138 v139 v140 v141 v142 : Value} (t : M.St) (hA : Own w base 51 3 (.slice (some ⟨g, 0, none⟩) n c) n (ints2 s.c)) (hM : Own w base 54 4 (.slice A' s.k c') s.k (ints2 s.m)) (hb : Blk w B 31 #[.slice (some ⟨g, 0, none⟩) n c, .slice A' s.k c']) (hm : Blk w Bm 54 #[.int .i64 x0, .int .i64 x1, .int .i64 (o : Int), .int .i64 x3]) (hr : Blk w Br 31 #[.slice none 0 0, .slice none 0 0]) (hx : Blk w Bx 51 #[.int .i64 (s.c o 0), .int .i64 (s.c o 1), .int .i64 (s.c o 2)]) (hd : g < B ∧ g < Bm ∧ g < Br ∧ g < Bx) (hbs : base ≤ Br ∧ base ≤ w.heap.size ∧ base ≤ g) (ho : o < n) (hk6 : s.k < 6)
    (ht : t = s) (hx0 : x0 = 2) (hi : s.c o 0 = 1) :
    Code.wp Tryd.prog (restAt Tryd.f25 3) (bodyPost Tryd.prog Tryd.f25 (HandR n base t w)) { tmps := List.toArray (v0 :: v1 :: .pointer (some ⟨B, 0, none⟩) :: .pointer (some ⟨Bm, 0, none⟩) :: .pointer (some ⟨Br, 0, none⟩) :: .pointer (some ⟨Bx, 0, none⟩) :: .bool sm :: v7 :: v8 :: v9 :: v10 :: v11 :: v12 :: v13 :: v14 :: v15 :: v16 :: v17 :: v18 :: v19 :: v20 :: v21 :: v22 :: v23 :: v24 :: v25 :: v26 :: v27 :: v28 :: v29 :: v30 :: v31 :: v32 :: v33 :: v34 :: v35 :: v36 :: v37 :: v38 :: v39 :: v40 :: v41 :: v42 :: v43 :: v44 :: v45 :: v46 :: v47 :: v48 :: v49 :: v50 :: v51 :: v52 :: v53 :: v54 :: v55 :: v56 :: v57 :: v58 :: v59 :: v60 :: v61 :: v62 :: v63 :: v64 :: v65 :: v66 :: v67 :: v68 :: v69 :: v70 :: v71 :: v72 :: v73 :: v74 :: v75 :: v76 :: v77 :: v78 :: v79 :: v80 :: v81 :: v82 :: v83 :: v84 :: v85 :: v86 :: v87 :: v88 :: v89 :: v90 :: v91 :: v92 :: v93 :: v94 :: v95 :: v96 :: v97 :: v98 :: v99 :: v100 :: v101 :: v102 :: v103 :: v104 :: v105 :: v106 :: v107 :: v108 :: v109 :: v110 :: v111 :: v112 :: v113 :: v114 :: v115 :: v116 :: v117 :: v118 :: v119 :: v120 :: v121 :: v122 :: v123 :: v124 :: v125 :: v126 :: v127 :: v128 :: v129 :: v130 :: v131 :: v132 :: v133 :: v134 :: v135 :: v136 :: v137 :: v138 :: v139 :: v140 :: v141 :: v142 :: []), defers := [] } w := by
  have hgw := (hA.block rfl).2
  have c0 := hA.cell (i := o) (j := 0) ho (by omega)
  have z0 := hA.frz (o * 3 + 0)
  have z1 := hA.frz (o * 3 + 1)
  have z2 := hA.frz (o * 3 + 2)
  have c1 := hA.cell (i := o) (j := 1) ho (by omega)
  have c2 := hA.cell (i := o) (j := 2) ho (by omega)
  rw [Nat.add_zero] at c0 z0
  have k1 : decide (n ≤ o) = false := decide_eq_false (by omega)
  have b0 := hb.cell 0
  have b1 := hb.cell 1
  have y0 := hm.cell 0
  have y1 := hm.cell 1
  have y2 := hm.cell 2
  have y3 := hm.cell 3
  have u0 := hx.cell 0
  have u1 := hx.cell 1
  have u2 := hx.cell 2
  have r0 := hr.cell 0
  have r1 := hr.cell 1
  have q0 := hr.frz 0
  have q1 := hr.frz 1
  have HA := Lib.hid hA
  have HM := Lib.hid hM
  have HB := Lib.hid hb
  have HMs := Lib.hid hm
  have HR := Lib.hid hr
  obtain ⟨d0, d1, d2, d3⟩ := hd
  obtain ⟨bs0, bs1, bs2⟩ := hbs
  have n0 : g ≠ B := Nat.ne_of_lt d0
  have n1 : g ≠ Bm := Nat.ne_of_lt d1
  have n2 : g ≠ Br := Nat.ne_of_lt d2
  have n3 : g ≠ Bx := Nat.ne_of_lt d3
  clear hA hM hb hm hx hr d0 d1 d2 d3
  have HT := Lib.hid ht
  have e1 : (x0 == 1) = false := by rw [hx0]; decide
  have e2 : (x0 == 2) = true := by rw [hx0]; decide
  have e3 : (x0 == 3) = false := by rw [hx0]; decide
  have i0 : (s.c o 0 == 0) = false := by rw [hi]; decide
  have i2 : (s.c o 0 == 2) = false := by rw [hi]; decide
  have i3 : (s.c o 0 == 3) = false := by rw [hi]; decide
  have i4 : (s.c o 0 == 4) = false := by rw [hi]; decide
  clear ht hx0 hi
  conv in restAt _ _ => whnf
  rw [HT.out]
  go_wp2_with fail
  exact hand_end rfl HR.out HA.out HM.out (Below.refl _ _) bs0
set_option maxRecDepth 100000 in
set_option maxHeartbeats 3200000 in
theorem rhand_2_3 {v0 v1 v7 v8 v9 v10 v11 v12 v13 v14 v15 v16 v17 v18 v19 v20 v21 v22 v23 v24 v25 v26 v27 v28 v29 v30 v31 v32 v33 v34 v35 v36 v37 v38 v39 v40 v41 v42 v43 v44 v45 v46 v47 v48 v49 v50 v51 v52 v53 v54 v55 v56 v57 v58 v59 v60 v61 v62 v63 v64 v65 v66 v67 v68 v69 v70 v71 v72 v73 v74 v75 v76 v77 v78 v79 v80 v81 v82 v83 v84 v85 v86 v87 v88 v89 v90 v91 v92 v93 v94 v95 v96 v97 v98 v99 v100 v101 v102 v103 v104 v105 v106 v107 v108 v109 v110 v111 v112 v113 v114 v115 v116 v117 v118 v119 v120 v121 v122 v123 v124 v125 v126 v127 v128 v129 v130 v131 v132 v133 v134 v135 v136 v137 v138 v139 v140 v141 v142 : Value} (t : M.St) (hA : Own w base 51 3 (.slice (some ⟨g, 0, none⟩) n c) n (ints2 s.c)) (hM : Own w base 54 4 (.slice A' s.k c') s.k (ints2 s.m)) (hb : Blk w B 31 #[.slice (some ⟨g, 0, none⟩) n c, .slice A' s.k c']) (hm : Blk w Bm 54 #[.int .i64 x0, .int .i64 x1, .int .i64 (o : Int), .int .i64 x3]) (hr : Blk w Br 31 #[.slice none 0 0, .slice none 0 0]) (hx : Blk w Bx 51 #[.int .i64 (s.c o 0), .int .i64 (s.c o 1), .int .i64 (s.c o 2)]) (hd : g < B ∧ g < Bm ∧ g < Br ∧ g < Bx) (hbs : base ≤ Br ∧ base ≤ w.heap.size ∧ base ≤ g) (ho : o < n) (hk6 : s.k < 6)
    (ht : t = s) (hx0 : x0 = 2) (hi : s.c o 0 = 3) :
    Code.wp Tryd.prog (restAt Tryd.f25 3) (bodyPost Tryd.prog Tryd.f25 (HandR n base t w)) { tmps := List.toArray (v0 :: v1 :: .pointer (some ⟨B, 0, none⟩) :: .pointer (some ⟨Bm, 0, none⟩) :: .pointer (some ⟨Br, 0, none⟩) :: .pointer (some ⟨Bx, 0, none⟩) :: .bool sm :: v7 :: v8 :: v9 :: v10 :: v11 :: v12 :: v13 :: v14 :: v15 :: v16 :: v17 :: v18 :: v19 :: v20 :: v21 :: v22 :: v23 :: v24 :: v25 :: v26 :: v27 :: v28 :: v29 :: v30 :: v31 :: v32 :: v33 :: v34 :: v35 :: v36 :: v37 :: v38 :: v39 :: v40 :: v41 :: v42 :: v43 :: v44 :: v45 :: v46 :: v47 :: v48 :: v49 :: v50 :: v51 :: v52 :: v53 :: v54 :: v55 :: v56 :: v57 :: v58 :: v59 :: v60 :: v61 :: v62 :: v63 :: v64 :: v65 :: v66 :: v67 :: v68 :: v69 :: v70 :: v71 :: v72 :: v73 :: v74 :: v75 :: v76 :: v77 :: v78 :: v79 :: v80 :: v81 :: v82 :: v83 :: v84 :: v85 :: v86 :: v87 :: v88 :: v89 :: v90 :: v91 :: v92 :: v93 :: v94 :: v95 :: v96 :: v97 :: v98 :: v99 :: v100 :: v101 :: v102 :: v103 :: v104 :: v105 :: v106 :: v107 :: v108 :: v109 :: v110 :: v111 :: v112 :: v113 :: v114 :: v115 :: v116 :: v117 :: v118 :: v119 :: v120 :: v121 :: v122 :: v123 :: v124 :: v125 :: v126 :: v127 :: v128 :: v129 :: v130 :: v131 :: v132 :: v133 :: v134 :: v135 :: v136 :: v137 :: v138 :: v139 :: v140 :: v141 :: v142 :: []), defers := [] } w := by
  have hgw := (hA.block rfl).2
  have c0 := hA.cell (i := o) (j := 0) ho (by omega)
  have z0 := hA.frz (o * 3 + 0)
  have z1 := hA.frz (o * 3 + 1)
  have z2 := hA.frz (o * 3 + 2)
  have c1 := hA.cell (i := o) (j := 1) ho (by omega)
  have c2 := hA.cell (i := o) (j := 2) ho (by omega)
  rw [Nat.add_zero] at c0 z0
  have k1 : decide (n ≤ o) = false := decide_eq_false (by omega)
  have b0 := hb.cell 0
  have b1 := hb.cell 1
  have y0 := hm.cell 0
  have y1 := hm.cell 1
  have y2 := hm.cell 2
  have y3 := hm.cell 3
  have u0 := hx.cell 0
  have u1 := hx.cell 1
  have u2 := hx.cell 2
  have r0 := hr.cell 0
  have r1 := hr.cell 1
  have q0 := hr.frz 0
  have q1 := hr.frz 1
  have HA := Lib.hid hA
  have HM := Lib.hid hM
  have HB := Lib.hid hb
  have HMs := Lib.hid hm
  have HR := Lib.hid hr
  obtain ⟨d0, d1, d2, d3⟩ := hd
  obtain ⟨bs0, bs1, bs2⟩ := hbs
  have n0 : g ≠ B := Nat.ne_of_lt d0
  have n1 : g ≠ Bm := Nat.ne_of_lt d1
  have n2 : g ≠ Br := Nat.ne_of_lt d2
  have n3 : g ≠ Bx := Nat.ne_of_lt d3
  clear hA hM hb hm hx hr d0 d1 d2 d3
  have HT := Lib.hid ht
  have e1 : (x0 == 1) = false := by rw [hx0]; decide
  have e2 : (x0 == 2) = true := by rw [hx0]; decide
  have e3 : (x0 == 3) = false := by rw [hx0]; decide
  have i0 : (s.c o 0 == 0) = false := by rw [hi]; decide
  have i2 : (s.c o 0 == 2) = false := by rw [hi]; decide
  have i3 : (s.c o 0 == 3) = true := by rw [hi]; decide
  have i4 : (s.c o 0 == 4) = false := by rw [hi]; decide
  clear ht hx0 hi
  conv in restAt _ _ => whnf
  rw [HT.out]
  go_wp2_with fail
  exact hand_end rfl HR.out HA.out HM.out (Below.refl _ _) bs0
set_option maxRecDepth 100000 in
set_option maxHeartbeats 3200000 in
theorem rhand_2_2_no {v0 v1 v7 v8 v9 v10 v11 v12 v13 v14 v15 v16 v17 v18 v19 v20 v21 v22 v23 v24 v25 v26 v27 v28 v29 v30 v31 v32 v33 v34 v35 v36 v37 v38 v39 v40 v41 v42 v43 v44 v45 v46 v47 v48 v49 v50 v51 v52 v53 v54 v55 v56 v57 v58 v59 v60 v61 v62 v63 v64 v65 v66 v67 v68 v69 v70 v71 v72 v73 v74 v75 v76 v77 v78 v79 v80 v81 v82 v83 v84 v85 v86 v87 v88 v89 v90 v91 v92 v93 v94 v95 v96 v97 v98 v99 v100 v101 v102 v103 v104 v105 v106 v107 v108 v109 v110 v111 v112 v113 v114 v115 v116 v117 v118 v119 v120 v121 v122 v123 v124 v125 v126 v127 v128 v129 v130 v131 v132 v133 v134 v135 v136 v137 v138 v139 v140 v141 v142 : Value} (t : M.St) (hA : Own w base 51 3 (.slice (some ⟨g, 0, none⟩) n c) n (ints2 s.c)) (hM : Own w base 54 4 (.slice A' s.k c') s.k (ints2 s.m)) (hb : Blk w B 31 #[.slice (some ⟨g, 0, none⟩) n c, .slice A' s.k c']) (hm : Blk w Bm 54 #[.int .i64 x0, .int .i64 x1, .int .i64 (o : Int), .int .i64 x3]) (hr : Blk w Br 31 #[.slice none 0 0, .slice none 0 0]) (hx : Blk w Bx 51 #[.int .i64 (s.c o 0), .int .i64 (s.c o 1), .int .i64 (s.c o 2)]) (hd : g < B ∧ g < Bm ∧ g < Br ∧ g < Bx) (hbs : base ≤ Br ∧ base ≤ w.heap.size ∧ base ≤ g) (ho : o < n) (hk6 : s.k < 6)
    (ht : t = s) (hx0 : x0 = 2) (hi : s.c o 0 = 2) (hsm : sm = false) :
    Code.wp Tryd.prog (restAt Tryd.f25 3) (bodyPost Tryd.prog Tryd.f25 (HandR n base t w)) { tmps := List.toArray (v0 :: v1 :: .pointer (some ⟨B, 0, none⟩) :: .pointer (some ⟨Bm, 0, none⟩) :: .pointer (some ⟨Br, 0, none⟩) :: .pointer (some ⟨Bx, 0, none⟩) :: .bool sm :: v7 :: v8 :: v9 :: v10 :: v11 :: v12 :: v13 :: v14 :: v15 :: v16 :: v17 :: v18 :: v19 :: v20 :: v21 :: v22 :: v23 :: v24 :: v25 :: v26 :: v27 :: v28 :: v29 :: v30 :: v31 :: v32 :: v33 :: v34 :: v35 :: v36 :: v37 :: v38 :: v39 :: v40 :: v41 :: v42 :: v43 :: v44 :: v45 :: v46 :: v47 :: v48 :: v49 :: v50 :: v51 :: v52 :: v53 :: v54 :: v55 :: v56 :: v57 :: v58 :: v59 :: v60 :: v61 :: v62 :: v63 :: v64 :: v65 :: v66 :: v67 :: v68 :: v69 :: v70 :: v71 :: v72 :: v73 :: v74 :: v75 :: v76 :: v77 :: v78 :: v79 :: v80 :: v81 :: v82 :: v83 :: v84 :: v85 :: v86 :: v87 :: v88 :: v89 :: v90 :: v91 :: v92 :: v93 :: v94 :: v95 :: v96 :: v97 :: v98 :: v99 :: v100 :: v101 :: v102 :: v103 :: v104 :: v105 :: v106 :: v107 :: v108 :: v109 :: v110 :: v111 :: v112 :: v113 :: v114 :: v115 :: v116 :: v117 :: v118 :: v119 :: v120 :: v121 :: v122 :: v123 :: v124 :: v125 :: v126 :: v127 :: v128 :: v129 :: v130 :: v131 :: v132 :: v133 :: v134 :: v135 :: v136 :: v137 :: v138 :: v139 :: v140 :: v141 :: v142 :: []), defers := [] } w := by
  have hgw := (hA.block rfl).2
  have c0 := hA.cell (i := o) (j := 0) ho (by omega)
  have z0 := hA.frz (o * 3 + 0)
  have z1 := hA.frz (o * 3 + 1)
  have z2 := hA.frz (o * 3 + 2)
  have c1 := hA.cell (i := o) (j := 1) ho (by omega)
  have c2 := hA.cell (i := o) (j := 2) ho (by omega)
  rw [Nat.add_zero] at c0 z0
  have k1 : decide (n ≤ o) = false := decide_eq_false (by omega)
  have b0 := hb.cell 0
  have b1 := hb.cell 1
  have y0 := hm.cell 0
  have y1 := hm.cell 1
  have y2 := hm.cell 2
  have y3 := hm.cell 3
  have u0 := hx.cell 0
  have u1 := hx.cell 1
  have u2 := hx.cell 2
  have r0 := hr.cell 0
  have r1 := hr.cell 1
  have q0 := hr.frz 0
  have q1 := hr.frz 1
  have HA := Lib.hid hA
  have HM := Lib.hid hM
  have HB := Lib.hid hb
  have HMs := Lib.hid hm
  have HR := Lib.hid hr
  obtain ⟨d0, d1, d2, d3⟩ := hd
  obtain ⟨bs0, bs1, bs2⟩ := hbs
  have n0 : g ≠ B := Nat.ne_of_lt d0
  have n1 : g ≠ Bm := Nat.ne_of_lt d1
  have n2 : g ≠ Br := Nat.ne_of_lt d2
  have n3 : g ≠ Bx := Nat.ne_of_lt d3
  clear hA hM hb hm hx hr d0 d1 d2 d3
  have HT := Lib.hid ht
  have e1 : (x0 == 1) = false := by rw [hx0]; decide
  have e2 : (x0 == 2) = true := by rw [hx0]; decide
  have e3 : (x0 == 3) = false := by rw [hx0]; decide
  have i0 : (s.c o 0 == 0) = false := by rw [hi]; decide
  have i2 : (s.c o 0 == 2) = true := by rw [hi]; decide
  have i3 : (s.c o 0 == 3) = false := by rw [hi]; decide
  have i4 : (s.c o 0 == 4) = false := by rw [hi]; decide
  subst hsm
  clear ht hx0 hi
  conv in restAt _ _ => whnf
  rw [HT.out]
  go_wp2_with fail
  exact hand_end rfl HR.out HA.out HM.out (Below.refl _ _) bs0
set_option maxRecDepth 100000 in
set_option maxHeartbeats 3200000 in
theorem rhand_2_4_no {v0 v1 v7 v8 v9 v10 v11 v12 v13 v14 v15 v16 v17 v18 v19 v20 v21 v22 v23 v24 v25 v26 v27 v28 v29 v30 v31 v32 v33 v34 v35 v36 v37 v38 v39 v40 v41 v42 v43 v44 v45 v46 v47 v48 v49 v50 v51 v52 v53 v54 v55 v56 v57 v58 v59 v60 v61 v62 v63 v64 v65 v66 v67 v68 v69 v70 v71 v72 v73 v74 v75 v76 v77 v78 v79 v80 v81 v82 v83 v84 v85 v86 v87 v88 v89 v90 v91 v92 v93 v94 v95 v96 v97 v98 v99 v100 v101 v102 v103 v104 v105 v106 v107 v108 v109 v110 v111 v112 v113 v114 v115 v116 v117 v118 v119 v120 v121 v122 v123 v124 v125 v126 v127 v128 v129 v130 v131 v132 v133 v134 v135 v136 v137 v138 v139 v140 v141 v142 : Value} (t : M.St) (hA : Own w base 51 3 (.slice (some ⟨g, 0, none⟩) n c) n (ints2 s.c)) (hM : Own w base 54 4 (.slice A' s.k c') s.k (ints2 s.m)) (hb : Blk w B 31 #[.slice (some ⟨g, 0, none⟩) n c, .slice A' s.k c']) (hm : Blk w Bm 54 #[.int .i64 x0, .int .i64 x1, .int .i64 (o : Int), .int .i64 x3]) (hr : Blk w Br 31 #[.slice none 0 0, .slice none 0 0]) (hx : Blk w Bx 51 #[.int .i64 (s.c o 0), .int .i64 (s.c o 1), .int .i64 (s.c o 2)]) (hd : g < B ∧ g < Bm ∧ g < Br ∧ g < Bx) (hbs : base ≤ Br ∧ base ≤ w.heap.size ∧ base ≤ g) (ho : o < n) (hk6 : s.k < 6)
    (ht : t = s) (hx0 : x0 = 2) (hi : s.c o 0 = 4) (hsm : sm = false) :
    Code.wp Tryd.prog (restAt Tryd.f25 3) (bodyPost Tryd.prog Tryd.f25 (HandR n base t w)) { tmps := List.toArray (v0 :: v1 :: .pointer (some ⟨B, 0, none⟩) :: .pointer (some ⟨Bm, 0, none⟩) :: .pointer (some ⟨Br, 0, none⟩) :: .pointer (some ⟨Bx, 0, none⟩) :: .bool sm :: v7 :: v8 :: v9 :: v10 :: v11 :: v12 :: v13 :: v14 :: v15 :: v16 :: v17 :: v18 :: v19 :: v20 :: v21 :: v22 :: v23 :: v24 :: v25 :: v26 :: v27 :: v28 :: v29 :: v30 :: v31 :: v32 :: v33 :: v34 :: v35 :: v36 :: v37 :: v38 :: v39 :: v40 :: v41 :: v42 :: v43 :: v44 :: v45 :: v46 :: v47 :: v48 :: v49 :: v50 :: v51 :: v52 :: v53 :: v54 :: v55 :: v56 :: v57 :: v58 :: v59 :: v60 :: v61 :: v62 :: v63 :: v64 :: v65 :: v66 :: v67 :: v68 :: v69 :: v70 :: v71 :: v72 :: v73 :: v74 :: v75 :: v76 :: v77 :: v78 :: v79 :: v80 :: v81 :: v82 :: v83 :: v84 :: v85 :: v86 :: v87 :: v88 :: v89 :: v90 :: v91 :: v92 :: v93 :: v94 :: v95 :: v96 :: v97 :: v98 :: v99 :: v100 :: v101 :: v102 :: v103 :: v104 :: v105 :: v106 :: v107 :: v108 :: v109 :: v110 :: v111 :: v112 :: v113 :: v114 :: v115 :: v116 :: v117 :: v118 :: v119 :: v120 :: v121 :: v122 :: v123 :: v124 :: v125 :: v126 :: v127 :: v128 :: v129 :: v130 :: v131 :: v132 :: v133 :: v134 :: v135 :: v136 :: v137 :: v138 :: v139 :: v140 :: v141 :: v142 :: []), defers := [] } w := by
  have hgw := (hA.block rfl).2
  have c0 := hA.cell (i := o) (j := 0) ho (by omega)
  have z0 := hA.frz (o * 3 + 0)
  have z1 := hA.frz (o * 3 + 1)
  have z2 := hA.frz (o * 3 + 2)
  have c1 := hA.cell (i := o) (j := 1) ho (by omega)
  have c2 := hA.cell (i := o) (j := 2) ho (by omega)
  rw [Nat.add_zero] at c0 z0
  have k1 : decide (n ≤ o) = false := decide_eq_false (by omega)
  have b0 := hb.cell 0
  have b1 := hb.cell 1
  have y0 := hm.cell 0
  have y1 := hm.cell 1
  have y2 := hm.cell 2
  have y3 := hm.cell 3
  have u0 := hx.cell 0
  have u1 := hx.cell 1
  have u2 := hx.cell 2
  have r0 := hr.cell 0
  have r1 := hr.cell 1
  have q0 := hr.frz 0
  have q1 := hr.frz 1
  have HA := Lib.hid hA
  have HM := Lib.hid hM
  have HB := Lib.hid hb
  have HMs := Lib.hid hm
  have HR := Lib.hid hr
  obtain ⟨d0, d1, d2, d3⟩ := hd
  obtain ⟨bs0, bs1, bs2⟩ := hbs
  have n0 : g ≠ B := Nat.ne_of_lt d0
  have n1 : g ≠ Bm := Nat.ne_of_lt d1
  have n2 : g ≠ Br := Nat.ne_of_lt d2
  have n3 : g ≠ Bx := Nat.ne_of_lt d3
  clear hA hM hb hm hx hr d0 d1 d2 d3
  have HT := Lib.hid ht
  have e1 : (x0 == 1) = false := by rw [hx0]; decide
  have e2 : (x0 == 2) = true := by rw [hx0]; decide
  have e3 : (x0 == 3) = false := by rw [hx0]; decide
  have i0 : (s.c o 0 == 0) = false := by rw [hi]; decide
  have i2 : (s.c o 0 == 2) = false := by rw [hi]; decide
  have i3 : (s.c o 0 == 3) = false := by rw [hi]; decide
  have i4 : (s.c o 0 == 4) = true := by rw [hi]; decide
  subst hsm
  clear ht hx0 hi
  conv in restAt _ _ => whnf
  rw [HT.out]
  go_wp2_with fail
  exact hand_end rfl HR.out HA.out HM.out (Below.refl _ _) bs0
set_option maxRecDepth 100000 in
set_option maxHeartbeats 3200000 in
theorem rhand_3_0 {v0 v1 v7 v8 v9 v10 v11 v12 v13 v14 v15 v16 v17 v18 v19 v20 v21 v22 v23 v24 v25 v26 v27 v28 v29 v30 v31 v32 v33 v34 v35 v36 v37 v38 v39 v40 v41 v42 v43 v44 v45 v46 v47 v48 v49 v50 v51 v52 v53 v54 v55 v56 v57 v58 v59 v60 v61 v62 v63 v64 v65 v66 v67 v68 v69 v70 v71 v72 v73 v74 v75 v76 v77 v78 v79 v80 v81 v82 v83 v84 v85 v86 v87 v88 v89 v90 v91 v92 v93 v94 v95 v96 v97 v98 v99 v100 v101 v102 v103 v104 v105 v106 v107 v108 v109 v110 v111 v112 v113 v114 v115 v116 v117 v118 v119 v120 v121 v122 v123 v124 v125 v126 v127 v128 v129 v130 v131 v132 v133 v134 v135 v136 v137 v138 v139 v140 v141 v142 : Value} (t : M.St) (hA : Own w base 51 3 (.slice (some ⟨g, 0, none⟩) n c) n (ints2 s.c)) (hM : Own w base 54 4 (.slice A' s.k c') s.k (ints2 s.m)) (hb : Blk w B 31 #[.slice (some ⟨g, 0, none⟩) n c, .slice A' s.k c']) (hm : Blk w Bm 54 #[.int .i64 x0, .int .i64 x1, .int .i64 (o : Int), .int .i64 x3]) (hr : Blk w Br 31 #[.slice none 0 0, .slice none 0 0]) (hx : Blk w Bx 51 #[.int .i64 (s.c o 0), .int .i64 (s.c o 1), .int .i64 (s.c o 2)]) (hd : g < B ∧ g < Bm ∧ g < Br ∧ g < Bx) (hbs : base ≤ Br ∧ base ≤ w.heap.size ∧ base ≤ g) (ho : o < n) (hk6 : s.k < 6)
    (ht : t = s) (hx0 : x0 = 3) (hi : s.c o 0 = 0) :
    Code.wp Tryd.prog (restAt Tryd.f25 3) (bodyPost Tryd.prog Tryd.f25 (HandR n base t w)) { tmps := List.toArray (v0 :: v1 :: .pointer (some ⟨B, 0, none⟩) :: .pointer (some ⟨Bm, 0, none⟩) :: .pointer (some ⟨Br, 0, none⟩) :: .pointer (some ⟨Bx, 0, none⟩) :: .bool sm :: v7 :: v8 :: v9 :: v10 :: v11 :: v12 :: v13 :: v14 :: v15 :: v16 :: v17 :: v18 :: v19 :: v20 :: v21 :: v22 :: v23 :: v24 :: v25 :: v26 :: v27 :: v28 :: v29 :: v30 :: v31 :: v32 :: v33 :: v34 :: v35 :: v36 :: v37 :: v38 :: v39 :: v40 :: v41 :: v42 :: v43 :: v44 :: v45 :: v46 :: v47 :: v48 :: v49 :: v50 :: v51 :: v52 :: v53 :: v54 :: v55 :: v56 :: v57 :: v58 :: v59 :: v60 :: v61 :: v62 :: v63 :: v64 :: v65 :: v66 :: v67 :: v68 :: v69 :: v70 :: v71 :: v72 :: v73 :: v74 :: v75 :: v76 :: v77 :: v78 :: v79 :: v80 :: v81 :: v82 :: v83 :: v84 :: v85 :: v86 :: v87 :: v88 :: v89 :: v90 :: v91 :: v92 :: v93 :: v94 :: v95 :: v96 :: v97 :: v98 :: v99 :: v100 :: v101 :: v102 :: v103 :: v104 :: v105 :: v106 :: v107 :: v108 :: v109 :: v110 :: v111 :: v112 :: v113 :: v114 :: v115 :: v116 :: v117 :: v118 :: v119 :: v120 :: v121 :: v122 :: v123 :: v124 :: v125 :: v126 :: v127 :: v128 :: v129 :: v130 :: v131 :: v132 :: v133 :: v134 :: v135 :: v136 :: v137 :: v138 :: v139 :: v140 :: v141 :: v142 :: []), defers := [] } w := by
  have hgw := (hA.block rfl).2
  have c0 := hA.cell (i := o) (j := 0) ho (by omega)
  have z0 := hA.frz (o * 3 + 0)
  have z1 := hA.frz (o * 3 + 1)
  have z2 := hA.frz (o * 3 + 2)
  have c1 := hA.cell (i := o) (j := 1) ho (by omega)
  have c2 := hA.cell (i := o) (j := 2) ho (by omega)
  rw [Nat.add_zero] at c0 z0
  have k1 : decide (n ≤ o) = false := decide_eq_false (by omega)
  have b0 := hb.cell 0
  have b1 := hb.cell 1
  have y0 := hm.cell 0
  have y1 := hm.cell 1
  have y2 := hm.cell 2
  have y3 := hm.cell 3
  have u0 := hx.cell 0
  have u1 := hx.cell 1
  have u2 := hx.cell 2
  have r0 := hr.cell 0
  have r1 := hr.cell 1
  have q0 := hr.frz 0
  have q1 := hr.frz 1
  have HA := Lib.hid hA
  have HM := Lib.hid hM
  have HB := Lib.hid hb
  have HMs := Lib.hid hm
  have HR := Lib.hid hr
  obtain ⟨d0, d1, d2, d3⟩ := hd
  obtain ⟨bs0, bs1, bs2⟩ := hbs
  have n0 : g ≠ B := Nat.ne_of_lt d0
  have n1 : g ≠ Bm := Nat.ne_of_lt d1
  have n2 : g ≠ Br := Nat.ne_of_lt d2
  have n3 : g ≠ Bx := Nat.ne_of_lt d3
  clear hA hM hb hm hx hr d0 d1 d2 d3
  have HT := Lib.hid ht
  have e1 : (x0 == 1) = false := by rw [hx0]; decide
  have e2 : (x0 == 2) = false := by rw [hx0]; decide
  have e3 : (x0 == 3) = true := by rw [hx0]; decide
  have i0 : (s.c o 0 == 0) = true := by rw [hi]; decide
  have i2 : (s.c o 0 == 2) = false := by rw [hi]; decide
  have i3 : (s.c o 0 == 3) = false := by rw [hi]; decide
  have i4 : (s.c o 0 == 4) = false := by rw [hi]; decide
  clear ht hx0 hi
  conv in restAt _ _ => whnf
  rw [HT.out]
  go_wp2_with fail
  exact hand_end rfl HR.out HA.out HM.out (Below.refl _ _) bs0
set_option maxRecDepth 100000 in
set_option maxHeartbeats 3200000 in
theorem rhand_3_1 {v0 v1 v7 v8 v9 v10 v11 v12 v13 v14 v15 v16 v17 v18 v19 v20 v21 v22 v23 v24 v25 v26 v27 v28 v29 v30 v31 v32 v33 v34 v35 v36 v37 v38 v39 v40 v41 v42 v43 v44 v45 v46 v47 v48 v49 v50 v51 v52 v53 v54 v55 v56 v57 v58 v59 v60 v61 v62 v63 v64 v65 v66 v67 v68 v69 v70 v71 v72 v73 v74 v75 v76 v77 v78 v79 v80 v81 v82 v83 v84 v85 v86 v87 v88 v89 v90 v91 v92 v93 v94 v95 v96 v97 v98 v99 v100 v101 v102 v103 v104 v105 v106 v107 v108 v109 v110 v111 v112 v113 v114 v115 v116 v117 v118 v119 v120 v121 v122 v123 v124 v125 v126 v127 v128 v129 v130 v131 v132 v133 v134 v135 v136 v137 v138 v139 v140 v141 v142 : Value} (t : M.St) (hA : Own w base 51 3 (.slice (some ⟨g, 0, none⟩) n c) n (ints2 s.c)) (hM : Own w base 54 4 (.slice A' s.k c') s.k (ints2 s.m)) (hb : Blk w B 31 #[.slice (some ⟨g, 0, none⟩) n c, .slice A' s.k c']) (hm : Blk w Bm 54 #[.int .i64 x0, .int .i64 x1, .int .i64 (o : Int), .int .i64 x3]) (hr : Blk w Br 31 #[.slice none 0 0, .slice none 0 0]) (hx : Blk w Bx 51 #[.int .i64 (s.c o 0), .int .i64 (s.c o 1), .int .i64 (s.c o 2)]) (hd : g < B ∧ g < Bm ∧ g < Br ∧ g < Bx) (hbs : base ≤ Br ∧ base ≤ w.heap.size ∧ base ≤ g) (ho : o < n) (hk6 : s.k < 6)
    (ht : t = s) (hx0 : x0 = 3) (hi : s.c o 0 = 1) :
    Code.wp Tryd.prog (restAt Tryd.f25 3) (bodyPost Tryd.prog Tryd.f25 (HandR n base t w)) { tmps := List.toArray (v0 :: v1 :: .pointer (some ⟨B, 0, none⟩) :: .pointer (some ⟨Bm, 0, none⟩) :: .pointer (some ⟨Br, 0, none⟩) :: .pointer (some ⟨Bx, 0, none⟩) :: .bool sm :: v7 :: v8 :: v9 :: v10 :: v11 :: v12 :: v13 :: v14 :: v15 :: v16 :: v17 :: v18 :: v19 :: v20 :: v21 :: v22 :: v23 :: v24 :: v25 :: v26 :: v27 :: v28 :: v29 :: v30 :: v31 :: v32 :: v33 :: v34 :: v35 :: v36 :: v37 :: v38 :: v39 :: v40 :: v41 :: v42 :: v43 :: v44 :: v45 :: v46 :: v47 :: v48 :: v49 :: v50 :: v51 :: v52 :: v53 :: v54 :: v55 :: v56 :: v57 :: v58 :: v59 :: v60 :: v61 :: v62 :: v63 :: v64 :: v65 :: v66 :: v67 :: v68 :: v69 :: v70 :: v71 :: v72 :: v73 :: v74 :: v75 :: v76 :: v77 :: v78 :: v79 :: v80 :: v81 :: v82 :: v83 :: v84 :: v85 :: v86 :: v87 :: v88 :: v89 :: v90 :: v91 :: v92 :: v93 :: v94 :: v95 :: v96 :: v97 :: v98 :: v99 :: v100 :: v101 :: v102 :: v103 :: v104 :: v105 :: v106 :: v107 :: v108 :: v109 :: v110 :: v111 :: v112 :: v113 :: v114 :: v115 :: v116 :: v117 :: v118 :: v119 :: v120 :: v121 :: v122 :: v123 :: v124 :: v125 :: v126 :: v127 :: v128 :: v129 :: v130 :: v131 :: v132 :: v133 :: v134 :: v135 :: v136 :: v137 :: v138 :: v139 :: v140 :: v141 :: v142 :: []), defers := [] } w := by
  have hgw := (hA.block rfl).2
  have c0 := hA.cell (i := o) (j := 0) ho (by omega)
  have z0 := hA.frz (o * 3 + 0)
  have z1 := hA.frz (o * 3 + 1)
  have z2 := hA.frz (o * 3 + 2)
  have c1 := hA.cell (i := o) (j := 1) ho (by omega)
  have c2 := hA.cell (i := o) (j := 2) ho (by omega)
  rw [Nat.add_zero] at c0 z0
  have k1 : decide (n ≤ o) = false := decide_eq_false (by omega)
  have b0 := hb.cell 0
  have b1 := hb.cell 1
  have y0 := hm.cell 0
  have y1 := hm.cell 1
  have y2 := hm.cell 2
  have y3 := hm.cell 3
  have u0 := hx.cell 0
  have u1 := hx.cell 1
  have u2 := hx.cell 2
  have r0 := hr.cell 0
  have r1 := hr.cell 1
  have q0 := hr.frz 0
  have q1 := hr.frz 1
  have HA := Lib.hid hA
  have HM := Lib.hid hM
  have HB := Lib.hid hb
  have HMs := Lib.hid hm
  have HR := Lib.hid hr
  obtain ⟨d0, d1, d2, d3⟩ := hd
  obtain ⟨bs0, bs1, bs2⟩ := hbs
  have n0 : g ≠ B := Nat.ne_of_lt d0
  have n1 : g ≠ Bm := Nat.ne_of_lt d1
  have n2 : g ≠ Br := Nat.ne_of_lt d2
  have n3 : g ≠ Bx := Nat.ne_of_lt d3
  clear hA hM hb hm hx hr d0 d1 d2 d3
  have HT := Lib.hid ht
  have e1 : (x0 == 1) = false := by rw [hx0]; decide
  have e2 : (x0 == 2) = false := by rw [hx0]; decide
  have e3 : (x0 == 3) = true := by rw [hx0]; decide
  have i0 : (s.c o 0 == 0) = false := by rw [hi]; decide
  have i2 : (s.c o 0 == 2) = false := by rw [hi]; decide
  have i3 : (s.c o 0 == 3) = false := by rw [hi]; decide
  have i4 : (s.c o 0 == 4) = false := by rw [hi]; decide
  clear ht hx0 hi
  conv in restAt _ _ => whnf
  rw [HT.out]
  go_wp2_with fail
  exact hand_end rfl HR.out HA.out HM.out (Below.refl _ _) bs0
set_option maxRecDepth 100000 in
set_option maxHeartbeats 3200000 in
theorem rhand_3_2 {v0 v1 v7 v8 v9 v10 v11 v12 v13 v14 v15 v16 v17 v18 v19 v20 v21 v22 v23 v24 v25 v26 v27 v28 v29 v30 v31 v32 v33 v34 v35 v36 v37 v38 v39 v40 v41 v42 v43 v44 v45 v46 v47 v48 v49 v50 v51 v52 v53 v54 v55 v56 v57 v58 v59 v60 v61 v62 v63 v64 v65 v66 v67 v68 v69 v70 v71 v72 v73 v74 v75 v76 v77 v78 v79 v80 v81 v82 v83 v84 v85 v86 v87 v88 v89 v90 v91 v92 v93 v94 v95 v96 v97 v98 v99 v100 v101 v102 v103 v104 v105 v106 v107 v108 v109 v110 v111 v112 v113 v114 v115 v116 v117 v118 v119 v120 v121 v122 v123 v124 v125 v126 v127 v128 v129 v130 v131 v132 v133 v134 v135 v136 v137 v138 v139 v140 v141 v142 : Value} (t : M.St) (hA : Own w base 51 3 (.slice (some ⟨g, 0, none⟩) n c) n (ints2 s.c)) (hM : Own w base 54 4 (.slice A' s.k c') s.k (ints2 s.m)) (hb : Blk w B 31 #[.slice (some ⟨g, 0, none⟩) n c, .slice A' s.k c']) (hm : Blk w Bm 54 #[.int .i64 x0, .int .i64 x1, .int .i64 (o : Int), .int .i64 x3]) (hr : Blk w Br 31 #[.slice none 0 0, .slice none 0 0]) (hx : Blk w Bx 51 #[.int .i64 (s.c o 0), .int .i64 (s.c o 1), .int .i64 (s.c o 2)]) (hd : g < B ∧ g < Bm ∧ g < Br ∧ g < Bx) (hbs : base ≤ Br ∧ base ≤ w.heap.size ∧ base ≤ g) (ho : o < n) (hk6 : s.k < 6)
    (ht : t = s) (hx0 : x0 = 3) (hi : s.c o 0 = 2) :
    Code.wp Tryd.prog (restAt Tryd.f25 3) (bodyPost Tryd.prog Tryd.f25 (HandR n base t w)) { tmps := List.toArray (v0 :: v1 :: .pointer (some ⟨B, 0, none⟩) :: .pointer (some ⟨Bm, 0, none⟩) :: .pointer (some ⟨Br, 0, none⟩) :: .pointer (some ⟨Bx, 0, none⟩) :: .bool sm :: v7 :: v8 :: v9 :: v10 :: v11 :: v12 :: v13 :: v14 :: v15 :: v16 :: v17 :: v18 :: v19 :: v20 :: v21 :: v22 :: v23 :: v24 :: v25 :: v26 :: v27 :: v28 :: v29 :: v30 :: v31 :: v32 :: v33 :: v34 :: v35 :: v36 :: v37 :: v38 :: v39 :: v40 :: v41 :: v42 :: v43 :: v44 :: v45 :: v46 :: v47 :: v48 :: v49 :: v50 :: v51 :: v52 :: v53 :: v54 :: v55 :: v56 :: v57 :: v58 :: v59 :: v60 :: v61 :: v62 :: v63 :: v64 :: v65 :: v66 :: v67 :: v68 :: v69 :: v70 :: v71 :: v72 :: v73 :: v74 :: v75 :: v76 :: v77 :: v78 :: v79 :: v80 :: v81 :: v82 :: v83 :: v84 :: v85 :: v86 :: v87 :: v88 :: v89 :: v90 :: v91 :: v92 :: v93 :: v94 :: v95 :: v96 :: v97 :: v98 :: v99 :: v100 :: v101 :: v102 :: v103 :: v104 :: v105 :: v106 :: v107 :: v108 :: v109 :: v110 :: v111 :: v112 :: v113 :: v114 :: v115 :: v116 :: v117 :: v118 :: v119 :: v120 :: v121 :: v122 :: v123 :: v124 :: v125 :: v126 :: v127 :: v128 :: v129 :: v130 :: v131 :: v132 :: v133 :: v134 :: v135 :: v136 :: v137 :: v138 :: v139 :: v140 :: v141 :: v142 :: []), defers := [] } w := by
  have hgw := (hA.block rfl).2
  have c0 := hA.cell (i := o) (j := 0) ho (by omega)
  have z0 := hA.frz (o * 3 + 0)
  have z1 := hA.frz (o * 3 + 1)
  have z2 := hA.frz (o * 3 + 2)
  have c1 := hA.cell (i := o) (j := 1) ho (by omega)
  have c2 := hA.cell (i := o) (j := 2) ho (by omega)
  rw [Nat.add_zero] at c0 z0
  have k1 : decide (n ≤ o) = false := decide_eq_false (by omega)
  have b0 := hb.cell 0
  have b1 := hb.cell 1
  have y0 := hm.cell 0
  have y1 := hm.cell 1
  have y2 := hm.cell 2
  have y3 := hm.cell 3
  have u0 := hx.cell 0
  have u1 := hx.cell 1
  have u2 := hx.cell 2
  have r0 := hr.cell 0
  have r1 := hr.cell 1
  have q0 := hr.frz 0
  have q1 := hr.frz 1
  have HA := Lib.hid hA
  have HM := Lib.hid hM
  have HB := Lib.hid hb
  have HMs := Lib.hid hm
  have HR := Lib.hid hr
  obtain ⟨d0, d1, d2, d3⟩ := hd
  obtain ⟨bs0, bs1, bs2⟩ := hbs
  have n0 : g ≠ B := Nat.ne_of_lt d0
  have n1 : g ≠ Bm := Nat.ne_of_lt d1
  have n2 : g ≠ Br := Nat.ne_of_lt d2
  have n3 : g ≠ Bx := Nat.ne_of_lt d3
  clear hA hM hb hm hx hr d0 d1 d2 d3
  have HT := Lib.hid ht
  have e1 : (x0 == 1) = false := by rw [hx0]; decide
  have e2 : (x0 == 2) = false := by rw [hx0]; decide
  have e3 : (x0 == 3) = true := by rw [hx0]; decide
  have i0 : (s.c o 0 == 0) = false := by rw [hi]; decide
  have i2 : (s.c o 0 == 2) = true := by rw [hi]; decide
  have i3 : (s.c o 0 == 3) = false := by rw [hi]; decide
  have i4 : (s.c o 0 == 4) = false := by rw [hi]; decide
  clear ht hx0 hi
  conv in restAt _ _ => whnf
  rw [HT.out]
  go_wp2_with fail
  exact hand_end rfl HR.out HA.out HM.out (Below.refl _ _) bs0
set_option maxRecDepth 100000 in
set_option maxHeartbeats 3200000 in
theorem rhand_3_4 {v0 v1 v7 v8 v9 v10 v11 v12 v13 v14 v15 v16 v17 v18 v19 v20 v21 v22 v23 v24 v25 v26 v27 v28 v29 v30 v31 v32 v33 v34 v35 v36 v37 v38 v39 v40 v41 v42 v43 v44 v45 v46 v47 v48 v49 v50 v51 v52 v53 v54 v55 v56 v57 v58 v59 v60 v61 v62 v63 v64 v65 v66 v67 v68 v69 v70 v71 v72 v73 v74 v75 v76 v77 v78 v79 v80 v81 v82 v83 v84 v85 v86 v87 v88 v89 v90 v91 v92 v93 v94 v95 v96 v97 v98 v99 v100 v101 v102 v103 v104 v105 v106 v107 v108 v109 v110 v111 v112 v113 v114 v115 v116 v117 v118 v119 v120 v121 v122 v123 v124 v125 v126 v127 v128 v129 v130 v131 v132 v133 v134 v135 v136 v137 v138 v139 v140 v141 v142 : Value} (t : M.St) (hA : Own w base 51 3 (.slice (some ⟨g, 0, none⟩) n c) n (ints2 s.c)) (hM : Own w base 54 4 (.slice A' s.k c') s.k (ints2 s.m)) (hb : Blk w B 31 #[.slice (some ⟨g, 0, none⟩) n c, .slice A' s.k c']) (hm : Blk w Bm 54 #[.int .i64 x0, .int .i64 x1, .int .i64 (o : Int), .int .i64 x3]) (hr : Blk w Br 31 #[.slice none 0 0, .slice none 0 0]) (hx : Blk w Bx 51 #[.int .i64 (s.c o 0), .int .i64 (s.c o 1), .int .i64 (s.c o 2)]) (hd : g < B ∧ g < Bm ∧ g < Br ∧ g < Bx) (hbs : base ≤ Br ∧ base ≤ w.heap.size ∧ base ≤ g) (ho : o < n) (hk6 : s.k < 6)
    (ht : t = s) (hx0 : x0 = 3) (hi : s.c o 0 = 4) :
    Code.wp Tryd.prog (restAt Tryd.f25 3) (bodyPost Tryd.prog Tryd.f25 (HandR n base t w)) { tmps := List.toArray (v0 :: v1 :: .pointer (some ⟨B, 0, none⟩) :: .pointer (some ⟨Bm, 0, none⟩) :: .pointer (some ⟨Br, 0, none⟩) :: .pointer (some ⟨Bx, 0, none⟩) :: .bool sm :: v7 :: v8 :: v9 :: v10 :: v11 :: v12 :: v13 :: v14 :: v15 :: v16 :: v17 :: v18 :: v19 :: v20 :: v21 :: v22 :: v23 :: v24 :: v25 :: v26 :: v27 :: v28 :: v29 :: v30 :: v31 :: v32 :: v33 :: v34 :: v35 :: v36 :: v37 :: v38 :: v39 :: v40 :: v41 :: v42 :: v43 :: v44 :: v45 :: v46 :: v47 :: v48 :: v49 :: v50 :: v51 :: v52 :: v53 :: v54 :: v55 :: v56 :: v57 :: v58 :: v59 :: v60 :: v61 :: v62 :: v63 :: v64 :: v65 :: v66 :: v67 :: v68 :: v69 :: v70 :: v71 :: v72 :: v73 :: v74 :: v75 :: v76 :: v77 :: v78 :: v79 :: v80 :: v81 :: v82 :: v83 :: v84 :: v85 :: v86 :: v87 :: v88 :: v89 :: v90 :: v91 :: v92 :: v93 :: v94 :: v95 :: v96 :: v97 :: v98 :: v99 :: v100 :: v101 :: v102 :: v103 :: v104 :: v105 :: v106 :: v107 :: v108 :: v109 :: v110 :: v111 :: v112 :: v113 :: v114 :: v115 :: v116 :: v117 :: v118 :: v119 :: v120 :: v121 :: v122 :: v123 :: v124 :: v125 :: v126 :: v127 :: v128 :: v129 :: v130 :: v131 :: v132 :: v133 :: v134 :: v135 :: v136 :: v137 :: v138 :: v139 :: v140 :: v141 :: v142 :: []), defers := [] } w := by
  have hgw := (hA.block rfl).2
  have c0 := hA.cell (i := o) (j := 0) ho (by omega)
  have z0 := hA.frz (o * 3 + 0)
  have z1 := hA.frz (o * 3 + 1)
  have z2 := hA.frz (o * 3 + 2)
  have c1 := hA.cell (i := o) (j := 1) ho (by omega)
  have c2 := hA.cell (i := o) (j := 2) ho (by omega)
  rw [Nat.add_zero] at c0 z0
  have k1 : decide (n ≤ o) = false := decide_eq_false (by omega)
  have b0 := hb.cell 0
  have b1 := hb.cell 1
  have y0 := hm.cell 0
  have y1 := hm.cell 1
  have y2 := hm.cell 2
  have y3 := hm.cell 3
  have u0 := hx.cell 0
  have u1 := hx.cell 1
  have u2 := hx.cell 2
  have r0 := hr.cell 0
  have r1 := hr.cell 1
  have q0 := hr.frz 0
  have q1 := hr.frz 1
  have HA := Lib.hid hA
  have HM := Lib.hid hM
  have HB := Lib.hid hb
  have HMs := Lib.hid hm
  have HR := Lib.hid hr
  obtain ⟨d0, d1, d2, d3⟩ := hd
  obtain ⟨bs0, bs1, bs2⟩ := hbs
  have n0 : g ≠ B := Nat.ne_of_lt d0
  have n1 : g ≠ Bm := Nat.ne_of_lt d1
  have n2 : g ≠ Br := Nat.ne_of_lt d2
  have n3 : g ≠ Bx := Nat.ne_of_lt d3
  clear hA hM hb hm hx hr d0 d1 d2 d3
  have HT := Lib.hid ht
  have e1 : (x0 == 1) = false := by rw [hx0]; decide
  have e2 : (x0 == 2) = false := by rw [hx0]; decide
  have e3 : (x0 == 3) = true := by rw [hx0]; decide
  have i0 : (s.c o 0 == 0) = false := by rw [hi]; decide
  have i2 : (s.c o 0 == 2) = false := by rw [hi]; decide
  have i3 : (s.c o 0 == 3) = false := by rw [hi]; decide
  have i4 : (s.c o 0 == 4) = true := by rw [hi]; decide
  clear ht hx0 hi
  conv in restAt _ _ => whnf
  rw [HT.out]
  go_wp2_with fail
  exact hand_end rfl HR.out HA.out HM.out (Below.refl _ _) bs0
set_option maxRecDepth 100000 in
set_option maxHeartbeats 3200000 in
theorem rhand_3_3_no {v0 v1 v7 v8 v9 v10 v11 v12 v13 v14 v15 v16 v17 v18 v19 v20 v21 v22 v23 v24 v25 v26 v27 v28 v29 v30 v31 v32 v33 v34 v35 v36 v37 v38 v39 v40 v41 v42 v43 v44 v45 v46 v47 v48 v49 v50 v51 v52 v53 v54 v55 v56 v57 v58 v59 v60 v61 v62 v63 v64 v65 v66 v67 v68 v69 v70 v71 v72 v73 v74 v75 v76 v77 v78 v79 v80 v81 v82 v83 v84 v85 v86 v87 v88 v89 v90 v91 v92 v93 v94 v95 v96 v97 v98 v99 v100 v101 v102 v103 v104 v105 v106 v107 v108 v109 v110 v111 v112 v113 v114 v115 v116 v117 v118 v119 v120 v121 v122 v123 v124 v125 v126 v127 v128 v129 v130 v131 v132 v133 v134 v135 v136 v137 v138 v139 v140 v141 v142 : Value} (t : M.St) (hA : Own w base 51 3 (.slice (some ⟨g, 0, none⟩) n c) n (ints2 s.c)) (hM : Own w base 54 4 (.slice A' s.k c') s.k (ints2 s.m)) (hb : Blk w B 31 #[.slice (some ⟨g, 0, none⟩) n c, .slice A' s.k c']) (hm : Blk w Bm 54 #[.int .i64 x0, .int .i64 x1, .int .i64 (o : Int), .int .i64 x3]) (hr : Blk w Br 31 #[.slice none 0 0, .slice none 0 0]) (hx : Blk w Bx 51 #[.int .i64 (s.c o 0), .int .i64 (s.c o 1), .int .i64 (s.c o 2)]) (hd : g < B ∧ g < Bm ∧ g < Br ∧ g < Bx) (hbs : base ≤ Br ∧ base ≤ w.heap.size ∧ base ≤ g) (ho : o < n) (hk6 : s.k < 6)
    (ht : t = s) (hx0 : x0 = 3) (hi : s.c o 0 = 3) (hsm : sm = false) :
    Code.wp Tryd.prog (restAt Tryd.f25 3) (bodyPost Tryd.prog Tryd.f25 (HandR n base t w)) { tmps := List.toArray (v0 :: v1 :: .pointer (some ⟨B, 0, none⟩) :: .pointer (some ⟨Bm, 0, none⟩) :: .pointer (some ⟨Br, 0, none⟩) :: .pointer (some ⟨Bx, 0, none⟩) :: .bool sm :: v7 :: v8 :: v9 :: v10 :: v11 :: v12 :: v13 :: v14 :: v15 :: v16 :: v17 :: v18 :: v19 :: v20 :: v21 :: v22 :: v23 :: v24 :: v25 :: v26 :: v27 :: v28 :: v29 :: v30 :: v31 :: v32 :: v33 :: v34 :: v35 :: v36 :: v37 :: v38 :: v39 :: v40 :: v41 :: v42 :: v43 :: v44 :: v45 :: v46 :: v47 :: v48 :: v49 :: v50 :: v51 :: v52 :: v53 :: v54 :: v55 :: v56 :: v57 :: v58 :: v59 :: v60 :: v61 :: v62 :: v63 :: v64 :: v65 :: v66 :: v67 :: v68 :: v69 :: v70 :: v71 :: v72 :: v73 :: v74 :: v75 :: v76 :: v77 :: v78 :: v79 :: v80 :: v81 :: v82 :: v83 :: v84 :: v85 :: v86 :: v87 :: v88 :: v89 :: v90 :: v91 :: v92 :: v93 :: v94 :: v95 :: v96 :: v97 :: v98 :: v99 :: v100 :: v101 :: v102 :: v103 :: v104 :: v105 :: v106 :: v107 :: v108 :: v109 :: v110 :: v111 :: v112 :: v113 :: v114 :: v115 :: v116 :: v117 :: v118 :: v119 :: v120 :: v121 :: v122 :: v123 :: v124 :: v125 :: v126 :: v127 :: v128 :: v129 :: v130 :: v131 :: v132 :: v133 :: v134 :: v135 :: v136 :: v137 :: v138 :: v139 :: v140 :: v141 :: v142 :: []), defers := [] } w := by
  have hgw := (hA.block rfl).2
  have c0 := hA.cell (i := o) (j := 0) ho (by omega)
  have z0 := hA.frz (o * 3 + 0)
  have z1 := hA.frz (o * 3 + 1)
  have z2 := hA.frz (o * 3 + 2)
  have c1 := hA.cell (i := o) (j := 1) ho (by omega)
  have c2 := hA.cell (i := o) (j := 2) ho (by omega)
  rw [Nat.add_zero] at c0 z0
  have k1 : decide (n ≤ o) = false := decide_eq_false (by omega)
  have b0 := hb.cell 0
  have b1 := hb.cell 1
  have y0 := hm.cell 0
  have y1 := hm.cell 1
  have y2 := hm.cell 2
  have y3 := hm.cell 3
  have u0 := hx.cell 0
  have u1 := hx.cell 1
  have u2 := hx.cell 2
  have r0 := hr.cell 0
  have r1 := hr.cell 1
  have q0 := hr.frz 0
  have q1 := hr.frz 1
  have HA := Lib.hid hA
  have HM := Lib.hid hM
  have HB := Lib.hid hb
  have HMs := Lib.hid hm
  have HR := Lib.hid hr
  obtain ⟨d0, d1, d2, d3⟩ := hd
  obtain ⟨bs0, bs1, bs2⟩ := hbs
  have n0 : g ≠ B := Nat.ne_of_lt d0
  have n1 : g ≠ Bm := Nat.ne_of_lt d1
  have n2 : g ≠ Br := Nat.ne_of_lt d2
  have n3 : g ≠ Bx := Nat.ne_of_lt d3
  clear hA hM hb hm hx hr d0 d1 d2 d3
  have HT := Lib.hid ht
  have e1 : (x0 == 1) = false := by rw [hx0]; decide
  have e2 : (x0 == 2) = false := by rw [hx0]; decide
  have e3 : (x0 == 3) = true := by rw [hx0]; decide
  have i0 : (s.c o 0 == 0) = false := by rw [hi]; decide
  have i2 : (s.c o 0 == 2) = false := by rw [hi]; decide
  have i3 : (s.c o 0 == 3) = true := by rw [hi]; decide
  have i4 : (s.c o 0 == 4) = false := by rw [hi]; decide
  subst hsm
  clear ht hx0 hi
  conv in restAt _ _ => whnf
  rw [HT.out]
  go_wp2_with fail
  exact hand_end rfl HR.out HA.out HM.out (Below.refl _ _) bs0
end
end Go.Proofs.YtfnfjmjejffjiaaDoor
/- The reference's handling of a message: where something is done. -/
namespace Go.Proofs.YtfnfjmjejffjiaaDoor
open Go.RowKit

section
variable {w : World} {base g n c o : Nat} {f : Nat → Nat → Int}
theorem own_set3 (h : Own w base 51 3 (.slice (some ⟨g, 0, none⟩) n c) n (ints2 f)) (o : Nat) (a b d : Int) : Own (((w.setCell ⟨g, o * 3, none⟩ (.int .i64 a)).setCell ⟨g, o * 3 + 1, none⟩ (.int .i64 b)).setCell ⟨g, o * 3 + 2, none⟩ (.int .i64 d)) base 51 3 (.slice (some ⟨g, 0, none⟩) n c) n (ints2 fun i => if i = o then M.v3 a b d else f i) := by
  refine (((h.setm (k := o) (j := 0) (by omega) (.int .i64 a)).setm (k := o) (j := 1) (by omega) (.int .i64 b)).setm (k := o) (j := 2) (by omega) (.int .i64 d)).congr fun i j _ hj => ?_
  show (if i = o ∧ j = 2 then Value.int .i64 d else if i = o ∧ j = 1 then .int .i64 b else if i = o ∧ j = 0 then .int .i64 a else .int .i64 (f i j)) = .int .i64 ((if i = o then M.v3 a b d else f i) j)
  by_cases e : i = o
  · obtain rfl | rfl | rfl : j = 0 ∨ j = 1 ∨ j = 2 := by omega
    all_goals simp [e, M.v3]
  · simp [e]
theorem own_set1 (h : Own w base 51 3 (.slice (some ⟨g, 0, none⟩) n c) n (ints2 f)) (o : Nat) (a : Int) : Own (w.setCell ⟨g, o * 3, none⟩ (.int .i64 a)) base 51 3 (.slice (some ⟨g, 0, none⟩) n c) n (ints2 fun i => if i = o then M.v3 a (f o 1) (f o 2) else f i) := by
  refine (h.setm (k := o) (j := 0) (by omega) (.int .i64 a)).congr fun i j _ hj => ?_
  show (if i = o ∧ j = 0 then Value.int .i64 a else .int .i64 (f i j)) = .int .i64 ((if i = o then M.v3 a (f o 1) (f o 2) else f i) j)
  by_cases e : i = o
  · obtain rfl | rfl | rfl : j = 0 ∨ j = 1 ∨ j = 2 := by omega
    all_goals simp [e, M.v3]
  · simp [e]
/-- a store to the centres leaves the messages -/
theorem own_msg {A' : Option Addr} {k c' : Nat} {G H : Nat → Nat → Value} (h : Own w base 54 4 (.slice A' k c') k G) (hA : Own w base 51 3 (.slice (some ⟨g, 0, none⟩) n c) n H) (i : Nat) (u : Value) : Own (w.setCell ⟨g, i, none⟩ u) base 54 4 (.slice A' k c') k G :=
  h.setCell (p := ⟨g, i, none⟩) (fun e => Own.apart_type h hA (by decide) g e rfl) u
theorem own_msg3 {A' : Option Addr} {k c' : Nat} {G H : Nat → Nat → Value} (h : Own w base 54 4 (.slice A' k c') k G) (hA : Own w base 51 3 (.slice (some ⟨g, 0, none⟩) n c) n H) (i i' i'' : Nat) (u u' u'' : Value) : Own (((w.setCell ⟨g, i, none⟩ u).setCell ⟨g, i', none⟩ u').setCell ⟨g, i'', none⟩ u'') base 54 4 (.slice A' k c') k G :=
  have ne : ∀ i, (Value.slice A' k c').ownBlock ≠ some (⟨g, i, none⟩ : Addr).block := fun _ e => Own.apart_type h hA (by decide) g e rfl
  ((h.setCell (p := ⟨g, i, none⟩) (ne i) u).setCell (p := ⟨g, i', none⟩) (ne i') u').setCell (p := ⟨g, i'', none⟩) (ne i'') u''
end
section
variable (n base g c c' B Bm Br Bx o : Nat) (A' : Option Addr) (s : M.St) (x0 x1 x3 : Int) (sm : Bool) (w : World)
set_option maxRecDepth 100000 in
set_option maxHeartbeats 3200000 in
theorem rhand_1_0_go {v0 v1 v7 v8 v9 v10 v11 v12 v13 v14 v15 v16 v17 v18 v19 v20 v21 v22 v23 v24 v25 v26 v27 v28 v29 v30 v31 v32 v33 v34 v35 v36 v37 v38 v39 v40 v41 v42 v43 v44 v45 v46 v47 v48 v49 v50 v51 v52 v53 v54 v55 v56 v57 v58 v59 v60 v61 v62 v63 v64 v65 v66 v67 v68 v69 v70 v71 v72 v73 v74 v75 v76 v77 v78 v79 v80 v81 v82 v83 v84 v85 v86 v87 v88 v89 v90 v91 v92 v93 v94 v95 v96 v97 v98 v99 v100 v101 v102 v103 v104 v105 v106 v107 v108 v109 v110 v111 v112 v113 v114 v115 v116 v117 v118 v119 v120 v121 v122 v123 v124 v125 v126 v127 v128 v129 v130 v131 v132 v133 v134 v135 v136 v137 v138 v139 v140 v141 v142 : Value} (t : M.St) (hA : Own w base 51 3 (.slice (some ⟨g, 0, none⟩) n c) n (ints2 s.c)) (hM : Own w base 54 4 (.slice A' s.k c') s.k (ints2 s.m)) (hb : Blk w B 31 #[.slice (some ⟨g, 0, none⟩) n c, .slice A' s.k c']) (hm : Blk w Bm 54 #[.int .i64 x0, .int .i64 x1, .int .i64 (o : Int), .int .i64 x3]) (hr : Blk w Br 31 #[.slice none 0 0, .slice none 0 0]) (hx : Blk w Bx 51 #[.int .i64 (s.c o 0), .int .i64 (s.c o 1), .int .i64 (s.c o 2)]) (hd : g < B ∧ g < Bm ∧ g < Br ∧ g < Bx) (hbs : base ≤ Br ∧ base ≤ w.heap.size ∧ base ≤ g) (ho : o < n) (hk6 : s.k < 6)
    (ht : t = M.send (M.setC s o (M.v3 3 x1 x3)) 2 (o : Int) x1) (hx0 : x0 = 1) (hi : s.c o 0 = 0) (hl : s.c o 2 < x3) :
    Code.wp Tryd.prog (restAt Tryd.f25 3) (bodyPost Tryd.prog Tryd.f25 (HandR n base t w)) { tmps := List.toArray (v0 :: v1 :: .pointer (some ⟨B, 0, none⟩) :: .pointer (some ⟨Bm, 0, none⟩) :: .pointer (some ⟨Br, 0, none⟩) :: .pointer (some ⟨Bx, 0, none⟩) :: .bool sm :: v7 :: v8 :: v9 :: v10 :: v11 :: v12 :: v13 :: v14 :: v15 :: v16 :: v17 :: v18 :: v19 :: v20 :: v21 :: v22 :: v23 :: v24 :: v25 :: v26 :: v27 :: v28 :: v29 :: v30 :: v31 :: v32 :: v33 :: v34 :: v35 :: v36 :: v37 :: v38 :: v39 :: v40 :: v41 :: v42 :: v43 :: v44 :: v45 :: v46 :: v47 :: v48 :: v49 :: v50 :: v51 :: v52 :: v53 :: v54 :: v55 :: v56 :: v57 :: v58 :: v59 :: v60 :: v61 :: v62 :: v63 :: v64 :: v65 :: v66 :: v67 :: v68 :: v69 :: v70 :: v71 :: v72 :: v73 :: v74 :: v75 :: v76 :: v77 :: v78 :: v79 :: v80 :: v81 :: v82 :: v83 :: v84 :: v85 :: v86 :: v87 :: v88 :: v89 :: v90 :: v91 :: v92 :: v93 :: v94 :: v95 :: v96 :: v97 :: v98 :: v99 :: v100 :: v101 :: v102 :: v103 :: v104 :: v105 :: v106 :: v107 :: v108 :: v109 :: v110 :: v111 :: v112 :: v113 :: v114 :: v115 :: v116 :: v117 :: v118 :: v119 :: v120 :: v121 :: v122 :: v123 :: v124 :: v125 :: v126 :: v127 :: v128 :: v129 :: v130 :: v131 :: v132 :: v133 :: v134 :: v135 :: v136 :: v137 :: v138 :: v139 :: v140 :: v141 :: v142 :: []), defers := [] } w := by
  have hgw := (hA.block rfl).2
  have c0 := hA.cell (i := o) (j := 0) ho (by omega)
  have z0 := hA.frz (o * 3 + 0)
  have z1 := hA.frz (o * 3 + 1)
  have z2 := hA.frz (o * 3 + 2)
  have c1 := hA.cell (i := o) (j := 1) ho (by omega)
  have c2 := hA.cell (i := o) (j := 2) ho (by omega)
  rw [Nat.add_zero] at c0 z0
  have k1 : decide (n ≤ o) = false := decide_eq_false (by omega)
  have b0 := hb.cell 0
  have b1 := hb.cell 1
  have y0 := hm.cell 0
  have y1 := hm.cell 1
  have y2 := hm.cell 2
  have y3 := hm.cell 3
  have u0 := hx.cell 0
  have u1 := hx.cell 1
  have u2 := hx.cell 2
  have r0 := hr.cell 0
  have r1 := hr.cell 1
  have q0 := hr.frz 0
  have q1 := hr.frz 1
  have HA := Lib.hid hA
  have HM := Lib.hid hM
  have HB := Lib.hid hb
  have HMs := Lib.hid hm
  have HR := Lib.hid hr
  obtain ⟨d0, d1, d2, d3⟩ := hd
  obtain ⟨bs0, bs1, bs2⟩ := hbs
  have n0 : g ≠ B := Nat.ne_of_lt d0
  have n1 : g ≠ Bm := Nat.ne_of_lt d1
  have n2 : g ≠ Br := Nat.ne_of_lt d2
  have n3 : g ≠ Bx := Nat.ne_of_lt d3
  clear hA hM hb hm hx hr d0 d1 d2 d3
  have HT := Lib.hid ht
  have e1 : (x0 == 1) = true := by rw [hx0]; decide
  have e2 : (x0 == 2) = false := by rw [hx0]; decide
  have e3 : (x0 == 3) = false := by rw [hx0]; decide
  have i0 : (s.c o 0 == 0) = true := by rw [hi]; decide
  have i2 : (s.c o 0 == 2) = false := by rw [hi]; decide
  have i3 : (s.c o 0 == 3) = false := by rw [hi]; decide
  have i4 : (s.c o 0 == 4) = false := by rw [hi]; decide
  have lt : decide (s.c o 2 < x3) = true := decide_eq_true hl
  clear hl
  clear ht hx0 hi
  conv in restAt _ _ => whnf
  rw [HT.out]
  go_upto_region 5 with fail
  obtain ⟨X, hX⟩ : ∃ X, X = ((w.setCell ⟨g, o * 3, none⟩ (.int .i64 3)).setCell ⟨g, o * 3 + 1, none⟩ (.int .i64 x1)).setCell ⟨g, o * 3 + 2, none⟩ (.int .i64 x3) := ⟨_, rfl⟩
  have AX := Lib.hid (show Own X base 51 3 (.slice (some ⟨g, 0, none⟩) n c) n (ints2 (M.setC s o (M.v3 3 x1 x3)).c) by rw [hX]; exact own_set3 HA.out o 3 x1 x3)
  have MX := Lib.hid (show Own X base 54 4 (.slice A' s.k c') s.k (ints2 s.m) by rw [hX]; exact own_msg3 HM.out HA.out _ _ _ _ _ _)
  have RX := Lib.hid (show Blk X Br 31 #[.slice none 0 0, .slice none 0 0] by rw [hX]; exact ((HR.out.far (p := ⟨g, o * 3, none⟩) n2.symm _).far (p := ⟨g, o * 3 + 1, none⟩) n2.symm _).far (p := ⟨g, o * 3 + 2, none⟩) n2.symm _)
  have CX := Lib.hid (show Blk X B 31 #[.slice (some ⟨g, 0, none⟩) n c, .slice A' s.k c'] by rw [hX]; exact ((HB.out.far (p := ⟨g, o * 3, none⟩) n0.symm _).far (p := ⟨g, o * 3 + 1, none⟩) n0.symm _).far (p := ⟨g, o * 3 + 2, none⟩) n0.symm _)
  have YX := Lib.hid (show Blk X Bm 54 #[.int .i64 x0, .int .i64 x1, .int .i64 (o : Int), .int .i64 x3] by rw [hX]; exact ((HMs.out.far (p := ⟨g, o * 3, none⟩) n1.symm _).far (p := ⟨g, o * 3 + 1, none⟩) n1.symm _).far (p := ⟨g, o * 3 + 2, none⟩) n1.symm _)
  have BX := Lib.hid (show Below base w X by rw [hX]; exact (((Below.refl base w).setCell (p := ⟨g, o * 3, none⟩) bs2 _).setCell (p := ⟨g, o * 3 + 1, none⟩) bs2 _).setCell (p := ⟨g, o * 3 + 2, none⟩) bs2 _)
  have hzX : base ≤ X.heap.size := Nat.le_trans bs1 BX.out.size
  rw [← hX]
  clear hX y0 y1 y2 y3 b0 b1 c0 c1 c2 z0 z1 z2 u0 u1 u2 r0 r1 q0 q1
  have b0 := CX.out.cell 0
  have b1 := CX.out.cell 1
  have y0 := YX.out.cell 0
  have y1 := YX.out.cell 1
  have y2 := YX.out.cell 2
  have y3 := YX.out.cell 3
  have r0 := RX.out.cell 0
  have r1 := RX.out.cell 1
  have q0 := RX.out.frz 0
  have q1 := RX.out.frz 1
  go_wp2_with (go_at_call 23; refine (rsend_any n base g c c' A' (M.setC s o (M.v3 3 x1 x3)) 2 (o : Int) x1 _ AX.out MX.out (by first | assumption | (simp; omega) | omega) hk6 (by omega)).mono ?_; rintro e w9 ⟨A9, c9, rfl, a9, m9, g9⟩; have A9' := Lib.hid a9; have M9 := Lib.hid m9; have G9 := Lib.hid g9; have R9 := Lib.hid (Blk.grown_own RX.out MX.out (by decide) g9); have t0 := R9.out.cell 0; have t1 := R9.out.cell 1; have t2 := R9.out.frz 0; have t3 := R9.out.frz 1; clear a9 m9 g9 r0 r1 q0 q1)
  exact hand_end rfl R9.out A9'.out M9.out (BX.out.grown G9.out hzX (fun q hq => (MX.out.block hq).1)) bs0
set_option maxRecDepth 100000 in
set_option maxHeartbeats 3200000 in
theorem rhand_1_4_go {v0 v1 v7 v8 v9 v10 v11 v12 v13 v14 v15 v16 v17 v18 v19 v20 v21 v22 v23 v24 v25 v26 v27 v28 v29 v30 v31 v32 v33 v34 v35 v36 v37 v38 v39 v40 v41 v42 v43 v44 v45 v46 v47 v48 v49 v50 v51 v52 v53 v54 v55 v56 v57 v58 v59 v60 v61 v62 v63 v64 v65 v66 v67 v68 v69 v70 v71 v72 v73 v74 v75 v76 v77 v78 v79 v80 v81 v82 v83 v84 v85 v86 v87 v88 v89 v90 v91 v92 v93 v94 v95 v96 v97 v98 v99 v100 v101 v102 v103 v104 v105 v106 v107 v108 v109 v110 v111 v112 v113 v114 v115 v116 v117 v118 v119 v120 v121 v122 v123 v124 v125 v126 v127 v128 v129 v130 v131 v132 v133 v134 v135 v136 v137 v138 v139 v140 v141 v142 : Value} (t : M.St) (hA : Own w base 51 3 (.slice (some ⟨g, 0, none⟩) n c) n (ints2 s.c)) (hM : Own w base 54 4 (.slice A' s.k c') s.k (ints2 s.m)) (hb : Blk w B 31 #[.slice (some ⟨g, 0, none⟩) n c, .slice A' s.k c']) (hm : Blk w Bm 54 #[.int .i64 x0, .int .i64 x1, .int .i64 (o : Int), .int .i64 x3]) (hr : Blk w Br 31 #[.slice none 0 0, .slice none 0 0]) (hx : Blk w Bx 51 #[.int .i64 (s.c o 0), .int .i64 (s.c o 1), .int .i64 (s.c o 2)]) (hd : g < B ∧ g < Bm ∧ g < Br ∧ g < Bx) (hbs : base ≤ Br ∧ base ≤ w.heap.size ∧ base ≤ g) (ho : o < n) (hk6 : s.k < 6)
    (ht : t = M.send (M.setC s o (M.v3 3 x1 x3)) 2 (o : Int) x1) (hx0 : x0 = 1) (hi : s.c o 0 = 4) (hl : s.c o 2 < x3) :
    Code.wp Tryd.prog (restAt Tryd.f25 3) (bodyPost Tryd.prog Tryd.f25 (HandR n base t w)) { tmps := List.toArray (v0 :: v1 :: .pointer (some ⟨B, 0, none⟩) :: .pointer (some ⟨Bm, 0, none⟩) :: .pointer (some ⟨Br, 0, none⟩) :: .pointer (some ⟨Bx, 0, none⟩) :: .bool sm :: v7 :: v8 :: v9 :: v10 :: v11 :: v12 :: v13 :: v14 :: v15 :: v16 :: v17 :: v18 :: v19 :: v20 :: v21 :: v22 :: v23 :: v24 :: v25 :: v26 :: v27 :: v28 :: v29 :: v30 :: v31 :: v32 :: v33 :: v34 :: v35 :: v36 :: v37 :: v38 :: v39 :: v40 :: v41 :: v42 :: v43 :: v44 :: v45 :: v46 :: v47 :: v48 :: v49 :: v50 :: v51 :: v52 :: v53 :: v54 :: v55 :: v56 :: v57 :: v58 :: v59 :: v60 :: v61 :: v62 :: v63 :: v64 :: v65 :: v66 :: v67 :: v68 :: v69 :: v70 :: v71 :: v72 :: v73 :: v74 :: v75 :: v76 :: v77 :: v78 :: v79 :: v80 :: v81 :: v82 :: v83 :: v84 :: v85 :: v86 :: v87 :: v88 :: v89 :: v90 :: v91 :: v92 :: v93 :: v94 :: v95 :: v96 :: v97 :: v98 :: v99 :: v100 :: v101 :: v102 :: v103 :: v104 :: v105 :: v106 :: v107 :: v108 :: v109 :: v110 :: v111 :: v112 :: v113 :: v114 :: v115 :: v116 :: v117 :: v118 :: v119 :: v120 :: v121 :: v122 :: v123 :: v124 :: v125 :: v126 :: v127 :: v128 :: v129 :: v130 :: v131 :: v132 :: v133 :: v134 :: v135 :: v136 :: v137 :: v138 :: v139 :: v140 :: v141 :: v142 :: []), defers := [] } w := by
  have hgw := (hA.block rfl).2
  have c0 := hA.cell (i := o) (j := 0) ho (by omega)
  have z0 := hA.frz (o * 3 + 0)
  have z1 := hA.frz (o * 3 + 1)
  have z2 := hA.frz (o * 3 + 2)
  have c1 := hA.cell (i := o) (j := 1) ho (by omega)
  have c2 := hA.cell (i := o) (j := 2) ho (by omega)
  rw [Nat.add_zero] at c0 z0
  have k1 : decide (n ≤ o) = false := decide_eq_false (by omega)
  have b0 := hb.cell 0
  have b1 := hb.cell 1
  have y0 := hm.cell 0
  have y1 := hm.cell 1
  have y2 := hm.cell 2
  have y3 := hm.cell 3
  have u0 := hx.cell 0
  have u1 := hx.cell 1
  have u2 := hx.cell 2
  have r0 := hr.cell 0
  have r1 := hr.cell 1
  have q0 := hr.frz 0
  have q1 := hr.frz 1
  have HA := Lib.hid hA
  have HM := Lib.hid hM
  have HB := Lib.hid hb
  have HMs := Lib.hid hm
  have HR := Lib.hid hr
  obtain ⟨d0, d1, d2, d3⟩ := hd
  obtain ⟨bs0, bs1, bs2⟩ := hbs
  have n0 : g ≠ B := Nat.ne_of_lt d0
  have n1 : g ≠ Bm := Nat.ne_of_lt d1
  have n2 : g ≠ Br := Nat.ne_of_lt d2
  have n3 : g ≠ Bx := Nat.ne_of_lt d3
  clear hA hM hb hm hx hr d0 d1 d2 d3
  have HT := Lib.hid ht
  have e1 : (x0 == 1) = true := by rw [hx0]; decide
  have e2 : (x0 == 2) = false := by rw [hx0]; decide
  have e3 : (x0 == 3) = false := by rw [hx0]; decide
  have i0 : (s.c o 0 == 0) = false := by rw [hi]; decide
  have i2 : (s.c o 0 == 2) = false := by rw [hi]; decide
  have i3 : (s.c o 0 == 3) = false := by rw [hi]; decide
  have i4 : (s.c o 0 == 4) = true := by rw [hi]; decide
  have lt : decide (s.c o 2 < x3) = true := decide_eq_true hl
  clear hl
  clear ht hx0 hi
  conv in restAt _ _ => whnf
  rw [HT.out]
  go_upto_region 5 with fail
  obtain ⟨X, hX⟩ : ∃ X, X = ((w.setCell ⟨g, o * 3, none⟩ (.int .i64 3)).setCell ⟨g, o * 3 + 1, none⟩ (.int .i64 x1)).setCell ⟨g, o * 3 + 2, none⟩ (.int .i64 x3) := ⟨_, rfl⟩
  have AX := Lib.hid (show Own X base 51 3 (.slice (some ⟨g, 0, none⟩) n c) n (ints2 (M.setC s o (M.v3 3 x1 x3)).c) by rw [hX]; exact own_set3 HA.out o 3 x1 x3)
  have MX := Lib.hid (show Own X base 54 4 (.slice A' s.k c') s.k (ints2 s.m) by rw [hX]; exact own_msg3 HM.out HA.out _ _ _ _ _ _)
  have RX := Lib.hid (show Blk X Br 31 #[.slice none 0 0, .slice none 0 0] by rw [hX]; exact ((HR.out.far (p := ⟨g, o * 3, none⟩) n2.symm _).far (p := ⟨g, o * 3 + 1, none⟩) n2.symm _).far (p := ⟨g, o * 3 + 2, none⟩) n2.symm _)
  have CX := Lib.hid (show Blk X B 31 #[.slice (some ⟨g, 0, none⟩) n c, .slice A' s.k c'] by rw [hX]; exact ((HB.out.far (p := ⟨g, o * 3, none⟩) n0.symm _).far (p := ⟨g, o * 3 + 1, none⟩) n0.symm _).far (p := ⟨g, o * 3 + 2, none⟩) n0.symm _)
  have YX := Lib.hid (show Blk X Bm 54 #[.int .i64 x0, .int .i64 x1, .int .i64 (o : Int), .int .i64 x3] by rw [hX]; exact ((HMs.out.far (p := ⟨g, o * 3, none⟩) n1.symm _).far (p := ⟨g, o * 3 + 1, none⟩) n1.symm _).far (p := ⟨g, o * 3 + 2, none⟩) n1.symm _)
  have BX := Lib.hid (show Below base w X by rw [hX]; exact (((Below.refl base w).setCell (p := ⟨g, o * 3, none⟩) bs2 _).setCell (p := ⟨g, o * 3 + 1, none⟩) bs2 _).setCell (p := ⟨g, o * 3 + 2, none⟩) bs2 _)
  have hzX : base ≤ X.heap.size := Nat.le_trans bs1 BX.out.size
  rw [← hX]
  clear hX y0 y1 y2 y3 b0 b1 c0 c1 c2 z0 z1 z2 u0 u1 u2 r0 r1 q0 q1
  have b0 := CX.out.cell 0
  have b1 := CX.out.cell 1
  have y0 := YX.out.cell 0
  have y1 := YX.out.cell 1
  have y2 := YX.out.cell 2
  have y3 := YX.out.cell 3
  have r0 := RX.out.cell 0
  have r1 := RX.out.cell 1
  have q0 := RX.out.frz 0
  have q1 := RX.out.frz 1
  go_wp2_with (go_at_call 23; refine (rsend_any n base g c c' A' (M.setC s o (M.v3 3 x1 x3)) 2 (o : Int) x1 _ AX.out MX.out (by first | assumption | (simp; omega) | omega) hk6 (by omega)).mono ?_; rintro e w9 ⟨A9, c9, rfl, a9, m9, g9⟩; have A9' := Lib.hid a9; have M9 := Lib.hid m9; have G9 := Lib.hid g9; have R9 := Lib.hid (Blk.grown_own RX.out MX.out (by decide) g9); have t0 := R9.out.cell 0; have t1 := R9.out.cell 1; have t2 := R9.out.frz 0; have t3 := R9.out.frz 1; clear a9 m9 g9 r0 r1 q0 q1)
  exact hand_end rfl R9.out A9'.out M9.out (BX.out.grown G9.out hzX (fun q hq => (MX.out.block hq).1)) bs0
set_option maxRecDepth 100000 in
set_option maxHeartbeats 3200000 in
theorem rhand_1_3_go {v0 v1 v7 v8 v9 v10 v11 v12 v13 v14 v15 v16 v17 v18 v19 v20 v21 v22 v23 v24 v25 v26 v27 v28 v29 v30 v31 v32 v33 v34 v35 v36 v37 v38 v39 v40 v41 v42 v43 v44 v45 v46 v47 v48 v49 v50 v51 v52 v53 v54 v55 v56 v57 v58 v59 v60 v61 v62 v63 v64 v65 v66 v67 v68 v69 v70 v71 v72 v73 v74 v75 v76 v77 v78 v79 v80 v81 v82 v83 v84 v85 v86 v87 v88 v89 v90 v91 v92 v93 v94 v95 v96 v97 v98 v99 v100 v101 v102 v103 v104 v105 v106 v107 v108 v109 v110 v111 v112 v113 v114 v115 v116 v117 v118 v119 v120 v121 v122 v123 v124 v125 v126 v127 v128 v129 v130 v131 v132 v133 v134 v135 v136 v137 v138 v139 v140 v141 v142 : Value} (t : M.St) (hA : Own w base 51 3 (.slice (some ⟨g, 0, none⟩) n c) n (ints2 s.c)) (hM : Own w base 54 4 (.slice A' s.k c') s.k (ints2 s.m)) (hb : Blk w B 31 #[.slice (some ⟨g, 0, none⟩) n c, .slice A' s.k c']) (hm : Blk w Bm 54 #[.int .i64 x0, .int .i64 x1, .int .i64 (o : Int), .int .i64 x3]) (hr : Blk w Br 31 #[.slice none 0 0, .slice none 0 0]) (hx : Blk w Bx 51 #[.int .i64 (s.c o 0), .int .i64 (s.c o 1), .int .i64 (s.c o 2)]) (hd : g < B ∧ g < Bm ∧ g < Br ∧ g < Bx) (hbs : base ≤ Br ∧ base ≤ w.heap.size ∧ base ≤ g) (ho : o < n) (hk6 : s.k < 6)
    (ht : t = M.send (s) 2 (o : Int) x1) (hx0 : x0 = 1) (hi : s.c o 0 = 3) (hsm : sm = true) :
    Code.wp Tryd.prog (restAt Tryd.f25 3) (bodyPost Tryd.prog Tryd.f25 (HandR n base t w)) { tmps := List.toArray (v0 :: v1 :: .pointer (some ⟨B, 0, none⟩) :: .pointer (some ⟨Bm, 0, none⟩) :: .pointer (some ⟨Br, 0, none⟩) :: .pointer (some ⟨Bx, 0, none⟩) :: .bool sm :: v7 :: v8 :: v9 :: v10 :: v11 :: v12 :: v13 :: v14 :: v15 :: v16 :: v17 :: v18 :: v19 :: v20 :: v21 :: v22 :: v23 :: v24 :: v25 :: v26 :: v27 :: v28 :: v29 :: v30 :: v31 :: v32 :: v33 :: v34 :: v35 :: v36 :: v37 :: v38 :: v39 :: v40 :: v41 :: v42 :: v43 :: v44 :: v45 :: v46 :: v47 :: v48 :: v49 :: v50 :: v51 :: v52 :: v53 :: v54 :: v55 :: v56 :: v57 :: v58 :: v59 :: v60 :: v61 :: v62 :: v63 :: v64 :: v65 :: v66 :: v67 :: v68 :: v69 :: v70 :: v71 :: v72 :: v73 :: v74 :: v75 :: v76 :: v77 :: v78 :: v79 :: v80 :: v81 :: v82 :: v83 :: v84 :: v85 :: v86 :: v87 :: v88 :: v89 :: v90 :: v91 :: v92 :: v93 :: v94 :: v95 :: v96 :: v97 :: v98 :: v99 :: v100 :: v101 :: v102 :: v103 :: v104 :: v105 :: v106 :: v107 :: v108 :: v109 :: v110 :: v111 :: v112 :: v113 :: v114 :: v115 :: v116 :: v117 :: v118 :: v119 :: v120 :: v121 :: v122 :: v123 :: v124 :: v125 :: v126 :: v127 :: v128 :: v129 :: v130 :: v131 :: v132 :: v133 :: v134 :: v135 :: v136 :: v137 :: v138 :: v139 :: v140 :: v141 :: v142 :: []), defers := [] } w := by
  have hgw := (hA.block rfl).2
  have c0 := hA.cell (i := o) (j := 0) ho (by omega)
  have z0 := hA.frz (o * 3 + 0)
  have z1 := hA.frz (o * 3 + 1)
  have z2 := hA.frz (o * 3 + 2)
  have c1 := hA.cell (i := o) (j := 1) ho (by omega)
  have c2 := hA.cell (i := o) (j := 2) ho (by omega)
  rw [Nat.add_zero] at c0 z0
  have k1 : decide (n ≤ o) = false := decide_eq_false (by omega)
  have b0 := hb.cell 0
  have b1 := hb.cell 1
  have y0 := hm.cell 0
  have y1 := hm.cell 1
  have y2 := hm.cell 2
  have y3 := hm.cell 3
  have u0 := hx.cell 0
  have u1 := hx.cell 1
  have u2 := hx.cell 2
  have r0 := hr.cell 0
  have r1 := hr.cell 1
  have q0 := hr.frz 0
  have q1 := hr.frz 1
  have HA := Lib.hid hA
  have HM := Lib.hid hM
  have HB := Lib.hid hb
  have HMs := Lib.hid hm
  have HR := Lib.hid hr
  obtain ⟨d0, d1, d2, d3⟩ := hd
  obtain ⟨bs0, bs1, bs2⟩ := hbs
  have n0 : g ≠ B := Nat.ne_of_lt d0
  have n1 : g ≠ Bm := Nat.ne_of_lt d1
  have n2 : g ≠ Br := Nat.ne_of_lt d2
  have n3 : g ≠ Bx := Nat.ne_of_lt d3
  clear hA hM hb hm hx hr d0 d1 d2 d3
  have HT := Lib.hid ht
  have e1 : (x0 == 1) = true := by rw [hx0]; decide
  have e2 : (x0 == 2) = false := by rw [hx0]; decide
  have e3 : (x0 == 3) = false := by rw [hx0]; decide
  have i0 : (s.c o 0 == 0) = false := by rw [hi]; decide
  have i2 : (s.c o 0 == 2) = false := by rw [hi]; decide
  have i3 : (s.c o 0 == 3) = true := by rw [hi]; decide
  have i4 : (s.c o 0 == 4) = false := by rw [hi]; decide
  subst hsm
  clear ht hx0 hi
  conv in restAt _ _ => whnf
  rw [HT.out]
  have AX := HA
  have MX := HM
  have RX := HR
  have BX := Lib.hid (Below.refl base w)
  go_wp2_with (go_at_call 23; refine (rsend_any n base g c c' A' (s) 2 (o : Int) x1 _ AX.out MX.out (by first | assumption | (simp; omega) | omega) hk6 (by omega)).mono ?_; rintro e w9 ⟨A9, c9, rfl, a9, m9, g9⟩; have A9' := Lib.hid a9; have M9 := Lib.hid m9; have G9 := Lib.hid g9; have R9 := Lib.hid (Blk.grown_own RX.out MX.out (by decide) g9); have t0 := R9.out.cell 0; have t1 := R9.out.cell 1; have t2 := R9.out.frz 0; have t3 := R9.out.frz 1; clear a9 m9 g9 r0 r1 q0 q1)
  exact hand_end rfl R9.out A9'.out M9.out (BX.out.grown G9.out (by omega) (fun q hq => (MX.out.block hq).1)) bs0
set_option maxRecDepth 100000 in
set_option maxHeartbeats 3200000 in
theorem rhand_2_2_go {v0 v1 v7 v8 v9 v10 v11 v12 v13 v14 v15 v16 v17 v18 v19 v20 v21 v22 v23 v24 v25 v26 v27 v28 v29 v30 v31 v32 v33 v34 v35 v36 v37 v38 v39 v40 v41 v42 v43 v44 v45 v46 v47 v48 v49 v50 v51 v52 v53 v54 v55 v56 v57 v58 v59 v60 v61 v62 v63 v64 v65 v66 v67 v68 v69 v70 v71 v72 v73 v74 v75 v76 v77 v78 v79 v80 v81 v82 v83 v84 v85 v86 v87 v88 v89 v90 v91 v92 v93 v94 v95 v96 v97 v98 v99 v100 v101 v102 v103 v104 v105 v106 v107 v108 v109 v110 v111 v112 v113 v114 v115 v116 v117 v118 v119 v120 v121 v122 v123 v124 v125 v126 v127 v128 v129 v130 v131 v132 v133 v134 v135 v136 v137 v138 v139 v140 v141 v142 : Value} (t : M.St) (hA : Own w base 51 3 (.slice (some ⟨g, 0, none⟩) n c) n (ints2 s.c)) (hM : Own w base 54 4 (.slice A' s.k c') s.k (ints2 s.m)) (hb : Blk w B 31 #[.slice (some ⟨g, 0, none⟩) n c, .slice A' s.k c']) (hm : Blk w Bm 54 #[.int .i64 x0, .int .i64 x1, .int .i64 (o : Int), .int .i64 x3]) (hr : Blk w Br 31 #[.slice none 0 0, .slice none 0 0]) (hx : Blk w Bx 51 #[.int .i64 (s.c o 0), .int .i64 (s.c o 1), .int .i64 (s.c o 2)]) (hd : g < B ∧ g < Bm ∧ g < Br ∧ g < Bx) (hbs : base ≤ Br ∧ base ≤ w.heap.size ∧ base ≤ g) (ho : o < n) (hk6 : s.k < 6)
    (ht : t = M.send (M.setC s o (M.v3 4 (s.c o 1) (s.c o 2))) 3 (o : Int) x1) (hx0 : x0 = 2) (hi : s.c o 0 = 2) (hsm : sm = true) :
    Code.wp Tryd.prog (restAt Tryd.f25 3) (bodyPost Tryd.prog Tryd.f25 (HandR n base t w)) { tmps := List.toArray (v0 :: v1 :: .pointer (some ⟨B, 0, none⟩) :: .pointer (some ⟨Bm, 0, none⟩) :: .pointer (some ⟨Br, 0, none⟩) :: .pointer (some ⟨Bx, 0, none⟩) :: .bool sm :: v7 :: v8 :: v9 :: v10 :: v11 :: v12 :: v13 :: v14 :: v15 :: v16 :: v17 :: v18 :: v19 :: v20 :: v21 :: v22 :: v23 :: v24 :: v25 :: v26 :: v27 :: v28 :: v29 :: v30 :: v31 :: v32 :: v33 :: v34 :: v35 :: v36 :: v37 :: v38 :: v39 :: v40 :: v41 :: v42 :: v43 :: v44 :: v45 :: v46 :: v47 :: v48 :: v49 :: v50 :: v51 :: v52 :: v53 :: v54 :: v55 :: v56 :: v57 :: v58 :: v59 :: v60 :: v61 :: v62 :: v63 :: v64 :: v65 :: v66 :: v67 :: v68 :: v69 :: v70 :: v71 :: v72 :: v73 :: v74 :: v75 :: v76 :: v77 :: v78 :: v79 :: v80 :: v81 :: v82 :: v83 :: v84 :: v85 :: v86 :: v87 :: v88 :: v89 :: v90 :: v91 :: v92 :: v93 :: v94 :: v95 :: v96 :: v97 :: v98 :: v99 :: v100 :: v101 :: v102 :: v103 :: v104 :: v105 :: v106 :: v107 :: v108 :: v109 :: v110 :: v111 :: v112 :: v113 :: v114 :: v115 :: v116 :: v117 :: v118 :: v119 :: v120 :: v121 :: v122 :: v123 :: v124 :: v125 :: v126 :: v127 :: v128 :: v129 :: v130 :: v131 :: v132 :: v133 :: v134 :: v135 :: v136 :: v137 :: v138 :: v139 :: v140 :: v141 :: v142 :: []), defers := [] } w := by
  have hgw := (hA.block rfl).2
  have c0 := hA.cell (i := o) (j := 0) ho (by omega)
  have z0 := hA.frz (o * 3 + 0)
  have z1 := hA.frz (o * 3 + 1)
  have z2 := hA.frz (o * 3 + 2)
  have c1 := hA.cell (i := o) (j := 1) ho (by omega)
  have c2 := hA.cell (i := o) (j := 2) ho (by omega)
  rw [Nat.add_zero] at c0 z0
  have k1 : decide (n ≤ o) = false := decide_eq_false (by omega)
  have b0 := hb.cell 0
  have b1 := hb.cell 1
  have y0 := hm.cell 0
  have y1 := hm.cell 1
  have y2 := hm.cell 2
  have y3 := hm.cell 3
  have u0 := hx.cell 0
  have u1 := hx.cell 1
  have u2 := hx.cell 2
  have r0 := hr.cell 0
  have r1 := hr.cell 1
  have q0 := hr.frz 0
  have q1 := hr.frz 1
  have HA := Lib.hid hA
  have HM := Lib.hid hM
  have HB := Lib.hid hb
  have HMs := Lib.hid hm
  have HR := Lib.hid hr
  obtain ⟨d0, d1, d2, d3⟩ := hd
  obtain ⟨bs0, bs1, bs2⟩ := hbs
  have n0 : g ≠ B := Nat.ne_of_lt d0
  have n1 : g ≠ Bm := Nat.ne_of_lt d1
  have n2 : g ≠ Br := Nat.ne_of_lt d2
  have n3 : g ≠ Bx := Nat.ne_of_lt d3
  clear hA hM hb hm hx hr d0 d1 d2 d3
  have HT := Lib.hid ht
  have e1 : (x0 == 1) = false := by rw [hx0]; decide
  have e2 : (x0 == 2) = true := by rw [hx0]; decide
  have e3 : (x0 == 3) = false := by rw [hx0]; decide
  have i0 : (s.c o 0 == 0) = false := by rw [hi]; decide
  have i2 : (s.c o 0 == 2) = true := by rw [hi]; decide
  have i3 : (s.c o 0 == 3) = false := by rw [hi]; decide
  have i4 : (s.c o 0 == 4) = false := by rw [hi]; decide
  subst hsm
  clear ht hx0 hi
  conv in restAt _ _ => whnf
  rw [HT.out]
  go_upto_region 10 with fail
  obtain ⟨X, hX⟩ : ∃ X, X = w.setCell ⟨g, o * 3, none⟩ (.int .i64 4) := ⟨_, rfl⟩
  have AX := Lib.hid (show Own X base 51 3 (.slice (some ⟨g, 0, none⟩) n c) n (ints2 (M.setC s o (M.v3 4 (s.c o 1) (s.c o 2))).c) by rw [hX]; exact own_set1 HA.out o 4)
  have MX := Lib.hid (show Own X base 54 4 (.slice A' s.k c') s.k (ints2 s.m) by rw [hX]; exact own_msg HM.out HA.out _ _)
  have RX := Lib.hid (show Blk X Br 31 #[.slice none 0 0, .slice none 0 0] by rw [hX]; exact HR.out.far (p := ⟨g, o * 3, none⟩) n2.symm _)
  have CX := Lib.hid (show Blk X B 31 #[.slice (some ⟨g, 0, none⟩) n c, .slice A' s.k c'] by rw [hX]; exact HB.out.far (p := ⟨g, o * 3, none⟩) n0.symm _)
  have YX := Lib.hid (show Blk X Bm 54 #[.int .i64 x0, .int .i64 x1, .int .i64 (o : Int), .int .i64 x3] by rw [hX]; exact HMs.out.far (p := ⟨g, o * 3, none⟩) n1.symm _)
  have BX := Lib.hid (show Below base w X by rw [hX]; exact (Below.refl base w).setCell (p := ⟨g, o * 3, none⟩) bs2 _)
  have hzX : base ≤ X.heap.size := Nat.le_trans bs1 BX.out.size
  rw [← hX]
  clear hX y0 y1 y2 y3 b0 b1 c0 c1 c2 z0 z1 z2 u0 u1 u2 r0 r1 q0 q1
  have b0 := CX.out.cell 0
  have b1 := CX.out.cell 1
  have y0 := YX.out.cell 0
  have y1 := YX.out.cell 1
  have y2 := YX.out.cell 2
  have y3 := YX.out.cell 3
  have r0 := RX.out.cell 0
  have r1 := RX.out.cell 1
  have q0 := RX.out.frz 0
  have q1 := RX.out.frz 1
  go_wp2_with (go_at_call 23; refine (rsend_any n base g c c' A' (M.setC s o (M.v3 4 (s.c o 1) (s.c o 2))) 3 (o : Int) x1 _ AX.out MX.out (by first | assumption | (simp; omega) | omega) hk6 (by omega)).mono ?_; rintro e w9 ⟨A9, c9, rfl, a9, m9, g9⟩; have A9' := Lib.hid a9; have M9 := Lib.hid m9; have G9 := Lib.hid g9; have R9 := Lib.hid (Blk.grown_own RX.out MX.out (by decide) g9); have t0 := R9.out.cell 0; have t1 := R9.out.cell 1; have t2 := R9.out.frz 0; have t3 := R9.out.frz 1; clear a9 m9 g9 r0 r1 q0 q1)
  exact hand_end rfl R9.out A9'.out M9.out (BX.out.grown G9.out hzX (fun q hq => (MX.out.block hq).1)) bs0
set_option maxRecDepth 100000 in
set_option maxHeartbeats 3200000 in
theorem rhand_2_4_go {v0 v1 v7 v8 v9 v10 v11 v12 v13 v14 v15 v16 v17 v18 v19 v20 v21 v22 v23 v24 v25 v26 v27 v28 v29 v30 v31 v32 v33 v34 v35 v36 v37 v38 v39 v40 v41 v42 v43 v44 v45 v46 v47 v48 v49 v50 v51 v52 v53 v54 v55 v56 v57 v58 v59 v60 v61 v62 v63 v64 v65 v66 v67 v68 v69 v70 v71 v72 v73 v74 v75 v76 v77 v78 v79 v80 v81 v82 v83 v84 v85 v86 v87 v88 v89 v90 v91 v92 v93 v94 v95 v96 v97 v98 v99 v100 v101 v102 v103 v104 v105 v106 v107 v108 v109 v110 v111 v112 v113 v114 v115 v116 v117 v118 v119 v120 v121 v122 v123 v124 v125 v126 v127 v128 v129 v130 v131 v132 v133 v134 v135 v136 v137 v138 v139 v140 v141 v142 : Value} (t : M.St) (hA : Own w base 51 3 (.slice (some ⟨g, 0, none⟩) n c) n (ints2 s.c)) (hM : Own w base 54 4 (.slice A' s.k c') s.k (ints2 s.m)) (hb : Blk w B 31 #[.slice (some ⟨g, 0, none⟩) n c, .slice A' s.k c']) (hm : Blk w Bm 54 #[.int .i64 x0, .int .i64 x1, .int .i64 (o : Int), .int .i64 x3]) (hr : Blk w Br 31 #[.slice none 0 0, .slice none 0 0]) (hx : Blk w Bx 51 #[.int .i64 (s.c o 0), .int .i64 (s.c o 1), .int .i64 (s.c o 2)]) (hd : g < B ∧ g < Bm ∧ g < Br ∧ g < Bx) (hbs : base ≤ Br ∧ base ≤ w.heap.size ∧ base ≤ g) (ho : o < n) (hk6 : s.k < 6)
    (ht : t = M.send (s) 3 (o : Int) x1) (hx0 : x0 = 2) (hi : s.c o 0 = 4) (hsm : sm = true) :
    Code.wp Tryd.prog (restAt Tryd.f25 3) (bodyPost Tryd.prog Tryd.f25 (HandR n base t w)) { tmps := List.toArray (v0 :: v1 :: .pointer (some ⟨B, 0, none⟩) :: .pointer (some ⟨Bm, 0, none⟩) :: .pointer (some ⟨Br, 0, none⟩) :: .pointer (some ⟨Bx, 0, none⟩) :: .bool sm :: v7 :: v8 :: v9 :: v10 :: v11 :: v12 :: v13 :: v14 :: v15 :: v16 :: v17 :: v18 :: v19 :: v20 :: v21 :: v22 :: v23 :: v24 :: v25 :: v26 :: v27 :: v28 :: v29 :: v30 :: v31 :: v32 :: v33 :: v34 :: v35 :: v36 :: v37 :: v38 :: v39 :: v40 :: v41 :: v42 :: v43 :: v44 :: v45 :: v46 :: v47 :: v48 :: v49 :: v50 :: v51 :: v52 :: v53 :: v54 :: v55 :: v56 :: v57 :: v58 :: v59 :: v60 :: v61 :: v62 :: v63 :: v64 :: v65 :: v66 :: v67 :: v68 :: v69 :: v70 :: v71 :: v72 :: v73 :: v74 :: v75 :: v76 :: v77 :: v78 :: v79 :: v80 :: v81 :: v82 :: v83 :: v84 :: v85 :: v86 :: v87 :: v88 :: v89 :: v90 :: v91 :: v92 :: v93 :: v94 :: v95 :: v96 :: v97 :: v98 :: v99 :: v100 :: v101 :: v102 :: v103 :: v104 :: v105 :: v106 :: v107 :: v108 :: v109 :: v110 :: v111 :: v112 :: v113 :: v114 :: v115 :: v116 :: v117 :: v118 :: v119 :: v120 :: v121 :: v122 :: v123 :: v124 :: v125 :: v126 :: v127 :: v128 :: v129 :: v130 :: v131 :: v132 :: v133 :: v134 :: v135 :: v136 :: v137 :: v138 :: v139 :: v140 :: v141 :: v142 :: []), defers := [] } w := by
  have hgw := (hA.block rfl).2
  have c0 := hA.cell (i := o) (j := 0) ho (by omega)
  have z0 := hA.frz (o * 3 + 0)
  have z1 := hA.frz (o * 3 + 1)
  have z2 := hA.frz (o * 3 + 2)
  have c1 := hA.cell (i := o) (j := 1) ho (by omega)
  have c2 := hA.cell (i := o) (j := 2) ho (by omega)
  rw [Nat.add_zero] at c0 z0
  have k1 : decide (n ≤ o) = false := decide_eq_false (by omega)
  have b0 := hb.cell 0
  have b1 := hb.cell 1
  have y0 := hm.cell 0
  have y1 := hm.cell 1
  have y2 := hm.cell 2
  have y3 := hm.cell 3
  have u0 := hx.cell 0
  have u1 := hx.cell 1
  have u2 := hx.cell 2
  have r0 := hr.cell 0
  have r1 := hr.cell 1
  have q0 := hr.frz 0
  have q1 := hr.frz 1
  have HA := Lib.hid hA
  have HM := Lib.hid hM
  have HB := Lib.hid hb
  have HMs := Lib.hid hm
  have HR := Lib.hid hr
  obtain ⟨d0, d1, d2, d3⟩ := hd
  obtain ⟨bs0, bs1, bs2⟩ := hbs
  have n0 : g ≠ B := Nat.ne_of_lt d0
  have n1 : g ≠ Bm := Nat.ne_of_lt d1
  have n2 : g ≠ Br := Nat.ne_of_lt d2
  have n3 : g ≠ Bx := Nat.ne_of_lt d3
  clear hA hM hb hm hx hr d0 d1 d2 d3
  have HT := Lib.hid ht
  have e1 : (x0 == 1) = false := by rw [hx0]; decide
  have e2 : (x0 == 2) = true := by rw [hx0]; decide
  have e3 : (x0 == 3) = false := by rw [hx0]; decide
  have i0 : (s.c o 0 == 0) = false := by rw [hi]; decide
  have i2 : (s.c o 0 == 2) = false := by rw [hi]; decide
  have i3 : (s.c o 0 == 3) = false := by rw [hi]; decide
  have i4 : (s.c o 0 == 4) = true := by rw [hi]; decide
  subst hsm
  clear ht hx0 hi
  conv in restAt _ _ => whnf
  rw [HT.out]
  have AX := HA
  have MX := HM
  have RX := HR
  have BX := Lib.hid (Below.refl base w)
  go_wp2_with (go_at_call 23; refine (rsend_any n base g c c' A' (s) 3 (o : Int) x1 _ AX.out MX.out (by first | assumption | (simp; omega) | omega) hk6 (by omega)).mono ?_; rintro e w9 ⟨A9, c9, rfl, a9, m9, g9⟩; have A9' := Lib.hid a9; have M9 := Lib.hid m9; have G9 := Lib.hid g9; have R9 := Lib.hid (Blk.grown_own RX.out MX.out (by decide) g9); have t0 := R9.out.cell 0; have t1 := R9.out.cell 1; have t2 := R9.out.frz 0; have t3 := R9.out.frz 1; clear a9 m9 g9 r0 r1 q0 q1)
  exact hand_end rfl R9.out A9'.out M9.out (BX.out.grown G9.out (by omega) (fun q hq => (MX.out.block hq).1)) bs0
set_option maxRecDepth 100000 in
set_option maxHeartbeats 3200000 in
theorem rhand_3_3_go {v0 v1 v7 v8 v9 v10 v11 v12 v13 v14 v15 v16 v17 v18 v19 v20 v21 v22 v23 v24 v25 v26 v27 v28 v29 v30 v31 v32 v33 v34 v35 v36 v37 v38 v39 v40 v41 v42 v43 v44 v45 v46 v47 v48 v49 v50 v51 v52 v53 v54 v55 v56 v57 v58 v59 v60 v61 v62 v63 v64 v65 v66 v67 v68 v69 v70 v71 v72 v73 v74 v75 v76 v77 v78 v79 v80 v81 v82 v83 v84 v85 v86 v87 v88 v89 v90 v91 v92 v93 v94 v95 v96 v97 v98 v99 v100 v101 v102 v103 v104 v105 v106 v107 v108 v109 v110 v111 v112 v113 v114 v115 v116 v117 v118 v119 v120 v121 v122 v123 v124 v125 v126 v127 v128 v129 v130 v131 v132 v133 v134 v135 v136 v137 v138 v139 v140 v141 v142 : Value} (t : M.St) (hA : Own w base 51 3 (.slice (some ⟨g, 0, none⟩) n c) n (ints2 s.c)) (hM : Own w base 54 4 (.slice A' s.k c') s.k (ints2 s.m)) (hb : Blk w B 31 #[.slice (some ⟨g, 0, none⟩) n c, .slice A' s.k c']) (hm : Blk w Bm 54 #[.int .i64 x0, .int .i64 x1, .int .i64 (o : Int), .int .i64 x3]) (hr : Blk w Br 31 #[.slice none 0 0, .slice none 0 0]) (hx : Blk w Bx 51 #[.int .i64 (s.c o 0), .int .i64 (s.c o 1), .int .i64 (s.c o 2)]) (hd : g < B ∧ g < Bm ∧ g < Br ∧ g < Bx) (hbs : base ≤ Br ∧ base ≤ w.heap.size ∧ base ≤ g) (ho : o < n) (hk6 : s.k < 6)
    (ht : t = M.setC s o (M.v3 1 0 (s.c o 2))) (hx0 : x0 = 3) (hi : s.c o 0 = 3) (hsm : sm = true) :
    Code.wp Tryd.prog (restAt Tryd.f25 3) (bodyPost Tryd.prog Tryd.f25 (HandR n base t w)) { tmps := List.toArray (v0 :: v1 :: .pointer (some ⟨B, 0, none⟩) :: .pointer (some ⟨Bm, 0, none⟩) :: .pointer (some ⟨Br, 0, none⟩) :: .pointer (some ⟨Bx, 0, none⟩) :: .bool sm :: v7 :: v8 :: v9 :: v10 :: v11 :: v12 :: v13 :: v14 :: v15 :: v16 :: v17 :: v18 :: v19 :: v20 :: v21 :: v22 :: v23 :: v24 :: v25 :: v26 :: v27 :: v28 :: v29 :: v30 :: v31 :: v32 :: v33 :: v34 :: v35 :: v36 :: v37 :: v38 :: v39 :: v40 :: v41 :: v42 :: v43 :: v44 :: v45 :: v46 :: v47 :: v48 :: v49 :: v50 :: v51 :: v52 :: v53 :: v54 :: v55 :: v56 :: v57 :: v58 :: v59 :: v60 :: v61 :: v62 :: v63 :: v64 :: v65 :: v66 :: v67 :: v68 :: v69 :: v70 :: v71 :: v72 :: v73 :: v74 :: v75 :: v76 :: v77 :: v78 :: v79 :: v80 :: v81 :: v82 :: v83 :: v84 :: v85 :: v86 :: v87 :: v88 :: v89 :: v90 :: v91 :: v92 :: v93 :: v94 :: v95 :: v96 :: v97 :: v98 :: v99 :: v100 :: v101 :: v102 :: v103 :: v104 :: v105 :: v106 :: v107 :: v108 :: v109 :: v110 :: v111 :: v112 :: v113 :: v114 :: v115 :: v116 :: v117 :: v118 :: v119 :: v120 :: v121 :: v122 :: v123 :: v124 :: v125 :: v126 :: v127 :: v128 :: v129 :: v130 :: v131 :: v132 :: v133 :: v134 :: v135 :: v136 :: v137 :: v138 :: v139 :: v140 :: v141 :: v142 :: []), defers := [] } w := by
  have hgw := (hA.block rfl).2
  have c0 := hA.cell (i := o) (j := 0) ho (by omega)
  have z0 := hA.frz (o * 3 + 0)
  have z1 := hA.frz (o * 3 + 1)
  have z2 := hA.frz (o * 3 + 2)
  have c1 := hA.cell (i := o) (j := 1) ho (by omega)
  have c2 := hA.cell (i := o) (j := 2) ho (by omega)
  rw [Nat.add_zero] at c0 z0
  have k1 : decide (n ≤ o) = false := decide_eq_false (by omega)
  have b0 := hb.cell 0
  have b1 := hb.cell 1
  have y0 := hm.cell 0
  have y1 := hm.cell 1
  have y2 := hm.cell 2
  have y3 := hm.cell 3
  have u0 := hx.cell 0
  have u1 := hx.cell 1
  have u2 := hx.cell 2
  have r0 := hr.cell 0
  have r1 := hr.cell 1
  have q0 := hr.frz 0
  have q1 := hr.frz 1
  have HA := Lib.hid hA
  have HM := Lib.hid hM
  have HB := Lib.hid hb
  have HMs := Lib.hid hm
  have HR := Lib.hid hr
  obtain ⟨d0, d1, d2, d3⟩ := hd
  obtain ⟨bs0, bs1, bs2⟩ := hbs
  have n0 : g ≠ B := Nat.ne_of_lt d0
  have n1 : g ≠ Bm := Nat.ne_of_lt d1
  have n2 : g ≠ Br := Nat.ne_of_lt d2
  have n3 : g ≠ Bx := Nat.ne_of_lt d3
  clear hA hM hb hm hx hr d0 d1 d2 d3
  have HT := Lib.hid ht
  have e1 : (x0 == 1) = false := by rw [hx0]; decide
  have e2 : (x0 == 2) = false := by rw [hx0]; decide
  have e3 : (x0 == 3) = true := by rw [hx0]; decide
  have i0 : (s.c o 0 == 0) = false := by rw [hi]; decide
  have i2 : (s.c o 0 == 2) = false := by rw [hi]; decide
  have i3 : (s.c o 0 == 3) = true := by rw [hi]; decide
  have i4 : (s.c o 0 == 4) = false := by rw [hi]; decide
  subst hsm
  clear ht hx0 hi
  conv in restAt _ _ => whnf
  rw [HT.out]
  go_wp2_with fail
  exact hand_end rfl (((HR.out.far (p := ⟨g, o * 3, none⟩) n2.symm _).far (p := ⟨g, o * 3 + 1, none⟩) n2.symm _).far (p := ⟨g, o * 3 + 2, none⟩) n2.symm _) (own_set3 HA.out o 1 0 (s.c o 2)) (own_msg3 HM.out HA.out _ _ _ _ _ _) ((((Below.refl base w).setCell (p := ⟨g, o * 3, none⟩) bs2 _).setCell (p := ⟨g, o * 3 + 1, none⟩) bs2 _).setCell (p := ⟨g, o * 3 + 2, none⟩) bs2 _) bs0
end
end Go.Proofs.YtfnfjmjejffjiaaDoor
/- The reference's handling of a message, joined. -/
namespace Go.Proofs.YtfnfjmjejffjiaaDoor
open Go.RowKit

section
variable (n base g c c' B Bm Br Bx o : Nat) (A' : Option Addr) (s : M.St) (x0 x1 x3 : Int) (sm : Bool) (w : World)
set_option maxRecDepth 100000 in
set_option maxHeartbeats 3200000 in
theorem rhand_all {v0 v1 v7 v8 v9 v10 v11 v12 v13 v14 v15 v16 v17 v18 v19 v20 v21 v22 v23 v24 v25 v26 v27 v28 v29 v30 v31 v32 v33 v34 v35 v36 v37 v38 v39 v40 v41 v42 v43 v44 v45 v46 v47 v48 v49 v50 v51 v52 v53 v54 v55 v56 v57 v58 v59 v60 v61 v62 v63 v64 v65 v66 v67 v68 v69 v70 v71 v72 v73 v74 v75 v76 v77 v78 v79 v80 v81 v82 v83 v84 v85 v86 v87 v88 v89 v90 v91 v92 v93 v94 v95 v96 v97 v98 v99 v100 v101 v102 v103 v104 v105 v106 v107 v108 v109 v110 v111 v112 v113 v114 v115 v116 v117 v118 v119 v120 v121 v122 v123 v124 v125 v126 v127 v128 v129 v130 v131 v132 v133 v134 v135 v136 v137 v138 v139 v140 v141 v142 : Value} (t : M.St) (hA : Own w base 51 3 (.slice (some ⟨g, 0, none⟩) n c) n (ints2 s.c)) (hM : Own w base 54 4 (.slice A' s.k c') s.k (ints2 s.m)) (hb : Blk w B 31 #[.slice (some ⟨g, 0, none⟩) n c, .slice A' s.k c']) (hm : Blk w Bm 54 #[.int .i64 x0, .int .i64 x1, .int .i64 (o : Int), .int .i64 x3]) (hr : Blk w Br 31 #[.slice none 0 0, .slice none 0 0]) (hx : Blk w Bx 51 #[.int .i64 (s.c o 0), .int .i64 (s.c o 1), .int .i64 (s.c o 2)]) (hd : g < B ∧ g < Bm ∧ g < Br ∧ g < Bx) (hbs : base ≤ Br ∧ base ≤ w.heap.size ∧ base ≤ g) (ho : o < n) (hk6 : s.k < 6)
    (hi : 0 ≤ s.c o 0 ∧ s.c o 0 ≤ 4) (ht : t = M.handle s (M.v4 x0 x1 o x3)) (hsm : sm = decide (s.c o 1 = x1 ∧ s.c o 2 = x3)) :
    Code.wp Tryd.prog (restAt Tryd.f25 3) (bodyPost Tryd.prog Tryd.f25 (HandR n base t w)) { tmps := List.toArray (v0 :: v1 :: .pointer (some ⟨B, 0, none⟩) :: .pointer (some ⟨Bm, 0, none⟩) :: .pointer (some ⟨Br, 0, none⟩) :: .pointer (some ⟨Bx, 0, none⟩) :: .bool sm :: v7 :: v8 :: v9 :: v10 :: v11 :: v12 :: v13 :: v14 :: v15 :: v16 :: v17 :: v18 :: v19 :: v20 :: v21 :: v22 :: v23 :: v24 :: v25 :: v26 :: v27 :: v28 :: v29 :: v30 :: v31 :: v32 :: v33 :: v34 :: v35 :: v36 :: v37 :: v38 :: v39 :: v40 :: v41 :: v42 :: v43 :: v44 :: v45 :: v46 :: v47 :: v48 :: v49 :: v50 :: v51 :: v52 :: v53 :: v54 :: v55 :: v56 :: v57 :: v58 :: v59 :: v60 :: v61 :: v62 :: v63 :: v64 :: v65 :: v66 :: v67 :: v68 :: v69 :: v70 :: v71 :: v72 :: v73 :: v74 :: v75 :: v76 :: v77 :: v78 :: v79 :: v80 :: v81 :: v82 :: v83 :: v84 :: v85 :: v86 :: v87 :: v88 :: v89 :: v90 :: v91 :: v92 :: v93 :: v94 :: v95 :: v96 :: v97 :: v98 :: v99 :: v100 :: v101 :: v102 :: v103 :: v104 :: v105 :: v106 :: v107 :: v108 :: v109 :: v110 :: v111 :: v112 :: v113 :: v114 :: v115 :: v116 :: v117 :: v118 :: v119 :: v120 :: v121 :: v122 :: v123 :: v124 :: v125 :: v126 :: v127 :: v128 :: v129 :: v130 :: v131 :: v132 :: v133 :: v134 :: v135 :: v136 :: v137 :: v138 :: v139 :: v140 :: v141 :: v142 :: []), defers := [] } w := by
  have hh : s.c o 0 = 0 ∨ s.c o 0 = 1 ∨ s.c o 0 = 2 ∨ s.c o 0 = 3 ∨ s.c o 0 = 4 := by omega
  by_cases k1 : x0 = 1
  · rcases hh with i | i | i | i | i
    · by_cases hl : s.c o 2 < x3
      · exact rhand_1_0_go n base g c c' B Bm Br Bx o A' s x0 x1 x3 sm w t hA hM hb hm hr hx hd hbs ho hk6 (ht.trans ((handle_eq s x0 x1 x3 o).trans (by rw [if_pos (by omega)]))) k1 i hl
      · exact rhand_1_0_no n base g c c' B Bm Br Bx o A' s x0 x1 x3 sm w t hA hM hb hm hr hx hd hbs ho hk6 (ht.trans ((handle_eq s x0 x1 x3 o).trans (by rw [if_neg (by omega), if_neg (by omega), if_neg (by omega), if_neg (by omega), if_neg (by omega)]))) k1 i hl
    · exact rhand_1_1 n base g c c' B Bm Br Bx o A' s x0 x1 x3 sm w t hA hM hb hm hr hx hd hbs ho hk6 (ht.trans ((handle_eq s x0 x1 x3 o).trans (by rw [if_neg (by omega), if_neg (by omega), if_neg (by omega), if_neg (by omega), if_neg (by omega)]))) k1 i
    · exact rhand_1_2 n base g c c' B Bm Br Bx o A' s x0 x1 x3 sm w t hA hM hb hm hr hx hd hbs ho hk6 (ht.trans ((handle_eq s x0 x1 x3 o).trans (by rw [if_neg (by omega), if_neg (by omega), if_neg (by omega), if_neg (by omega), if_neg (by omega)]))) k1 i
    · by_cases hq : s.c o 1 = x1 ∧ s.c o 2 = x3
      · exact rhand_1_3_go n base g c c' B Bm Br Bx o A' s x0 x1 x3 sm w t hA hM hb hm hr hx hd hbs ho hk6 (ht.trans ((handle_eq s x0 x1 x3 o).trans (by rw [if_neg (by omega), if_pos (by omega)]))) k1 i (hsm.trans (decide_eq_true hq))
      · exact rhand_1_3_no n base g c c' B Bm Br Bx o A' s x0 x1 x3 sm w t hA hM hb hm hr hx hd hbs ho hk6 (ht.trans ((handle_eq s x0 x1 x3 o).trans (by rw [if_neg (by omega), if_neg (by omega), if_neg (by omega), if_neg (by omega), if_neg (by omega)]))) k1 i (hsm.trans (decide_eq_false hq))
    · by_cases hl : s.c o 2 < x3
      · exact rhand_1_4_go n base g c c' B Bm Br Bx o A' s x0 x1 x3 sm w t hA hM hb hm hr hx hd hbs ho hk6 (ht.trans ((handle_eq s x0 x1 x3 o).trans (by rw [if_pos (by omega)]))) k1 i hl
      · exact rhand_1_4_no n base g c c' B Bm Br Bx o A' s x0 x1 x3 sm w t hA hM hb hm hr hx hd hbs ho hk6 (ht.trans ((handle_eq s x0 x1 x3 o).trans (by rw [if_neg (by omega), if_neg (by omega), if_neg (by omega), if_neg (by omega), if_neg (by omega)]))) k1 i hl
  · by_cases k2 : x0 = 2
    · rcases hh with i | i | i | i | i
      · exact rhand_2_0 n base g c c' B Bm Br Bx o A' s x0 x1 x3 sm w t hA hM hb hm hr hx hd hbs ho hk6 (ht.trans ((handle_eq s x0 x1 x3 o).trans (by rw [if_neg (by omega), if_neg (by omega), if_neg (by omega), if_neg (by omega), if_neg (by omega)]))) k2 i
      · exact rhand_2_1 n base g c c' B Bm Br Bx o A' s x0 x1 x3 sm w t hA hM hb hm hr hx hd hbs ho hk6 (ht.trans ((handle_eq s x0 x1 x3 o).trans (by rw [if_neg (by omega), if_neg (by omega), if_neg (by omega), if_neg (by omega), if_neg (by omega)]))) k2 i
      · by_cases hq : s.c o 1 = x1 ∧ s.c o 2 = x3
        · exact rhand_2_2_go n base g c c' B Bm Br Bx o A' s x0 x1 x3 sm w t hA hM hb hm hr hx hd hbs ho hk6 (ht.trans ((handle_eq s x0 x1 x3 o).trans (by rw [if_neg (by omega), if_neg (by omega), if_pos (by omega)]))) k2 i (hsm.trans (decide_eq_true hq))
        · exact rhand_2_2_no n base g c c' B Bm Br Bx o A' s x0 x1 x3 sm w t hA hM hb hm hr hx hd hbs ho hk6 (ht.trans ((handle_eq s x0 x1 x3 o).trans (by rw [if_neg (by omega), if_neg (by omega), if_neg (by omega), if_neg (by omega), if_neg (by omega)]))) k2 i (hsm.trans (decide_eq_false hq))
      · exact rhand_2_3 n base g c c' B Bm Br Bx o A' s x0 x1 x3 sm w t hA hM hb hm hr hx hd hbs ho hk6 (ht.trans ((handle_eq s x0 x1 x3 o).trans (by rw [if_neg (by omega), if_neg (by omega), if_neg (by omega), if_neg (by omega), if_neg (by omega)]))) k2 i
      · by_cases hq : s.c o 1 = x1 ∧ s.c o 2 = x3
        · exact rhand_2_4_go n base g c c' B Bm Br Bx o A' s x0 x1 x3 sm w t hA hM hb hm hr hx hd hbs ho hk6 (ht.trans ((handle_eq s x0 x1 x3 o).trans (by rw [if_neg (by omega), if_neg (by omega), if_neg (by omega), if_pos (by omega)]))) k2 i (hsm.trans (decide_eq_true hq))
        · exact rhand_2_4_no n base g c c' B Bm Br Bx o A' s x0 x1 x3 sm w t hA hM hb hm hr hx hd hbs ho hk6 (ht.trans ((handle_eq s x0 x1 x3 o).trans (by rw [if_neg (by omega), if_neg (by omega), if_neg (by omega), if_neg (by omega), if_neg (by omega)]))) k2 i (hsm.trans (decide_eq_false hq))
    · by_cases k3 : x0 = 3
      · rcases hh with i | i | i | i | i
        · exact rhand_3_0 n base g c c' B Bm Br Bx o A' s x0 x1 x3 sm w t hA hM hb hm hr hx hd hbs ho hk6 (ht.trans ((handle_eq s x0 x1 x3 o).trans (by rw [if_neg (by omega), if_neg (by omega), if_neg (by omega), if_neg (by omega), if_neg (by omega)]))) k3 i
        · exact rhand_3_1 n base g c c' B Bm Br Bx o A' s x0 x1 x3 sm w t hA hM hb hm hr hx hd hbs ho hk6 (ht.trans ((handle_eq s x0 x1 x3 o).trans (by rw [if_neg (by omega), if_neg (by omega), if_neg (by omega), if_neg (by omega), if_neg (by omega)]))) k3 i
        · exact rhand_3_2 n base g c c' B Bm Br Bx o A' s x0 x1 x3 sm w t hA hM hb hm hr hx hd hbs ho hk6 (ht.trans ((handle_eq s x0 x1 x3 o).trans (by rw [if_neg (by omega), if_neg (by omega), if_neg (by omega), if_neg (by omega), if_neg (by omega)]))) k3 i
        · by_cases hq : s.c o 1 = x1 ∧ s.c o 2 = x3
          · exact rhand_3_3_go n base g c c' B Bm Br Bx o A' s x0 x1 x3 sm w t hA hM hb hm hr hx hd hbs ho hk6 (ht.trans ((handle_eq s x0 x1 x3 o).trans (by rw [if_neg (by omega), if_neg (by omega), if_neg (by omega), if_neg (by omega), if_pos (by omega)]))) k3 i (hsm.trans (decide_eq_true hq))
          · exact rhand_3_3_no n base g c c' B Bm Br Bx o A' s x0 x1 x3 sm w t hA hM hb hm hr hx hd hbs ho hk6 (ht.trans ((handle_eq s x0 x1 x3 o).trans (by rw [if_neg (by omega), if_neg (by omega), if_neg (by omega), if_neg (by omega), if_neg (by omega)]))) k3 i (hsm.trans (decide_eq_false hq))
        · exact rhand_3_4 n base g c c' B Bm Br Bx o A' s x0 x1 x3 sm w t hA hM hb hm hr hx hd hbs ho hk6 (ht.trans ((handle_eq s x0 x1 x3 o).trans (by rw [if_neg (by omega), if_neg (by omega), if_neg (by omega), if_neg (by omega), if_neg (by omega)]))) k3 i
      · exact rhand_skip n base g c c' B Bm Br Bx o A' s x0 x1 x3 sm w t hA hM hb hm hr hx hd hbs ho hk6 (ht.trans ((handle_eq s x0 x1 x3 o).trans (by rw [if_neg (by omega), if_neg (by omega), if_neg (by omega), if_neg (by omega), if_neg (by omega)]))) ⟨k1, k2, k3⟩
end
theorem rhand_up {P : Program} {fn : Func} {c : Code} {a : Act} {W w : World} {n base : Nat} {t : M.St} (hg : Below base w W) (h : Code.wp P c (bodyPost P fn (HandR n base t W)) a W) : Code.wp P c (bodyPost P fn (HandR n base t w)) a W := by
  refine Code.wp_mono (fun e a w' q => ?_) h
  have hR : ∀ e w', HandR n base t W e w' → HandR n base t w e w' := fun e w' h => ⟨h.1, hg.trans h.2⟩
  cases e <;> simp only [bodyPost] at q ⊢ <;> first
    | exact q
    | exact hR _ _ q
    | exact ⟨q.1, hR _ _ q.2⟩
    | exact ⟨q.1, q.2.choose, q.2.choose_spec.1, hR _ _ q.2.choose_spec.2⟩
set_option maxRecDepth 100000 in
set_option maxHeartbeats 3200000 in
theorem rhandle_any (n base o : Nat) (v : Value) (s : M.St) (x0 x1 x3 : Int) (w : World) (hv : CallV n s base v w) (hbase : base ≤ w.heap.size) (ho : o < n) (hk6 : s.k < 6) (hi : 0 ≤ s.c o 0 ∧ s.c o 0 ≤ 4) :
    Calls Tryd.prog 25 #[v, .agg #[.int .i64 x0, .int .i64 x1, .int .i64 (o : Int), .int .i64 x3]] w (HandR n base (M.handle s (M.v4 x0 x1 o x3)) w) := by
  obtain ⟨A, c, A', c', rfl, hA, hM⟩ := hv
  obtain ⟨g, cc, ee⟩ := hA.nz (show 0 < n by omega)
  injection ee with e1 _ e3
  subst e1; subst e3
  have HGW := Lib.hid (show base ≤ g ∧ g < w.heap.size from hA.block rfl)
  obtain ⟨t, ht⟩ : ∃ t, t = M.handle s (M.v4 x0 x1 o x3) := ⟨_, rfl⟩
  rw [← ht]
  have HT := Lib.hid ht
  have HA := Lib.hid hA
  have HM := Lib.hid hM
  have HI := Lib.hid hi
  have c0 := hA.cell (i := o) (j := 0) ho (by omega)
  have c1 := hA.cell (i := o) (j := 1) ho (by omega)
  have c2 := hA.cell (i := o) (j := 2) ho (by omega)
  rw [Nat.add_zero] at c0
  have k1 : decide (n ≤ o) = false := decide_eq_false (by omega)
  have cc0 : (((w.alloc (.cells #[.slice (some ⟨g, 0, none⟩) n c, .slice A' s.k c'] 31)).alloc (.cells #[.int .i64 x0, .int .i64 x1, .int .i64 (o : Int), .int .i64 x3] 54)).alloc (.cells #[.slice none 0 0, .slice none 0 0] 31)).cell? ⟨g, o * 3, none⟩ = some (.int .i64 (s.c o 0)) := al_cell (al_cell (al_cell c0))
  have cc1 : (((w.alloc (.cells #[.slice (some ⟨g, 0, none⟩) n c, .slice A' s.k c'] 31)).alloc (.cells #[.int .i64 x0, .int .i64 x1, .int .i64 (o : Int), .int .i64 x3] 54)).alloc (.cells #[.slice none 0 0, .slice none 0 0] 31)).cell? ⟨g, o * 3 + 1, none⟩ = some (.int .i64 (s.c o 1)) := al_cell (al_cell (al_cell c1))
  have cc2 : (((w.alloc (.cells #[.slice (some ⟨g, 0, none⟩) n c, .slice A' s.k c'] 31)).alloc (.cells #[.int .i64 x0, .int .i64 x1, .int .i64 (o : Int), .int .i64 x3] 54)).alloc (.cells #[.slice none 0 0, .slice none 0 0] 31)).cell? ⟨g, o * 3 + 2, none⟩ = some (.int .i64 (s.c o 2)) := al_cell (al_cell (al_cell c2))
  clear ht hA hM hi c0 c1 c2
  by_cases h1 : s.c o 1 = x1
  · have e1 : (s.c o 1 == x1) = true := by rw [h1]; simp
    by_cases h2 : s.c o 2 = x3
    · have e2 : (s.c o 2 == x3) = true := by rw [h2]; simp
      have HS := Lib.hid (show true = decide (s.c o 1 = x1 ∧ s.c o 2 = x3) from (decide_eq_true ⟨h1, h2⟩).symm)
      clear h1 h2
      go_enter Tryd.func25, Tryd.ntmps25
      go_upto_region 2 with fail
      go_cut [6] from 7 (fun s6 wc => s6 = .bool true ∧ wc = (((w.alloc (.cells #[.slice (some ⟨g, 0, none⟩) n c, .slice A' s.k c'] 31)).alloc (.cells #[.int .i64 x0, .int .i64 x1, .int .i64 (o : Int), .int .i64 x3] 54)).alloc (.cells #[.slice none 0 0, .slice none 0 0] 31)).alloc (.cells #[.int .i64 (s.c o 0), .int .i64 (s.c o 1), .int .i64 (s.c o 2)] 51))
      case first =>
        go_wp2_with fail
        go_meet
        case rel => exact ⟨rfl, rfl⟩
      case rest =>
        obtain ⟨rfl, rfl⟩ := hcut
        go_step
        refine rhand_up ?_ (rhand_all n base g c c' w.heap.size (w.heap.size + 1) (w.heap.size + 1 + 1) (w.heap.size + 1 + 1 + 1) o A' s x0 x1 x3 _ _ t ((((HA.out.alloc _).alloc _).alloc _).alloc _) ((((HM.out.alloc _).alloc _).alloc _).alloc _) ((((Blk.new w _ _).alloc _).alloc _).alloc _) (((Blk.new1 w _ _ _).alloc _).alloc _) ((Blk.new2 w _ _ _ _).alloc _) (Blk.new3 w _ _ _ _ _) (by have := HGW.out; omega) (by have := HGW.out; simp; omega) ho hk6 HI.out HT.out HS.out)
        exact (((((Below.refl base w).alloc hbase (.cells #[.slice (some ⟨g, 0, none⟩) n c, .slice A' s.k c'] 31)).alloc (by simp; omega) (.cells #[.int .i64 x0, .int .i64 x1, .int .i64 (o : Int), .int .i64 x3] 54)).alloc (by simp; omega) (.cells #[.slice none 0 0, .slice none 0 0] 31)).alloc (by simp; omega) (.cells #[.int .i64 (s.c o 0), .int .i64 (s.c o 1), .int .i64 (s.c o 2)] 51))
    · have e2 : (s.c o 2 == x3) = false := by rw [beq_eq_false_iff_ne]; exact h2
      have HS := Lib.hid (show false = decide (s.c o 1 = x1 ∧ s.c o 2 = x3) from (decide_eq_false fun h => h2 h.2).symm)
      clear h1 h2
      go_enter Tryd.func25, Tryd.ntmps25
      go_upto_region 2 with fail
      go_cut [6] from 7 (fun s6 wc => s6 = .bool false ∧ wc = (((w.alloc (.cells #[.slice (some ⟨g, 0, none⟩) n c, .slice A' s.k c'] 31)).alloc (.cells #[.int .i64 x0, .int .i64 x1, .int .i64 (o : Int), .int .i64 x3] 54)).alloc (.cells #[.slice none 0 0, .slice none 0 0] 31)).alloc (.cells #[.int .i64 (s.c o 0), .int .i64 (s.c o 1), .int .i64 (s.c o 2)] 51))
      case first =>
        go_wp2_with fail
        go_meet
        case rel => exact ⟨rfl, rfl⟩
      case rest =>
        obtain ⟨rfl, rfl⟩ := hcut
        go_step
        refine rhand_up ?_ (rhand_all n base g c c' w.heap.size (w.heap.size + 1) (w.heap.size + 1 + 1) (w.heap.size + 1 + 1 + 1) o A' s x0 x1 x3 _ _ t ((((HA.out.alloc _).alloc _).alloc _).alloc _) ((((HM.out.alloc _).alloc _).alloc _).alloc _) ((((Blk.new w _ _).alloc _).alloc _).alloc _) (((Blk.new1 w _ _ _).alloc _).alloc _) ((Blk.new2 w _ _ _ _).alloc _) (Blk.new3 w _ _ _ _ _) (by have := HGW.out; omega) (by have := HGW.out; simp; omega) ho hk6 HI.out HT.out HS.out)
        exact (((((Below.refl base w).alloc hbase (.cells #[.slice (some ⟨g, 0, none⟩) n c, .slice A' s.k c'] 31)).alloc (by simp; omega) (.cells #[.int .i64 x0, .int .i64 x1, .int .i64 (o : Int), .int .i64 x3] 54)).alloc (by simp; omega) (.cells #[.slice none 0 0, .slice none 0 0] 31)).alloc (by simp; omega) (.cells #[.int .i64 (s.c o 0), .int .i64 (s.c o 1), .int .i64 (s.c o 2)] 51))
  · have e1 : (s.c o 1 == x1) = false := by rw [beq_eq_false_iff_ne]; exact h1
    have HS := Lib.hid (show false = decide (s.c o 1 = x1 ∧ s.c o 2 = x3) from (decide_eq_false fun h => h1 h.1).symm)
    clear h1
    go_enter Tryd.func25, Tryd.ntmps25
    go_upto_region 2 with fail
    go_cut [6] from 7 (fun s6 wc => s6 = .bool false ∧ wc = (((w.alloc (.cells #[.slice (some ⟨g, 0, none⟩) n c, .slice A' s.k c'] 31)).alloc (.cells #[.int .i64 x0, .int .i64 x1, .int .i64 (o : Int), .int .i64 x3] 54)).alloc (.cells #[.slice none 0 0, .slice none 0 0] 31)).alloc (.cells #[.int .i64 (s.c o 0), .int .i64 (s.c o 1), .int .i64 (s.c o 2)] 51))
    case first =>
      go_wp2_with fail
      go_meet
      case rel => exact ⟨rfl, rfl⟩
    case rest =>
      obtain ⟨rfl, rfl⟩ := hcut
      go_step
      refine rhand_up ?_ (rhand_all n base g c c' w.heap.size (w.heap.size + 1) (w.heap.size + 1 + 1) (w.heap.size + 1 + 1 + 1) o A' s x0 x1 x3 _ _ t ((((HA.out.alloc _).alloc _).alloc _).alloc _) ((((HM.out.alloc _).alloc _).alloc _).alloc _) ((((Blk.new w _ _).alloc _).alloc _).alloc _) (((Blk.new1 w _ _ _).alloc _).alloc _) ((Blk.new2 w _ _ _ _).alloc _) (Blk.new3 w _ _ _ _ _) (by have := HGW.out; omega) (by have := HGW.out; simp; omega) ho hk6 HI.out HT.out HS.out)
      exact (((((Below.refl base w).alloc hbase (.cells #[.slice (some ⟨g, 0, none⟩) n c, .slice A' s.k c'] 31)).alloc (by simp; omega) (.cells #[.int .i64 x0, .int .i64 x1, .int .i64 (o : Int), .int .i64 x3] 54)).alloc (by simp; omega) (.cells #[.slice none 0 0, .slice none 0 0] 31)).alloc (by simp; omega) (.cells #[.int .i64 (s.c o 0), .int .i64 (s.c o 1), .int .i64 (s.c o 2)] 51))
end Go.Proofs.YtfnfjmjejffjiaaDoor
