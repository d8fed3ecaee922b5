/- The reference's Apply: where it does something. -/
import Derived.Test.YtfnfjmjejffjiaaDoorF6a
import Derived.Deep.DeepCutAuto
namespace Go.Proofs.YtfnfjmjejffjiaaDoor
open Go.RowKit

theorem handle_v4 (t : M.St) (x : Nat → Int) (a b p d : Int) (h0 : x 0 = a) (h1 : x 1 = b) (h2 : x 2 = p) (h3 : x 3 = d) : M.handle t (M.v4 a b p d) = M.handle t x := by
  unfold M.handle
  simp only [show M.v4 a b p d 0 = x 0 from h0.symm, show M.v4 a b p d 1 = x 1 from h1.symm, show M.v4 a b p d 2 = x 2 from h2.symm, show M.v4 a b p d 3 = x 3 from h3.symm]
def KeptE (w : World) (B1 Be : Nat) (x : Value) (w' : World) : Prop := w'.cell? ⟨Be, 1, none⟩ = some x ∧ Below B1 w w'
theorem KeptE.alloc {w W : World} {B1 Be : Nat} {x : Value} (h : KeptE w B1 Be x W) (hw : B1 ≤ w.heap.size) (o : Obj) : KeptE w B1 Be x (W.alloc o) := ⟨al_cell h.1, h.2.alloc (Nat.le_trans hw h.2.size) o⟩
theorem KeptE.alloc_drew {w W : World} {B1 Be : Nat} {x : Value} {o : Obj} (h : KeptE w B1 Be x W.drew) (hw : B1 ≤ w.heap.size) : KeptE w B1 Be x (W.alloc o).drew := (h.alloc hw o : KeptE w B1 Be x (W.drew.alloc o))
theorem KeptE.start {w : World} {B1 Be : Nat} {x : Value} (h : w.cell? ⟨Be, 1, none⟩ = some x) : KeptE w B1 Be x w.drew := ⟨h, (Below.refl _ _).drew⟩
theorem KeptE.grown {w W W' : World} {B1 Be : Nat} {x : Value} {row : Option Nat} (h : KeptE w B1 Be x W) (hg : W.grownBy W' row) (hw : B1 ≤ w.heap.size) (hq : ∀ q, row = some q → Be < q ∧ B1 ≤ q) (hs : Be < W.heap.size) : KeptE w B1 Be x W' := by
  refine ⟨?_, Below.grown h.2 hg (Nat.le_trans hw h.2.size) (fun q e => (hq q e).2)⟩
  have hne : some Be ≠ row := fun e => by have := (hq Be e.symm).1; omega
  have hbl := hg.block Be hs hne
  have := h.1
  simp only [World.cell?] at this ⊢
  rw [hbl]; exact this
theorem KeptE.store {w W : World} {B1 Be B6 : Nat} {x : Value} (h : KeptE w B1 Be x W) (h6 : B1 ≤ B6) (hne : Be ≠ B6) (u : Value) : KeptE w B1 Be x (W.setCell ⟨B6, 1, none⟩ u) := ⟨(World.cell?_setCell_far _ _ _ _ (Ne.symm hne)).trans h.1, h.2.setCell (p := ⟨B6, 1, none⟩) h6 u⟩
theorem cat_add (s : M.St) (v : Nat → Int) : ∀ i j, i < s.k + 1 → j < 4 → catF s.k (ints2 s.m) (ints2 fun _ => v) i j = ints2 (M.add s v).m i j := by
  intro i j hi _
  show catF s.k (ints2 s.m) (ints2 fun _ => v) i j = .int .i64 ((if i = s.k then v else s.m i) j)
  unfold catF
  by_cases h : i < s.k
  · rw [if_pos h, if_neg (by omega)]
  · rw [if_neg h, if_pos (by omega)]
section
variable (n B1 B0 g c c' Bb Be Br B6 qc qc' : Nat) (A' Q Q' : Option Addr) (s : M.St) (e0 e1 e2 : Int) (ic im : Bool) (w : World) (t : Option M.St)
set_option maxRecDepth 100000 in
set_option maxHeartbeats 6400000 in
theorem app_1h {v0 v1 v9 v10 v11 v12 v13 v14 v15 v16 v17 v18 v19 v20 v21 v22 v23 v24 v25 v26 v27 v28 v29 v30 v31 v32 v33 v34 v35 v36 v37 v38 v39 v40 v41 v42 v43 v44 v45 v46 v47 v48 v49 v50 v51 v52 v53 v54 v55 v56 v57 v58 v59 v60 v61 v62 v63 v64 v65 v66 v67 v68 v69 v70 v71 v72 v73 v74 v75 v76 v77 v78 v79 v80 v81 v82 v83 v84 v85 v86 v87 v88 v89 v90 v91 v92 v93 v94 v95 v96 v97 v98 v99 v100 v101 v102 v103 v104 v105 v106 v107 v108 v109 v110 v111 v112 v113 v114 v115 v116 v117 v118 v119 v120 v121 v122 v123 v124 v125 v126 v127 v128 v129 v130 v131 v132 v133 v134 v135 v136 v137 v138 v139 v140 v141 v142 v143 v144 v145 v146 v147 v148 v149 v150 v151 v152 v153 v154 v155 v156 v157 v158 v159 v160 v161 v162 v163 v164 v165 v166 v167 v168 v169 v170 v171 v172 v173 v174 v175 v176 v177 v178 v179 v180 v181 v182 v183 v184 v185 v186 v187 v188 v189 v190 v191 v192 v193 v194 v195 v196 v197 v198 v199 v200 v201 v202 v203 v204 v205 v206 v207 v208 v209 : Value} (hA : Own w B0 51 3 (.slice (some ⟨g, 0, none⟩) n c) n (ints2 s.c)) (hM : Own w B0 54 4 (.slice A' s.k c') s.k (ints2 s.m)) (hb : Blk w Bb 31 #[.slice Q n qc, .slice Q' s.k qc']) (he : Blk w Be 38 #[.int .i64 e0, .int .i64 e1, .int .i64 e2]) (hr : Blk w Br 31 #[.slice none 0 0, .slice none 0 0]) (h6 : Blk w B6 31 #[.slice (some ⟨g, 0, none⟩) n c, .slice A' s.k c']) (hd : Bb < B0 ∧ Be < B0 ∧ Br < B0 ∧ B0 ≤ B6 ∧ B1 ≤ Br ∧ B0 ≤ w.heap.size) (hwf : M.Wf n s)
    (a : Nat) (ht : t = some (M.send (M.setC s a (M.v3 2 e2 (s.c a 2 + 1))) 1 (a : Int) e2)) (hk : e0 = 1) (ha : a < n) (hic : ic = true) (ha1 : e1 = (a : Int)) (c0 : s.c a 0 = 1) (c2 : s.c a 2 < 9) (l0 : 0 ≤ e2) (l1 : e2 < n) (l2 : e2 ≠ (a : Int)) (l3 : s.k < 6) :
    Code.wp Tryd.prog (restAt Tryd.f9 4) (bodyPost Tryd.prog Tryd.f9 (AppR n B1 B0 (.agg #[.slice Q n qc, .slice Q' s.k qc']) t w)) { tmps := List.toArray (v0 :: v1 :: .pointer (some ⟨Bb, 0, none⟩) :: .pointer (some ⟨Be, 0, none⟩) :: .pointer (some ⟨Br, 0, none⟩) :: .bool false :: .pointer (some ⟨B6, 0, none⟩) :: .bool ic :: .bool im :: v9 :: v10 :: v11 :: v12 :: v13 :: v14 :: v15 :: v16 :: v17 :: v18 :: v19 :: v20 :: v21 :: v22 :: v23 :: v24 :: v25 :: v26 :: v27 :: v28 :: v29 :: v30 :: v31 :: v32 :: v33 :: v34 :: v35 :: v36 :: v37 :: v38 :: v39 :: v40 :: v41 :: v42 :: v43 :: v44 :: v45 :: v46 :: v47 :: v48 :: v49 :: v50 :: v51 :: v52 :: v53 :: v54 :: v55 :: v56 :: v57 :: v58 :: v59 :: v60 :: v61 :: v62 :: v63 :: v64 :: v65 :: v66 :: v67 :: v68 :: v69 :: v70 :: v71 :: v72 :: v73 :: v74 :: v75 :: v76 :: v77 :: v78 :: v79 :: v80 :: v81 :: v82 :: v83 :: v84 :: v85 :: v86 :: v87 :: v88 :: v89 :: v90 :: v91 :: v92 :: v93 :: v94 :: v95 :: v96 :: v97 :: v98 :: v99 :: v100 :: v101 :: v102 :: v103 :: v104 :: v105 :: v106 :: v107 :: v108 :: v109 :: v110 :: v111 :: v112 :: v113 :: v114 :: v115 :: v116 :: v117 :: v118 :: v119 :: v120 :: v121 :: v122 :: v123 :: v124 :: v125 :: v126 :: v127 :: v128 :: v129 :: v130 :: v131 :: v132 :: v133 :: v134 :: v135 :: v136 :: v137 :: v138 :: v139 :: v140 :: v141 :: v142 :: v143 :: v144 :: v145 :: v146 :: v147 :: v148 :: v149 :: v150 :: v151 :: v152 :: v153 :: v154 :: v155 :: v156 :: v157 :: v158 :: v159 :: v160 :: v161 :: v162 :: v163 :: v164 :: v165 :: v166 :: v167 :: v168 :: v169 :: v170 :: v171 :: v172 :: v173 :: v174 :: v175 :: v176 :: v177 :: v178 :: v179 :: v180 :: v181 :: v182 :: v183 :: v184 :: v185 :: v186 :: v187 :: v188 :: v189 :: v190 :: v191 :: v192 :: v193 :: v194 :: v195 :: v196 :: v197 :: v198 :: v199 :: v200 :: v201 :: v202 :: v203 :: v204 :: v205 :: v206 :: v207 :: v208 :: v209 :: []), defers := [] } w := by
  have b0 := hb.cell 0
  have b1 := hb.cell 1
  have y0 := he.cell 0
  have y1 := he.cell 1
  have y2 := he.cell 2
  have r0 := hr.cell 0
  have r1 := hr.cell 1
  have q0 := hr.frz 0
  have q1 := hr.frz 1
  have d0 := h6.cell 0
  have d1 := h6.cell 1
  have HA := Lib.hid hA
  have HM := Lib.hid hM
  have HB := Lib.hid hb
  have HE := Lib.hid he
  have HR := Lib.hid hr
  have H6 := Lib.hid h6
  have HD := Lib.hid hd
  have HW := Lib.hid hwf
  have hgw : g < w.heap.size := (hA.block rfl).2
  have lb := hb.lt
  have le := he.lt
  have lr := hr.lt
  have l6 := h6.lt
  have hk6 : s.k ≤ 6 := hwf.k6
  clear hA hM hb he hr h6 hd hwf
  have HT := Lib.hid ht
  have n1 : (e0 != 1) = false := by rw [hk]; decide
  have a1 : (e0 == 1) = true := by rw [hk]; decide
  have a2 : (e0 == 2) = false := by rw [hk]; decide
  have a3 : (e0 == 3) = false := by rw [hk]; decide
  have a4 : (e0 == 4) = false := by rw [hk]; decide
  have a5 : (e0 == 5) = false := by rw [hk]; decide
  subst hic
  have wa := (HW.out.cen a ha).2.2.2.2
  have wr : IntKind.i64.wrap (s.c a 2 + 1) = s.c a 2 + 1 := by rw [IntKind.wrap_i64]; omega
  have x0 := HA.out.frz (a * 3 + 0)
  have x1 := HA.out.frz (a * 3 + 1)
  have x2 := HA.out.frz (a * 3 + 2)
  rw [Nat.add_zero] at x0
  have z0 := HA.out.cell (i := a) (j := 0) ha (by omega)
  have z1 := HA.out.cell (i := a) (j := 1) ha (by omega)
  have z2 := HA.out.cell (i := a) (j := 2) ha (by omega)
  rw [Nat.add_zero] at z0
  have ix : decide (n ≤ a) = false := decide_eq_false (by omega)
  have fc0 : (s.c a 0 != 1) = false := by rw [c0]; decide
  have fc2 : decide (9 ≤ s.c a 2) = false := decide_eq_false (by omega)
  have fl0 : decide (e2 < 0) = false := decide_eq_false (by omega)
  have fl1 : decide ((n : Int) ≤ e2) = false := decide_eq_false (by omega)
  have fl2 : (e2 == (a : Int)) = false := by rw [beq_eq_false_iff_ne]; exact l2
  have fl3 : decide ((6 : Int) ≤ (s.k : Int)) = false := decide_eq_false (by omega)
  have fl4 : decide (6 ≤ s.k) = false := decide_eq_false (by omega)
  subst ha1
  clear ht hk c0 c2 l0 l1 l2
  conv in restAt _ _ => whnf
  rw [HT.out]
  have hgB : B0 ≤ g := (HA.out.block rfl).1
  have hB1g : B1 ≤ g := by have := HD.out; omega
  have nb0 : Bb ≠ g := by have := HD.out; omega
  have nb1 : Be ≠ g := by have := HD.out; omega
  have nb2 : Br ≠ g := by have := HD.out; omega
  have nb6 : B6 ≠ g := fun e => HA.out.ne_blk H6.out (by decide) (by rw [e]; rfl)
  have nb0' := nb0.symm
  have nb1' := nb1.symm
  have nb2' := nb2.symm
  have nb6' := nb6.symm
  go_upto_region 10 with fail
  go_still_tail 15, (by kernel_rfl)
  go_upto_region 11 with fail
  obtain ⟨X, hX⟩ : ∃ X, X = (((w.setCell ⟨g, a * 3, none⟩ (.int .i64 2)).setCell ⟨g, a * 3 + 1, none⟩ (.int .i64 e2)).setCell ⟨g, a * 3 + 2, none⟩ (.int .i64 (s.c a 2 + 1))).drew := ⟨_, rfl⟩
  have AX := Lib.hid (show Own X B0 51 3 (.slice (some ⟨g, 0, none⟩) n c) n (ints2 (M.setC s a (M.v3 2 e2 (s.c a 2 + 1))).c) by rw [hX]; exact own_set3 HA.out a 2 e2 (s.c a 2 + 1))
  have MX := Lib.hid (show Own X B0 54 4 (.slice A' s.k c') s.k (ints2 s.m) by rw [hX]; exact own_msg3 HM.out HA.out _ _ _ _ _ _)
  have RX := Lib.hid (show Blk X Br 31 #[.slice none 0 0, .slice none 0 0] by rw [hX]; exact blk_dr.2 (((HR.out.far (p := ⟨g, a * 3, none⟩) nb2 _).far (p := ⟨g, a * 3 + 1, none⟩) nb2 _).far (p := ⟨g, a * 3 + 2, none⟩) nb2 _))
  have CX := Lib.hid (show Blk X B6 31 #[.slice (some ⟨g, 0, none⟩) n c, .slice A' s.k c'] by rw [hX]; exact blk_dr.2 (((H6.out.far (p := ⟨g, a * 3, none⟩) nb6 _).far (p := ⟨g, a * 3 + 1, none⟩) nb6 _).far (p := ⟨g, a * 3 + 2, none⟩) nb6 _))
  have YX := Lib.hid (show Blk X Be 38 #[.int .i64 e0, .int .i64 (a : Int), .int .i64 e2] by rw [hX]; exact blk_dr.2 (((HE.out.far (p := ⟨g, a * 3, none⟩) nb1 _).far (p := ⟨g, a * 3 + 1, none⟩) nb1 _).far (p := ⟨g, a * 3 + 2, none⟩) nb1 _))
  have BX := Lib.hid (show Below B1 w X by rw [hX]; exact ((((Below.refl B1 w).setCell (p := ⟨g, a * 3, none⟩) hB1g _).setCell (p := ⟨g, a * 3 + 1, none⟩) hB1g _).setCell (p := ⟨g, a * 3 + 2, none⟩) hB1g _).drew)
  have hzX : B0 ≤ X.heap.size := by rw [hX]; have := HD.out; simp; omega
  have hBX : B1 ≤ X.heap.size := by have := HD.out; omega
  have hB1B : B1 ≤ Br := HD.out.2.2.2.2.1
  have hB10 : B1 ≤ B0 := by have := HD.out; omega
  rw [← hX]
  clear hX y0 y1 y2 b0 b1 z0 z1 z2 x0 x1 x2 r0 r1 q0 q1 d0 d1
  have d0 := CX.out.cell 0
  have d1 := CX.out.cell 1
  have y1 := YX.out.cell 1
  have y2 := YX.out.cell 2
  have r0 := RX.out.cell 0
  have r1 := RX.out.cell 1
  have q0 := RX.out.frz 0
  have q1 := RX.out.frz 1
  go_wp2_with (go_at_call 23; refine (rsend_any n B0 g c c' A' (M.setC s a (M.v3 2 e2 (s.c a 2 + 1))) 1 ((a : Int)) (e2) _ AX.out MX.out (by first | assumption | omega) (by first | assumption | omega) (by omega)).mono ?_; rintro e w9 ⟨A9, c9, rfl, a9, m9, g9⟩; have A9' := Lib.hid a9; have M9 := Lib.hid m9; have G9 := Lib.hid g9; have R9 := Lib.hid (Blk.grown_own RX.out MX.out (by decide) g9); have t0 := R9.out.cell 0; have t1 := R9.out.cell 1; have t2 := R9.out.frz 0; have t3 := R9.out.frz 1; clear a9 m9 g9 r0 r1 q0 q1)
  exact app_some rfl rfl R9.out A9'.out M9.out (BX.out.grown G9.out hBX (fun q hq => Nat.le_trans hB10 (MX.out.block hq).1)) hB1B
set_option maxRecDepth 100000 in
set_option maxHeartbeats 6400000 in
theorem app_3b {v0 v1 v9 v10 v11 v12 v13 v14 v15 v16 v17 v18 v19 v20 v21 v22 v23 v24 v25 v26 v27 v28 v29 v30 v31 v32 v33 v34 v35 v36 v37 v38 v39 v40 v41 v42 v43 v44 v45 v46 v47 v48 v49 v50 v51 v52 v53 v54 v55 v56 v57 v58 v59 v60 v61 v62 v63 v64 v65 v66 v67 v68 v69 v70 v71 v72 v73 v74 v75 v76 v77 v78 v79 v80 v81 v82 v83 v84 v85 v86 v87 v88 v89 v90 v91 v92 v93 v94 v95 v96 v97 v98 v99 v100 v101 v102 v103 v104 v105 v106 v107 v108 v109 v110 v111 v112 v113 v114 v115 v116 v117 v118 v119 v120 v121 v122 v123 v124 v125 v126 v127 v128 v129 v130 v131 v132 v133 v134 v135 v136 v137 v138 v139 v140 v141 v142 v143 v144 v145 v146 v147 v148 v149 v150 v151 v152 v153 v154 v155 v156 v157 v158 v159 v160 v161 v162 v163 v164 v165 v166 v167 v168 v169 v170 v171 v172 v173 v174 v175 v176 v177 v178 v179 v180 v181 v182 v183 v184 v185 v186 v187 v188 v189 v190 v191 v192 v193 v194 v195 v196 v197 v198 v199 v200 v201 v202 v203 v204 v205 v206 v207 v208 v209 : Value} (hA : Own w B0 51 3 (.slice (some ⟨g, 0, none⟩) n c) n (ints2 s.c)) (hM : Own w B0 54 4 (.slice A' s.k c') s.k (ints2 s.m)) (hb : Blk w Bb 31 #[.slice Q n qc, .slice Q' s.k qc']) (he : Blk w Be 38 #[.int .i64 e0, .int .i64 e1, .int .i64 e2]) (hr : Blk w Br 31 #[.slice none 0 0, .slice none 0 0]) (h6 : Blk w B6 31 #[.slice (some ⟨g, 0, none⟩) n c, .slice A' s.k c']) (hd : Bb < B0 ∧ Be < B0 ∧ Br < B0 ∧ B0 ≤ B6 ∧ B1 ≤ Br ∧ B0 ≤ w.heap.size) (hwf : M.Wf n s)
    (a : Nat) (ht : t = some (M.drop s a)) (hk : e0 = 3) (h2 : e2 = 0) (ha : a < s.k) (him : im = true) (ha1 : e1 = (a : Int)) :
    Code.wp Tryd.prog (restAt Tryd.f9 4) (bodyPost Tryd.prog Tryd.f9 (AppR n B1 B0 (.agg #[.slice Q n qc, .slice Q' s.k qc']) t w)) { tmps := List.toArray (v0 :: v1 :: .pointer (some ⟨Bb, 0, none⟩) :: .pointer (some ⟨Be, 0, none⟩) :: .pointer (some ⟨Br, 0, none⟩) :: .bool false :: .pointer (some ⟨B6, 0, none⟩) :: .bool ic :: .bool im :: v9 :: v10 :: v11 :: v12 :: v13 :: v14 :: v15 :: v16 :: v17 :: v18 :: v19 :: v20 :: v21 :: v22 :: v23 :: v24 :: v25 :: v26 :: v27 :: v28 :: v29 :: v30 :: v31 :: v32 :: v33 :: v34 :: v35 :: v36 :: v37 :: v38 :: v39 :: v40 :: v41 :: v42 :: v43 :: v44 :: v45 :: v46 :: v47 :: v48 :: v49 :: v50 :: v51 :: v52 :: v53 :: v54 :: v55 :: v56 :: v57 :: v58 :: v59 :: v60 :: v61 :: v62 :: v63 :: v64 :: v65 :: v66 :: v67 :: v68 :: v69 :: v70 :: v71 :: v72 :: v73 :: v74 :: v75 :: v76 :: v77 :: v78 :: v79 :: v80 :: v81 :: v82 :: v83 :: v84 :: v85 :: v86 :: v87 :: v88 :: v89 :: v90 :: v91 :: v92 :: v93 :: v94 :: v95 :: v96 :: v97 :: v98 :: v99 :: v100 :: v101 :: v102 :: v103 :: v104 :: v105 :: v106 :: v107 :: v108 :: v109 :: v110 :: v111 :: v112 :: v113 :: v114 :: v115 :: v116 :: v117 :: v118 :: v119 :: v120 :: v121 :: v122 :: v123 :: v124 :: v125 :: v126 :: v127 :: v128 :: v129 :: v130 :: v131 :: v132 :: v133 :: v134 :: v135 :: v136 :: v137 :: v138 :: v139 :: v140 :: v141 :: v142 :: v143 :: v144 :: v145 :: v146 :: v147 :: v148 :: v149 :: v150 :: v151 :: v152 :: v153 :: v154 :: v155 :: v156 :: v157 :: v158 :: v159 :: v160 :: v161 :: v162 :: v163 :: v164 :: v165 :: v166 :: v167 :: v168 :: v169 :: v170 :: v171 :: v172 :: v173 :: v174 :: v175 :: v176 :: v177 :: v178 :: v179 :: v180 :: v181 :: v182 :: v183 :: v184 :: v185 :: v186 :: v187 :: v188 :: v189 :: v190 :: v191 :: v192 :: v193 :: v194 :: v195 :: v196 :: v197 :: v198 :: v199 :: v200 :: v201 :: v202 :: v203 :: v204 :: v205 :: v206 :: v207 :: v208 :: v209 :: []), defers := [] } w := by
  have b0 := hb.cell 0
  have b1 := hb.cell 1
  have y0 := he.cell 0
  have y1 := he.cell 1
  have y2 := he.cell 2
  have r0 := hr.cell 0
  have r1 := hr.cell 1
  have q0 := hr.frz 0
  have q1 := hr.frz 1
  have d0 := h6.cell 0
  have d1 := h6.cell 1
  have HA := Lib.hid hA
  have HM := Lib.hid hM
  have HB := Lib.hid hb
  have HE := Lib.hid he
  have HR := Lib.hid hr
  have H6 := Lib.hid h6
  have HD := Lib.hid hd
  have HW := Lib.hid hwf
  have hgw : g < w.heap.size := (hA.block rfl).2
  have lb := hb.lt
  have le := he.lt
  have lr := hr.lt
  have l6 := h6.lt
  have hk6 : s.k ≤ 6 := hwf.k6
  clear hA hM hb he hr h6 hd hwf
  have HT := Lib.hid ht
  have n1 : (e0 != 1) = true := by rw [hk]; decide
  have a1 : (e0 == 1) = false := by rw [hk]; decide
  have a2 : (e0 == 2) = false := by rw [hk]; decide
  have a3 : (e0 == 3) = true := by rw [hk]; decide
  have a4 : (e0 == 4) = false := by rw [hk]; decide
  have a5 : (e0 == 5) = false := by rw [hk]; decide
  have nb : (e2 != 0) = false := by rw [h2]; decide
  subst him
  have hz := HM.out.room
  obtain ⟨h, hc, ee⟩ := HM.out.nz (show 0 < s.k by omega)
  injection ee with ee1 _ ee3
  subst ee1; subst ee3
  have hhw : h < w.heap.size := (HM.out.block rfl).2
  have m0 := HM.out.cell (i := a) (j := 0) ha (by omega)
  have m1 := HM.out.cell (i := a) (j := 1) ha (by omega)
  have m2 := HM.out.cell (i := a) (j := 2) ha (by omega)
  have m3 := HM.out.cell (i := a) (j := 3) ha (by omega)
  rw [Nat.add_zero] at m0
  have ix : decide (s.k ≤ a) = false := decide_eq_false (by omega)
  have RM := Lib.hid HM.out.rdI
  subst ha1
  clear ht hk h2
  conv in restAt _ _ => whnf
  rw [HT.out]
  have hB1B : B1 ≤ Br := HD.out.2.2.2.2.1
  have hB10 : B1 ≤ B0 := by have := HD.out; omega
  have hBw : B0 ≤ w.heap.size := HD.out.2.2.2.2.2
  have hB16 : B1 ≤ B6 := by have := HD.out; omega
  have nr6 : Br ≠ B6 := by have := HD.out; omega
  go_upto_region 22 with (go_at_call 24; go_must (refine (without_any h s.k c' a w.heap.size s _ ha rfl hk6 hz RM.out (by first | exact Nat.le_refl _ | (simp; done) | (simp; omega)) hhw).mono ?_; rintro e w5 ⟨A5, c5, rfl, o5, hb5⟩; have W5 := Lib.hid (show Own w5 B0 54 4 (.slice A5 (s.k - 1) c5) (s.k - 1) (ints2 (M.drop s a).m) from o5.less (by first | assumption | (simp; done) | (simp; omega) | omega)); have A6 := Lib.hid ((HA.out).below hb5); have B5 := Lib.hid hb5; have C5 := Lib.hid ((H6.out).below' hb5); have R5 := Lib.hid ((HR.out).below' hb5); have E5 := Lib.hid ((HE.out).below' hb5); have d2 := C5.out.cell 0; have d3 := C5.out.cell 1; have d4 := C5.out.frz 1; have t0 := R5.out.cell 0; have t1 := R5.out.cell 1; have t2 := R5.out.frz 0; have t3 := R5.out.frz 1; have y5 := E5.out.cell 1; have hz5 := hb5.size; (try simp at hz5); clear o5 hb5 r0 r1 q0 q1 d0 d1 y0 y1 y2 b0 b1 m0 m1 m2 m3))
  have R7 := Lib.hid (R5.out.far (p := ⟨B6, 1, none⟩) nr6 (.slice A5 (s.k - 1) c5))
  have C7 := Lib.hid (C5.out.set_ 1 (.slice A5 (s.k - 1) c5))
  have x0 := R7.out.cell 0
  have x1 := R7.out.cell 1
  have x2 := R7.out.frz 0
  have x3 := R7.out.frz 1
  have x4 := C7.out.cell 0
  have x5 := C7.out.cell 1
  go_wp2_with fail
  exact app_some (t := M.drop s a) rfl rfl R7.out (A6.out.setCell (p := ⟨B6, 1, none⟩) (A6.out.ne_blk C5.out (by decide)) _) (W5.out.setCell (p := ⟨B6, 1, none⟩) (W5.out.ne_blk C5.out (by decide)) _) (((Below.refl B1 w).trans (B5.out.mono (by omega))).setCell (p := ⟨B6, 1, none⟩) hB16 _) hB1B
set_option maxRecDepth 100000 in
set_option maxHeartbeats 6400000 in
theorem app_4c {v0 v1 v9 v10 v11 v12 v13 v14 v15 v16 v17 v18 v19 v20 v21 v22 v23 v24 v25 v26 v27 v28 v29 v30 v31 v32 v33 v34 v35 v36 v37 v38 v39 v40 v41 v42 v43 v44 v45 v46 v47 v48 v49 v50 v51 v52 v53 v54 v55 v56 v57 v58 v59 v60 v61 v62 v63 v64 v65 v66 v67 v68 v69 v70 v71 v72 v73 v74 v75 v76 v77 v78 v79 v80 v81 v82 v83 v84 v85 v86 v87 v88 v89 v90 v91 v92 v93 v94 v95 v96 v97 v98 v99 v100 v101 v102 v103 v104 v105 v106 v107 v108 v109 v110 v111 v112 v113 v114 v115 v116 v117 v118 v119 v120 v121 v122 v123 v124 v125 v126 v127 v128 v129 v130 v131 v132 v133 v134 v135 v136 v137 v138 v139 v140 v141 v142 v143 v144 v145 v146 v147 v148 v149 v150 v151 v152 v153 v154 v155 v156 v157 v158 v159 v160 v161 v162 v163 v164 v165 v166 v167 v168 v169 v170 v171 v172 v173 v174 v175 v176 v177 v178 v179 v180 v181 v182 v183 v184 v185 v186 v187 v188 v189 v190 v191 v192 v193 v194 v195 v196 v197 v198 v199 v200 v201 v202 v203 v204 v205 v206 v207 v208 v209 : Value} (hA : Own w B0 51 3 (.slice (some ⟨g, 0, none⟩) n c) n (ints2 s.c)) (hM : Own w B0 54 4 (.slice A' s.k c') s.k (ints2 s.m)) (hb : Blk w Bb 31 #[.slice Q n qc, .slice Q' s.k qc']) (he : Blk w Be 38 #[.int .i64 e0, .int .i64 e1, .int .i64 e2]) (hr : Blk w Br 31 #[.slice none 0 0, .slice none 0 0]) (h6 : Blk w B6 31 #[.slice (some ⟨g, 0, none⟩) n c, .slice A' s.k c']) (hd : Bb < B0 ∧ Be < B0 ∧ Br < B0 ∧ B0 ≤ B6 ∧ B1 ≤ Br ∧ B0 ≤ w.heap.size) (hwf : M.Wf n s)
    (a : Nat) (ht : t = some (M.add s (s.m a))) (hk : e0 = 4) (h2 : e2 = 0) (ha : a < s.k) (him : im = true) (ha1 : e1 = (a : Int)) (l3 : s.k < 6) :
    Code.wp Tryd.prog (restAt Tryd.f9 4) (bodyPost Tryd.prog Tryd.f9 (AppR n B1 B0 (.agg #[.slice Q n qc, .slice Q' s.k qc']) t w)) { tmps := List.toArray (v0 :: v1 :: .pointer (some ⟨Bb, 0, none⟩) :: .pointer (some ⟨Be, 0, none⟩) :: .pointer (some ⟨Br, 0, none⟩) :: .bool false :: .pointer (some ⟨B6, 0, none⟩) :: .bool ic :: .bool im :: v9 :: v10 :: v11 :: v12 :: v13 :: v14 :: v15 :: v16 :: v17 :: v18 :: v19 :: v20 :: v21 :: v22 :: v23 :: v24 :: v25 :: v26 :: v27 :: v28 :: v29 :: v30 :: v31 :: v32 :: v33 :: v34 :: v35 :: v36 :: v37 :: v38 :: v39 :: v40 :: v41 :: v42 :: v43 :: v44 :: v45 :: v46 :: v47 :: v48 :: v49 :: v50 :: v51 :: v52 :: v53 :: v54 :: v55 :: v56 :: v57 :: v58 :: v59 :: v60 :: v61 :: v62 :: v63 :: v64 :: v65 :: v66 :: v67 :: v68 :: v69 :: v70 :: v71 :: v72 :: v73 :: v74 :: v75 :: v76 :: v77 :: v78 :: v79 :: v80 :: v81 :: v82 :: v83 :: v84 :: v85 :: v86 :: v87 :: v88 :: v89 :: v90 :: v91 :: v92 :: v93 :: v94 :: v95 :: v96 :: v97 :: v98 :: v99 :: v100 :: v101 :: v102 :: v103 :: v104 :: v105 :: v106 :: v107 :: v108 :: v109 :: v110 :: v111 :: v112 :: v113 :: v114 :: v115 :: v116 :: v117 :: v118 :: v119 :: v120 :: v121 :: v122 :: v123 :: v124 :: v125 :: v126 :: v127 :: v128 :: v129 :: v130 :: v131 :: v132 :: v133 :: v134 :: v135 :: v136 :: v137 :: v138 :: v139 :: v140 :: v141 :: v142 :: v143 :: v144 :: v145 :: v146 :: v147 :: v148 :: v149 :: v150 :: v151 :: v152 :: v153 :: v154 :: v155 :: v156 :: v157 :: v158 :: v159 :: v160 :: v161 :: v162 :: v163 :: v164 :: v165 :: v166 :: v167 :: v168 :: v169 :: v170 :: v171 :: v172 :: v173 :: v174 :: v175 :: v176 :: v177 :: v178 :: v179 :: v180 :: v181 :: v182 :: v183 :: v184 :: v185 :: v186 :: v187 :: v188 :: v189 :: v190 :: v191 :: v192 :: v193 :: v194 :: v195 :: v196 :: v197 :: v198 :: v199 :: v200 :: v201 :: v202 :: v203 :: v204 :: v205 :: v206 :: v207 :: v208 :: v209 :: []), defers := [] } w := by
  have b0 := hb.cell 0
  have b1 := hb.cell 1
  have y0 := he.cell 0
  have y1 := he.cell 1
  have y2 := he.cell 2
  have r0 := hr.cell 0
  have r1 := hr.cell 1
  have q0 := hr.frz 0
  have q1 := hr.frz 1
  have d0 := h6.cell 0
  have d1 := h6.cell 1
  have HA := Lib.hid hA
  have HM := Lib.hid hM
  have HB := Lib.hid hb
  have HE := Lib.hid he
  have HR := Lib.hid hr
  have H6 := Lib.hid h6
  have HD := Lib.hid hd
  have HW := Lib.hid hwf
  have hgw : g < w.heap.size := (hA.block rfl).2
  have lb := hb.lt
  have le := he.lt
  have lr := hr.lt
  have l6 := h6.lt
  have hk6 : s.k ≤ 6 := hwf.k6
  clear hA hM hb he hr h6 hd hwf
  have HT := Lib.hid ht
  have n1 : (e0 != 1) = true := by rw [hk]; decide
  have a1 : (e0 == 1) = false := by rw [hk]; decide
  have a2 : (e0 == 2) = false := by rw [hk]; decide
  have a3 : (e0 == 3) = false := by rw [hk]; decide
  have a4 : (e0 == 4) = true := by rw [hk]; decide
  have a5 : (e0 == 5) = false := by rw [hk]; decide
  have nb : (e2 != 0) = false := by rw [h2]; decide
  subst him
  have hz := HM.out.room
  obtain ⟨h, hc, ee⟩ := HM.out.nz (show 0 < s.k by omega)
  injection ee with ee1 _ ee3
  subst ee1; subst ee3
  have hhw : h < w.heap.size := (HM.out.block rfl).2
  have m0 := HM.out.cell (i := a) (j := 0) ha (by omega)
  have m1 := HM.out.cell (i := a) (j := 1) ha (by omega)
  have m2 := HM.out.cell (i := a) (j := 2) ha (by omega)
  have m3 := HM.out.cell (i := a) (j := 3) ha (by omega)
  rw [Nat.add_zero] at m0
  have ix : decide (s.k ≤ a) = false := decide_eq_false (by omega)
  have RM := Lib.hid HM.out.rdI
  have fl3 : decide ((6 : Int) ≤ (s.k : Int)) = false := decide_eq_false (by omega)
  have fl4 : decide (6 ≤ s.k) = false := decide_eq_false (by omega)
  subst ha1
  clear ht hk h2
  conv in restAt _ _ => whnf
  rw [HT.out]
  have hB1B : B1 ≤ Br := HD.out.2.2.2.2.1
  have hB10 : B1 ≤ B0 := by have := HD.out; omega
  have hBw : B0 ≤ w.heap.size := HD.out.2.2.2.2.2
  have hB16 : B1 ≤ B6 := by have := HD.out; omega
  have nr6 : Br ≠ B6 := by have := HD.out; omega
  have hBB : B1 ≤ w.heap.size := by omega
  have hBew : Be < w.heap.size := HE.out.lt
  have ne6 : Be ≠ B6 := by have := HD.out; omega
  obtain ⟨si, hi, hz0, hz1, hz2⟩ := info_parts msg_info3
  have SI := Lib.hid (And.intro hi (And.intro hz0 (And.intro hz1 hz2)))
  clear hi hz0 hz1 hz2
  go_upto_region 26 with fail
  have r6 := Lib.hid (show w.cell? ⟨B6, 1, none⟩ = some (.slice (some ⟨h, 0, none⟩) s.k c') from H6.out.cell 1)
  refine wp_region_T 9 (fun w' => w'.cell? ⟨B6, 1, none⟩ = some (.slice (some ⟨h, 0, none⟩) s.k c') ∧ w'.cell? ⟨Be, 1, none⟩ = some (.int .i64 (a : Int)) ∧ w'.cell? ⟨h, a * 4, none⟩ = some (.int .i64 (s.m a 0)) ∧ w'.cell? ⟨h, a * 4 + 1, none⟩ = some (.int .i64 (s.m a 1)) ∧ w'.cell? ⟨h, a * 4 + 2, none⟩ = some (.int .i64 (s.m a 2)) ∧ w'.cell? ⟨h, a * 4 + 3, none⟩ = some (.int .i64 (s.m a 3))) (by kernel_rfl) ⟨r6.out, y1, m0, m1, m2, m3⟩ ?_
  intro hS
  have hzw : ∀ o : Obj, Below w.heap.size w ((w.alloc o).drew) := fun o => (belowAlloc w o).drew
  refine wpAnyT_take (i := 0) (v := ?_) rfl (by kernel_rfl) (by kernel_rfl) (by kernel_rfl) (by kernel_rfl) (by kernel_rfl) (fun _ _ _ h => h) (.inl ⟨by rfl, ?_⟩) hS ?_
  rotate_left
  · (intro w hw; obtain ⟨h1, h2, h3, h4, h5, h6⟩ := hw; go_simp; try with_reducible rfl)
  try simp only [Act.put, List.setIfInBounds_toArray, List.set_cons_zero, List.set_cons_succ]
  refine wpAnyT_take (i := 1) (v := ?_) rfl (by kernel_rfl) (by kernel_rfl) (by kernel_rfl) (by kernel_rfl) (by kernel_rfl) (fun _ _ _ h => h) (.inl ⟨by rfl, ?_⟩) hS ?_
  rotate_left
  · (intro w hw; obtain ⟨h1, h2, h3, h4, h5, h6⟩ := hw; go_simp; try with_reducible rfl)
  try simp only [Act.put, List.setIfInBounds_toArray, List.set_cons_zero, List.set_cons_succ]
  refine wpAnyT_take (i := 2) (v := ?_) rfl (by kernel_rfl) (by kernel_rfl) (by kernel_rfl) (by kernel_rfl) (by kernel_rfl) (fun _ _ _ h => h) (.inl ⟨by rfl, ?_⟩) hS ?_
  rotate_left
  · (intro w hw; obtain ⟨h1, h2, h3, h4, h5, h6⟩ := hw; go_simp; try with_reducible rfl)
  try simp only [Act.put, List.setIfInBounds_toArray, List.set_cons_zero, List.set_cons_succ]
  refine wpAnyT_take (i := 3) (v := ?_) rfl (by kernel_rfl) (by kernel_rfl) (by kernel_rfl) (by kernel_rfl) (by kernel_rfl) (fun _ _ _ h => h) (.inl ⟨by rfl, ?_⟩) hS ?_
  rotate_left
  · (intro w hw; obtain ⟨h1, h2, h3, h4, h5, h6⟩ := hw; go_simp; try with_reducible rfl)
  try simp only [Act.put, List.setIfInBounds_toArray, List.set_cons_zero, List.set_cons_succ]
  refine wpAnyT_take (i := 4) (v := ?_) rfl (by kernel_rfl) (by kernel_rfl) (by kernel_rfl) (by kernel_rfl) (by kernel_rfl) (fun _ _ _ h => h) (.inl ⟨by rfl, ?_⟩) hS ?_
  rotate_left
  · (intro w hw; obtain ⟨h1, h2, h3, h4, h5, h6⟩ := hw; go_simp; try with_reducible rfl)
  try simp only [Act.put, List.setIfInBounds_toArray, List.set_cons_zero, List.set_cons_succ]
  refine wpAnyT_take (i := 5) (v := ?_) rfl (by kernel_rfl) (by kernel_rfl) (by kernel_rfl) (by kernel_rfl) (by kernel_rfl) (fun _ _ _ h => h) (.inl ⟨by rfl, ?_⟩) hS ?_
  rotate_left
  · (intro w hw; obtain ⟨h1, h2, h3, h4, h5, h6⟩ := hw; go_simp; try with_reducible rfl)
  try simp only [Act.put, List.setIfInBounds_toArray, List.set_cons_zero, List.set_cons_succ]
  refine wpAnyT_take (i := 6) (v := ?_) rfl (by kernel_rfl) (by kernel_rfl) (by kernel_rfl) (by kernel_rfl) (by kernel_rfl) (fun _ _ _ h => h) (.inl ⟨by rfl, ?_⟩) hS ?_
  rotate_left
  · (intro w hw; obtain ⟨h1, h2, h3, h4, h5, h6⟩ := hw; go_simp; try with_reducible rfl)
  try simp only [Act.put, List.setIfInBounds_toArray, List.set_cons_zero, List.set_cons_succ]
  refine wpAnyT_take (i := 7) (v := ?_) rfl (by kernel_rfl) (by kernel_rfl) (by kernel_rfl) (by kernel_rfl) (by kernel_rfl) (fun _ _ _ h => h) (.inl ⟨by rfl, ?_⟩) hS ?_
  rotate_left
  · (intro w hw; obtain ⟨h1, h2, h3, h4, h5, h6⟩ := hw; go_simp; try with_reducible rfl)
  try simp only [Act.put, List.setIfInBounds_toArray, List.set_cons_zero, List.set_cons_succ]
  refine wpAnyT_one (i := 8) (by kernel_rfl) rfl ?_
  intro K hK
  go_simp
  refine hK.out _ _ (.inr ⟨((hzw _).cell l6).trans r6.out, ((hzw _).cell hBew).trans y1, ((hzw _).cell hhw).trans m0, ((hzw _).cell hhw).trans m1, ((hzw _).cell hhw).trans m2, ((hzw _).cell hhw).trans m3⟩) ?_
  clear hK K hS
  have KA := Lib.hid (KeptE.alloc_drew (KeptE.start y1) hBB (o := .cells #[.int .i64 (s.m a 0), .int .i64 (s.m a 1), .int .i64 (s.m a 2), .int .i64 (s.m a 3)] 54))
  refine wpAnyT_one (i := 9) (by kernel_rfl) rfl ?_
  intro K hK
  refine step_cat (by rfl) (.tmp 163) (.tmp 170) 29 (by rfl) 54 si _ 4 32 Tryd.underlying29 SI.out.1 SI.out.2.1 SI.out.2.2.1 SI.out.2.2.2 rfl (by omega) (by omega) (by rfl) (HM.out.alloc _).drew (by omega) (by simp; omega) (k := 1) (G := ints2 fun _ => s.m a) (fun _ _ => rfl) (by rfl) (rdV_blk (blk_dr.2 (Blk.new w 54 #[.int .i64 (s.m a 0), .int .i64 (s.m a 1), .int .i64 (s.m a 2), .int .i64 (s.m a 3)])) (fun i j hi hj => by obtain rfl : i = 0 := (by omega); obtain rfl | rfl | rfl | rfl : j = 0 ∨ j = 1 ∨ j = 2 ∨ j = 3 := (by omega); all_goals rfl)) (by omega) ?_
  intro v' w4 ho2 hg2 hat
  obtain ⟨A4, d4, rfl⟩ := ho2.form
  have hS2 := KeptE.grown (w := w) (B1 := B1) (Be := Be) (x := .int .i64 (a : Int)) KA.out hg2 hBB (fun q hq => by have h := (HM.out.block hq).1; have := HD.out; omega) (by simp; omega)
  have M6 := Lib.hid (Blk.grown_own (blk_dr.2 (H6.out.alloc _)) ((HM.out.alloc _).drew) (by decide) hg2)
  have MR := Lib.hid (Blk.grown_own (blk_dr.2 (HR.out.alloc _)) ((HM.out.alloc _).drew) (by decide) hg2)
  have OC := Lib.hid (Own.apart_grown ((HA.out.alloc _).drew) (u := .slice (some ⟨h, 0, none⟩) s.k c') (Own.apart_type HM.out HA.out (by decide)) hg2)
  have HO2 := Lib.hid ho2
  have p1 := M6.out.cell 1
  have f1 := M6.out.frz 1
  clear hat ho2 hg2
  refine hK.out _ _ (.inl rfl) ?_
  clear hK K
  try simp only [Act.put, List.setIfInBounds_toArray, List.set_cons_zero, List.set_cons_succ]
  refine wpAnyT_one (i := 10) (by kernel_rfl) rfl ?_
  intro K hK
  go_simp
  refine hK.out _ _ (.inl rfl) ?_
  clear hK K
  refine wpAnyT_one (i := 11) (by kernel_rfl) rfl ?_
  intro K hK
  go_simp
  refine hK.out _ _ (.inl rfl) ?_
  clear hK K
  refine wpAnyT_done (by kernel_rfl) ?_ _
  have HS2 := Lib.hid hS2
  have F6 := Lib.hid (M6.out.set_ 1 (.slice A4 (s.k + 1) d4))
  have FR := Lib.hid (MR.out.far (p := ⟨B6, 1, none⟩) nr6 (.slice A4 (s.k + 1) d4))
  have x0 := F6.out.cell 0
  have x1 := F6.out.cell 1
  have x2 := FR.out.cell 0
  have x3 := FR.out.cell 1
  have x4 := FR.out.frz 0
  have x5 := FR.out.frz 1
  clear p1 f1 hS2 d0 d1 r0 r1 q0 q1 y0 y1 y2 b0 b1 m0 m1 m2 m3
  go_wp2_with fail
  exact app_some (t := M.add s (s.m a)) rfl rfl FR.out (OC.out.setCell (p := ⟨B6, 1, none⟩) (OC.out.ne_blk M6.out (by decide)) _) ((HO2.out.setCell (p := ⟨B6, 1, none⟩) (HO2.out.ne_blk M6.out (by decide)) _).congr (cat_add s (s.m a))) (HS2.out.2.setCell (p := ⟨B6, 1, none⟩) hB16 _) hB1B
end
end Go.Proofs.YtfnfjmjejffjiaaDoor
/- The reference's Apply: where it does something. -/
namespace Go.Proofs.YtfnfjmjejffjiaaDoor
open Go.RowKit

section
variable (n B1 B0 g c c' Bb Be Br B6 qc qc' : Nat) (A' Q Q' : Option Addr) (s : M.St) (e0 e1 e2 : Int) (ic im : Bool) (w : World) (t : Option M.St)
set_option maxRecDepth 100000 in
set_option maxHeartbeats 6400000 in
theorem app_5c {v0 v1 v9 v10 v11 v12 v13 v14 v15 v16 v17 v18 v19 v20 v21 v22 v23 v24 v25 v26 v27 v28 v29 v30 v31 v32 v33 v34 v35 v36 v37 v38 v39 v40 v41 v42 v43 v44 v45 v46 v47 v48 v49 v50 v51 v52 v53 v54 v55 v56 v57 v58 v59 v60 v61 v62 v63 v64 v65 v66 v67 v68 v69 v70 v71 v72 v73 v74 v75 v76 v77 v78 v79 v80 v81 v82 v83 v84 v85 v86 v87 v88 v89 v90 v91 v92 v93 v94 v95 v96 v97 v98 v99 v100 v101 v102 v103 v104 v105 v106 v107 v108 v109 v110 v111 v112 v113 v114 v115 v116 v117 v118 v119 v120 v121 v122 v123 v124 v125 v126 v127 v128 v129 v130 v131 v132 v133 v134 v135 v136 v137 v138 v139 v140 v141 v142 v143 v144 v145 v146 v147 v148 v149 v150 v151 v152 v153 v154 v155 v156 v157 v158 v159 v160 v161 v162 v163 v164 v165 v166 v167 v168 v169 v170 v171 v172 v173 v174 v175 v176 v177 v178 v179 v180 v181 v182 v183 v184 v185 v186 v187 v188 v189 v190 v191 v192 v193 v194 v195 v196 v197 v198 v199 v200 v201 v202 v203 v204 v205 v206 v207 v208 v209 : Value} (hA : Own w B0 51 3 (.slice (some ⟨g, 0, none⟩) n c) n (ints2 s.c)) (hM : Own w B0 54 4 (.slice A' s.k c') s.k (ints2 s.m)) (hb : Blk w Bb 31 #[.slice Q n qc, .slice Q' s.k qc']) (he : Blk w Be 38 #[.int .i64 e0, .int .i64 e1, .int .i64 e2]) (hr : Blk w Br 31 #[.slice none 0 0, .slice none 0 0]) (h6 : Blk w B6 31 #[.slice (some ⟨g, 0, none⟩) n c, .slice A' s.k c']) (hd : Bb < B0 ∧ Be < B0 ∧ Br < B0 ∧ B0 ≤ B6 ∧ B1 ≤ Br ∧ B0 ≤ w.heap.size) (hwf : M.Wf n s)
    (a : Nat) (ht : t = some (M.send s 1 (a : Int) (s.c a 1))) (hk : e0 = 5) (h2 : e2 = 0) (ha : a < n) (hic : ic = true) (ha1 : e1 = (a : Int)) (l3 : s.k < 6) (c0 : s.c a 0 = 2) :
    Code.wp Tryd.prog (restAt Tryd.f9 4) (bodyPost Tryd.prog Tryd.f9 (AppR n B1 B0 (.agg #[.slice Q n qc, .slice Q' s.k qc']) t w)) { tmps := List.toArray (v0 :: v1 :: .pointer (some ⟨Bb, 0, none⟩) :: .pointer (some ⟨Be, 0, none⟩) :: .pointer (some ⟨Br, 0, none⟩) :: .bool false :: .pointer (some ⟨B6, 0, none⟩) :: .bool ic :: .bool im :: v9 :: v10 :: v11 :: v12 :: v13 :: v14 :: v15 :: v16 :: v17 :: v18 :: v19 :: v20 :: v21 :: v22 :: v23 :: v24 :: v25 :: v26 :: v27 :: v28 :: v29 :: v30 :: v31 :: v32 :: v33 :: v34 :: v35 :: v36 :: v37 :: v38 :: v39 :: v40 :: v41 :: v42 :: v43 :: v44 :: v45 :: v46 :: v47 :: v48 :: v49 :: v50 :: v51 :: v52 :: v53 :: v54 :: v55 :: v56 :: v57 :: v58 :: v59 :: v60 :: v61 :: v62 :: v63 :: v64 :: v65 :: v66 :: v67 :: v68 :: v69 :: v70 :: v71 :: v72 :: v73 :: v74 :: v75 :: v76 :: v77 :: v78 :: v79 :: v80 :: v81 :: v82 :: v83 :: v84 :: v85 :: v86 :: v87 :: v88 :: v89 :: v90 :: v91 :: v92 :: v93 :: v94 :: v95 :: v96 :: v97 :: v98 :: v99 :: v100 :: v101 :: v102 :: v103 :: v104 :: v105 :: v106 :: v107 :: v108 :: v109 :: v110 :: v111 :: v112 :: v113 :: v114 :: v115 :: v116 :: v117 :: v118 :: v119 :: v120 :: v121 :: v122 :: v123 :: v124 :: v125 :: v126 :: v127 :: v128 :: v129 :: v130 :: v131 :: v132 :: v133 :: v134 :: v135 :: v136 :: v137 :: v138 :: v139 :: v140 :: v141 :: v142 :: v143 :: v144 :: v145 :: v146 :: v147 :: v148 :: v149 :: v150 :: v151 :: v152 :: v153 :: v154 :: v155 :: v156 :: v157 :: v158 :: v159 :: v160 :: v161 :: v162 :: v163 :: v164 :: v165 :: v166 :: v167 :: v168 :: v169 :: v170 :: v171 :: v172 :: v173 :: v174 :: v175 :: v176 :: v177 :: v178 :: v179 :: v180 :: v181 :: v182 :: v183 :: v184 :: v185 :: v186 :: v187 :: v188 :: v189 :: v190 :: v191 :: v192 :: v193 :: v194 :: v195 :: v196 :: v197 :: v198 :: v199 :: v200 :: v201 :: v202 :: v203 :: v204 :: v205 :: v206 :: v207 :: v208 :: v209 :: []), defers := [] } w := by
  have b0 := hb.cell 0
  have b1 := hb.cell 1
  have y0 := he.cell 0
  have y1 := he.cell 1
  have y2 := he.cell 2
  have r0 := hr.cell 0
  have r1 := hr.cell 1
  have q0 := hr.frz 0
  have q1 := hr.frz 1
  have d0 := h6.cell 0
  have d1 := h6.cell 1
  have HA := Lib.hid hA
  have HM := Lib.hid hM
  have HB := Lib.hid hb
  have HE := Lib.hid he
  have HR := Lib.hid hr
  have H6 := Lib.hid h6
  have HD := Lib.hid hd
  have HW := Lib.hid hwf
  have hgw : g < w.heap.size := (hA.block rfl).2
  have lb := hb.lt
  have le := he.lt
  have lr := hr.lt
  have l6 := h6.lt
  have hk6 : s.k ≤ 6 := hwf.k6
  clear hA hM hb he hr h6 hd hwf
  have HT := Lib.hid ht
  have n1 : (e0 != 1) = true := by rw [hk]; decide
  have a1 : (e0 == 1) = false := by rw [hk]; decide
  have a2 : (e0 == 2) = false := by rw [hk]; decide
  have a3 : (e0 == 3) = false := by rw [hk]; decide
  have a4 : (e0 == 4) = false := by rw [hk]; decide
  have a5 : (e0 == 5) = true := by rw [hk]; decide
  have nb : (e2 != 0) = false := by rw [h2]; decide
  subst hic
  have z0 := HA.out.cell (i := a) (j := 0) ha (by omega)
  have z1 := HA.out.cell (i := a) (j := 1) ha (by omega)
  have z2 := HA.out.cell (i := a) (j := 2) ha (by omega)
  rw [Nat.add_zero] at z0
  have ix : decide (n ≤ a) = false := decide_eq_false (by omega)
  have fl3 : decide ((6 : Int) ≤ (s.k : Int)) = false := decide_eq_false (by omega)
  have fl4 : decide (6 ≤ s.k) = false := decide_eq_false (by omega)
  have g2 : (s.c a 0 == 2) = true := by rw [c0]; decide
  have g3 : (s.c a 0 == 3) = false := by rw [c0]; decide
  subst ha1
  clear ht hk h2 c0
  conv in restAt _ _ => whnf
  rw [HT.out]
  have AX := HA
  have MX := HM
  have RX := HR
  have hB1B : B1 ≤ Br := HD.out.2.2.2.2.1
  have hB10 : B1 ≤ B0 := by have := HD.out; omega
  have hBw : B0 ≤ w.heap.size := HD.out.2.2.2.2.2
  have AY := Lib.hid (HA.out.alloc (.cells #[.int .i64 (s.c a 0), .int .i64 (s.c a 1), .int .i64 (s.c a 2)] 51))
  have MY := Lib.hid (HM.out.alloc (.cells #[.int .i64 (s.c a 0), .int .i64 (s.c a 1), .int .i64 (s.c a 2)] 51))
  have RY := Lib.hid (HR.out.alloc (.cells #[.int .i64 (s.c a 0), .int .i64 (s.c a 1), .int .i64 (s.c a 2)] 51))
  go_wp2_with (go_at_call 23; refine (rsend_any n B0 g c c' A' (s) 1 ((a : Int)) ((s.c a 1)) _ AY.out MY.out (by first | assumption | (simp; omega) | omega) (by first | assumption | omega) (by omega)).mono ?_; rintro e w9 ⟨A9, c9, rfl, a9, m9, g9⟩; have A9' := Lib.hid a9; have M9 := Lib.hid m9; have G9 := Lib.hid g9; have R9 := Lib.hid (Blk.grown_own RY.out MY.out (by decide) g9); have t0 := R9.out.cell 0; have t1 := R9.out.cell 1; have t2 := R9.out.frz 0; have t3 := R9.out.frz 1; clear a9 m9 g9 r0 r1 q0 q1)
  exact app_some rfl rfl R9.out A9'.out M9.out (((Below.refl B1 w).alloc (by omega) _).grown G9.out (by simp; omega) (fun q hq => Nat.le_trans hB10 (MY.out.block hq).1)) hB1B
set_option maxRecDepth 100000 in
set_option maxHeartbeats 6400000 in
theorem app_5d {v0 v1 v9 v10 v11 v12 v13 v14 v15 v16 v17 v18 v19 v20 v21 v22 v23 v24 v25 v26 v27 v28 v29 v30 v31 v32 v33 v34 v35 v36 v37 v38 v39 v40 v41 v42 v43 v44 v45 v46 v47 v48 v49 v50 v51 v52 v53 v54 v55 v56 v57 v58 v59 v60 v61 v62 v63 v64 v65 v66 v67 v68 v69 v70 v71 v72 v73 v74 v75 v76 v77 v78 v79 v80 v81 v82 v83 v84 v85 v86 v87 v88 v89 v90 v91 v92 v93 v94 v95 v96 v97 v98 v99 v100 v101 v102 v103 v104 v105 v106 v107 v108 v109 v110 v111 v112 v113 v114 v115 v116 v117 v118 v119 v120 v121 v122 v123 v124 v125 v126 v127 v128 v129 v130 v131 v132 v133 v134 v135 v136 v137 v138 v139 v140 v141 v142 v143 v144 v145 v146 v147 v148 v149 v150 v151 v152 v153 v154 v155 v156 v157 v158 v159 v160 v161 v162 v163 v164 v165 v166 v167 v168 v169 v170 v171 v172 v173 v174 v175 v176 v177 v178 v179 v180 v181 v182 v183 v184 v185 v186 v187 v188 v189 v190 v191 v192 v193 v194 v195 v196 v197 v198 v199 v200 v201 v202 v203 v204 v205 v206 v207 v208 v209 : Value} (hA : Own w B0 51 3 (.slice (some ⟨g, 0, none⟩) n c) n (ints2 s.c)) (hM : Own w B0 54 4 (.slice A' s.k c') s.k (ints2 s.m)) (hb : Blk w Bb 31 #[.slice Q n qc, .slice Q' s.k qc']) (he : Blk w Be 38 #[.int .i64 e0, .int .i64 e1, .int .i64 e2]) (hr : Blk w Br 31 #[.slice none 0 0, .slice none 0 0]) (h6 : Blk w B6 31 #[.slice (some ⟨g, 0, none⟩) n c, .slice A' s.k c']) (hd : Bb < B0 ∧ Be < B0 ∧ Br < B0 ∧ B0 ≤ B6 ∧ B1 ≤ Br ∧ B0 ≤ w.heap.size) (hwf : M.Wf n s)
    (a : Nat) (ht : t = some (M.send s 2 (a : Int) (s.c a 1))) (hk : e0 = 5) (h2 : e2 = 0) (ha : a < n) (hic : ic = true) (ha1 : e1 = (a : Int)) (l3 : s.k < 6) (c0 : s.c a 0 = 3) :
    Code.wp Tryd.prog (restAt Tryd.f9 4) (bodyPost Tryd.prog Tryd.f9 (AppR n B1 B0 (.agg #[.slice Q n qc, .slice Q' s.k qc']) t w)) { tmps := List.toArray (v0 :: v1 :: .pointer (some ⟨Bb, 0, none⟩) :: .pointer (some ⟨Be, 0, none⟩) :: .pointer (some ⟨Br, 0, none⟩) :: .bool false :: .pointer (some ⟨B6, 0, none⟩) :: .bool ic :: .bool im :: v9 :: v10 :: v11 :: v12 :: v13 :: v14 :: v15 :: v16 :: v17 :: v18 :: v19 :: v20 :: v21 :: v22 :: v23 :: v24 :: v25 :: v26 :: v27 :: v28 :: v29 :: v30 :: v31 :: v32 :: v33 :: v34 :: v35 :: v36 :: v37 :: v38 :: v39 :: v40 :: v41 :: v42 :: v43 :: v44 :: v45 :: v46 :: v47 :: v48 :: v49 :: v50 :: v51 :: v52 :: v53 :: v54 :: v55 :: v56 :: v57 :: v58 :: v59 :: v60 :: v61 :: v62 :: v63 :: v64 :: v65 :: v66 :: v67 :: v68 :: v69 :: v70 :: v71 :: v72 :: v73 :: v74 :: v75 :: v76 :: v77 :: v78 :: v79 :: v80 :: v81 :: v82 :: v83 :: v84 :: v85 :: v86 :: v87 :: v88 :: v89 :: v90 :: v91 :: v92 :: v93 :: v94 :: v95 :: v96 :: v97 :: v98 :: v99 :: v100 :: v101 :: v102 :: v103 :: v104 :: v105 :: v106 :: v107 :: v108 :: v109 :: v110 :: v111 :: v112 :: v113 :: v114 :: v115 :: v116 :: v117 :: v118 :: v119 :: v120 :: v121 :: v122 :: v123 :: v124 :: v125 :: v126 :: v127 :: v128 :: v129 :: v130 :: v131 :: v132 :: v133 :: v134 :: v135 :: v136 :: v137 :: v138 :: v139 :: v140 :: v141 :: v142 :: v143 :: v144 :: v145 :: v146 :: v147 :: v148 :: v149 :: v150 :: v151 :: v152 :: v153 :: v154 :: v155 :: v156 :: v157 :: v158 :: v159 :: v160 :: v161 :: v162 :: v163 :: v164 :: v165 :: v166 :: v167 :: v168 :: v169 :: v170 :: v171 :: v172 :: v173 :: v174 :: v175 :: v176 :: v177 :: v178 :: v179 :: v180 :: v181 :: v182 :: v183 :: v184 :: v185 :: v186 :: v187 :: v188 :: v189 :: v190 :: v191 :: v192 :: v193 :: v194 :: v195 :: v196 :: v197 :: v198 :: v199 :: v200 :: v201 :: v202 :: v203 :: v204 :: v205 :: v206 :: v207 :: v208 :: v209 :: []), defers := [] } w := by
  have b0 := hb.cell 0
  have b1 := hb.cell 1
  have y0 := he.cell 0
  have y1 := he.cell 1
  have y2 := he.cell 2
  have r0 := hr.cell 0
  have r1 := hr.cell 1
  have q0 := hr.frz 0
  have q1 := hr.frz 1
  have d0 := h6.cell 0
  have d1 := h6.cell 1
  have HA := Lib.hid hA
  have HM := Lib.hid hM
  have HB := Lib.hid hb
  have HE := Lib.hid he
  have HR := Lib.hid hr
  have H6 := Lib.hid h6
  have HD := Lib.hid hd
  have HW := Lib.hid hwf
  have hgw : g < w.heap.size := (hA.block rfl).2
  have lb := hb.lt
  have le := he.lt
  have lr := hr.lt
  have l6 := h6.lt
  have hk6 : s.k ≤ 6 := hwf.k6
  clear hA hM hb he hr h6 hd hwf
  have HT := Lib.hid ht
  have n1 : (e0 != 1) = true := by rw [hk]; decide
  have a1 : (e0 == 1) = false := by rw [hk]; decide
  have a2 : (e0 == 2) = false := by rw [hk]; decide
  have a3 : (e0 == 3) = false := by rw [hk]; decide
  have a4 : (e0 == 4) = false := by rw [hk]; decide
  have a5 : (e0 == 5) = true := by rw [hk]; decide
  have nb : (e2 != 0) = false := by rw [h2]; decide
  subst hic
  have z0 := HA.out.cell (i := a) (j := 0) ha (by omega)
  have z1 := HA.out.cell (i := a) (j := 1) ha (by omega)
  have z2 := HA.out.cell (i := a) (j := 2) ha (by omega)
  rw [Nat.add_zero] at z0
  have ix : decide (n ≤ a) = false := decide_eq_false (by omega)
  have fl3 : decide ((6 : Int) ≤ (s.k : Int)) = false := decide_eq_false (by omega)
  have fl4 : decide (6 ≤ s.k) = false := decide_eq_false (by omega)
  have g2 : (s.c a 0 == 2) = false := by rw [c0]; decide
  have g3 : (s.c a 0 == 3) = true := by rw [c0]; decide
  subst ha1
  clear ht hk h2 c0
  conv in restAt _ _ => whnf
  rw [HT.out]
  have AX := HA
  have MX := HM
  have RX := HR
  have hB1B : B1 ≤ Br := HD.out.2.2.2.2.1
  have hB10 : B1 ≤ B0 := by have := HD.out; omega
  have hBw : B0 ≤ w.heap.size := HD.out.2.2.2.2.2
  have AY := Lib.hid (HA.out.alloc (.cells #[.int .i64 (s.c a 0), .int .i64 (s.c a 1), .int .i64 (s.c a 2)] 51))
  have MY := Lib.hid (HM.out.alloc (.cells #[.int .i64 (s.c a 0), .int .i64 (s.c a 1), .int .i64 (s.c a 2)] 51))
  have RY := Lib.hid (HR.out.alloc (.cells #[.int .i64 (s.c a 0), .int .i64 (s.c a 1), .int .i64 (s.c a 2)] 51))
  go_wp2_with (go_at_call 23; refine (rsend_any n B0 g c c' A' (s) 2 ((a : Int)) ((s.c a 1)) _ AY.out MY.out (by first | assumption | (simp; omega) | omega) (by first | assumption | omega) (by omega)).mono ?_; rintro e w9 ⟨A9, c9, rfl, a9, m9, g9⟩; have A9' := Lib.hid a9; have M9 := Lib.hid m9; have G9 := Lib.hid g9; have R9 := Lib.hid (Blk.grown_own RY.out MY.out (by decide) g9); have t0 := R9.out.cell 0; have t1 := R9.out.cell 1; have t2 := R9.out.frz 0; have t3 := R9.out.frz 1; clear a9 m9 g9 r0 r1 q0 q1)
  exact app_some rfl rfl R9.out A9'.out M9.out (((Below.refl B1 w).alloc (by omega) _).grown G9.out (by simp; omega) (fun q hq => Nat.le_trans hB10 (MY.out.block hq).1)) hB1B
set_option maxRecDepth 100000 in
set_option maxHeartbeats 6400000 in
theorem app_5e {v0 v1 v9 v10 v11 v12 v13 v14 v15 v16 v17 v18 v19 v20 v21 v22 v23 v24 v25 v26 v27 v28 v29 v30 v31 v32 v33 v34 v35 v36 v37 v38 v39 v40 v41 v42 v43 v44 v45 v46 v47 v48 v49 v50 v51 v52 v53 v54 v55 v56 v57 v58 v59 v60 v61 v62 v63 v64 v65 v66 v67 v68 v69 v70 v71 v72 v73 v74 v75 v76 v77 v78 v79 v80 v81 v82 v83 v84 v85 v86 v87 v88 v89 v90 v91 v92 v93 v94 v95 v96 v97 v98 v99 v100 v101 v102 v103 v104 v105 v106 v107 v108 v109 v110 v111 v112 v113 v114 v115 v116 v117 v118 v119 v120 v121 v122 v123 v124 v125 v126 v127 v128 v129 v130 v131 v132 v133 v134 v135 v136 v137 v138 v139 v140 v141 v142 v143 v144 v145 v146 v147 v148 v149 v150 v151 v152 v153 v154 v155 v156 v157 v158 v159 v160 v161 v162 v163 v164 v165 v166 v167 v168 v169 v170 v171 v172 v173 v174 v175 v176 v177 v178 v179 v180 v181 v182 v183 v184 v185 v186 v187 v188 v189 v190 v191 v192 v193 v194 v195 v196 v197 v198 v199 v200 v201 v202 v203 v204 v205 v206 v207 v208 v209 : Value} (hA : Own w B0 51 3 (.slice (some ⟨g, 0, none⟩) n c) n (ints2 s.c)) (hM : Own w B0 54 4 (.slice A' s.k c') s.k (ints2 s.m)) (hb : Blk w Bb 31 #[.slice Q n qc, .slice Q' s.k qc']) (he : Blk w Be 38 #[.int .i64 e0, .int .i64 e1, .int .i64 e2]) (hr : Blk w Br 31 #[.slice none 0 0, .slice none 0 0]) (h6 : Blk w B6 31 #[.slice (some ⟨g, 0, none⟩) n c, .slice A' s.k c']) (hd : Bb < B0 ∧ Be < B0 ∧ Br < B0 ∧ B0 ≤ B6 ∧ B1 ≤ Br ∧ B0 ≤ w.heap.size) (hwf : M.Wf n s)
    (ht : t = none) (hk : e0 = 5) (h2 : e2 = 0) (a : Nat) (ha : a < n) (hic : ic = true) (ha1 : e1 = (a : Int)) (l3 : s.k < 6) (c2 : s.c a 0 ≠ 2) (c3 : s.c a 0 ≠ 3) :
    Code.wp Tryd.prog (restAt Tryd.f9 4) (bodyPost Tryd.prog Tryd.f9 (AppR n B1 B0 (.agg #[.slice Q n qc, .slice Q' s.k qc']) t w)) { tmps := List.toArray (v0 :: v1 :: .pointer (some ⟨Bb, 0, none⟩) :: .pointer (some ⟨Be, 0, none⟩) :: .pointer (some ⟨Br, 0, none⟩) :: .bool false :: .pointer (some ⟨B6, 0, none⟩) :: .bool ic :: .bool im :: v9 :: v10 :: v11 :: v12 :: v13 :: v14 :: v15 :: v16 :: v17 :: v18 :: v19 :: v20 :: v21 :: v22 :: v23 :: v24 :: v25 :: v26 :: v27 :: v28 :: v29 :: v30 :: v31 :: v32 :: v33 :: v34 :: v35 :: v36 :: v37 :: v38 :: v39 :: v40 :: v41 :: v42 :: v43 :: v44 :: v45 :: v46 :: v47 :: v48 :: v49 :: v50 :: v51 :: v52 :: v53 :: v54 :: v55 :: v56 :: v57 :: v58 :: v59 :: v60 :: v61 :: v62 :: v63 :: v64 :: v65 :: v66 :: v67 :: v68 :: v69 :: v70 :: v71 :: v72 :: v73 :: v74 :: v75 :: v76 :: v77 :: v78 :: v79 :: v80 :: v81 :: v82 :: v83 :: v84 :: v85 :: v86 :: v87 :: v88 :: v89 :: v90 :: v91 :: v92 :: v93 :: v94 :: v95 :: v96 :: v97 :: v98 :: v99 :: v100 :: v101 :: v102 :: v103 :: v104 :: v105 :: v106 :: v107 :: v108 :: v109 :: v110 :: v111 :: v112 :: v113 :: v114 :: v115 :: v116 :: v117 :: v118 :: v119 :: v120 :: v121 :: v122 :: v123 :: v124 :: v125 :: v126 :: v127 :: v128 :: v129 :: v130 :: v131 :: v132 :: v133 :: v134 :: v135 :: v136 :: v137 :: v138 :: v139 :: v140 :: v141 :: v142 :: v143 :: v144 :: v145 :: v146 :: v147 :: v148 :: v149 :: v150 :: v151 :: v152 :: v153 :: v154 :: v155 :: v156 :: v157 :: v158 :: v159 :: v160 :: v161 :: v162 :: v163 :: v164 :: v165 :: v166 :: v167 :: v168 :: v169 :: v170 :: v171 :: v172 :: v173 :: v174 :: v175 :: v176 :: v177 :: v178 :: v179 :: v180 :: v181 :: v182 :: v183 :: v184 :: v185 :: v186 :: v187 :: v188 :: v189 :: v190 :: v191 :: v192 :: v193 :: v194 :: v195 :: v196 :: v197 :: v198 :: v199 :: v200 :: v201 :: v202 :: v203 :: v204 :: v205 :: v206 :: v207 :: v208 :: v209 :: []), defers := [] } w := by
  have b0 := hb.cell 0
  have b1 := hb.cell 1
  have y0 := he.cell 0
  have y1 := he.cell 1
  have y2 := he.cell 2
  have r0 := hr.cell 0
  have r1 := hr.cell 1
  have q0 := hr.frz 0
  have q1 := hr.frz 1
  have d0 := h6.cell 0
  have d1 := h6.cell 1
  have HA := Lib.hid hA
  have HM := Lib.hid hM
  have HB := Lib.hid hb
  have HE := Lib.hid he
  have HR := Lib.hid hr
  have H6 := Lib.hid h6
  have HD := Lib.hid hd
  have HW := Lib.hid hwf
  have hgw : g < w.heap.size := (hA.block rfl).2
  have lb := hb.lt
  have le := he.lt
  have lr := hr.lt
  have l6 := h6.lt
  have hk6 : s.k ≤ 6 := hwf.k6
  clear hA hM hb he hr h6 hd hwf
  have HT := Lib.hid ht
  have n1 : (e0 != 1) = true := by rw [hk]; decide
  have a1 : (e0 == 1) = false := by rw [hk]; decide
  have a2 : (e0 == 2) = false := by rw [hk]; decide
  have a3 : (e0 == 3) = false := by rw [hk]; decide
  have a4 : (e0 == 4) = false := by rw [hk]; decide
  have a5 : (e0 == 5) = true := by rw [hk]; decide
  have nb : (e2 != 0) = false := by rw [h2]; decide
  subst hic
  have z0 := HA.out.cell (i := a) (j := 0) ha (by omega)
  have z1 := HA.out.cell (i := a) (j := 1) ha (by omega)
  have z2 := HA.out.cell (i := a) (j := 2) ha (by omega)
  rw [Nat.add_zero] at z0
  have ix : decide (n ≤ a) = false := decide_eq_false (by omega)
  have fl3 : decide ((6 : Int) ≤ (s.k : Int)) = false := decide_eq_false (by omega)
  have fl4 : decide (6 ≤ s.k) = false := decide_eq_false (by omega)
  have g2 : (s.c a 0 == 2) = false := by rw [beq_eq_false_iff_ne]; exact c2
  have g3 : (s.c a 0 == 3) = false := by rw [beq_eq_false_iff_ne]; exact c3
  subst ha1
  clear ht hk c2 c3 h2
  conv in restAt _ _ => whnf
  rw [HT.out]
  go_wp2_with fail
  exact app_none2 rfl rfl HR.out (by have := HD.out; omega) HD.out.2.2.2.2.1
end
end Go.Proofs.YtfnfjmjejffjiaaDoor
/- The reference's Apply: where it does something. -/
namespace Go.Proofs.YtfnfjmjejffjiaaDoor
open Go.RowKit

section
variable (n B1 B0 g c c' Bb Be Br B6 qc qc' : Nat) (A' Q Q' : Option Addr) (s : M.St) (e0 e1 e2 : Int) (ic im : Bool) (w : World) (t : Option M.St)
set_option maxRecDepth 100000 in
set_option maxHeartbeats 6400000 in
theorem app_2b {v0 v1 v9 v10 v11 v12 v13 v14 v15 v16 v17 v18 v19 v20 v21 v22 v23 v24 v25 v26 v27 v28 v29 v30 v31 v32 v33 v34 v35 v36 v37 v38 v39 v40 v41 v42 v43 v44 v45 v46 v47 v48 v49 v50 v51 v52 v53 v54 v55 v56 v57 v58 v59 v60 v61 v62 v63 v64 v65 v66 v67 v68 v69 v70 v71 v72 v73 v74 v75 v76 v77 v78 v79 v80 v81 v82 v83 v84 v85 v86 v87 v88 v89 v90 v91 v92 v93 v94 v95 v96 v97 v98 v99 v100 v101 v102 v103 v104 v105 v106 v107 v108 v109 v110 v111 v112 v113 v114 v115 v116 v117 v118 v119 v120 v121 v122 v123 v124 v125 v126 v127 v128 v129 v130 v131 v132 v133 v134 v135 v136 v137 v138 v139 v140 v141 v142 v143 v144 v145 v146 v147 v148 v149 v150 v151 v152 v153 v154 v155 v156 v157 v158 v159 v160 v161 v162 v163 v164 v165 v166 v167 v168 v169 v170 v171 v172 v173 v174 v175 v176 v177 v178 v179 v180 v181 v182 v183 v184 v185 v186 v187 v188 v189 v190 v191 v192 v193 v194 v195 v196 v197 v198 v199 v200 v201 v202 v203 v204 v205 v206 v207 v208 v209 : Value} (hA : Own w B0 51 3 (.slice (some ⟨g, 0, none⟩) n c) n (ints2 s.c)) (hM : Own w B0 54 4 (.slice A' s.k c') s.k (ints2 s.m)) (hb : Blk w Bb 31 #[.slice Q n qc, .slice Q' s.k qc']) (he : Blk w Be 38 #[.int .i64 e0, .int .i64 e1, .int .i64 e2]) (hr : Blk w Br 31 #[.slice none 0 0, .slice none 0 0]) (h6 : Blk w B6 31 #[.slice (some ⟨g, 0, none⟩) n c, .slice A' s.k c']) (hd : Bb < B0 ∧ Be < B0 ∧ Br < B0 ∧ B0 ≤ B6 ∧ B1 ≤ Br ∧ B0 ≤ w.heap.size) (hwf : M.Wf n s)
    (a : Nat) (ht : t = some (M.handle (M.drop s a) (s.m a))) (hk : e0 = 2) (h2 : e2 = 0) (ha : a < s.k) (him : im = true) (ha1 : e1 = (a : Int)) :
    Code.wp Tryd.prog (restAt Tryd.f9 4) (bodyPost Tryd.prog Tryd.f9 (AppR n B1 B0 (.agg #[.slice Q n qc, .slice Q' s.k qc']) t w)) { tmps := List.toArray (v0 :: v1 :: .pointer (some ⟨Bb, 0, none⟩) :: .pointer (some ⟨Be, 0, none⟩) :: .pointer (some ⟨Br, 0, none⟩) :: .bool false :: .pointer (some ⟨B6, 0, none⟩) :: .bool ic :: .bool im :: v9 :: v10 :: v11 :: v12 :: v13 :: v14 :: v15 :: v16 :: v17 :: v18 :: v19 :: v20 :: v21 :: v22 :: v23 :: v24 :: v25 :: v26 :: v27 :: v28 :: v29 :: v30 :: v31 :: v32 :: v33 :: v34 :: v35 :: v36 :: v37 :: v38 :: v39 :: v40 :: v41 :: v42 :: v43 :: v44 :: v45 :: v46 :: v47 :: v48 :: v49 :: v50 :: v51 :: v52 :: v53 :: v54 :: v55 :: v56 :: v57 :: v58 :: v59 :: v60 :: v61 :: v62 :: v63 :: v64 :: v65 :: v66 :: v67 :: v68 :: v69 :: v70 :: v71 :: v72 :: v73 :: v74 :: v75 :: v76 :: v77 :: v78 :: v79 :: v80 :: v81 :: v82 :: v83 :: v84 :: v85 :: v86 :: v87 :: v88 :: v89 :: v90 :: v91 :: v92 :: v93 :: v94 :: v95 :: v96 :: v97 :: v98 :: v99 :: v100 :: v101 :: v102 :: v103 :: v104 :: v105 :: v106 :: v107 :: v108 :: v109 :: v110 :: v111 :: v112 :: v113 :: v114 :: v115 :: v116 :: v117 :: v118 :: v119 :: v120 :: v121 :: v122 :: v123 :: v124 :: v125 :: v126 :: v127 :: v128 :: v129 :: v130 :: v131 :: v132 :: v133 :: v134 :: v135 :: v136 :: v137 :: v138 :: v139 :: v140 :: v141 :: v142 :: v143 :: v144 :: v145 :: v146 :: v147 :: v148 :: v149 :: v150 :: v151 :: v152 :: v153 :: v154 :: v155 :: v156 :: v157 :: v158 :: v159 :: v160 :: v161 :: v162 :: v163 :: v164 :: v165 :: v166 :: v167 :: v168 :: v169 :: v170 :: v171 :: v172 :: v173 :: v174 :: v175 :: v176 :: v177 :: v178 :: v179 :: v180 :: v181 :: v182 :: v183 :: v184 :: v185 :: v186 :: v187 :: v188 :: v189 :: v190 :: v191 :: v192 :: v193 :: v194 :: v195 :: v196 :: v197 :: v198 :: v199 :: v200 :: v201 :: v202 :: v203 :: v204 :: v205 :: v206 :: v207 :: v208 :: v209 :: []), defers := [] } w := by
  have b0 := hb.cell 0
  have b1 := hb.cell 1
  have y0 := he.cell 0
  have y1 := he.cell 1
  have y2 := he.cell 2
  have r0 := hr.cell 0
  have r1 := hr.cell 1
  have q0 := hr.frz 0
  have q1 := hr.frz 1
  have d0 := h6.cell 0
  have d1 := h6.cell 1
  have HA := Lib.hid hA
  have HM := Lib.hid hM
  have HB := Lib.hid hb
  have HE := Lib.hid he
  have HR := Lib.hid hr
  have H6 := Lib.hid h6
  have HD := Lib.hid hd
  have HW := Lib.hid hwf
  have hgw : g < w.heap.size := (hA.block rfl).2
  have lb := hb.lt
  have le := he.lt
  have lr := hr.lt
  have l6 := h6.lt
  have hk6 : s.k ≤ 6 := hwf.k6
  clear hA hM hb he hr h6 hd hwf
  have HT := Lib.hid ht
  have n1 : (e0 != 1) = true := by rw [hk]; decide
  have a1 : (e0 == 1) = false := by rw [hk]; decide
  have a2 : (e0 == 2) = true := by rw [hk]; decide
  have a3 : (e0 == 3) = false := by rw [hk]; decide
  have a4 : (e0 == 4) = false := by rw [hk]; decide
  have a5 : (e0 == 5) = false := by rw [hk]; decide
  have nb : (e2 != 0) = false := by rw [h2]; decide
  subst him
  have hz := HM.out.room
  obtain ⟨h, hc, ee⟩ := HM.out.nz (show 0 < s.k by omega)
  injection ee with ee1 _ ee3
  subst ee1; subst ee3
  have hhw : h < w.heap.size := (HM.out.block rfl).2
  have m0 := HM.out.cell (i := a) (j := 0) ha (by omega)
  have m1 := HM.out.cell (i := a) (j := 1) ha (by omega)
  have m2 := HM.out.cell (i := a) (j := 2) ha (by omega)
  have m3 := HM.out.cell (i := a) (j := 3) ha (by omega)
  rw [Nat.add_zero] at m0
  have ix : decide (s.k ≤ a) = false := decide_eq_false (by omega)
  have RM := Lib.hid HM.out.rdI
  subst ha1
  clear ht hk h2
  conv in restAt _ _ => whnf
  rw [HT.out]
  have hB1B : B1 ≤ Br := HD.out.2.2.2.2.1
  have hB10 : B1 ≤ B0 := by have := HD.out; omega
  have hBw : B0 ≤ w.heap.size := HD.out.2.2.2.2.2
  have hB16 : B1 ≤ B6 := by have := HD.out; omega
  have nr6 : Br ≠ B6 := by have := HD.out; omega
  have hm := HW.out.msg a ha
  go_upto_region 17 with (go_at_call 24; go_must (refine (without_any h s.k c' a w.heap.size s _ ha rfl hk6 hz (RM.out.below (belowAlloc w _)) (by first | exact Nat.le_refl _ | (simp; done) | (simp; omega)) hhw).mono ?_; rintro e w5 ⟨A5, c5, rfl, o5, hb5⟩; have W5 := Lib.hid (show Own w5 B0 54 4 (.slice A5 (s.k - 1) c5) (s.k - 1) (ints2 (M.drop s a).m) from o5.less (by first | assumption | (simp; done) | (simp; omega) | omega)); have A6 := Lib.hid ((HA.out.alloc (.cells #[.int .i64 (s.m a 0), .int .i64 (s.m a 1), .int .i64 (s.m a 2), .int .i64 (s.m a 3)] 54)).below hb5); have B5 := Lib.hid hb5; have C5 := Lib.hid ((H6.out.alloc (.cells #[.int .i64 (s.m a 0), .int .i64 (s.m a 1), .int .i64 (s.m a 2), .int .i64 (s.m a 3)] 54)).below' hb5); have R5 := Lib.hid ((HR.out.alloc (.cells #[.int .i64 (s.m a 0), .int .i64 (s.m a 1), .int .i64 (s.m a 2), .int .i64 (s.m a 3)] 54)).below' hb5); have E5 := Lib.hid ((HE.out.alloc (.cells #[.int .i64 (s.m a 0), .int .i64 (s.m a 1), .int .i64 (s.m a 2), .int .i64 (s.m a 3)] 54)).below' hb5); have M5 := Lib.hid (Blk.below' (Blk.new w 54 #[.int .i64 (s.m a 0), .int .i64 (s.m a 1), .int .i64 (s.m a 2), .int .i64 (s.m a 3)]) hb5); have u0 := M5.out.cell 0; have u1 := M5.out.cell 1; have u2 := M5.out.cell 2; have u3 := M5.out.cell 3; have d2 := C5.out.cell 0; have d3 := C5.out.cell 1; have d4 := C5.out.frz 1; have t0 := R5.out.cell 0; have t1 := R5.out.cell 1; have t2 := R5.out.frz 0; have t3 := R5.out.frz 1; have y5 := E5.out.cell 1; have hz5 := hb5.size; (try simp at hz5); clear o5 hb5 r0 r1 q0 q1 d0 d1 y0 y1 y2 b0 b1 m0 m1 m2 m3))
  have R7 := Lib.hid (R5.out.far (p := ⟨B6, 1, none⟩) nr6 (.slice A5 (s.k - 1) c5))
  have C7 := Lib.hid (C5.out.set_ 1 (.slice A5 (s.k - 1) c5))
  have hBw5 : B6 ≠ w.heap.size := fun e => by have := H6.out.lt; omega
  have M7 := Lib.hid (M5.out.far (p := ⟨B6, 1, none⟩) hBw5.symm (.slice A5 (s.k - 1) c5))
  have V7 := Lib.hid (show CallV n (M.drop s a) B0 (.agg #[.slice (some ⟨g, 0, none⟩) n c, .slice A5 (s.k - 1) c5]) (w5.setCell ⟨B6, 1, none⟩ (.slice A5 (s.k - 1) c5)) from ⟨_, _, _, _, rfl, A6.out.setCell (p := ⟨B6, 1, none⟩) (A6.out.ne_blk C5.out (by decide)) _, W5.out.setCell (p := ⟨B6, 1, none⟩) (W5.out.ne_blk C5.out (by decide)) _⟩)
  obtain ⟨X, hX⟩ : ∃ X, X = w5.setCell ⟨B6, 1, none⟩ (.slice A5 (s.k - 1) c5) := ⟨_, rfl⟩
  have BX := Lib.hid (show Below B1 w X by rw [hX]; exact (((Below.refl B1 w).alloc (by omega) _).trans (B5.out.mono (by simp; omega))).setCell (p := ⟨B6, 1, none⟩) hB16 _)
  have hzX : B0 ≤ X.heap.size := by rw [hX]; simp; omega
  rw [← hX] at R7 C7 M7 V7 ⊢
  clear hX d2 d3 d4 t0 t1 t2 t3 y5 u0 u1 u2 u3
  have x4 := C7.out.cell 0
  have x5 := C7.out.cell 1
  have u0 := M7.out.cell 0
  have u1 := M7.out.cell 1
  have u2 := M7.out.cell 2
  have u3 := M7.out.cell 3
  obtain ⟨p, hp⟩ := Int.eq_ofNat_of_zero_le hm.2.2.2.2.1
  have hpn : p < n := by omega
  go_wp2_with (go_at_call 25; go_must (refine (rhandle_any n B0 p _ (M.drop s a) (s.m a 0) (s.m a 1) (s.m a 3) _ V7.out hzX hpn (by show s.k - 1 < 6; omega) (by have := HW.out.cen p hpn; exact ⟨this.1, this.2.1⟩)).mono ?_); rintro e w9 ⟨⟨v9, rfl, A9, c9, A9', c9', rfl, a9, m9⟩, hb9⟩; have A9' := Lib.hid a9; have M9 := Lib.hid m9; have HB9 := Lib.hid hb9; have R9 := Lib.hid (R7.out.below hb9 HD.out.2.2.1); have t0 := R9.out.cell 0; have t1 := R9.out.cell 1; have t2 := R9.out.frz 0; have t3 := R9.out.frz 1; clear a9 m9 hb9)
  have e1 : M.handle (M.drop s a) (M.v4 (s.m a 0) (s.m a 1) p (s.m a 3)) = M.handle (M.drop s a) (s.m a) := handle_v4 _ _ _ _ _ _ rfl rfl hp rfl
  rw [← e1]
  exact app_some rfl rfl R9.out A9'.out M9.out (BX.out.trans (HB9.out.mono hB10)) hB1B
end
end Go.Proofs.YtfnfjmjejffjiaaDoor
