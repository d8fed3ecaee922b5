/- The reference's Apply: where it does nothing. -/
import Derived.Test.YtfnfjmjejffjiaaDoorF2
import Derived.Test.YtfnfjmjejffjiaaDoorF5a
namespace Go.Proofs.YtfnfjmjejffjiaaDoor
open Go.RowKit

/-- what Apply leaves -/
def AppR (n B1 B0 : Nat) (vb : Value) (o : Option M.St) (w : World) (e : Ending) (w' : World) : Prop :=
  (∃ v', e = .returned (.tuple #[v', .bool o.isSome]) ∧ (match o with | some t => CallV n t B0 v' w' | none => v' = vb)) ∧ Below B1 w w'
theorem results_cell_row1 {P : Program} {fn : Func} {p u : Tmp} {ty : TypeId} (h : fn.results = #[.cell p ty, .tmp u]) (tmps : Array Value) (w : World) (g : Nat) (t : TypeId) (cs : Array Value) (fr : Nat × Nat) (d : TypeDesc)
    (hp : tmps.getD p undef = .pointer (some ⟨g, 0, none⟩)) (hg : w.heap[g]? = some (.cells cs t fr))
    (hu : P.underlying ty = some d) (hd : (match d with | .struct _ | .array _ _ => true | _ => false) = true) (hi : (P.info? ty).map (·.size) = some cs.size) :
    (results fn tmps).run P w = .ok (.tuple #[.agg cs, tmps.getD u undef]) w := by
  have hp' : tmps[p]?.getD undef = .pointer (some ⟨g, 0, none⟩) := by simpa using hp
  simp [results, h, hp', asAddr, run_loadVar_row w g t ty cs fr d hg hu hd hi]
theorem app_none {tmps : Array Value} {w W : World} {n m B1 B0 Br qc qc' : Nat} {Q Q' : Option Addr} (h4 : tmps.getD 4 undef = .pointer (some ⟨Br, 0, none⟩)) (h5 : tmps.getD 5 undef = .bool false)
    (hr : Blk W Br 31 #[.slice none 0 0, .slice none 0 0]) (hb : Below B1 w W) (hbr : B1 ≤ Br) :
    bodyPost Tryd.prog Tryd.f9 (AppR n B1 B0 (.agg #[.slice Q n qc, .slice Q' m qc']) none w) .ret { tmps := tmps, defers := [] } ((W.setCell ⟨Br, 0, none⟩ (.slice Q n qc)).setCell ⟨Br, 1, none⟩ (.slice Q' m qc')) :=
  bodyPost_ret (results_cell_row1 rfl _ _ Br 31 #[.slice Q n qc, .slice Q' m qc'] (0, 0) _ h4 ((hr.set_ 0 _).set_ 1 _) Tryd.underlying31 rfl call_size) rfl
    ⟨⟨_, by rw [h5]; rfl, rfl⟩, (hb.setCell (p := ⟨Br, 0, none⟩) hbr _).setCell (p := ⟨Br, 1, none⟩) hbr _⟩
theorem app_none2 {tmps : Array Value} {w : World} {n m B1 B0 Br qc qc' : Nat} {Q Q' : Option Addr} {o : Obj} (h4 : tmps.getD 4 undef = .pointer (some ⟨Br, 0, none⟩)) (h5 : tmps.getD 5 undef = .bool false)
    (hr : Blk w Br 31 #[.slice none 0 0, .slice none 0 0]) (hw : B1 ≤ w.heap.size) (hbr : B1 ≤ Br) :
    bodyPost Tryd.prog Tryd.f9 (AppR n B1 B0 (.agg #[.slice Q n qc, .slice Q' m qc']) none w) .ret { tmps := tmps, defers := [] } (((w.setCell ⟨Br, 0, none⟩ (.slice Q n qc)).setCell ⟨Br, 1, none⟩ (.slice Q' m qc')).alloc o) :=
  bodyPost_ret (results_cell_row1 rfl _ _ Br 31 #[.slice Q n qc, .slice Q' m qc'] (0, 0) _ h4 (((hr.set_ 0 _).set_ 1 _).alloc o) Tryd.underlying31 rfl call_size) rfl
    ⟨⟨_, by rw [h5]; rfl, rfl⟩, (((Below.refl B1 w).setCell (p := ⟨Br, 0, none⟩) hbr _).setCell (p := ⟨Br, 1, none⟩) hbr _).alloc (by simpa using hw) o⟩
theorem app_some {tmps : Array Value} {w W : World} {n B1 B0 c c' Br : Nat} {A A' : Option Addr} {vb : Value} {t : M.St} (h4 : tmps.getD 4 undef = .pointer (some ⟨Br, 0, none⟩)) (h5 : tmps.getD 5 undef = .bool true)
    (hr : Blk W Br 31 #[.slice none 0 0, .slice none 0 0]) (hA : Own W B0 51 3 (.slice A n c) n (ints2 t.c)) (hM : Own W B0 54 4 (.slice A' t.k c') t.k (ints2 t.m)) (hb : Below B1 w W) (hbr : B1 ≤ Br) :
    bodyPost Tryd.prog Tryd.f9 (AppR n B1 B0 vb (some t) w) .ret { tmps := tmps, defers := [] } ((W.setCell ⟨Br, 0, none⟩ (.slice A n c)).setCell ⟨Br, 1, none⟩ (.slice A' t.k c')) :=
  bodyPost_ret (results_cell_row1 rfl _ _ Br 31 #[.slice A n c, .slice A' t.k c'] (0, 0) _ h4 ((hr.set_ 0 _).set_ 1 _) Tryd.underlying31 rfl call_size) rfl
    ⟨⟨_, by rw [h5]; rfl, _, _, _, _, rfl, hA.set2 hr (by decide) _ _, hM.set2 hr (by decide) _ _⟩, (hb.setCell (p := ⟨Br, 0, none⟩) hbr _).setCell (p := ⟨Br, 1, none⟩) hbr _⟩
section
variable (n B1 B0 g c c' Bb Be Br B6 qc qc' : Nat) (A' Q Q' : Option Addr) (s : M.St) (e0 e1 e2 : Int) (ic im : Bool) (w : World) (t : Option M.St)
set_option maxRecDepth 100000 in
set_option maxHeartbeats 6400000 in
theorem app_bad {v0 v1 v9 v10 v11 v12 v13 v14 v15 v16 v17 v18 v19 v20 v21 v22 v23 v24 v25 v26 v27 v28 v29 v30 v31 v32 v33 v34 v35 v36 v37 v38 v39 v40 v41 v42 v43 v44 v45 v46 v47 v48 v49 v50 v51 v52 v53 v54 v55 v56 v57 v58 v59 v60 v61 v62 v63 v64 v65 v66 v67 v68 v69 v70 v71 v72 v73 v74 v75 v76 v77 v78 v79 v80 v81 v82 v83 v84 v85 v86 v87 v88 v89 v90 v91 v92 v93 v94 v95 v96 v97 v98 v99 v100 v101 v102 v103 v104 v105 v106 v107 v108 v109 v110 v111 v112 v113 v114 v115 v116 v117 v118 v119 v120 v121 v122 v123 v124 v125 v126 v127 v128 v129 v130 v131 v132 v133 v134 v135 v136 v137 v138 v139 v140 v141 v142 v143 v144 v145 v146 v147 v148 v149 v150 v151 v152 v153 v154 v155 v156 v157 v158 v159 v160 v161 v162 v163 v164 v165 v166 v167 v168 v169 v170 v171 v172 v173 v174 v175 v176 v177 v178 v179 v180 v181 v182 v183 v184 v185 v186 v187 v188 v189 v190 v191 v192 v193 v194 v195 v196 v197 v198 v199 v200 v201 v202 v203 v204 v205 v206 v207 v208 v209 : Value} (hA : Own w B0 51 3 (.slice (some ⟨g, 0, none⟩) n c) n (ints2 s.c)) (hM : Own w B0 54 4 (.slice A' s.k c') s.k (ints2 s.m)) (hb : Blk w Bb 31 #[.slice Q n qc, .slice Q' s.k qc']) (he : Blk w Be 38 #[.int .i64 e0, .int .i64 e1, .int .i64 e2]) (hr : Blk w Br 31 #[.slice none 0 0, .slice none 0 0]) (h6 : Blk w B6 31 #[.slice (some ⟨g, 0, none⟩) n c, .slice A' s.k c']) (hd : Bb < B0 ∧ Be < B0 ∧ Br < B0 ∧ B0 ≤ B6 ∧ B1 ≤ Br ∧ B0 ≤ w.heap.size) (hwf : M.Wf n s)
    (ht : t = none) (h1 : e0 ≠ 1) (h2 : e2 ≠ 0) :
    Code.wp Tryd.prog (restAt Tryd.f9 4) (bodyPost Tryd.prog Tryd.f9 (AppR n B1 B0 (.agg #[.slice Q n qc, .slice Q' s.k qc']) t w)) { tmps := List.toArray (v0 :: v1 :: .pointer (some ⟨Bb, 0, none⟩) :: .pointer (some ⟨Be, 0, none⟩) :: .pointer (some ⟨Br, 0, none⟩) :: .bool false :: .pointer (some ⟨B6, 0, none⟩) :: .bool ic :: .bool im :: v9 :: v10 :: v11 :: v12 :: v13 :: v14 :: v15 :: v16 :: v17 :: v18 :: v19 :: v20 :: v21 :: v22 :: v23 :: v24 :: v25 :: v26 :: v27 :: v28 :: v29 :: v30 :: v31 :: v32 :: v33 :: v34 :: v35 :: v36 :: v37 :: v38 :: v39 :: v40 :: v41 :: v42 :: v43 :: v44 :: v45 :: v46 :: v47 :: v48 :: v49 :: v50 :: v51 :: v52 :: v53 :: v54 :: v55 :: v56 :: v57 :: v58 :: v59 :: v60 :: v61 :: v62 :: v63 :: v64 :: v65 :: v66 :: v67 :: v68 :: v69 :: v70 :: v71 :: v72 :: v73 :: v74 :: v75 :: v76 :: v77 :: v78 :: v79 :: v80 :: v81 :: v82 :: v83 :: v84 :: v85 :: v86 :: v87 :: v88 :: v89 :: v90 :: v91 :: v92 :: v93 :: v94 :: v95 :: v96 :: v97 :: v98 :: v99 :: v100 :: v101 :: v102 :: v103 :: v104 :: v105 :: v106 :: v107 :: v108 :: v109 :: v110 :: v111 :: v112 :: v113 :: v114 :: v115 :: v116 :: v117 :: v118 :: v119 :: v120 :: v121 :: v122 :: v123 :: v124 :: v125 :: v126 :: v127 :: v128 :: v129 :: v130 :: v131 :: v132 :: v133 :: v134 :: v135 :: v136 :: v137 :: v138 :: v139 :: v140 :: v141 :: v142 :: v143 :: v144 :: v145 :: v146 :: v147 :: v148 :: v149 :: v150 :: v151 :: v152 :: v153 :: v154 :: v155 :: v156 :: v157 :: v158 :: v159 :: v160 :: v161 :: v162 :: v163 :: v164 :: v165 :: v166 :: v167 :: v168 :: v169 :: v170 :: v171 :: v172 :: v173 :: v174 :: v175 :: v176 :: v177 :: v178 :: v179 :: v180 :: v181 :: v182 :: v183 :: v184 :: v185 :: v186 :: v187 :: v188 :: v189 :: v190 :: v191 :: v192 :: v193 :: v194 :: v195 :: v196 :: v197 :: v198 :: v199 :: v200 :: v201 :: v202 :: v203 :: v204 :: v205 :: v206 :: v207 :: v208 :: v209 :: []), defers := [] } w := by
  have b0 := hb.cell 0
  have b1 := hb.cell 1
  have y0 := he.cell 0
  have y1 := he.cell 1
  have y2 := he.cell 2
  have r0 := hr.cell 0
  have r1 := hr.cell 1
  have q0 := hr.frz 0
  have q1 := hr.frz 1
  have d0 := h6.cell 0
  have d1 := h6.cell 1
  have HA := Lib.hid hA
  have HM := Lib.hid hM
  have HB := Lib.hid hb
  have HE := Lib.hid he
  have HR := Lib.hid hr
  have H6 := Lib.hid h6
  have HD := Lib.hid hd
  have HW := Lib.hid hwf
  have hgw : g < w.heap.size := (hA.block rfl).2
  have lb := hb.lt
  have le := he.lt
  have lr := hr.lt
  have l6 := h6.lt
  have hk6 : s.k ≤ 6 := hwf.k6
  clear hA hM hb he hr h6 hd hwf
  have HT := Lib.hid ht
  have n1 : (e0 != 1) = true := by rw [bne_iff_ne]; exact h1
  have nb : (e2 != 0) = true := by rw [bne_iff_ne]; exact h2
  clear ht h1 h2
  conv in restAt _ _ => whnf
  rw [HT.out]
  go_wp2_with fail
  exact app_none rfl rfl HR.out (Below.refl _ _) HD.out.2.2.2.2.1
set_option maxRecDepth 100000 in
set_option maxHeartbeats 6400000 in
theorem app_other {v0 v1 v9 v10 v11 v12 v13 v14 v15 v16 v17 v18 v19 v20 v21 v22 v23 v24 v25 v26 v27 v28 v29 v30 v31 v32 v33 v34 v35 v36 v37 v38 v39 v40 v41 v42 v43 v44 v45 v46 v47 v48 v49 v50 v51 v52 v53 v54 v55 v56 v57 v58 v59 v60 v61 v62 v63 v64 v65 v66 v67 v68 v69 v70 v71 v72 v73 v74 v75 v76 v77 v78 v79 v80 v81 v82 v83 v84 v85 v86 v87 v88 v89 v90 v91 v92 v93 v94 v95 v96 v97 v98 v99 v100 v101 v102 v103 v104 v105 v106 v107 v108 v109 v110 v111 v112 v113 v114 v115 v116 v117 v118 v119 v120 v121 v122 v123 v124 v125 v126 v127 v128 v129 v130 v131 v132 v133 v134 v135 v136 v137 v138 v139 v140 v141 v142 v143 v144 v145 v146 v147 v148 v149 v150 v151 v152 v153 v154 v155 v156 v157 v158 v159 v160 v161 v162 v163 v164 v165 v166 v167 v168 v169 v170 v171 v172 v173 v174 v175 v176 v177 v178 v179 v180 v181 v182 v183 v184 v185 v186 v187 v188 v189 v190 v191 v192 v193 v194 v195 v196 v197 v198 v199 v200 v201 v202 v203 v204 v205 v206 v207 v208 v209 : Value} (hA : Own w B0 51 3 (.slice (some ⟨g, 0, none⟩) n c) n (ints2 s.c)) (hM : Own w B0 54 4 (.slice A' s.k c') s.k (ints2 s.m)) (hb : Blk w Bb 31 #[.slice Q n qc, .slice Q' s.k qc']) (he : Blk w Be 38 #[.int .i64 e0, .int .i64 e1, .int .i64 e2]) (hr : Blk w Br 31 #[.slice none 0 0, .slice none 0 0]) (h6 : Blk w B6 31 #[.slice (some ⟨g, 0, none⟩) n c, .slice A' s.k c']) (hd : Bb < B0 ∧ Be < B0 ∧ Br < B0 ∧ B0 ≤ B6 ∧ B1 ≤ Br ∧ B0 ≤ w.heap.size) (hwf : M.Wf n s)
    (ht : t = none) (hk : e0 ≠ 1 ∧ e0 ≠ 2 ∧ e0 ≠ 3 ∧ e0 ≠ 4 ∧ e0 ≠ 5) (h2 : e2 = 0) :
    Code.wp Tryd.prog (restAt Tryd.f9 4) (bodyPost Tryd.prog Tryd.f9 (AppR n B1 B0 (.agg #[.slice Q n qc, .slice Q' s.k qc']) t w)) { tmps := List.toArray (v0 :: v1 :: .pointer (some ⟨Bb, 0, none⟩) :: .pointer (some ⟨Be, 0, none⟩) :: .pointer (some ⟨Br, 0, none⟩) :: .bool false :: .pointer (some ⟨B6, 0, none⟩) :: .bool ic :: .bool im :: v9 :: v10 :: v11 :: v12 :: v13 :: v14 :: v15 :: v16 :: v17 :: v18 :: v19 :: v20 :: v21 :: v22 :: v23 :: v24 :: v25 :: v26 :: v27 :: v28 :: v29 :: v30 :: v31 :: v32 :: v33 :: v34 :: v35 :: v36 :: v37 :: v38 :: v39 :: v40 :: v41 :: v42 :: v43 :: v44 :: v45 :: v46 :: v47 :: v48 :: v49 :: v50 :: v51 :: v52 :: v53 :: v54 :: v55 :: v56 :: v57 :: v58 :: v59 :: v60 :: v61 :: v62 :: v63 :: v64 :: v65 :: v66 :: v67 :: v68 :: v69 :: v70 :: v71 :: v72 :: v73 :: v74 :: v75 :: v76 :: v77 :: v78 :: v79 :: v80 :: v81 :: v82 :: v83 :: v84 :: v85 :: v86 :: v87 :: v88 :: v89 :: v90 :: v91 :: v92 :: v93 :: v94 :: v95 :: v96 :: v97 :: v98 :: v99 :: v100 :: v101 :: v102 :: v103 :: v104 :: v105 :: v106 :: v107 :: v108 :: v109 :: v110 :: v111 :: v112 :: v113 :: v114 :: v115 :: v116 :: v117 :: v118 :: v119 :: v120 :: v121 :: v122 :: v123 :: v124 :: v125 :: v126 :: v127 :: v128 :: v129 :: v130 :: v131 :: v132 :: v133 :: v134 :: v135 :: v136 :: v137 :: v138 :: v139 :: v140 :: v141 :: v142 :: v143 :: v144 :: v145 :: v146 :: v147 :: v148 :: v149 :: v150 :: v151 :: v152 :: v153 :: v154 :: v155 :: v156 :: v157 :: v158 :: v159 :: v160 :: v161 :: v162 :: v163 :: v164 :: v165 :: v166 :: v167 :: v168 :: v169 :: v170 :: v171 :: v172 :: v173 :: v174 :: v175 :: v176 :: v177 :: v178 :: v179 :: v180 :: v181 :: v182 :: v183 :: v184 :: v185 :: v186 :: v187 :: v188 :: v189 :: v190 :: v191 :: v192 :: v193 :: v194 :: v195 :: v196 :: v197 :: v198 :: v199 :: v200 :: v201 :: v202 :: v203 :: v204 :: v205 :: v206 :: v207 :: v208 :: v209 :: []), defers := [] } w := by
  have b0 := hb.cell 0
  have b1 := hb.cell 1
  have y0 := he.cell 0
  have y1 := he.cell 1
  have y2 := he.cell 2
  have r0 := hr.cell 0
  have r1 := hr.cell 1
  have q0 := hr.frz 0
  have q1 := hr.frz 1
  have d0 := h6.cell 0
  have d1 := h6.cell 1
  have HA := Lib.hid hA
  have HM := Lib.hid hM
  have HB := Lib.hid hb
  have HE := Lib.hid he
  have HR := Lib.hid hr
  have H6 := Lib.hid h6
  have HD := Lib.hid hd
  have HW := Lib.hid hwf
  have hgw : g < w.heap.size := (hA.block rfl).2
  have lb := hb.lt
  have le := he.lt
  have lr := hr.lt
  have l6 := h6.lt
  have hk6 : s.k ≤ 6 := hwf.k6
  clear hA hM hb he hr h6 hd hwf
  have HT := Lib.hid ht
  have n1 : (e0 != 1) = true := by rw [bne_iff_ne]; exact hk.1
  have a1 : (e0 == 1) = false := by rw [beq_eq_false_iff_ne]; omega
  have a2 : (e0 == 2) = false := by rw [beq_eq_false_iff_ne]; omega
  have a3 : (e0 == 3) = false := by rw [beq_eq_false_iff_ne]; omega
  have a4 : (e0 == 4) = false := by rw [beq_eq_false_iff_ne]; omega
  have a5 : (e0 == 5) = false := by rw [beq_eq_false_iff_ne]; omega
  have nb : (e2 != 0) = false := by rw [h2]; decide
  clear ht hk h2
  conv in restAt _ _ => whnf
  rw [HT.out]
  go_wp2_with fail
  exact app_none rfl rfl HR.out (Below.refl _ _) HD.out.2.2.2.2.1
set_option maxRecDepth 100000 in
set_option maxHeartbeats 6400000 in
theorem app_1a {v0 v1 v9 v10 v11 v12 v13 v14 v15 v16 v17 v18 v19 v20 v21 v22 v23 v24 v25 v26 v27 v28 v29 v30 v31 v32 v33 v34 v35 v36 v37 v38 v39 v40 v41 v42 v43 v44 v45 v46 v47 v48 v49 v50 v51 v52 v53 v54 v55 v56 v57 v58 v59 v60 v61 v62 v63 v64 v65 v66 v67 v68 v69 v70 v71 v72 v73 v74 v75 v76 v77 v78 v79 v80 v81 v82 v83 v84 v85 v86 v87 v88 v89 v90 v91 v92 v93 v94 v95 v96 v97 v98 v99 v100 v101 v102 v103 v104 v105 v106 v107 v108 v109 v110 v111 v112 v113 v114 v115 v116 v117 v118 v119 v120 v121 v122 v123 v124 v125 v126 v127 v128 v129 v130 v131 v132 v133 v134 v135 v136 v137 v138 v139 v140 v141 v142 v143 v144 v145 v146 v147 v148 v149 v150 v151 v152 v153 v154 v155 v156 v157 v158 v159 v160 v161 v162 v163 v164 v165 v166 v167 v168 v169 v170 v171 v172 v173 v174 v175 v176 v177 v178 v179 v180 v181 v182 v183 v184 v185 v186 v187 v188 v189 v190 v191 v192 v193 v194 v195 v196 v197 v198 v199 v200 v201 v202 v203 v204 v205 v206 v207 v208 v209 : Value} (hA : Own w B0 51 3 (.slice (some ⟨g, 0, none⟩) n c) n (ints2 s.c)) (hM : Own w B0 54 4 (.slice A' s.k c') s.k (ints2 s.m)) (hb : Blk w Bb 31 #[.slice Q n qc, .slice Q' s.k qc']) (he : Blk w Be 38 #[.int .i64 e0, .int .i64 e1, .int .i64 e2]) (hr : Blk w Br 31 #[.slice none 0 0, .slice none 0 0]) (h6 : Blk w B6 31 #[.slice (some ⟨g, 0, none⟩) n c, .slice A' s.k c']) (hd : Bb < B0 ∧ Be < B0 ∧ Br < B0 ∧ B0 ≤ B6 ∧ B1 ≤ Br ∧ B0 ≤ w.heap.size) (hwf : M.Wf n s)
    (ht : t = none) (hk : e0 = 1) (hic : ic = false) :
    Code.wp Tryd.prog (restAt Tryd.f9 4) (bodyPost Tryd.prog Tryd.f9 (AppR n B1 B0 (.agg #[.slice Q n qc, .slice Q' s.k qc']) t w)) { tmps := List.toArray (v0 :: v1 :: .pointer (some ⟨Bb, 0, none⟩) :: .pointer (some ⟨Be, 0, none⟩) :: .pointer (some ⟨Br, 0, none⟩) :: .bool false :: .pointer (some ⟨B6, 0, none⟩) :: .bool ic :: .bool im :: v9 :: v10 :: v11 :: v12 :: v13 :: v14 :: v15 :: v16 :: v17 :: v18 :: v19 :: v20 :: v21 :: v22 :: v23 :: v24 :: v25 :: v26 :: v27 :: v28 :: v29 :: v30 :: v31 :: v32 :: v33 :: v34 :: v35 :: v36 :: v37 :: v38 :: v39 :: v40 :: v41 :: v42 :: v43 :: v44 :: v45 :: v46 :: v47 :: v48 :: v49 :: v50 :: v51 :: v52 :: v53 :: v54 :: v55 :: v56 :: v57 :: v58 :: v59 :: v60 :: v61 :: v62 :: v63 :: v64 :: v65 :: v66 :: v67 :: v68 :: v69 :: v70 :: v71 :: v72 :: v73 :: v74 :: v75 :: v76 :: v77 :: v78 :: v79 :: v80 :: v81 :: v82 :: v83 :: v84 :: v85 :: v86 :: v87 :: v88 :: v89 :: v90 :: v91 :: v92 :: v93 :: v94 :: v95 :: v96 :: v97 :: v98 :: v99 :: v100 :: v101 :: v102 :: v103 :: v104 :: v105 :: v106 :: v107 :: v108 :: v109 :: v110 :: v111 :: v112 :: v113 :: v114 :: v115 :: v116 :: v117 :: v118 :: v119 :: v120 :: v121 :: v122 :: v123 :: v124 :: v125 :: v126 :: v127 :: v128 :: v129 :: v130 :: v131 :: v132 :: v133 :: v134 :: v135 :: v136 :: v137 :: v138 :: v139 :: v140 :: v141 :: v142 :: v143 :: v144 :: v145 :: v146 :: v147 :: v148 :: v149 :: v150 :: v151 :: v152 :: v153 :: v154 :: v155 :: v156 :: v157 :: v158 :: v159 :: v160 :: v161 :: v162 :: v163 :: v164 :: v165 :: v166 :: v167 :: v168 :: v169 :: v170 :: v171 :: v172 :: v173 :: v174 :: v175 :: v176 :: v177 :: v178 :: v179 :: v180 :: v181 :: v182 :: v183 :: v184 :: v185 :: v186 :: v187 :: v188 :: v189 :: v190 :: v191 :: v192 :: v193 :: v194 :: v195 :: v196 :: v197 :: v198 :: v199 :: v200 :: v201 :: v202 :: v203 :: v204 :: v205 :: v206 :: v207 :: v208 :: v209 :: []), defers := [] } w := by
  have b0 := hb.cell 0
  have b1 := hb.cell 1
  have y0 := he.cell 0
  have y1 := he.cell 1
  have y2 := he.cell 2
  have r0 := hr.cell 0
  have r1 := hr.cell 1
  have q0 := hr.frz 0
  have q1 := hr.frz 1
  have d0 := h6.cell 0
  have d1 := h6.cell 1
  have HA := Lib.hid hA
  have HM := Lib.hid hM
  have HB := Lib.hid hb
  have HE := Lib.hid he
  have HR := Lib.hid hr
  have H6 := Lib.hid h6
  have HD := Lib.hid hd
  have HW := Lib.hid hwf
  have hgw : g < w.heap.size := (hA.block rfl).2
  have lb := hb.lt
  have le := he.lt
  have lr := hr.lt
  have l6 := h6.lt
  have hk6 : s.k ≤ 6 := hwf.k6
  clear hA hM hb he hr h6 hd hwf
  have HT := Lib.hid ht
  have n1 : (e0 != 1) = false := by rw [hk]; decide
  have a1 : (e0 == 1) = true := by rw [hk]; decide
  have a2 : (e0 == 2) = false := by rw [hk]; decide
  have a3 : (e0 == 3) = false := by rw [hk]; decide
  have a4 : (e0 == 4) = false := by rw [hk]; decide
  have a5 : (e0 == 5) = false := by rw [hk]; decide
  subst hic
  clear ht hk
  conv in restAt _ _ => whnf
  rw [HT.out]
  go_wp2_with fail
  exact app_none rfl rfl HR.out (Below.refl _ _) HD.out.2.2.2.2.1
set_option maxRecDepth 100000 in
set_option maxHeartbeats 6400000 in
theorem app_1b {v0 v1 v9 v10 v11 v12 v13 v14 v15 v16 v17 v18 v19 v20 v21 v22 v23 v24 v25 v26 v27 v28 v29 v30 v31 v32 v33 v34 v35 v36 v37 v38 v39 v40 v41 v42 v43 v44 v45 v46 v47 v48 v49 v50 v51 v52 v53 v54 v55 v56 v57 v58 v59 v60 v61 v62 v63 v64 v65 v66 v67 v68 v69 v70 v71 v72 v73 v74 v75 v76 v77 v78 v79 v80 v81 v82 v83 v84 v85 v86 v87 v88 v89 v90 v91 v92 v93 v94 v95 v96 v97 v98 v99 v100 v101 v102 v103 v104 v105 v106 v107 v108 v109 v110 v111 v112 v113 v114 v115 v116 v117 v118 v119 v120 v121 v122 v123 v124 v125 v126 v127 v128 v129 v130 v131 v132 v133 v134 v135 v136 v137 v138 v139 v140 v141 v142 v143 v144 v145 v146 v147 v148 v149 v150 v151 v152 v153 v154 v155 v156 v157 v158 v159 v160 v161 v162 v163 v164 v165 v166 v167 v168 v169 v170 v171 v172 v173 v174 v175 v176 v177 v178 v179 v180 v181 v182 v183 v184 v185 v186 v187 v188 v189 v190 v191 v192 v193 v194 v195 v196 v197 v198 v199 v200 v201 v202 v203 v204 v205 v206 v207 v208 v209 : Value} (hA : Own w B0 51 3 (.slice (some ⟨g, 0, none⟩) n c) n (ints2 s.c)) (hM : Own w B0 54 4 (.slice A' s.k c') s.k (ints2 s.m)) (hb : Blk w Bb 31 #[.slice Q n qc, .slice Q' s.k qc']) (he : Blk w Be 38 #[.int .i64 e0, .int .i64 e1, .int .i64 e2]) (hr : Blk w Br 31 #[.slice none 0 0, .slice none 0 0]) (h6 : Blk w B6 31 #[.slice (some ⟨g, 0, none⟩) n c, .slice A' s.k c']) (hd : Bb < B0 ∧ Be < B0 ∧ Br < B0 ∧ B0 ≤ B6 ∧ B1 ≤ Br ∧ B0 ≤ w.heap.size) (hwf : M.Wf n s)
    (ht : t = none) (hk : e0 = 1) (a : Nat) (ha : a < n) (hic : ic = true) (ha1 : e1 = (a : Int)) (c0 : s.c a 0 ≠ 1) :
    Code.wp Tryd.prog (restAt Tryd.f9 4) (bodyPost Tryd.prog Tryd.f9 (AppR n B1 B0 (.agg #[.slice Q n qc, .slice Q' s.k qc']) t w)) { tmps := List.toArray (v0 :: v1 :: .pointer (some ⟨Bb, 0, none⟩) :: .pointer (some ⟨Be, 0, none⟩) :: .pointer (some ⟨Br, 0, none⟩) :: .bool false :: .pointer (some ⟨B6, 0, none⟩) :: .bool ic :: .bool im :: v9 :: v10 :: v11 :: v12 :: v13 :: v14 :: v15 :: v16 :: v17 :: v18 :: v19 :: v20 :: v21 :: v22 :: v23 :: v24 :: v25 :: v26 :: v27 :: v28 :: v29 :: v30 :: v31 :: v32 :: v33 :: v34 :: v35 :: v36 :: v37 :: v38 :: v39 :: v40 :: v41 :: v42 :: v43 :: v44 :: v45 :: v46 :: v47 :: v48 :: v49 :: v50 :: v51 :: v52 :: v53 :: v54 :: v55 :: v56 :: v57 :: v58 :: v59 :: v60 :: v61 :: v62 :: v63 :: v64 :: v65 :: v66 :: v67 :: v68 :: v69 :: v70 :: v71 :: v72 :: v73 :: v74 :: v75 :: v76 :: v77 :: v78 :: v79 :: v80 :: v81 :: v82 :: v83 :: v84 :: v85 :: v86 :: v87 :: v88 :: v89 :: v90 :: v91 :: v92 :: v93 :: v94 :: v95 :: v96 :: v97 :: v98 :: v99 :: v100 :: v101 :: v102 :: v103 :: v104 :: v105 :: v106 :: v107 :: v108 :: v109 :: v110 :: v111 :: v112 :: v113 :: v114 :: v115 :: v116 :: v117 :: v118 :: v119 :: v120 :: v121 :: v122 :: v123 :: v124 :: v125 :: v126 :: v127 :: v128 :: v129 :: v130 :: v131 :: v132 :: v133 :: v134 :: v135 :: v136 :: v137 :: v138 :: v139 :: v140 :: v141 :: v142 :: v143 :: v144 :: v145 :: v146 :: v147 :: v148 :: v149 :: v150 :: v151 :: v152 :: v153 :: v154 :: v155 :: v156 :: v157 :: v158 :: v159 :: v160 :: v161 :: v162 :: v163 :: v164 :: v165 :: v166 :: v167 :: v168 :: v169 :: v170 :: v171 :: v172 :: v173 :: v174 :: v175 :: v176 :: v177 :: v178 :: v179 :: v180 :: v181 :: v182 :: v183 :: v184 :: v185 :: v186 :: v187 :: v188 :: v189 :: v190 :: v191 :: v192 :: v193 :: v194 :: v195 :: v196 :: v197 :: v198 :: v199 :: v200 :: v201 :: v202 :: v203 :: v204 :: v205 :: v206 :: v207 :: v208 :: v209 :: []), defers := [] } w := by
  have b0 := hb.cell 0
  have b1 := hb.cell 1
  have y0 := he.cell 0
  have y1 := he.cell 1
  have y2 := he.cell 2
  have r0 := hr.cell 0
  have r1 := hr.cell 1
  have q0 := hr.frz 0
  have q1 := hr.frz 1
  have d0 := h6.cell 0
  have d1 := h6.cell 1
  have HA := Lib.hid hA
  have HM := Lib.hid hM
  have HB := Lib.hid hb
  have HE := Lib.hid he
  have HR := Lib.hid hr
  have H6 := Lib.hid h6
  have HD := Lib.hid hd
  have HW := Lib.hid hwf
  have hgw : g < w.heap.size := (hA.block rfl).2
  have lb := hb.lt
  have le := he.lt
  have lr := hr.lt
  have l6 := h6.lt
  have hk6 : s.k ≤ 6 := hwf.k6
  clear hA hM hb he hr h6 hd hwf
  have HT := Lib.hid ht
  have n1 : (e0 != 1) = false := by rw [hk]; decide
  have a1 : (e0 == 1) = true := by rw [hk]; decide
  have a2 : (e0 == 2) = false := by rw [hk]; decide
  have a3 : (e0 == 3) = false := by rw [hk]; decide
  have a4 : (e0 == 4) = false := by rw [hk]; decide
  have a5 : (e0 == 5) = false := by rw [hk]; decide
  subst hic
  have z0 := HA.out.cell (i := a) (j := 0) ha (by omega)
  have z1 := HA.out.cell (i := a) (j := 1) ha (by omega)
  have z2 := HA.out.cell (i := a) (j := 2) ha (by omega)
  rw [Nat.add_zero] at z0
  have ix : decide (n ≤ a) = false := decide_eq_false (by omega)
  have fc0 : (s.c a 0 != 1) = true := by rw [bne_iff_ne]; exact c0
  subst ha1
  clear ht hk c0
  conv in restAt _ _ => whnf
  rw [HT.out]
  go_wp2_with fail
  exact app_none rfl rfl HR.out (Below.refl _ _) HD.out.2.2.2.2.1
set_option maxRecDepth 100000 in
set_option maxHeartbeats 6400000 in
theorem app_1c {v0 v1 v9 v10 v11 v12 v13 v14 v15 v16 v17 v18 v19 v20 v21 v22 v23 v24 v25 v26 v27 v28 v29 v30 v31 v32 v33 v34 v35 v36 v37 v38 v39 v40 v41 v42 v43 v44 v45 v46 v47 v48 v49 v50 v51 v52 v53 v54 v55 v56 v57 v58 v59 v60 v61 v62 v63 v64 v65 v66 v67 v68 v69 v70 v71 v72 v73 v74 v75 v76 v77 v78 v79 v80 v81 v82 v83 v84 v85 v86 v87 v88 v89 v90 v91 v92 v93 v94 v95 v96 v97 v98 v99 v100 v101 v102 v103 v104 v105 v106 v107 v108 v109 v110 v111 v112 v113 v114 v115 v116 v117 v118 v119 v120 v121 v122 v123 v124 v125 v126 v127 v128 v129 v130 v131 v132 v133 v134 v135 v136 v137 v138 v139 v140 v141 v142 v143 v144 v145 v146 v147 v148 v149 v150 v151 v152 v153 v154 v155 v156 v157 v158 v159 v160 v161 v162 v163 v164 v165 v166 v167 v168 v169 v170 v171 v172 v173 v174 v175 v176 v177 v178 v179 v180 v181 v182 v183 v184 v185 v186 v187 v188 v189 v190 v191 v192 v193 v194 v195 v196 v197 v198 v199 v200 v201 v202 v203 v204 v205 v206 v207 v208 v209 : Value} (hA : Own w B0 51 3 (.slice (some ⟨g, 0, none⟩) n c) n (ints2 s.c)) (hM : Own w B0 54 4 (.slice A' s.k c') s.k (ints2 s.m)) (hb : Blk w Bb 31 #[.slice Q n qc, .slice Q' s.k qc']) (he : Blk w Be 38 #[.int .i64 e0, .int .i64 e1, .int .i64 e2]) (hr : Blk w Br 31 #[.slice none 0 0, .slice none 0 0]) (h6 : Blk w B6 31 #[.slice (some ⟨g, 0, none⟩) n c, .slice A' s.k c']) (hd : Bb < B0 ∧ Be < B0 ∧ Br < B0 ∧ B0 ≤ B6 ∧ B1 ≤ Br ∧ B0 ≤ w.heap.size) (hwf : M.Wf n s)
    (ht : t = none) (hk : e0 = 1) (a : Nat) (ha : a < n) (hic : ic = true) (ha1 : e1 = (a : Int)) (c0 : s.c a 0 = 1) (c2 : 9 ≤ s.c a 2) :
    Code.wp Tryd.prog (restAt Tryd.f9 4) (bodyPost Tryd.prog Tryd.f9 (AppR n B1 B0 (.agg #[.slice Q n qc, .slice Q' s.k qc']) t w)) { tmps := List.toArray (v0 :: v1 :: .pointer (some ⟨Bb, 0, none⟩) :: .pointer (some ⟨Be, 0, none⟩) :: .pointer (some ⟨Br, 0, none⟩) :: .bool false :: .pointer (some ⟨B6, 0, none⟩) :: .bool ic :: .bool im :: v9 :: v10 :: v11 :: v12 :: v13 :: v14 :: v15 :: v16 :: v17 :: v18 :: v19 :: v20 :: v21 :: v22 :: v23 :: v24 :: v25 :: v26 :: v27 :: v28 :: v29 :: v30 :: v31 :: v32 :: v33 :: v34 :: v35 :: v36 :: v37 :: v38 :: v39 :: v40 :: v41 :: v42 :: v43 :: v44 :: v45 :: v46 :: v47 :: v48 :: v49 :: v50 :: v51 :: v52 :: v53 :: v54 :: v55 :: v56 :: v57 :: v58 :: v59 :: v60 :: v61 :: v62 :: v63 :: v64 :: v65 :: v66 :: v67 :: v68 :: v69 :: v70 :: v71 :: v72 :: v73 :: v74 :: v75 :: v76 :: v77 :: v78 :: v79 :: v80 :: v81 :: v82 :: v83 :: v84 :: v85 :: v86 :: v87 :: v88 :: v89 :: v90 :: v91 :: v92 :: v93 :: v94 :: v95 :: v96 :: v97 :: v98 :: v99 :: v100 :: v101 :: v102 :: v103 :: v104 :: v105 :: v106 :: v107 :: v108 :: v109 :: v110 :: v111 :: v112 :: v113 :: v114 :: v115 :: v116 :: v117 :: v118 :: v119 :: v120 :: v121 :: v122 :: v123 :: v124 :: v125 :: v126 :: v127 :: v128 :: v129 :: v130 :: v131 :: v132 :: v133 :: v134 :: v135 :: v136 :: v137 :: v138 :: v139 :: v140 :: v141 :: v142 :: v143 :: v144 :: v145 :: v146 :: v147 :: v148 :: v149 :: v150 :: v151 :: v152 :: v153 :: v154 :: v155 :: v156 :: v157 :: v158 :: v159 :: v160 :: v161 :: v162 :: v163 :: v164 :: v165 :: v166 :: v167 :: v168 :: v169 :: v170 :: v171 :: v172 :: v173 :: v174 :: v175 :: v176 :: v177 :: v178 :: v179 :: v180 :: v181 :: v182 :: v183 :: v184 :: v185 :: v186 :: v187 :: v188 :: v189 :: v190 :: v191 :: v192 :: v193 :: v194 :: v195 :: v196 :: v197 :: v198 :: v199 :: v200 :: v201 :: v202 :: v203 :: v204 :: v205 :: v206 :: v207 :: v208 :: v209 :: []), defers := [] } w := by
  have b0 := hb.cell 0
  have b1 := hb.cell 1
  have y0 := he.cell 0
  have y1 := he.cell 1
  have y2 := he.cell 2
  have r0 := hr.cell 0
  have r1 := hr.cell 1
  have q0 := hr.frz 0
  have q1 := hr.frz 1
  have d0 := h6.cell 0
  have d1 := h6.cell 1
  have HA := Lib.hid hA
  have HM := Lib.hid hM
  have HB := Lib.hid hb
  have HE := Lib.hid he
  have HR := Lib.hid hr
  have H6 := Lib.hid h6
  have HD := Lib.hid hd
  have HW := Lib.hid hwf
  have hgw : g < w.heap.size := (hA.block rfl).2
  have lb := hb.lt
  have le := he.lt
  have lr := hr.lt
  have l6 := h6.lt
  have hk6 : s.k ≤ 6 := hwf.k6
  clear hA hM hb he hr h6 hd hwf
  have HT := Lib.hid ht
  have n1 : (e0 != 1) = false := by rw [hk]; decide
  have a1 : (e0 == 1) = true := by rw [hk]; decide
  have a2 : (e0 == 2) = false := by rw [hk]; decide
  have a3 : (e0 == 3) = false := by rw [hk]; decide
  have a4 : (e0 == 4) = false := by rw [hk]; decide
  have a5 : (e0 == 5) = false := by rw [hk]; decide
  subst hic
  have z0 := HA.out.cell (i := a) (j := 0) ha (by omega)
  have z1 := HA.out.cell (i := a) (j := 1) ha (by omega)
  have z2 := HA.out.cell (i := a) (j := 2) ha (by omega)
  rw [Nat.add_zero] at z0
  have ix : decide (n ≤ a) = false := decide_eq_false (by omega)
  have fc0 : (s.c a 0 != 1) = false := by rw [c0]; decide
  have fc2 : decide (9 ≤ s.c a 2) = true := decide_eq_true c2
  subst ha1
  clear ht hk c0 c2
  conv in restAt _ _ => whnf
  rw [HT.out]
  go_wp2_with fail
  exact app_none rfl rfl HR.out (Below.refl _ _) HD.out.2.2.2.2.1
set_option maxRecDepth 100000 in
set_option maxHeartbeats 6400000 in
theorem app_1d {v0 v1 v9 v10 v11 v12 v13 v14 v15 v16 v17 v18 v19 v20 v21 v22 v23 v24 v25 v26 v27 v28 v29 v30 v31 v32 v33 v34 v35 v36 v37 v38 v39 v40 v41 v42 v43 v44 v45 v46 v47 v48 v49 v50 v51 v52 v53 v54 v55 v56 v57 v58 v59 v60 v61 v62 v63 v64 v65 v66 v67 v68 v69 v70 v71 v72 v73 v74 v75 v76 v77 v78 v79 v80 v81 v82 v83 v84 v85 v86 v87 v88 v89 v90 v91 v92 v93 v94 v95 v96 v97 v98 v99 v100 v101 v102 v103 v104 v105 v106 v107 v108 v109 v110 v111 v112 v113 v114 v115 v116 v117 v118 v119 v120 v121 v122 v123 v124 v125 v126 v127 v128 v129 v130 v131 v132 v133 v134 v135 v136 v137 v138 v139 v140 v141 v142 v143 v144 v145 v146 v147 v148 v149 v150 v151 v152 v153 v154 v155 v156 v157 v158 v159 v160 v161 v162 v163 v164 v165 v166 v167 v168 v169 v170 v171 v172 v173 v174 v175 v176 v177 v178 v179 v180 v181 v182 v183 v184 v185 v186 v187 v188 v189 v190 v191 v192 v193 v194 v195 v196 v197 v198 v199 v200 v201 v202 v203 v204 v205 v206 v207 v208 v209 : Value} (hA : Own w B0 51 3 (.slice (some ⟨g, 0, none⟩) n c) n (ints2 s.c)) (hM : Own w B0 54 4 (.slice A' s.k c') s.k (ints2 s.m)) (hb : Blk w Bb 31 #[.slice Q n qc, .slice Q' s.k qc']) (he : Blk w Be 38 #[.int .i64 e0, .int .i64 e1, .int .i64 e2]) (hr : Blk w Br 31 #[.slice none 0 0, .slice none 0 0]) (h6 : Blk w B6 31 #[.slice (some ⟨g, 0, none⟩) n c, .slice A' s.k c']) (hd : Bb < B0 ∧ Be < B0 ∧ Br < B0 ∧ B0 ≤ B6 ∧ B1 ≤ Br ∧ B0 ≤ w.heap.size) (hwf : M.Wf n s)
    (ht : t = none) (hk : e0 = 1) (a : Nat) (ha : a < n) (hic : ic = true) (ha1 : e1 = (a : Int)) (c0 : s.c a 0 = 1) (c2 : s.c a 2 < 9) (l0 : e2 < 0) :
    Code.wp Tryd.prog (restAt Tryd.f9 4) (bodyPost Tryd.prog Tryd.f9 (AppR n B1 B0 (.agg #[.slice Q n qc, .slice Q' s.k qc']) t w)) { tmps := List.toArray (v0 :: v1 :: .pointer (some ⟨Bb, 0, none⟩) :: .pointer (some ⟨Be, 0, none⟩) :: .pointer (some ⟨Br, 0, none⟩) :: .bool false :: .pointer (some ⟨B6, 0, none⟩) :: .bool ic :: .bool im :: v9 :: v10 :: v11 :: v12 :: v13 :: v14 :: v15 :: v16 :: v17 :: v18 :: v19 :: v20 :: v21 :: v22 :: v23 :: v24 :: v25 :: v26 :: v27 :: v28 :: v29 :: v30 :: v31 :: v32 :: v33 :: v34 :: v35 :: v36 :: v37 :: v38 :: v39 :: v40 :: v41 :: v42 :: v43 :: v44 :: v45 :: v46 :: v47 :: v48 :: v49 :: v50 :: v51 :: v52 :: v53 :: v54 :: v55 :: v56 :: v57 :: v58 :: v59 :: v60 :: v61 :: v62 :: v63 :: v64 :: v65 :: v66 :: v67 :: v68 :: v69 :: v70 :: v71 :: v72 :: v73 :: v74 :: v75 :: v76 :: v77 :: v78 :: v79 :: v80 :: v81 :: v82 :: v83 :: v84 :: v85 :: v86 :: v87 :: v88 :: v89 :: v90 :: v91 :: v92 :: v93 :: v94 :: v95 :: v96 :: v97 :: v98 :: v99 :: v100 :: v101 :: v102 :: v103 :: v104 :: v105 :: v106 :: v107 :: v108 :: v109 :: v110 :: v111 :: v112 :: v113 :: v114 :: v115 :: v116 :: v117 :: v118 :: v119 :: v120 :: v121 :: v122 :: v123 :: v124 :: v125 :: v126 :: v127 :: v128 :: v129 :: v130 :: v131 :: v132 :: v133 :: v134 :: v135 :: v136 :: v137 :: v138 :: v139 :: v140 :: v141 :: v142 :: v143 :: v144 :: v145 :: v146 :: v147 :: v148 :: v149 :: v150 :: v151 :: v152 :: v153 :: v154 :: v155 :: v156 :: v157 :: v158 :: v159 :: v160 :: v161 :: v162 :: v163 :: v164 :: v165 :: v166 :: v167 :: v168 :: v169 :: v170 :: v171 :: v172 :: v173 :: v174 :: v175 :: v176 :: v177 :: v178 :: v179 :: v180 :: v181 :: v182 :: v183 :: v184 :: v185 :: v186 :: v187 :: v188 :: v189 :: v190 :: v191 :: v192 :: v193 :: v194 :: v195 :: v196 :: v197 :: v198 :: v199 :: v200 :: v201 :: v202 :: v203 :: v204 :: v205 :: v206 :: v207 :: v208 :: v209 :: []), defers := [] } w := by
  have b0 := hb.cell 0
  have b1 := hb.cell 1
  have y0 := he.cell 0
  have y1 := he.cell 1
  have y2 := he.cell 2
  have r0 := hr.cell 0
  have r1 := hr.cell 1
  have q0 := hr.frz 0
  have q1 := hr.frz 1
  have d0 := h6.cell 0
  have d1 := h6.cell 1
  have HA := Lib.hid hA
  have HM := Lib.hid hM
  have HB := Lib.hid hb
  have HE := Lib.hid he
  have HR := Lib.hid hr
  have H6 := Lib.hid h6
  have HD := Lib.hid hd
  have HW := Lib.hid hwf
  have hgw : g < w.heap.size := (hA.block rfl).2
  have lb := hb.lt
  have le := he.lt
  have lr := hr.lt
  have l6 := h6.lt
  have hk6 : s.k ≤ 6 := hwf.k6
  clear hA hM hb he hr h6 hd hwf
  have HT := Lib.hid ht
  have n1 : (e0 != 1) = false := by rw [hk]; decide
  have a1 : (e0 == 1) = true := by rw [hk]; decide
  have a2 : (e0 == 2) = false := by rw [hk]; decide
  have a3 : (e0 == 3) = false := by rw [hk]; decide
  have a4 : (e0 == 4) = false := by rw [hk]; decide
  have a5 : (e0 == 5) = false := by rw [hk]; decide
  subst hic
  have z0 := HA.out.cell (i := a) (j := 0) ha (by omega)
  have z1 := HA.out.cell (i := a) (j := 1) ha (by omega)
  have z2 := HA.out.cell (i := a) (j := 2) ha (by omega)
  rw [Nat.add_zero] at z0
  have ix : decide (n ≤ a) = false := decide_eq_false (by omega)
  have fc0 : (s.c a 0 != 1) = false := by rw [c0]; decide
  have fc2 : decide (9 ≤ s.c a 2) = false := decide_eq_false (by omega)
  have fl0 : decide (e2 < 0) = true := decide_eq_true l0
  subst ha1
  clear ht hk c0 c2 l0
  conv in restAt _ _ => whnf
  rw [HT.out]
  go_wp2_with fail
  exact app_none rfl rfl HR.out (Below.refl _ _) HD.out.2.2.2.2.1
set_option maxRecDepth 100000 in
set_option maxHeartbeats 6400000 in
theorem app_1e {v0 v1 v9 v10 v11 v12 v13 v14 v15 v16 v17 v18 v19 v20 v21 v22 v23 v24 v25 v26 v27 v28 v29 v30 v31 v32 v33 v34 v35 v36 v37 v38 v39 v40 v41 v42 v43 v44 v45 v46 v47 v48 v49 v50 v51 v52 v53 v54 v55 v56 v57 v58 v59 v60 v61 v62 v63 v64 v65 v66 v67 v68 v69 v70 v71 v72 v73 v74 v75 v76 v77 v78 v79 v80 v81 v82 v83 v84 v85 v86 v87 v88 v89 v90 v91 v92 v93 v94 v95 v96 v97 v98 v99 v100 v101 v102 v103 v104 v105 v106 v107 v108 v109 v110 v111 v112 v113 v114 v115 v116 v117 v118 v119 v120 v121 v122 v123 v124 v125 v126 v127 v128 v129 v130 v131 v132 v133 v134 v135 v136 v137 v138 v139 v140 v141 v142 v143 v144 v145 v146 v147 v148 v149 v150 v151 v152 v153 v154 v155 v156 v157 v158 v159 v160 v161 v162 v163 v164 v165 v166 v167 v168 v169 v170 v171 v172 v173 v174 v175 v176 v177 v178 v179 v180 v181 v182 v183 v184 v185 v186 v187 v188 v189 v190 v191 v192 v193 v194 v195 v196 v197 v198 v199 v200 v201 v202 v203 v204 v205 v206 v207 v208 v209 : Value} (hA : Own w B0 51 3 (.slice (some ⟨g, 0, none⟩) n c) n (ints2 s.c)) (hM : Own w B0 54 4 (.slice A' s.k c') s.k (ints2 s.m)) (hb : Blk w Bb 31 #[.slice Q n qc, .slice Q' s.k qc']) (he : Blk w Be 38 #[.int .i64 e0, .int .i64 e1, .int .i64 e2]) (hr : Blk w Br 31 #[.slice none 0 0, .slice none 0 0]) (h6 : Blk w B6 31 #[.slice (some ⟨g, 0, none⟩) n c, .slice A' s.k c']) (hd : Bb < B0 ∧ Be < B0 ∧ Br < B0 ∧ B0 ≤ B6 ∧ B1 ≤ Br ∧ B0 ≤ w.heap.size) (hwf : M.Wf n s)
    (ht : t = none) (hk : e0 = 1) (a : Nat) (ha : a < n) (hic : ic = true) (ha1 : e1 = (a : Int)) (c0 : s.c a 0 = 1) (c2 : s.c a 2 < 9) (l0 : 0 ≤ e2) (l1 : (n : Int) ≤ e2) :
    Code.wp Tryd.prog (restAt Tryd.f9 4) (bodyPost Tryd.prog Tryd.f9 (AppR n B1 B0 (.agg #[.slice Q n qc, .slice Q' s.k qc']) t w)) { tmps := List.toArray (v0 :: v1 :: .pointer (some ⟨Bb, 0, none⟩) :: .pointer (some ⟨Be, 0, none⟩) :: .pointer (some ⟨Br, 0, none⟩) :: .bool false :: .pointer (some ⟨B6, 0, none⟩) :: .bool ic :: .bool im :: v9 :: v10 :: v11 :: v12 :: v13 :: v14 :: v15 :: v16 :: v17 :: v18 :: v19 :: v20 :: v21 :: v22 :: v23 :: v24 :: v25 :: v26 :: v27 :: v28 :: v29 :: v30 :: v31 :: v32 :: v33 :: v34 :: v35 :: v36 :: v37 :: v38 :: v39 :: v40 :: v41 :: v42 :: v43 :: v44 :: v45 :: v46 :: v47 :: v48 :: v49 :: v50 :: v51 :: v52 :: v53 :: v54 :: v55 :: v56 :: v57 :: v58 :: v59 :: v60 :: v61 :: v62 :: v63 :: v64 :: v65 :: v66 :: v67 :: v68 :: v69 :: v70 :: v71 :: v72 :: v73 :: v74 :: v75 :: v76 :: v77 :: v78 :: v79 :: v80 :: v81 :: v82 :: v83 :: v84 :: v85 :: v86 :: v87 :: v88 :: v89 :: v90 :: v91 :: v92 :: v93 :: v94 :: v95 :: v96 :: v97 :: v98 :: v99 :: v100 :: v101 :: v102 :: v103 :: v104 :: v105 :: v106 :: v107 :: v108 :: v109 :: v110 :: v111 :: v112 :: v113 :: v114 :: v115 :: v116 :: v117 :: v118 :: v119 :: v120 :: v121 :: v122 :: v123 :: v124 :: v125 :: v126 :: v127 :: v128 :: v129 :: v130 :: v131 :: v132 :: v133 :: v134 :: v135 :: v136 :: v137 :: v138 :: v139 :: v140 :: v141 :: v142 :: v143 :: v144 :: v145 :: v146 :: v147 :: v148 :: v149 :: v150 :: v151 :: v152 :: v153 :: v154 :: v155 :: v156 :: v157 :: v158 :: v159 :: v160 :: v161 :: v162 :: v163 :: v164 :: v165 :: v166 :: v167 :: v168 :: v169 :: v170 :: v171 :: v172 :: v173 :: v174 :: v175 :: v176 :: v177 :: v178 :: v179 :: v180 :: v181 :: v182 :: v183 :: v184 :: v185 :: v186 :: v187 :: v188 :: v189 :: v190 :: v191 :: v192 :: v193 :: v194 :: v195 :: v196 :: v197 :: v198 :: v199 :: v200 :: v201 :: v202 :: v203 :: v204 :: v205 :: v206 :: v207 :: v208 :: v209 :: []), defers := [] } w := by
  have b0 := hb.cell 0
  have b1 := hb.cell 1
  have y0 := he.cell 0
  have y1 := he.cell 1
  have y2 := he.cell 2
  have r0 := hr.cell 0
  have r1 := hr.cell 1
  have q0 := hr.frz 0
  have q1 := hr.frz 1
  have d0 := h6.cell 0
  have d1 := h6.cell 1
  have HA := Lib.hid hA
  have HM := Lib.hid hM
  have HB := Lib.hid hb
  have HE := Lib.hid he
  have HR := Lib.hid hr
  have H6 := Lib.hid h6
  have HD := Lib.hid hd
  have HW := Lib.hid hwf
  have hgw : g < w.heap.size := (hA.block rfl).2
  have lb := hb.lt
  have le := he.lt
  have lr := hr.lt
  have l6 := h6.lt
  have hk6 : s.k ≤ 6 := hwf.k6
  clear hA hM hb he hr h6 hd hwf
  have HT := Lib.hid ht
  have n1 : (e0 != 1) = false := by rw [hk]; decide
  have a1 : (e0 == 1) = true := by rw [hk]; decide
  have a2 : (e0 == 2) = false := by rw [hk]; decide
  have a3 : (e0 == 3) = false := by rw [hk]; decide
  have a4 : (e0 == 4) = false := by rw [hk]; decide
  have a5 : (e0 == 5) = false := by rw [hk]; decide
  subst hic
  have z0 := HA.out.cell (i := a) (j := 0) ha (by omega)
  have z1 := HA.out.cell (i := a) (j := 1) ha (by omega)
  have z2 := HA.out.cell (i := a) (j := 2) ha (by omega)
  rw [Nat.add_zero] at z0
  have ix : decide (n ≤ a) = false := decide_eq_false (by omega)
  have fc0 : (s.c a 0 != 1) = false := by rw [c0]; decide
  have fc2 : decide (9 ≤ s.c a 2) = false := decide_eq_false (by omega)
  have fl0 : decide (e2 < 0) = false := decide_eq_false (by omega)
  have fl1 : decide ((n : Int) ≤ e2) = true := decide_eq_true l1
  subst ha1
  clear ht hk c0 c2 l0 l1
  conv in restAt _ _ => whnf
  rw [HT.out]
  go_wp2_with fail
  exact app_none rfl rfl HR.out (Below.refl _ _) HD.out.2.2.2.2.1
set_option maxRecDepth 100000 in
set_option maxHeartbeats 6400000 in
theorem app_1f {v0 v1 v9 v10 v11 v12 v13 v14 v15 v16 v17 v18 v19 v20 v21 v22 v23 v24 v25 v26 v27 v28 v29 v30 v31 v32 v33 v34 v35 v36 v37 v38 v39 v40 v41 v42 v43 v44 v45 v46 v47 v48 v49 v50 v51 v52 v53 v54 v55 v56 v57 v58 v59 v60 v61 v62 v63 v64 v65 v66 v67 v68 v69 v70 v71 v72 v73 v74 v75 v76 v77 v78 v79 v80 v81 v82 v83 v84 v85 v86 v87 v88 v89 v90 v91 v92 v93 v94 v95 v96 v97 v98 v99 v100 v101 v102 v103 v104 v105 v106 v107 v108 v109 v110 v111 v112 v113 v114 v115 v116 v117 v118 v119 v120 v121 v122 v123 v124 v125 v126 v127 v128 v129 v130 v131 v132 v133 v134 v135 v136 v137 v138 v139 v140 v141 v142 v143 v144 v145 v146 v147 v148 v149 v150 v151 v152 v153 v154 v155 v156 v157 v158 v159 v160 v161 v162 v163 v164 v165 v166 v167 v168 v169 v170 v171 v172 v173 v174 v175 v176 v177 v178 v179 v180 v181 v182 v183 v184 v185 v186 v187 v188 v189 v190 v191 v192 v193 v194 v195 v196 v197 v198 v199 v200 v201 v202 v203 v204 v205 v206 v207 v208 v209 : Value} (hA : Own w B0 51 3 (.slice (some ⟨g, 0, none⟩) n c) n (ints2 s.c)) (hM : Own w B0 54 4 (.slice A' s.k c') s.k (ints2 s.m)) (hb : Blk w Bb 31 #[.slice Q n qc, .slice Q' s.k qc']) (he : Blk w Be 38 #[.int .i64 e0, .int .i64 e1, .int .i64 e2]) (hr : Blk w Br 31 #[.slice none 0 0, .slice none 0 0]) (h6 : Blk w B6 31 #[.slice (some ⟨g, 0, none⟩) n c, .slice A' s.k c']) (hd : Bb < B0 ∧ Be < B0 ∧ Br < B0 ∧ B0 ≤ B6 ∧ B1 ≤ Br ∧ B0 ≤ w.heap.size) (hwf : M.Wf n s)
    (ht : t = none) (hk : e0 = 1) (a : Nat) (ha : a < n) (hic : ic = true) (ha1 : e1 = (a : Int)) (c0 : s.c a 0 = 1) (c2 : s.c a 2 < 9) (l0 : 0 ≤ e2) (l1 : e2 < n) (l2 : e2 = (a : Int)) :
    Code.wp Tryd.prog (restAt Tryd.f9 4) (bodyPost Tryd.prog Tryd.f9 (AppR n B1 B0 (.agg #[.slice Q n qc, .slice Q' s.k qc']) t w)) { tmps := List.toArray (v0 :: v1 :: .pointer (some ⟨Bb, 0, none⟩) :: .pointer (some ⟨Be, 0, none⟩) :: .pointer (some ⟨Br, 0, none⟩) :: .bool false :: .pointer (some ⟨B6, 0, none⟩) :: .bool ic :: .bool im :: v9 :: v10 :: v11 :: v12 :: v13 :: v14 :: v15 :: v16 :: v17 :: v18 :: v19 :: v20 :: v21 :: v22 :: v23 :: v24 :: v25 :: v26 :: v27 :: v28 :: v29 :: v30 :: v31 :: v32 :: v33 :: v34 :: v35 :: v36 :: v37 :: v38 :: v39 :: v40 :: v41 :: v42 :: v43 :: v44 :: v45 :: v46 :: v47 :: v48 :: v49 :: v50 :: v51 :: v52 :: v53 :: v54 :: v55 :: v56 :: v57 :: v58 :: v59 :: v60 :: v61 :: v62 :: v63 :: v64 :: v65 :: v66 :: v67 :: v68 :: v69 :: v70 :: v71 :: v72 :: v73 :: v74 :: v75 :: v76 :: v77 :: v78 :: v79 :: v80 :: v81 :: v82 :: v83 :: v84 :: v85 :: v86 :: v87 :: v88 :: v89 :: v90 :: v91 :: v92 :: v93 :: v94 :: v95 :: v96 :: v97 :: v98 :: v99 :: v100 :: v101 :: v102 :: v103 :: v104 :: v105 :: v106 :: v107 :: v108 :: v109 :: v110 :: v111 :: v112 :: v113 :: v114 :: v115 :: v116 :: v117 :: v118 :: v119 :: v120 :: v121 :: v122 :: v123 :: v124 :: v125 :: v126 :: v127 :: v128 :: v129 :: v130 :: v131 :: v132 :: v133 :: v134 :: v135 :: v136 :: v137 :: v138 :: v139 :: v140 :: v141 :: v142 :: v143 :: v144 :: v145 :: v146 :: v147 :: v148 :: v149 :: v150 :: v151 :: v152 :: v153 :: v154 :: v155 :: v156 :: v157 :: v158 :: v159 :: v160 :: v161 :: v162 :: v163 :: v164 :: v165 :: v166 :: v167 :: v168 :: v169 :: v170 :: v171 :: v172 :: v173 :: v174 :: v175 :: v176 :: v177 :: v178 :: v179 :: v180 :: v181 :: v182 :: v183 :: v184 :: v185 :: v186 :: v187 :: v188 :: v189 :: v190 :: v191 :: v192 :: v193 :: v194 :: v195 :: v196 :: v197 :: v198 :: v199 :: v200 :: v201 :: v202 :: v203 :: v204 :: v205 :: v206 :: v207 :: v208 :: v209 :: []), defers := [] } w := by
  have b0 := hb.cell 0
  have b1 := hb.cell 1
  have y0 := he.cell 0
  have y1 := he.cell 1
  have y2 := he.cell 2
  have r0 := hr.cell 0
  have r1 := hr.cell 1
  have q0 := hr.frz 0
  have q1 := hr.frz 1
  have d0 := h6.cell 0
  have d1 := h6.cell 1
  have HA := Lib.hid hA
  have HM := Lib.hid hM
  have HB := Lib.hid hb
  have HE := Lib.hid he
  have HR := Lib.hid hr
  have H6 := Lib.hid h6
  have HD := Lib.hid hd
  have HW := Lib.hid hwf
  have hgw : g < w.heap.size := (hA.block rfl).2
  have lb := hb.lt
  have le := he.lt
  have lr := hr.lt
  have l6 := h6.lt
  have hk6 : s.k ≤ 6 := hwf.k6
  clear hA hM hb he hr h6 hd hwf
  have HT := Lib.hid ht
  have n1 : (e0 != 1) = false := by rw [hk]; decide
  have a1 : (e0 == 1) = true := by rw [hk]; decide
  have a2 : (e0 == 2) = false := by rw [hk]; decide
  have a3 : (e0 == 3) = false := by rw [hk]; decide
  have a4 : (e0 == 4) = false := by rw [hk]; decide
  have a5 : (e0 == 5) = false := by rw [hk]; decide
  subst hic
  have z0 := HA.out.cell (i := a) (j := 0) ha (by omega)
  have z1 := HA.out.cell (i := a) (j := 1) ha (by omega)
  have z2 := HA.out.cell (i := a) (j := 2) ha (by omega)
  rw [Nat.add_zero] at z0
  have ix : decide (n ≤ a) = false := decide_eq_false (by omega)
  have fc0 : (s.c a 0 != 1) = false := by rw [c0]; decide
  have fc2 : decide (9 ≤ s.c a 2) = false := decide_eq_false (by omega)
  have fl0 : decide (e2 < 0) = false := decide_eq_false (by omega)
  have fl1 : decide ((n : Int) ≤ e2) = false := decide_eq_false (by omega)
  have fl2 : (e2 == (a : Int)) = true := by rw [l2]; simp
  subst ha1
  clear ht hk c0 c2 l0 l1 l2
  conv in restAt _ _ => whnf
  rw [HT.out]
  go_wp2_with fail
  exact app_none rfl rfl HR.out (Below.refl _ _) HD.out.2.2.2.2.1
set_option maxRecDepth 100000 in
set_option maxHeartbeats 6400000 in
theorem app_1g {v0 v1 v9 v10 v11 v12 v13 v14 v15 v16 v17 v18 v19 v20 v21 v22 v23 v24 v25 v26 v27 v28 v29 v30 v31 v32 v33 v34 v35 v36 v37 v38 v39 v40 v41 v42 v43 v44 v45 v46 v47 v48 v49 v50 v51 v52 v53 v54 v55 v56 v57 v58 v59 v60 v61 v62 v63 v64 v65 v66 v67 v68 v69 v70 v71 v72 v73 v74 v75 v76 v77 v78 v79 v80 v81 v82 v83 v84 v85 v86 v87 v88 v89 v90 v91 v92 v93 v94 v95 v96 v97 v98 v99 v100 v101 v102 v103 v104 v105 v106 v107 v108 v109 v110 v111 v112 v113 v114 v115 v116 v117 v118 v119 v120 v121 v122 v123 v124 v125 v126 v127 v128 v129 v130 v131 v132 v133 v134 v135 v136 v137 v138 v139 v140 v141 v142 v143 v144 v145 v146 v147 v148 v149 v150 v151 v152 v153 v154 v155 v156 v157 v158 v159 v160 v161 v162 v163 v164 v165 v166 v167 v168 v169 v170 v171 v172 v173 v174 v175 v176 v177 v178 v179 v180 v181 v182 v183 v184 v185 v186 v187 v188 v189 v190 v191 v192 v193 v194 v195 v196 v197 v198 v199 v200 v201 v202 v203 v204 v205 v206 v207 v208 v209 : Value} (hA : Own w B0 51 3 (.slice (some ⟨g, 0, none⟩) n c) n (ints2 s.c)) (hM : Own w B0 54 4 (.slice A' s.k c') s.k (ints2 s.m)) (hb : Blk w Bb 31 #[.slice Q n qc, .slice Q' s.k qc']) (he : Blk w Be 38 #[.int .i64 e0, .int .i64 e1, .int .i64 e2]) (hr : Blk w Br 31 #[.slice none 0 0, .slice none 0 0]) (h6 : Blk w B6 31 #[.slice (some ⟨g, 0, none⟩) n c, .slice A' s.k c']) (hd : Bb < B0 ∧ Be < B0 ∧ Br < B0 ∧ B0 ≤ B6 ∧ B1 ≤ Br ∧ B0 ≤ w.heap.size) (hwf : M.Wf n s)
    (ht : t = none) (hk : e0 = 1) (a : Nat) (ha : a < n) (hic : ic = true) (ha1 : e1 = (a : Int)) (c0 : s.c a 0 = 1) (c2 : s.c a 2 < 9) (l0 : 0 ≤ e2) (l1 : e2 < n) (l2 : e2 ≠ (a : Int)) (l3 : 6 ≤ s.k) :
    Code.wp Tryd.prog (restAt Tryd.f9 4) (bodyPost Tryd.prog Tryd.f9 (AppR n B1 B0 (.agg #[.slice Q n qc, .slice Q' s.k qc']) t w)) { tmps := List.toArray (v0 :: v1 :: .pointer (some ⟨Bb, 0, none⟩) :: .pointer (some ⟨Be, 0, none⟩) :: .pointer (some ⟨Br, 0, none⟩) :: .bool false :: .pointer (some ⟨B6, 0, none⟩) :: .bool ic :: .bool im :: v9 :: v10 :: v11 :: v12 :: v13 :: v14 :: v15 :: v16 :: v17 :: v18 :: v19 :: v20 :: v21 :: v22 :: v23 :: v24 :: v25 :: v26 :: v27 :: v28 :: v29 :: v30 :: v31 :: v32 :: v33 :: v34 :: v35 :: v36 :: v37 :: v38 :: v39 :: v40 :: v41 :: v42 :: v43 :: v44 :: v45 :: v46 :: v47 :: v48 :: v49 :: v50 :: v51 :: v52 :: v53 :: v54 :: v55 :: v56 :: v57 :: v58 :: v59 :: v60 :: v61 :: v62 :: v63 :: v64 :: v65 :: v66 :: v67 :: v68 :: v69 :: v70 :: v71 :: v72 :: v73 :: v74 :: v75 :: v76 :: v77 :: v78 :: v79 :: v80 :: v81 :: v82 :: v83 :: v84 :: v85 :: v86 :: v87 :: v88 :: v89 :: v90 :: v91 :: v92 :: v93 :: v94 :: v95 :: v96 :: v97 :: v98 :: v99 :: v100 :: v101 :: v102 :: v103 :: v104 :: v105 :: v106 :: v107 :: v108 :: v109 :: v110 :: v111 :: v112 :: v113 :: v114 :: v115 :: v116 :: v117 :: v118 :: v119 :: v120 :: v121 :: v122 :: v123 :: v124 :: v125 :: v126 :: v127 :: v128 :: v129 :: v130 :: v131 :: v132 :: v133 :: v134 :: v135 :: v136 :: v137 :: v138 :: v139 :: v140 :: v141 :: v142 :: v143 :: v144 :: v145 :: v146 :: v147 :: v148 :: v149 :: v150 :: v151 :: v152 :: v153 :: v154 :: v155 :: v156 :: v157 :: v158 :: v159 :: v160 :: v161 :: v162 :: v163 :: v164 :: v165 :: v166 :: v167 :: v168 :: v169 :: v170 :: v171 :: v172 :: v173 :: v174 :: v175 :: v176 :: v177 :: v178 :: v179 :: v180 :: v181 :: v182 :: v183 :: v184 :: v185 :: v186 :: v187 :: v188 :: v189 :: v190 :: v191 :: v192 :: v193 :: v194 :: v195 :: v196 :: v197 :: v198 :: v199 :: v200 :: v201 :: v202 :: v203 :: v204 :: v205 :: v206 :: v207 :: v208 :: v209 :: []), defers := [] } w := by
  have b0 := hb.cell 0
  have b1 := hb.cell 1
  have y0 := he.cell 0
  have y1 := he.cell 1
  have y2 := he.cell 2
  have r0 := hr.cell 0
  have r1 := hr.cell 1
  have q0 := hr.frz 0
  have q1 := hr.frz 1
  have d0 := h6.cell 0
  have d1 := h6.cell 1
  have HA := Lib.hid hA
  have HM := Lib.hid hM
  have HB := Lib.hid hb
  have HE := Lib.hid he
  have HR := Lib.hid hr
  have H6 := Lib.hid h6
  have HD := Lib.hid hd
  have HW := Lib.hid hwf
  have hgw : g < w.heap.size := (hA.block rfl).2
  have lb := hb.lt
  have le := he.lt
  have lr := hr.lt
  have l6 := h6.lt
  have hk6 : s.k ≤ 6 := hwf.k6
  clear hA hM hb he hr h6 hd hwf
  have HT := Lib.hid ht
  have n1 : (e0 != 1) = false := by rw [hk]; decide
  have a1 : (e0 == 1) = true := by rw [hk]; decide
  have a2 : (e0 == 2) = false := by rw [hk]; decide
  have a3 : (e0 == 3) = false := by rw [hk]; decide
  have a4 : (e0 == 4) = false := by rw [hk]; decide
  have a5 : (e0 == 5) = false := by rw [hk]; decide
  subst hic
  have z0 := HA.out.cell (i := a) (j := 0) ha (by omega)
  have z1 := HA.out.cell (i := a) (j := 1) ha (by omega)
  have z2 := HA.out.cell (i := a) (j := 2) ha (by omega)
  rw [Nat.add_zero] at z0
  have ix : decide (n ≤ a) = false := decide_eq_false (by omega)
  have fc0 : (s.c a 0 != 1) = false := by rw [c0]; decide
  have fc2 : decide (9 ≤ s.c a 2) = false := decide_eq_false (by omega)
  have fl0 : decide (e2 < 0) = false := decide_eq_false (by omega)
  have fl1 : decide ((n : Int) ≤ e2) = false := decide_eq_false (by omega)
  have fl2 : (e2 == (a : Int)) = false := by rw [beq_eq_false_iff_ne]; exact l2
  have fl3 : decide ((6 : Int) ≤ (s.k : Int)) = true := decide_eq_true (by omega)
  have fl4 : decide (6 ≤ s.k) = true := decide_eq_true l3
  subst ha1
  clear ht hk c0 c2 l0 l1 l2
  conv in restAt _ _ => whnf
  rw [HT.out]
  go_wp2_with fail
  exact app_none rfl rfl HR.out (Below.refl _ _) HD.out.2.2.2.2.1
set_option maxRecDepth 100000 in
set_option maxHeartbeats 6400000 in
theorem app_2a {v0 v1 v9 v10 v11 v12 v13 v14 v15 v16 v17 v18 v19 v20 v21 v22 v23 v24 v25 v26 v27 v28 v29 v30 v31 v32 v33 v34 v35 v36 v37 v38 v39 v40 v41 v42 v43 v44 v45 v46 v47 v48 v49 v50 v51 v52 v53 v54 v55 v56 v57 v58 v59 v60 v61 v62 v63 v64 v65 v66 v67 v68 v69 v70 v71 v72 v73 v74 v75 v76 v77 v78 v79 v80 v81 v82 v83 v84 v85 v86 v87 v88 v89 v90 v91 v92 v93 v94 v95 v96 v97 v98 v99 v100 v101 v102 v103 v104 v105 v106 v107 v108 v109 v110 v111 v112 v113 v114 v115 v116 v117 v118 v119 v120 v121 v122 v123 v124 v125 v126 v127 v128 v129 v130 v131 v132 v133 v134 v135 v136 v137 v138 v139 v140 v141 v142 v143 v144 v145 v146 v147 v148 v149 v150 v151 v152 v153 v154 v155 v156 v157 v158 v159 v160 v161 v162 v163 v164 v165 v166 v167 v168 v169 v170 v171 v172 v173 v174 v175 v176 v177 v178 v179 v180 v181 v182 v183 v184 v185 v186 v187 v188 v189 v190 v191 v192 v193 v194 v195 v196 v197 v198 v199 v200 v201 v202 v203 v204 v205 v206 v207 v208 v209 : Value} (hA : Own w B0 51 3 (.slice (some ⟨g, 0, none⟩) n c) n (ints2 s.c)) (hM : Own w B0 54 4 (.slice A' s.k c') s.k (ints2 s.m)) (hb : Blk w Bb 31 #[.slice Q n qc, .slice Q' s.k qc']) (he : Blk w Be 38 #[.int .i64 e0, .int .i64 e1, .int .i64 e2]) (hr : Blk w Br 31 #[.slice none 0 0, .slice none 0 0]) (h6 : Blk w B6 31 #[.slice (some ⟨g, 0, none⟩) n c, .slice A' s.k c']) (hd : Bb < B0 ∧ Be < B0 ∧ Br < B0 ∧ B0 ≤ B6 ∧ B1 ≤ Br ∧ B0 ≤ w.heap.size) (hwf : M.Wf n s)
    (ht : t = none) (hk : e0 = 2) (h2 : e2 = 0) (him : im = false) :
    Code.wp Tryd.prog (restAt Tryd.f9 4) (bodyPost Tryd.prog Tryd.f9 (AppR n B1 B0 (.agg #[.slice Q n qc, .slice Q' s.k qc']) t w)) { tmps := List.toArray (v0 :: v1 :: .pointer (some ⟨Bb, 0, none⟩) :: .pointer (some ⟨Be, 0, none⟩) :: .pointer (some ⟨Br, 0, none⟩) :: .bool false :: .pointer (some ⟨B6, 0, none⟩) :: .bool ic :: .bool im :: v9 :: v10 :: v11 :: v12 :: v13 :: v14 :: v15 :: v16 :: v17 :: v18 :: v19 :: v20 :: v21 :: v22 :: v23 :: v24 :: v25 :: v26 :: v27 :: v28 :: v29 :: v30 :: v31 :: v32 :: v33 :: v34 :: v35 :: v36 :: v37 :: v38 :: v39 :: v40 :: v41 :: v42 :: v43 :: v44 :: v45 :: v46 :: v47 :: v48 :: v49 :: v50 :: v51 :: v52 :: v53 :: v54 :: v55 :: v56 :: v57 :: v58 :: v59 :: v60 :: v61 :: v62 :: v63 :: v64 :: v65 :: v66 :: v67 :: v68 :: v69 :: v70 :: v71 :: v72 :: v73 :: v74 :: v75 :: v76 :: v77 :: v78 :: v79 :: v80 :: v81 :: v82 :: v83 :: v84 :: v85 :: v86 :: v87 :: v88 :: v89 :: v90 :: v91 :: v92 :: v93 :: v94 :: v95 :: v96 :: v97 :: v98 :: v99 :: v100 :: v101 :: v102 :: v103 :: v104 :: v105 :: v106 :: v107 :: v108 :: v109 :: v110 :: v111 :: v112 :: v113 :: v114 :: v115 :: v116 :: v117 :: v118 :: v119 :: v120 :: v121 :: v122 :: v123 :: v124 :: v125 :: v126 :: v127 :: v128 :: v129 :: v130 :: v131 :: v132 :: v133 :: v134 :: v135 :: v136 :: v137 :: v138 :: v139 :: v140 :: v141 :: v142 :: v143 :: v144 :: v145 :: v146 :: v147 :: v148 :: v149 :: v150 :: v151 :: v152 :: v153 :: v154 :: v155 :: v156 :: v157 :: v158 :: v159 :: v160 :: v161 :: v162 :: v163 :: v164 :: v165 :: v166 :: v167 :: v168 :: v169 :: v170 :: v171 :: v172 :: v173 :: v174 :: v175 :: v176 :: v177 :: v178 :: v179 :: v180 :: v181 :: v182 :: v183 :: v184 :: v185 :: v186 :: v187 :: v188 :: v189 :: v190 :: v191 :: v192 :: v193 :: v194 :: v195 :: v196 :: v197 :: v198 :: v199 :: v200 :: v201 :: v202 :: v203 :: v204 :: v205 :: v206 :: v207 :: v208 :: v209 :: []), defers := [] } w := by
  have b0 := hb.cell 0
  have b1 := hb.cell 1
  have y0 := he.cell 0
  have y1 := he.cell 1
  have y2 := he.cell 2
  have r0 := hr.cell 0
  have r1 := hr.cell 1
  have q0 := hr.frz 0
  have q1 := hr.frz 1
  have d0 := h6.cell 0
  have d1 := h6.cell 1
  have HA := Lib.hid hA
  have HM := Lib.hid hM
  have HB := Lib.hid hb
  have HE := Lib.hid he
  have HR := Lib.hid hr
  have H6 := Lib.hid h6
  have HD := Lib.hid hd
  have HW := Lib.hid hwf
  have hgw : g < w.heap.size := (hA.block rfl).2
  have lb := hb.lt
  have le := he.lt
  have lr := hr.lt
  have l6 := h6.lt
  have hk6 : s.k ≤ 6 := hwf.k6
  clear hA hM hb he hr h6 hd hwf
  have HT := Lib.hid ht
  have n1 : (e0 != 1) = true := by rw [hk]; decide
  have a1 : (e0 == 1) = false := by rw [hk]; decide
  have a2 : (e0 == 2) = true := by rw [hk]; decide
  have a3 : (e0 == 3) = false := by rw [hk]; decide
  have a4 : (e0 == 4) = false := by rw [hk]; decide
  have a5 : (e0 == 5) = false := by rw [hk]; decide
  have nb : (e2 != 0) = false := by rw [h2]; decide
  subst him
  clear ht hk h2
  conv in restAt _ _ => whnf
  rw [HT.out]
  go_wp2_with fail
  exact app_none rfl rfl HR.out (Below.refl _ _) HD.out.2.2.2.2.1
set_option maxRecDepth 100000 in
set_option maxHeartbeats 6400000 in
theorem app_3a {v0 v1 v9 v10 v11 v12 v13 v14 v15 v16 v17 v18 v19 v20 v21 v22 v23 v24 v25 v26 v27 v28 v29 v30 v31 v32 v33 v34 v35 v36 v37 v38 v39 v40 v41 v42 v43 v44 v45 v46 v47 v48 v49 v50 v51 v52 v53 v54 v55 v56 v57 v58 v59 v60 v61 v62 v63 v64 v65 v66 v67 v68 v69 v70 v71 v72 v73 v74 v75 v76 v77 v78 v79 v80 v81 v82 v83 v84 v85 v86 v87 v88 v89 v90 v91 v92 v93 v94 v95 v96 v97 v98 v99 v100 v101 v102 v103 v104 v105 v106 v107 v108 v109 v110 v111 v112 v113 v114 v115 v116 v117 v118 v119 v120 v121 v122 v123 v124 v125 v126 v127 v128 v129 v130 v131 v132 v133 v134 v135 v136 v137 v138 v139 v140 v141 v142 v143 v144 v145 v146 v147 v148 v149 v150 v151 v152 v153 v154 v155 v156 v157 v158 v159 v160 v161 v162 v163 v164 v165 v166 v167 v168 v169 v170 v171 v172 v173 v174 v175 v176 v177 v178 v179 v180 v181 v182 v183 v184 v185 v186 v187 v188 v189 v190 v191 v192 v193 v194 v195 v196 v197 v198 v199 v200 v201 v202 v203 v204 v205 v206 v207 v208 v209 : Value} (hA : Own w B0 51 3 (.slice (some ⟨g, 0, none⟩) n c) n (ints2 s.c)) (hM : Own w B0 54 4 (.slice A' s.k c') s.k (ints2 s.m)) (hb : Blk w Bb 31 #[.slice Q n qc, .slice Q' s.k qc']) (he : Blk w Be 38 #[.int .i64 e0, .int .i64 e1, .int .i64 e2]) (hr : Blk w Br 31 #[.slice none 0 0, .slice none 0 0]) (h6 : Blk w B6 31 #[.slice (some ⟨g, 0, none⟩) n c, .slice A' s.k c']) (hd : Bb < B0 ∧ Be < B0 ∧ Br < B0 ∧ B0 ≤ B6 ∧ B1 ≤ Br ∧ B0 ≤ w.heap.size) (hwf : M.Wf n s)
    (ht : t = none) (hk : e0 = 3) (h2 : e2 = 0) (him : im = false) :
    Code.wp Tryd.prog (restAt Tryd.f9 4) (bodyPost Tryd.prog Tryd.f9 (AppR n B1 B0 (.agg #[.slice Q n qc, .slice Q' s.k qc']) t w)) { tmps := List.toArray (v0 :: v1 :: .pointer (some ⟨Bb, 0, none⟩) :: .pointer (some ⟨Be, 0, none⟩) :: .pointer (some ⟨Br, 0, none⟩) :: .bool false :: .pointer (some ⟨B6, 0, none⟩) :: .bool ic :: .bool im :: v9 :: v10 :: v11 :: v12 :: v13 :: v14 :: v15 :: v16 :: v17 :: v18 :: v19 :: v20 :: v21 :: v22 :: v23 :: v24 :: v25 :: v26 :: v27 :: v28 :: v29 :: v30 :: v31 :: v32 :: v33 :: v34 :: v35 :: v36 :: v37 :: v38 :: v39 :: v40 :: v41 :: v42 :: v43 :: v44 :: v45 :: v46 :: v47 :: v48 :: v49 :: v50 :: v51 :: v52 :: v53 :: v54 :: v55 :: v56 :: v57 :: v58 :: v59 :: v60 :: v61 :: v62 :: v63 :: v64 :: v65 :: v66 :: v67 :: v68 :: v69 :: v70 :: v71 :: v72 :: v73 :: v74 :: v75 :: v76 :: v77 :: v78 :: v79 :: v80 :: v81 :: v82 :: v83 :: v84 :: v85 :: v86 :: v87 :: v88 :: v89 :: v90 :: v91 :: v92 :: v93 :: v94 :: v95 :: v96 :: v97 :: v98 :: v99 :: v100 :: v101 :: v102 :: v103 :: v104 :: v105 :: v106 :: v107 :: v108 :: v109 :: v110 :: v111 :: v112 :: v113 :: v114 :: v115 :: v116 :: v117 :: v118 :: v119 :: v120 :: v121 :: v122 :: v123 :: v124 :: v125 :: v126 :: v127 :: v128 :: v129 :: v130 :: v131 :: v132 :: v133 :: v134 :: v135 :: v136 :: v137 :: v138 :: v139 :: v140 :: v141 :: v142 :: v143 :: v144 :: v145 :: v146 :: v147 :: v148 :: v149 :: v150 :: v151 :: v152 :: v153 :: v154 :: v155 :: v156 :: v157 :: v158 :: v159 :: v160 :: v161 :: v162 :: v163 :: v164 :: v165 :: v166 :: v167 :: v168 :: v169 :: v170 :: v171 :: v172 :: v173 :: v174 :: v175 :: v176 :: v177 :: v178 :: v179 :: v180 :: v181 :: v182 :: v183 :: v184 :: v185 :: v186 :: v187 :: v188 :: v189 :: v190 :: v191 :: v192 :: v193 :: v194 :: v195 :: v196 :: v197 :: v198 :: v199 :: v200 :: v201 :: v202 :: v203 :: v204 :: v205 :: v206 :: v207 :: v208 :: v209 :: []), defers := [] } w := by
  have b0 := hb.cell 0
  have b1 := hb.cell 1
  have y0 := he.cell 0
  have y1 := he.cell 1
  have y2 := he.cell 2
  have r0 := hr.cell 0
  have r1 := hr.cell 1
  have q0 := hr.frz 0
  have q1 := hr.frz 1
  have d0 := h6.cell 0
  have d1 := h6.cell 1
  have HA := Lib.hid hA
  have HM := Lib.hid hM
  have HB := Lib.hid hb
  have HE := Lib.hid he
  have HR := Lib.hid hr
  have H6 := Lib.hid h6
  have HD := Lib.hid hd
  have HW := Lib.hid hwf
  have hgw : g < w.heap.size := (hA.block rfl).2
  have lb := hb.lt
  have le := he.lt
  have lr := hr.lt
  have l6 := h6.lt
  have hk6 : s.k ≤ 6 := hwf.k6
  clear hA hM hb he hr h6 hd hwf
  have HT := Lib.hid ht
  have n1 : (e0 != 1) = true := by rw [hk]; decide
  have a1 : (e0 == 1) = false := by rw [hk]; decide
  have a2 : (e0 == 2) = false := by rw [hk]; decide
  have a3 : (e0 == 3) = true := by rw [hk]; decide
  have a4 : (e0 == 4) = false := by rw [hk]; decide
  have a5 : (e0 == 5) = false := by rw [hk]; decide
  have nb : (e2 != 0) = false := by rw [h2]; decide
  subst him
  clear ht hk h2
  conv in restAt _ _ => whnf
  rw [HT.out]
  go_wp2_with fail
  exact app_none rfl rfl HR.out (Below.refl _ _) HD.out.2.2.2.2.1
set_option maxRecDepth 100000 in
set_option maxHeartbeats 6400000 in
theorem app_4a {v0 v1 v9 v10 v11 v12 v13 v14 v15 v16 v17 v18 v19 v20 v21 v22 v23 v24 v25 v26 v27 v28 v29 v30 v31 v32 v33 v34 v35 v36 v37 v38 v39 v40 v41 v42 v43 v44 v45 v46 v47 v48 v49 v50 v51 v52 v53 v54 v55 v56 v57 v58 v59 v60 v61 v62 v63 v64 v65 v66 v67 v68 v69 v70 v71 v72 v73 v74 v75 v76 v77 v78 v79 v80 v81 v82 v83 v84 v85 v86 v87 v88 v89 v90 v91 v92 v93 v94 v95 v96 v97 v98 v99 v100 v101 v102 v103 v104 v105 v106 v107 v108 v109 v110 v111 v112 v113 v114 v115 v116 v117 v118 v119 v120 v121 v122 v123 v124 v125 v126 v127 v128 v129 v130 v131 v132 v133 v134 v135 v136 v137 v138 v139 v140 v141 v142 v143 v144 v145 v146 v147 v148 v149 v150 v151 v152 v153 v154 v155 v156 v157 v158 v159 v160 v161 v162 v163 v164 v165 v166 v167 v168 v169 v170 v171 v172 v173 v174 v175 v176 v177 v178 v179 v180 v181 v182 v183 v184 v185 v186 v187 v188 v189 v190 v191 v192 v193 v194 v195 v196 v197 v198 v199 v200 v201 v202 v203 v204 v205 v206 v207 v208 v209 : Value} (hA : Own w B0 51 3 (.slice (some ⟨g, 0, none⟩) n c) n (ints2 s.c)) (hM : Own w B0 54 4 (.slice A' s.k c') s.k (ints2 s.m)) (hb : Blk w Bb 31 #[.slice Q n qc, .slice Q' s.k qc']) (he : Blk w Be 38 #[.int .i64 e0, .int .i64 e1, .int .i64 e2]) (hr : Blk w Br 31 #[.slice none 0 0, .slice none 0 0]) (h6 : Blk w B6 31 #[.slice (some ⟨g, 0, none⟩) n c, .slice A' s.k c']) (hd : Bb < B0 ∧ Be < B0 ∧ Br < B0 ∧ B0 ≤ B6 ∧ B1 ≤ Br ∧ B0 ≤ w.heap.size) (hwf : M.Wf n s)
    (ht : t = none) (hk : e0 = 4) (h2 : e2 = 0) (him : im = false) :
    Code.wp Tryd.prog (restAt Tryd.f9 4) (bodyPost Tryd.prog Tryd.f9 (AppR n B1 B0 (.agg #[.slice Q n qc, .slice Q' s.k qc']) t w)) { tmps := List.toArray (v0 :: v1 :: .pointer (some ⟨Bb, 0, none⟩) :: .pointer (some ⟨Be, 0, none⟩) :: .pointer (some ⟨Br, 0, none⟩) :: .bool false :: .pointer (some ⟨B6, 0, none⟩) :: .bool ic :: .bool im :: v9 :: v10 :: v11 :: v12 :: v13 :: v14 :: v15 :: v16 :: v17 :: v18 :: v19 :: v20 :: v21 :: v22 :: v23 :: v24 :: v25 :: v26 :: v27 :: v28 :: v29 :: v30 :: v31 :: v32 :: v33 :: v34 :: v35 :: v36 :: v37 :: v38 :: v39 :: v40 :: v41 :: v42 :: v43 :: v44 :: v45 :: v46 :: v47 :: v48 :: v49 :: v50 :: v51 :: v52 :: v53 :: v54 :: v55 :: v56 :: v57 :: v58 :: v59 :: v60 :: v61 :: v62 :: v63 :: v64 :: v65 :: v66 :: v67 :: v68 :: v69 :: v70 :: v71 :: v72 :: v73 :: v74 :: v75 :: v76 :: v77 :: v78 :: v79 :: v80 :: v81 :: v82 :: v83 :: v84 :: v85 :: v86 :: v87 :: v88 :: v89 :: v90 :: v91 :: v92 :: v93 :: v94 :: v95 :: v96 :: v97 :: v98 :: v99 :: v100 :: v101 :: v102 :: v103 :: v104 :: v105 :: v106 :: v107 :: v108 :: v109 :: v110 :: v111 :: v112 :: v113 :: v114 :: v115 :: v116 :: v117 :: v118 :: v119 :: v120 :: v121 :: v122 :: v123 :: v124 :: v125 :: v126 :: v127 :: v128 :: v129 :: v130 :: v131 :: v132 :: v133 :: v134 :: v135 :: v136 :: v137 :: v138 :: v139 :: v140 :: v141 :: v142 :: v143 :: v144 :: v145 :: v146 :: v147 :: v148 :: v149 :: v150 :: v151 :: v152 :: v153 :: v154 :: v155 :: v156 :: v157 :: v158 :: v159 :: v160 :: v161 :: v162 :: v163 :: v164 :: v165 :: v166 :: v167 :: v168 :: v169 :: v170 :: v171 :: v172 :: v173 :: v174 :: v175 :: v176 :: v177 :: v178 :: v179 :: v180 :: v181 :: v182 :: v183 :: v184 :: v185 :: v186 :: v187 :: v188 :: v189 :: v190 :: v191 :: v192 :: v193 :: v194 :: v195 :: v196 :: v197 :: v198 :: v199 :: v200 :: v201 :: v202 :: v203 :: v204 :: v205 :: v206 :: v207 :: v208 :: v209 :: []), defers := [] } w := by
  have b0 := hb.cell 0
  have b1 := hb.cell 1
  have y0 := he.cell 0
  have y1 := he.cell 1
  have y2 := he.cell 2
  have r0 := hr.cell 0
  have r1 := hr.cell 1
  have q0 := hr.frz 0
  have q1 := hr.frz 1
  have d0 := h6.cell 0
  have d1 := h6.cell 1
  have HA := Lib.hid hA
  have HM := Lib.hid hM
  have HB := Lib.hid hb
  have HE := Lib.hid he
  have HR := Lib.hid hr
  have H6 := Lib.hid h6
  have HD := Lib.hid hd
  have HW := Lib.hid hwf
  have hgw : g < w.heap.size := (hA.block rfl).2
  have lb := hb.lt
  have le := he.lt
  have lr := hr.lt
  have l6 := h6.lt
  have hk6 : s.k ≤ 6 := hwf.k6
  clear hA hM hb he hr h6 hd hwf
  have HT := Lib.hid ht
  have n1 : (e0 != 1) = true := by rw [hk]; decide
  have a1 : (e0 == 1) = false := by rw [hk]; decide
  have a2 : (e0 == 2) = false := by rw [hk]; decide
  have a3 : (e0 == 3) = false := by rw [hk]; decide
  have a4 : (e0 == 4) = true := by rw [hk]; decide
  have a5 : (e0 == 5) = false := by rw [hk]; decide
  have nb : (e2 != 0) = false := by rw [h2]; decide
  subst him
  clear ht hk h2
  conv in restAt _ _ => whnf
  rw [HT.out]
  go_wp2_with fail
  exact app_none rfl rfl HR.out (Below.refl _ _) HD.out.2.2.2.2.1
set_option maxRecDepth 100000 in
set_option maxHeartbeats 6400000 in
theorem app_4b {v0 v1 v9 v10 v11 v12 v13 v14 v15 v16 v17 v18 v19 v20 v21 v22 v23 v24 v25 v26 v27 v28 v29 v30 v31 v32 v33 v34 v35 v36 v37 v38 v39 v40 v41 v42 v43 v44 v45 v46 v47 v48 v49 v50 v51 v52 v53 v54 v55 v56 v57 v58 v59 v60 v61 v62 v63 v64 v65 v66 v67 v68 v69 v70 v71 v72 v73 v74 v75 v76 v77 v78 v79 v80 v81 v82 v83 v84 v85 v86 v87 v88 v89 v90 v91 v92 v93 v94 v95 v96 v97 v98 v99 v100 v101 v102 v103 v104 v105 v106 v107 v108 v109 v110 v111 v112 v113 v114 v115 v116 v117 v118 v119 v120 v121 v122 v123 v124 v125 v126 v127 v128 v129 v130 v131 v132 v133 v134 v135 v136 v137 v138 v139 v140 v141 v142 v143 v144 v145 v146 v147 v148 v149 v150 v151 v152 v153 v154 v155 v156 v157 v158 v159 v160 v161 v162 v163 v164 v165 v166 v167 v168 v169 v170 v171 v172 v173 v174 v175 v176 v177 v178 v179 v180 v181 v182 v183 v184 v185 v186 v187 v188 v189 v190 v191 v192 v193 v194 v195 v196 v197 v198 v199 v200 v201 v202 v203 v204 v205 v206 v207 v208 v209 : Value} (hA : Own w B0 51 3 (.slice (some ⟨g, 0, none⟩) n c) n (ints2 s.c)) (hM : Own w B0 54 4 (.slice A' s.k c') s.k (ints2 s.m)) (hb : Blk w Bb 31 #[.slice Q n qc, .slice Q' s.k qc']) (he : Blk w Be 38 #[.int .i64 e0, .int .i64 e1, .int .i64 e2]) (hr : Blk w Br 31 #[.slice none 0 0, .slice none 0 0]) (h6 : Blk w B6 31 #[.slice (some ⟨g, 0, none⟩) n c, .slice A' s.k c']) (hd : Bb < B0 ∧ Be < B0 ∧ Br < B0 ∧ B0 ≤ B6 ∧ B1 ≤ Br ∧ B0 ≤ w.heap.size) (hwf : M.Wf n s)
    (ht : t = none) (hk : e0 = 4) (h2 : e2 = 0) (him : im = true) (l3 : 6 ≤ s.k) :
    Code.wp Tryd.prog (restAt Tryd.f9 4) (bodyPost Tryd.prog Tryd.f9 (AppR n B1 B0 (.agg #[.slice Q n qc, .slice Q' s.k qc']) t w)) { tmps := List.toArray (v0 :: v1 :: .pointer (some ⟨Bb, 0, none⟩) :: .pointer (some ⟨Be, 0, none⟩) :: .pointer (some ⟨Br, 0, none⟩) :: .bool false :: .pointer (some ⟨B6, 0, none⟩) :: .bool ic :: .bool im :: v9 :: v10 :: v11 :: v12 :: v13 :: v14 :: v15 :: v16 :: v17 :: v18 :: v19 :: v20 :: v21 :: v22 :: v23 :: v24 :: v25 :: v26 :: v27 :: v28 :: v29 :: v30 :: v31 :: v32 :: v33 :: v34 :: v35 :: v36 :: v37 :: v38 :: v39 :: v40 :: v41 :: v42 :: v43 :: v44 :: v45 :: v46 :: v47 :: v48 :: v49 :: v50 :: v51 :: v52 :: v53 :: v54 :: v55 :: v56 :: v57 :: v58 :: v59 :: v60 :: v61 :: v62 :: v63 :: v64 :: v65 :: v66 :: v67 :: v68 :: v69 :: v70 :: v71 :: v72 :: v73 :: v74 :: v75 :: v76 :: v77 :: v78 :: v79 :: v80 :: v81 :: v82 :: v83 :: v84 :: v85 :: v86 :: v87 :: v88 :: v89 :: v90 :: v91 :: v92 :: v93 :: v94 :: v95 :: v96 :: v97 :: v98 :: v99 :: v100 :: v101 :: v102 :: v103 :: v104 :: v105 :: v106 :: v107 :: v108 :: v109 :: v110 :: v111 :: v112 :: v113 :: v114 :: v115 :: v116 :: v117 :: v118 :: v119 :: v120 :: v121 :: v122 :: v123 :: v124 :: v125 :: v126 :: v127 :: v128 :: v129 :: v130 :: v131 :: v132 :: v133 :: v134 :: v135 :: v136 :: v137 :: v138 :: v139 :: v140 :: v141 :: v142 :: v143 :: v144 :: v145 :: v146 :: v147 :: v148 :: v149 :: v150 :: v151 :: v152 :: v153 :: v154 :: v155 :: v156 :: v157 :: v158 :: v159 :: v160 :: v161 :: v162 :: v163 :: v164 :: v165 :: v166 :: v167 :: v168 :: v169 :: v170 :: v171 :: v172 :: v173 :: v174 :: v175 :: v176 :: v177 :: v178 :: v179 :: v180 :: v181 :: v182 :: v183 :: v184 :: v185 :: v186 :: v187 :: v188 :: v189 :: v190 :: v191 :: v192 :: v193 :: v194 :: v195 :: v196 :: v197 :: v198 :: v199 :: v200 :: v201 :: v202 :: v203 :: v204 :: v205 :: v206 :: v207 :: v208 :: v209 :: []), defers := [] } w := by
  have b0 := hb.cell 0
  have b1 := hb.cell 1
  have y0 := he.cell 0
  have y1 := he.cell 1
  have y2 := he.cell 2
  have r0 := hr.cell 0
  have r1 := hr.cell 1
  have q0 := hr.frz 0
  have q1 := hr.frz 1
  have d0 := h6.cell 0
  have d1 := h6.cell 1
  have HA := Lib.hid hA
  have HM := Lib.hid hM
  have HB := Lib.hid hb
  have HE := Lib.hid he
  have HR := Lib.hid hr
  have H6 := Lib.hid h6
  have HD := Lib.hid hd
  have HW := Lib.hid hwf
  have hgw : g < w.heap.size := (hA.block rfl).2
  have lb := hb.lt
  have le := he.lt
  have lr := hr.lt
  have l6 := h6.lt
  have hk6 : s.k ≤ 6 := hwf.k6
  clear hA hM hb he hr h6 hd hwf
  have HT := Lib.hid ht
  have n1 : (e0 != 1) = true := by rw [hk]; decide
  have a1 : (e0 == 1) = false := by rw [hk]; decide
  have a2 : (e0 == 2) = false := by rw [hk]; decide
  have a3 : (e0 == 3) = false := by rw [hk]; decide
  have a4 : (e0 == 4) = true := by rw [hk]; decide
  have a5 : (e0 == 5) = false := by rw [hk]; decide
  have nb : (e2 != 0) = false := by rw [h2]; decide
  subst him
  have fl3 : decide ((6 : Int) ≤ (s.k : Int)) = true := decide_eq_true (by omega)
  have fl4 : decide (6 ≤ s.k) = true := decide_eq_true l3
  clear ht hk h2
  conv in restAt _ _ => whnf
  rw [HT.out]
  go_wp2_with fail
  exact app_none rfl rfl HR.out (Below.refl _ _) HD.out.2.2.2.2.1
set_option maxRecDepth 100000 in
set_option maxHeartbeats 6400000 in
theorem app_5a {v0 v1 v9 v10 v11 v12 v13 v14 v15 v16 v17 v18 v19 v20 v21 v22 v23 v24 v25 v26 v27 v28 v29 v30 v31 v32 v33 v34 v35 v36 v37 v38 v39 v40 v41 v42 v43 v44 v45 v46 v47 v48 v49 v50 v51 v52 v53 v54 v55 v56 v57 v58 v59 v60 v61 v62 v63 v64 v65 v66 v67 v68 v69 v70 v71 v72 v73 v74 v75 v76 v77 v78 v79 v80 v81 v82 v83 v84 v85 v86 v87 v88 v89 v90 v91 v92 v93 v94 v95 v96 v97 v98 v99 v100 v101 v102 v103 v104 v105 v106 v107 v108 v109 v110 v111 v112 v113 v114 v115 v116 v117 v118 v119 v120 v121 v122 v123 v124 v125 v126 v127 v128 v129 v130 v131 v132 v133 v134 v135 v136 v137 v138 v139 v140 v141 v142 v143 v144 v145 v146 v147 v148 v149 v150 v151 v152 v153 v154 v155 v156 v157 v158 v159 v160 v161 v162 v163 v164 v165 v166 v167 v168 v169 v170 v171 v172 v173 v174 v175 v176 v177 v178 v179 v180 v181 v182 v183 v184 v185 v186 v187 v188 v189 v190 v191 v192 v193 v194 v195 v196 v197 v198 v199 v200 v201 v202 v203 v204 v205 v206 v207 v208 v209 : Value} (hA : Own w B0 51 3 (.slice (some ⟨g, 0, none⟩) n c) n (ints2 s.c)) (hM : Own w B0 54 4 (.slice A' s.k c') s.k (ints2 s.m)) (hb : Blk w Bb 31 #[.slice Q n qc, .slice Q' s.k qc']) (he : Blk w Be 38 #[.int .i64 e0, .int .i64 e1, .int .i64 e2]) (hr : Blk w Br 31 #[.slice none 0 0, .slice none 0 0]) (h6 : Blk w B6 31 #[.slice (some ⟨g, 0, none⟩) n c, .slice A' s.k c']) (hd : Bb < B0 ∧ Be < B0 ∧ Br < B0 ∧ B0 ≤ B6 ∧ B1 ≤ Br ∧ B0 ≤ w.heap.size) (hwf : M.Wf n s)
    (ht : t = none) (hk : e0 = 5) (h2 : e2 = 0) (hic : ic = false) :
    Code.wp Tryd.prog (restAt Tryd.f9 4) (bodyPost Tryd.prog Tryd.f9 (AppR n B1 B0 (.agg #[.slice Q n qc, .slice Q' s.k qc']) t w)) { tmps := List.toArray (v0 :: v1 :: .pointer (some ⟨Bb, 0, none⟩) :: .pointer (some ⟨Be, 0, none⟩) :: .pointer (some ⟨Br, 0, none⟩) :: .bool false :: .pointer (some ⟨B6, 0, none⟩) :: .bool ic :: .bool im :: v9 :: v10 :: v11 :: v12 :: v13 :: v14 :: v15 :: v16 :: v17 :: v18 :: v19 :: v20 :: v21 :: v22 :: v23 :: v24 :: v25 :: v26 :: v27 :: v28 :: v29 :: v30 :: v31 :: v32 :: v33 :: v34 :: v35 :: v36 :: v37 :: v38 :: v39 :: v40 :: v41 :: v42 :: v43 :: v44 :: v45 :: v46 :: v47 :: v48 :: v49 :: v50 :: v51 :: v52 :: v53 :: v54 :: v55 :: v56 :: v57 :: v58 :: v59 :: v60 :: v61 :: v62 :: v63 :: v64 :: v65 :: v66 :: v67 :: v68 :: v69 :: v70 :: v71 :: v72 :: v73 :: v74 :: v75 :: v76 :: v77 :: v78 :: v79 :: v80 :: v81 :: v82 :: v83 :: v84 :: v85 :: v86 :: v87 :: v88 :: v89 :: v90 :: v91 :: v92 :: v93 :: v94 :: v95 :: v96 :: v97 :: v98 :: v99 :: v100 :: v101 :: v102 :: v103 :: v104 :: v105 :: v106 :: v107 :: v108 :: v109 :: v110 :: v111 :: v112 :: v113 :: v114 :: v115 :: v116 :: v117 :: v118 :: v119 :: v120 :: v121 :: v122 :: v123 :: v124 :: v125 :: v126 :: v127 :: v128 :: v129 :: v130 :: v131 :: v132 :: v133 :: v134 :: v135 :: v136 :: v137 :: v138 :: v139 :: v140 :: v141 :: v142 :: v143 :: v144 :: v145 :: v146 :: v147 :: v148 :: v149 :: v150 :: v151 :: v152 :: v153 :: v154 :: v155 :: v156 :: v157 :: v158 :: v159 :: v160 :: v161 :: v162 :: v163 :: v164 :: v165 :: v166 :: v167 :: v168 :: v169 :: v170 :: v171 :: v172 :: v173 :: v174 :: v175 :: v176 :: v177 :: v178 :: v179 :: v180 :: v181 :: v182 :: v183 :: v184 :: v185 :: v186 :: v187 :: v188 :: v189 :: v190 :: v191 :: v192 :: v193 :: v194 :: v195 :: v196 :: v197 :: v198 :: v199 :: v200 :: v201 :: v202 :: v203 :: v204 :: v205 :: v206 :: v207 :: v208 :: v209 :: []), defers := [] } w := by
  have b0 := hb.cell 0
  have b1 := hb.cell 1
  have y0 := he.cell 0
  have y1 := he.cell 1
  have y2 := he.cell 2
  have r0 := hr.cell 0
  have r1 := hr.cell 1
  have q0 := hr.frz 0
  have q1 := hr.frz 1
  have d0 := h6.cell 0
  have d1 := h6.cell 1
  have HA := Lib.hid hA
  have HM := Lib.hid hM
  have HB := Lib.hid hb
  have HE := Lib.hid he
  have HR := Lib.hid hr
  have H6 := Lib.hid h6
  have HD := Lib.hid hd
  have HW := Lib.hid hwf
  have hgw : g < w.heap.size := (hA.block rfl).2
  have lb := hb.lt
  have le := he.lt
  have lr := hr.lt
  have l6 := h6.lt
  have hk6 : s.k ≤ 6 := hwf.k6
  clear hA hM hb he hr h6 hd hwf
  have HT := Lib.hid ht
  have n1 : (e0 != 1) = true := by rw [hk]; decide
  have a1 : (e0 == 1) = false := by rw [hk]; decide
  have a2 : (e0 == 2) = false := by rw [hk]; decide
  have a3 : (e0 == 3) = false := by rw [hk]; decide
  have a4 : (e0 == 4) = false := by rw [hk]; decide
  have a5 : (e0 == 5) = true := by rw [hk]; decide
  have nb : (e2 != 0) = false := by rw [h2]; decide
  subst hic
  clear ht hk h2
  conv in restAt _ _ => whnf
  rw [HT.out]
  go_wp2_with fail
  exact app_none rfl rfl HR.out (Below.refl _ _) HD.out.2.2.2.2.1
set_option maxRecDepth 100000 in
set_option maxHeartbeats 6400000 in
theorem app_5b {v0 v1 v9 v10 v11 v12 v13 v14 v15 v16 v17 v18 v19 v20 v21 v22 v23 v24 v25 v26 v27 v28 v29 v30 v31 v32 v33 v34 v35 v36 v37 v38 v39 v40 v41 v42 v43 v44 v45 v46 v47 v48 v49 v50 v51 v52 v53 v54 v55 v56 v57 v58 v59 v60 v61 v62 v63 v64 v65 v66 v67 v68 v69 v70 v71 v72 v73 v74 v75 v76 v77 v78 v79 v80 v81 v82 v83 v84 v85 v86 v87 v88 v89 v90 v91 v92 v93 v94 v95 v96 v97 v98 v99 v100 v101 v102 v103 v104 v105 v106 v107 v108 v109 v110 v111 v112 v113 v114 v115 v116 v117 v118 v119 v120 v121 v122 v123 v124 v125 v126 v127 v128 v129 v130 v131 v132 v133 v134 v135 v136 v137 v138 v139 v140 v141 v142 v143 v144 v145 v146 v147 v148 v149 v150 v151 v152 v153 v154 v155 v156 v157 v158 v159 v160 v161 v162 v163 v164 v165 v166 v167 v168 v169 v170 v171 v172 v173 v174 v175 v176 v177 v178 v179 v180 v181 v182 v183 v184 v185 v186 v187 v188 v189 v190 v191 v192 v193 v194 v195 v196 v197 v198 v199 v200 v201 v202 v203 v204 v205 v206 v207 v208 v209 : Value} (hA : Own w B0 51 3 (.slice (some ⟨g, 0, none⟩) n c) n (ints2 s.c)) (hM : Own w B0 54 4 (.slice A' s.k c') s.k (ints2 s.m)) (hb : Blk w Bb 31 #[.slice Q n qc, .slice Q' s.k qc']) (he : Blk w Be 38 #[.int .i64 e0, .int .i64 e1, .int .i64 e2]) (hr : Blk w Br 31 #[.slice none 0 0, .slice none 0 0]) (h6 : Blk w B6 31 #[.slice (some ⟨g, 0, none⟩) n c, .slice A' s.k c']) (hd : Bb < B0 ∧ Be < B0 ∧ Br < B0 ∧ B0 ≤ B6 ∧ B1 ≤ Br ∧ B0 ≤ w.heap.size) (hwf : M.Wf n s)
    (ht : t = none) (hk : e0 = 5) (h2 : e2 = 0) (hic : ic = true) (l3 : 6 ≤ s.k) :
    Code.wp Tryd.prog (restAt Tryd.f9 4) (bodyPost Tryd.prog Tryd.f9 (AppR n B1 B0 (.agg #[.slice Q n qc, .slice Q' s.k qc']) t w)) { tmps := List.toArray (v0 :: v1 :: .pointer (some ⟨Bb, 0, none⟩) :: .pointer (some ⟨Be, 0, none⟩) :: .pointer (some ⟨Br, 0, none⟩) :: .bool false :: .pointer (some ⟨B6, 0, none⟩) :: .bool ic :: .bool im :: v9 :: v10 :: v11 :: v12 :: v13 :: v14 :: v15 :: v16 :: v17 :: v18 :: v19 :: v20 :: v21 :: v22 :: v23 :: v24 :: v25 :: v26 :: v27 :: v28 :: v29 :: v30 :: v31 :: v32 :: v33 :: v34 :: v35 :: v36 :: v37 :: v38 :: v39 :: v40 :: v41 :: v42 :: v43 :: v44 :: v45 :: v46 :: v47 :: v48 :: v49 :: v50 :: v51 :: v52 :: v53 :: v54 :: v55 :: v56 :: v57 :: v58 :: v59 :: v60 :: v61 :: v62 :: v63 :: v64 :: v65 :: v66 :: v67 :: v68 :: v69 :: v70 :: v71 :: v72 :: v73 :: v74 :: v75 :: v76 :: v77 :: v78 :: v79 :: v80 :: v81 :: v82 :: v83 :: v84 :: v85 :: v86 :: v87 :: v88 :: v89 :: v90 :: v91 :: v92 :: v93 :: v94 :: v95 :: v96 :: v97 :: v98 :: v99 :: v100 :: v101 :: v102 :: v103 :: v104 :: v105 :: v106 :: v107 :: v108 :: v109 :: v110 :: v111 :: v112 :: v113 :: v114 :: v115 :: v116 :: v117 :: v118 :: v119 :: v120 :: v121 :: v122 :: v123 :: v124 :: v125 :: v126 :: v127 :: v128 :: v129 :: v130 :: v131 :: v132 :: v133 :: v134 :: v135 :: v136 :: v137 :: v138 :: v139 :: v140 :: v141 :: v142 :: v143 :: v144 :: v145 :: v146 :: v147 :: v148 :: v149 :: v150 :: v151 :: v152 :: v153 :: v154 :: v155 :: v156 :: v157 :: v158 :: v159 :: v160 :: v161 :: v162 :: v163 :: v164 :: v165 :: v166 :: v167 :: v168 :: v169 :: v170 :: v171 :: v172 :: v173 :: v174 :: v175 :: v176 :: v177 :: v178 :: v179 :: v180 :: v181 :: v182 :: v183 :: v184 :: v185 :: v186 :: v187 :: v188 :: v189 :: v190 :: v191 :: v192 :: v193 :: v194 :: v195 :: v196 :: v197 :: v198 :: v199 :: v200 :: v201 :: v202 :: v203 :: v204 :: v205 :: v206 :: v207 :: v208 :: v209 :: []), defers := [] } w := by
  have b0 := hb.cell 0
  have b1 := hb.cell 1
  have y0 := he.cell 0
  have y1 := he.cell 1
  have y2 := he.cell 2
  have r0 := hr.cell 0
  have r1 := hr.cell 1
  have q0 := hr.frz 0
  have q1 := hr.frz 1
  have d0 := h6.cell 0
  have d1 := h6.cell 1
  have HA := Lib.hid hA
  have HM := Lib.hid hM
  have HB := Lib.hid hb
  have HE := Lib.hid he
  have HR := Lib.hid hr
  have H6 := Lib.hid h6
  have HD := Lib.hid hd
  have HW := Lib.hid hwf
  have hgw : g < w.heap.size := (hA.block rfl).2
  have lb := hb.lt
  have le := he.lt
  have lr := hr.lt
  have l6 := h6.lt
  have hk6 : s.k ≤ 6 := hwf.k6
  clear hA hM hb he hr h6 hd hwf
  have HT := Lib.hid ht
  have n1 : (e0 != 1) = true := by rw [hk]; decide
  have a1 : (e0 == 1) = false := by rw [hk]; decide
  have a2 : (e0 == 2) = false := by rw [hk]; decide
  have a3 : (e0 == 3) = false := by rw [hk]; decide
  have a4 : (e0 == 4) = false := by rw [hk]; decide
  have a5 : (e0 == 5) = true := by rw [hk]; decide
  have nb : (e2 != 0) = false := by rw [h2]; decide
  subst hic
  have fl3 : decide ((6 : Int) ≤ (s.k : Int)) = true := decide_eq_true (by omega)
  have fl4 : decide (6 ≤ s.k) = true := decide_eq_true l3
  clear ht hk h2
  conv in restAt _ _ => whnf
  rw [HT.out]
  go_wp2_with fail
  exact app_none rfl rfl HR.out (Below.refl _ _) HD.out.2.2.2.2.1
end
end Go.Proofs.YtfnfjmjejffjiaaDoor
