/- DriftWider, walked from its 4th statement on: the leeway and the cells, set anew. -/
import Derived.Test.YtnbeembnnjdmdaaDoorWA
import Derived.Test.YtnbeembnnjdmdaaDoorWM
namespace Go.Proofs.YtnbeembnnjdmdaaDoor
open Go.RowKit Go.Maps

theorem chkX_of {nd nt : Nat} {at_ lo hi : Int} {xL : List Int} (h1 : 0 ≤ at_) (h2 : at_ ≤ (nt : Int) - 1) (h3 : xL ≠ []) (h4 : xL.Pairwise (· < ·)) (h5 : ∀ x, x ∈ xL → 0 ≤ x ∧ x < nd) (h6 : 0 ≤ lo) (h7 : lo ≤ hi) (h8 : hi ≤ 8) : chkX nd nt at_ lo hi xL = true := by
 have ge : ∀ {i : Nat} (hi : i < xL.length), xL.getD i 0 = xL[i] := fun hi => by rw [List.getD_eq_getElem?_getD, List.getElem?_eq_getElem hi, Option.getD_some]
 unfold chkX M.ascF
 simp only [Bool.and_eq_true, decide_eq_true_eq]
 refine ⟨⟨⟨M.inB_iff.2 ⟨h1, h2⟩, ?_⟩, M.allTo_iff.2 fun i hi => ?_, M.allTo_iff.2 fun i hi => ?_⟩, ⟨h6, h7⟩, h8⟩
 · simpa using h3
 ·
  rw [Bool.or_eq_true, decide_eq_true_eq, decide_eq_true_eq]
  by_cases e : i = 0
  · exact .inl e
  ·
   refine .inr ?_
   have hi1 : i - 1 < xL.length := by omega
   rw [ge hi, ge hi1]
   exact List.pairwise_iff_getElem.1 h4 _ _ hi1 hi (by omega)
 ·
  have := h5 _ (List.getElem_mem hi)
  refine M.inB_iff.2 ?_
  rw [ge hi]
  omega
theorem chkX_wide {nd nt : Nat} {at_ lo hi ylo yhi : Int} {xL : List Int} {cq : Nat} (h : chkX nd nt at_ lo hi xL = true) (h1 : 0 ≤ ylo) (h2 : yhi ≤ 8) (h3 : ylo ≤ lo) (h4 : hi ≤ yhi) (hc : cq < nd) : chkX nd nt at_ ylo yhi (M.cellK nd (fun c => decide (c = (cq : Int)) || xL.contains c)) = true := by
 obtain ⟨⟨a1, a2⟩, b, ⟨c1, c2⟩, d1, d2, d3⟩ := chkX_bd h
 refine chkX_of a1 a2 (fun e => ?_) (M.cellK_sorted _ _) (fun x hx => (M.mem_cellK.1 hx).1) h1 (by omega) h2
 have : (cq : Int) ∈ M.cellK nd (fun c => decide (c = (cq : Int)) || xL.contains c) := M.mem_cellK.2 ⟨⟨by omega, by omega⟩, by simp⟩
 rw [e] at this; cases this
theorem anyTo_mem9 {L : List Int} {x : Int} : M.anyTo L.length (fun i => decide (L.getD i 0 = x)) = L.contains x := by
 rw [Bool.eq_iff_iff, List.contains_iff_mem]
 refine ⟨fun h => ?_, anyTo_mem'⟩
 obtain ⟨i, hi, h⟩ := M.anyTo_iff.1 h
 have h := of_decide_eq_true h
 rw [List.getD_eq_getElem?_getD, List.getElem?_eq_getElem hi, Option.getD_some] at h
 rw [← h]
 exact List.getElem_mem hi
section
variable {d : M.Dr} {zA cA wA dA tA sA xA hA zA' cA' wA' dA' tA' sA' nA : Option Addr} {cl : Nat → Nat} {B dc tc sc zc cc wc xc hn hc ta dc' tc' sc' zc' cc' wc' cq P3 P4 P5 P7 P8 bO nn nc : Nat} {lo hi ylo yhi D S : Int} {xL : List Int} {R : Nat → Value} {Xs : Nat → SgV} {w X : World}
set_option maxRecDepth 100000 in
set_option maxHeartbeats 12800000 in
theorem wider_mid {v0 v1 v2 v9 v10 v11 v12 v13 v14 v15 v16 v17 v18 v19 v20 v21 v22 v23 v24 v25 v26 v27 v28 v29 v30 v31 v32 v33 v34 v35 v36 v37 v38 v39 v40 v41 v42 v43 v44 v45 v46 v47 v48 v49 v50 v51 v52 v53 v54 v55 v56 v57 v58 v59 v60 v61 v62 v63 v64 v65 v66 v67 v68 v69 v70 v71 v72 v73 v74 v75 v76 v77 v78 v79 v80 v81 v82 v83 v84 v85 v86 v87 v88 v89 v90 v91 v92 v93 v94 v95 v96 v97 v98 v99 v100 v101 v102 v103 v104 v105 v106 v107 v108 v109 v110 v111 v112 v113 v114 v115 v116 v117 v118 v119 v120 v121 v122 v123 v124 v125 v126 v127 v128 v129 v130 v131 v132 v133 v134 v135 v136 v137 v138 v139 v140 v141 v142 v143 v144 v145 v146 v147 v148 v149 v150 v151 v152 v153 v154 v155 v156 v157 v158 v159 v160 v161 v162 v163 v164 v165 v166 v167 v168 v169 v170 v171 v172 v173 v174 v175 v176 v177 v178 v179 v180 v181 v182 v183 v184 v185 v186 v187 v188 v189 v190 v191 v192 v193 v194 v195 v196 v197 v198 v199 v200 v201 v202 v203 v204 v205 v206 v207 v208 v209 v210 v211 v212 v213 v214 v215 v216 v217 v218 v219 v220 v221 v222 v223 v224 v225 v226 v227 v228 v229 v230 v231 v232 v233 v234 v235 v236 v237 v238 v239 v240 v241 v242 v243 v244 v245 v246 v247 v248 v249 v250 v251 v252 v253 v254 v255 v256 v257 v258 v259 v260 v261 v262 v263 v264 v265 v266 v267 v268 v269 v270 v271 v272 v273 v274 : Value} (hd : d.Ok) (hcl : ∀ i, i < d.nz → cl i + 1 = d.s.nt) (hR : RdD w B dA tA sA zA cA wA d.s.nd d.s.nt d.s.nt d.s.nd d.nz (d.s.nt - 1) d.s.dep d.s.tide d.s.sw d.z cl d.cu d.wd) (hB : B ≤ w.heap.size) (hW : Ways w) (hF : Fre w) (hx3 : Rd1 w B xA xL.length (fun k => xL.getD k 0)) (hx4 : xL.length ≤ maxLen) (hRS : RdS w B hA hn Xs) (hhn : hn ≤ maxLen)
  (hXo : chkX d.s.nd d.s.nt (ta : Int) lo hi xL = true) (hSo : chkS d.s.nd d.s.nt (ta : Int) hn Xs = true) (hD : 0 ≤ D ∧ D ≤ 63) (hS : 0 ≤ S ∧ S ≤ 3) (hY1 : 0 ≤ ylo) (hY2 : yhi ≤ 8) (hcq : cq < d.s.nd) (h1 : ylo ≤ lo) (h2 : hi ≤ yhi)
  (hM : WdM d zA cA wA dA tA sA xA hA zA' cA' wA' dA' tA' sA' cl dc tc sc zc cc wc xc xL.length hn hc ta dc' tc' sc' zc' cc' wc' cq P3 P4 P5 P7 P8 bO lo hi ylo yhi D S R w (#[.int .i64 (ta : Int), .slice nA nn nc, .int .i64 lo, .int .i64 hi]) ((d.wide D S).cu) ((d.wide D S).wd) X) :
  Code.wp Tryd.prog (restAt Tryd.f3 4) (bodyPost Tryd.prog Tryd.f3 (WidR w)) { tmps := List.toArray (v0 :: v1 :: v2 :: .pointer (some ⟨P3, 0, none⟩) :: .pointer (some ⟨P4, 0, none⟩) :: .pointer (some ⟨P5, 0, none⟩) :: .bool false :: .pointer (some ⟨P7, 0, none⟩) :: .pointer (some ⟨P8, 0, none⟩) :: v9 :: v10 :: v11 :: v12 :: v13 :: v14 :: v15 :: v16 :: v17 :: v18 :: v19 :: v20 :: v21 :: v22 :: v23 :: v24 :: v25 :: v26 :: v27 :: v28 :: v29 :: v30 :: v31 :: v32 :: v33 :: v34 :: v35 :: v36 :: v37 :: v38 :: v39 :: v40 :: v41 :: v42 :: v43 :: v44 :: v45 :: v46 :: v47 :: v48 :: v49 :: v50 :: v51 :: v52 :: v53 :: v54 :: v55 :: v56 :: v57 :: v58 :: v59 :: v60 :: v61 :: v62 :: v63 :: v64 :: v65 :: v66 :: v67 :: v68 :: v69 :: v70 :: v71 :: v72 :: v73 :: v74 :: v75 :: v76 :: v77 :: v78 :: v79 :: v80 :: v81 :: v82 :: v83 :: v84 :: v85 :: v86 :: v87 :: v88 :: v89 :: v90 :: v91 :: v92 :: v93 :: v94 :: v95 :: v96 :: v97 :: v98 :: v99 :: v100 :: v101 :: v102 :: v103 :: v104 :: v105 :: v106 :: v107 :: v108 :: v109 :: v110 :: v111 :: v112 :: v113 :: v114 :: v115 :: v116 :: v117 :: v118 :: v119 :: v120 :: v121 :: v122 :: v123 :: v124 :: v125 :: v126 :: v127 :: v128 :: v129 :: v130 :: v131 :: v132 :: v133 :: v134 :: v135 :: v136 :: v137 :: v138 :: v139 :: v140 :: v141 :: v142 :: v143 :: v144 :: v145 :: v146 :: v147 :: v148 :: v149 :: v150 :: v151 :: v152 :: v153 :: v154 :: v155 :: v156 :: v157 :: v158 :: v159 :: v160 :: v161 :: v162 :: v163 :: v164 :: v165 :: v166 :: v167 :: v168 :: v169 :: v170 :: v171 :: v172 :: v173 :: v174 :: v175 :: v176 :: v177 :: v178 :: v179 :: v180 :: v181 :: v182 :: v183 :: v184 :: v185 :: v186 :: v187 :: v188 :: v189 :: v190 :: v191 :: v192 :: v193 :: v194 :: v195 :: v196 :: v197 :: v198 :: v199 :: v200 :: v201 :: v202 :: v203 :: v204 :: v205 :: v206 :: v207 :: v208 :: v209 :: v210 :: v211 :: v212 :: v213 :: v214 :: v215 :: v216 :: v217 :: v218 :: v219 :: v220 :: v221 :: v222 :: v223 :: v224 :: v225 :: v226 :: v227 :: v228 :: v229 :: v230 :: v231 :: v232 :: v233 :: v234 :: v235 :: v236 :: v237 :: v238 :: v239 :: v240 :: v241 :: v242 :: v243 :: v244 :: v245 :: v246 :: v247 :: v248 :: v249 :: v250 :: v251 :: v252 :: v253 :: v254 :: v255 :: v256 :: v257 :: v258 :: v259 :: v260 :: v261 :: v262 :: v263 :: v264 :: v265 :: v266 :: v267 :: v268 :: v269 :: v270 :: v271 :: v272 :: v273 :: v274 :: []), defers := [] } X := by
 have h60 := hd.s.t2
 have h1n := hd.s.t1
 have hnd2 := hd.s.nd1
 have HSB := Lib.hid (show ∀ c, c ∈ xL → c ∈ M.cellK d.s.nd (fun c => decide (c = (cq : Int)) || xL.contains c) from fun c hc => M.mem_cellK.2 ⟨by obtain ⟨_, _, ⟨_, hx2⟩, _⟩ := chkX_bd hXo; exact hx2 c hc, by simp [hc]⟩)
 have HYX := Lib.hid (chkX_wide hXo hY1 hY2 h1 h2 hcq)
 have HCL := Lib.hid (show ∀ i, i < d.nz → cl i ≤ maxLen from fun i hi => by have := hcl i hi; unfold maxLen; omega)
 have HRX := Lib.hid (fun (V : World) (hb : Below w.heap.size w V) => hx3.below (hb.mono hB))
 have HCK := Lib.hid (fun (k : Nat) => M.cellK_succ k (fun c => decide (c = (cq : Int)) || xL.contains c))
 have HCN := Lib.hid (fun (k : Nat) => M.cellK_len k (fun c => decide (c = (cq : Int)) || xL.contains c))
 obtain ⟨cK, hcK⟩ : ∃ f : Nat → List Int, f = fun k => M.cellK k (fun c => decide (c = (cq : Int)) || xL.contains c) := ⟨_, rfl⟩
 have hcK' : ∀ k, M.cellK k (fun c => decide (c = (cq : Int)) || xL.contains c) = cK k := fun k => by rw [hcK]
 have HTL := Lib.hid (fun (V : World) (yA : Option Addr) (yc : Nat) (S2 : Nat) (v0 v1 v2 v9 v10 v11 v12 v13 v14 v15 v16 v17 v18 v19 v20 v21 v22 v23 v24 v25 v26 v27 v28 v29 v30 v31 v32 v33 v34 v35 v36 v37 v38 v39 v40 v41 v42 v43 v44 v45 v46 v47 v48 v49 v50 v51 v52 v53 v54 v55 v56 v57 v58 v59 v60 v61 v62 v63 v64 v65 v66 v67 v68 v69 v70 v71 v72 v73 v74 v75 v76 v77 v78 v79 v80 v81 v82 v83 v84 v85 v86 v87 v88 v89 v90 v91 v92 v93 v94 v95 v96 v97 v98 v99 v100 v101 v102 v103 v104 v105 v106 v107 v108 v109 v110 v111 v112 v113 v114 v115 v116 v117 v118 v119 v120 v121 v122 v123 v124 v125 v126 v127 v128 v129 v130 v131 v132 v133 v134 v135 v136 v137 v138 v139 v140 v141 v142 v143 v144 v145 v146 v147 v148 v149 v150 v151 v152 v153 v154 v155 v156 v157 v158 v159 v160 v161 v162 v163 v164 v165 v166 v167 v168 v169 v170 v171 v172 v173 v174 v175 v176 v177 v178 v179 v180 v181 v182 v183 v184 v185 v186 v187 v188 v189 v190 v191 v192 v193 v194 v195 v196 v197 v198 v199 v200 v201 v202 v203 v204 v205 v206 v207 v208 v209 v210 v211 v212 v213 v214 v215 v216 v217 v218 v219 v220 v221 v222 v223 v224 v225 v226 v227 v228 v229 v230 v231 v232 v233 v234 v235 v236 v237 v238 v239 v240 v241 v242 v243 v244 v245 v246 v247 v248 v249 v250 v251 v252 v253 v254 v255 v256 v257 v258 v259 v260 v261 v262 v263 v264 v265 v266 v267 v268 v269 v270 v271 v272 v273 v274 : Value) (hv : WdM d zA cA wA dA tA sA xA hA zA' cA' wA' dA' tA' sA' cl dc tc sc zc cc wc xc xL.length hn hc ta dc' tc' sc' zc' cc' wc' cq P3 P4 P5 P7 P8 bO lo hi ylo yhi D S R w (#[.int .i64 (ta : Int), (.slice yA (cK d.s.nd).length yc), .int .i64 ylo, .int .i64 yhi]) ((d.wide D S).cu) ((d.wide D S).wd) V) (hil : IL V S2 (.slice yA (cK d.s.nd).length yc) (cK d.s.nd)) => by
  rw [← hcK' d.s.nd] at hv hil
  exact @wider_tail d zA cA wA dA tA sA xA hA zA' cA' wA' dA' tA' sA' yA cl B dc tc sc zc cc wc xc hn hc ta dc' tc' sc' zc' cc' wc' yc cq P3 P4 P5 P7 P8 lo hi ylo yhi D S xL (M.cellK d.s.nd (fun c => decide (c = (cq : Int)) || xL.contains c)) Xs w V v0 v1 v2 v9 v10 v11 v12 v13 v14 v15 v16 v17 v18 v19 v20 v21 v22 v23 v24 v25 v26 v27 v28 v29 v30 v31 v32 v33 v34 v35 v36 v37 v38 v39 v40 v41 v42 v43 v44 v45 v46 v47 v48 v49 v50 v51 v52 v53 v54 v55 v56 v57 v58 v59 v60 v61 v62 v63 v64 v65 v66 v67 v68 v69 v70 v71 v72 v73 v74 v75 v76 v77 v78 v79 v80 v81 v82 v83 v84 v85 v86 v87 v88 v89 v90 v91 v92 v93 v94 v95 v96 v97 v98 v99 v100 v101 v102 v103 v104 v105 v106 v107 v108 v109 v110 v111 v112 v113 v114 v115 v116 v117 v118 v119 v120 v121 v122 v123 v124 v125 v126 v127 v128 v129 v130 v131 v132 v133 v134 v135 v136 v137 v138 v139 v140 v141 v142 v143 v144 v145 v146 v147 v148 v149 v150 v151 v152 v153 v154 v155 v156 v157 v158 v159 v160 v161 v162 v163 v164 v165 v166 v167 v168 v169 v170 v171 v172 v173 v174 v175 v176 v177 v178 v179 v180 v181 v182 v183 v184 v185 v186 v187 v188 v189 v190 v191 v192 v193 v194 v195 v196 v197 v198 v199 v200 v201 v202 v203 v204 v205 v206 v207 v208 v209 v210 v211 v212 v213 v214 v215 v216 v217 v218 v219 v220 v221 v222 v223 v224 v225 v226 v227 v228 v229 v230 v231 v232 v233 v234 v235 v236 v237 v238 v239 v240 v241 v242 v243 v244 v245 v246 v247 v248 v249 v250 v251 v252 v253 v254 v255 v256 v257 v258 v259 v260 v261 v262 v263 v264 v265 v266 v267 v268 v269 v270 v271 v272 v273 v274 hd hcl hR hB hW hF hx3 hx4 hRS hhn hXo hSo hD hS HYX.out h1 h2 HSB.out (by have := M.cellK_len d.s.nd (fun c => decide (c = (cq : Int)) || xL.contains c); unfold maxLen; omega) hv.b hv.k hv.x hv.z hv.c hv.y (hv.o.rd HCL.out) (IL.rd hil))
 simp only [hcK'] at HCK HCN
 have HC0 := Lib.hid (show cK 0 = [] from by rw [hcK]; rfl)
 clear hcK' hcK HSB HYX HCL
 have M0 := Lib.hid hM
 clear hd hcl hR hB hW hF hx3 hRS hXo hSo hD hS hM hY1 hY2 h1 h2 hcq
 conv in restAt _ _ => whnf
 obtain ⟨w0, hw0⟩ : ∃ w0, w0 = X := ⟨_, rfl⟩
 rw [← hw0] at M0 ⊢
 clear hw0
 have y2 := M0.out.y.cell 2
 have y3 := M0.out.y.cell 3
 have z4 := M0.out.z.cell 4
 have z5 := M0.out.z.cell 5
 have f0 := M0.out.y.frz 0
 have f1 := M0.out.y.frz 1
 have f2 := M0.out.y.frz 2
 have f3 := M0.out.y.frz 3
 have hgl := M0.out.y.lt
 go_upto_region 15 with fail
 have M1 := Lib.hid (show WdM d zA cA wA dA tA sA xA hA zA' cA' wA' dA' tA' sA' cl dc tc sc zc cc wc xc xL.length hn hc ta dc' tc' sc' zc' cc' wc' cq P3 P4 P5 P7 P8 bO lo hi ylo yhi D S R w (#[.int .i64 (ta : Int), .slice nA nn nc, .int .i64 ylo, .int .i64 yhi]) ((d.wide D S).cu) ((d.wide D S).wd) ((w0.setCell ⟨P8, 2, none⟩ (.int .i64 ylo)).setCell ⟨P8, 3, none⟩ (.int .i64 yhi)) from (M0.out.store8 2 (.int .i64 ylo)).store8 3 (.int .i64 yhi))
 generalize ((w0.setCell ⟨P8, 2, none⟩ (.int .i64 ylo)).setCell ⟨P8, 3, none⟩ (.int .i64 yhi)) = w1 at M1 ⊢
 clear y2 y3 z4 z5 f0 f1 f2 f3 hgl M0
 have y1 := M1.out.y.cell 1
 have f1 := M1.out.y.frz 1
 have hgl := M1.out.y.lt
 go_upto_region 16 with fail
 have M2 := Lib.hid (show WdM d zA cA wA dA tA sA xA hA zA' cA' wA' dA' tA' sA' cl dc tc sc zc cc wc xc xL.length hn hc ta dc' tc' sc' zc' cc' wc' cq P3 P4 P5 P7 P8 bO lo hi ylo yhi D S R w (#[.int .i64 (ta : Int), .slice none 0 0, .int .i64 ylo, .int .i64 yhi]) ((d.wide D S).cu) ((d.wide D S).wd) (w1.setCell ⟨P8, 1, none⟩ (.slice none 0 0)) from M1.out.store8 1 (.slice none 0 0))
 generalize (w1.setCell ⟨P8, 1, none⟩ (.slice none 0 0)) = w2 at M2 ⊢
 clear y1 f1 hgl M1
 have HOL := Lib.hid M2.out.o.old
 have HPS := Lib.hid (show P3 < w2.heap.size ∧ P4 < w2.heap.size ∧ P5 < w2.heap.size ∧ P7 < w2.heap.size ∧ P8 < w2.heap.size from ⟨M2.out.k.lt, M2.out.x.lt, M2.out.z.lt, M2.out.c.lt, M2.out.y.lt⟩)
 have HW2 := Lib.hid M2.out.b.size
 obtain ⟨S2, hS2⟩ : ∃ n, n = w2.heap.size := ⟨_, rfl⟩
 have HSL := Lib.hid (show S2 ≤ w2.heap.size from Nat.le_of_eq hS2)
 rw [← hS2] at HOL HPS HW2
 clear hS2
 go_wp2_with fail
 go_loopw [11] (fun i wr => ∃ (k : Nat) (lA : Option Addr) (lc : Nat), k ≤ d.s.nd ∧ i = .int .i64 (k : Int) ∧ Hid (WdM d zA cA wA dA tA sA xA hA zA' cA' wA' dA' tA' sA' cl dc tc sc zc cc wc xc xL.length hn hc ta dc' tc' sc' zc' cc' wc' cq P3 P4 P5 P7 P8 bO lo hi ylo yhi D S R w (#[.int .i64 (ta : Int), .slice lA (cK k).length lc, .int .i64 ylo, .int .i64 yhi]) ((d.wide D S).cu) ((d.wide D S).wd) wr ∧ IL wr S2 (.slice lA (cK k).length lc) (cK k) ∧ S2 ≤ wr.heap.size)) (fun i _ => d.s.nd - (intOf i).toNat)
 case atStart => exact ⟨0, none, 0, Nat.zero_le _, rfl, Lib.hid ⟨by rw [HC0.out]; exact M2.out, by rw [HC0.out]; exact Own.nil_, HSL.out⟩⟩
 case round =>
  obtain ⟨k, lA, lc, hk, rfl, HI⟩ := hrel
  clear M2 HSL
  have k2 := HI.out.1.k.cell 2
  by_cases hlt : k < d.s.nd
  ·
   have g2 : decide (k < d.s.nd) = true := decide_eq_true hlt
   have MK := Lib.hid HI.out.1
   have HIL := Lib.hid HI.out.2.1
   have HSZ := Lib.hid HI.out.2.2
   clear HI
   have hle : (cK k).length ≤ 1000 := by have := HCN.out k; omega
   have HUS := Lib.hid (show cK (k + 1) = cK k ++ (if (decide ((k : Int) = (cq : Int)) || xL.contains (k : Int)) = true then [(k : Int)] else []) from HCK.out k)
   clear k2
   obtain ⟨L, hL⟩ : ∃ L, L = cK k := ⟨_, rfl⟩
   rw [← hL] at MK HIL hle HUS
   clear hL
   have HKR := Lib.hid (HRX.out wr MK.out.b)
   have k2 := MK.out.k.cell 2
   have z3 := MK.out.z.cell 3
   have x1 := MK.out.x.cell 1
   have hkq : k ≤ 1000 := by omega
   have HIN := Lib.hid (rin_list xA xL.length xc B (fun j => xL.getD j 0) (k : Int) wr hx4 HKR.out)
   rw [anyTo_mem9] at HIN
   by_cases hkc : (k : Int) = (cq : Int)
   ·
    obtain rfl : k = cq := by omega
    have HT := Lib.hid (show (decide ((k : Int) = (k : Int)) || xL.contains (k : Int)) = true from by rw [decide_eq_true hkc]; rfl)
    clear HIN HKR hkc
    go_upto_region 20 with fail
    clear k2 z3 x1
    have c1 := MK.out.y.cell 1
    go_upto_region 18 with (at_builtin; go_must (refine wpList_apI _ rfl (.tmp 201) (.tmp 203) rfl (B := S2) (L := L) rfl (Own.alloc HIL.out _) rfl ((Blk.new _ _ _).cell 0) (by omega) (by have := HSZ.out; simp; omega) ?_); intro g6 c6 w6 hi6 hg6 hb6; have HI6 := Lib.hid hi6; have M6 := Lib.hid ((MK.out.below (belowAlloc wr (.cells #[.int .i64 (k : Int)] 3))).grown HOL.out HPS.out HW2.out hg6 (fun r e => (Own.block HIL.out e).1)); have HZ6 := Lib.hid (show S2 ≤ w6.heap.size from Nat.le_trans HSZ.out (Nat.le_trans (by simp) hg6.size)); clear hi6 hg6 hb6 c1; have c1 := M6.out.y.cell 1; have f1 := M6.out.y.frz 1; have hl6 := M6.out.y.lt)
    have M7 := Lib.hid (show WdM d zA cA wA dA tA sA xA hA zA' cA' wA' dA' tA' sA' cl dc tc sc zc cc wc xc xL.length hn hc ta dc' tc' sc' zc' cc' wc' k P3 P4 P5 P7 P8 bO lo hi ylo yhi D S R w (#[.int .i64 (ta : Int), .slice (some ⟨g6, 0, none⟩) (L.length + 1) c6, .int .i64 ylo, .int .i64 yhi]) ((d.wide D S).cu) ((d.wide D S).wd) (w6.setCell ⟨P8, 1, none⟩ (.slice (some ⟨g6, 0, none⟩) (L.length + 1) c6)) from M6.out.store8 1 (.slice (some ⟨g6, 0, none⟩) (L.length + 1) c6))
    have HI7 := Lib.hid (show IL (w6.setCell ⟨P8, 1, none⟩ (.slice (some ⟨g6, 0, none⟩) (L.length + 1) c6)) S2 (.slice (some ⟨g6, 0, none⟩) (L.length + 1) c6) (L ++ [(k : Int)]) from Own.setCell (p := ⟨P8, 1, none⟩) HI6.out (Own.ne_blk HI6.out M6.out.y (by decide)) _)
    have HZ7 := Lib.hid (show S2 ≤ (w6.setCell ⟨P8, 1, none⟩ (.slice (some ⟨g6, 0, none⟩) (L.length + 1) c6)).heap.size from by simp; exact HZ6.out)
    generalize (w6.setCell ⟨P8, 1, none⟩ (.slice (some ⟨g6, 0, none⟩) (L.length + 1) c6)) = wf at M7 HI7 HZ7 ⊢
    clear M6 HI6 HZ6 c1 f1 hl6 MK HIL HSZ
    go_wp2_with fail
    go_roundw
    case rel =>
     have e : cK (k + 1) = L ++ [(k : Int)] := by rw [HUS.out, HT.out, if_pos rfl]
     exact ⟨k + 1, some ⟨g6, 0, none⟩, c6, by omega, by go_num, Lib.hid ⟨by rw [e]; simpa using M7.out, by rw [e]; simpa using HI7.out, HZ7.out⟩⟩
    case measure => simp [intOf]; omega
   ·
    have g3 : decide ((k : Int) = (cq : Int)) = false := decide_eq_false hkc
    obtain ⟨qb, hqb⟩ : ∃ q, q = xL.contains (k : Int) := ⟨_, rfl⟩
    rw [← hqb] at HIN
    have HT := Lib.hid (show (decide ((k : Int) = (cq : Int)) || xL.contains (k : Int)) = qb from by rw [decide_eq_false hkc, hqb]; rfl)
    clear hqb HKR
    go_wp2_with fail
    refine HIN.out.mono ?_
    rintro e w5 ⟨rfl, hb⟩
    have M5 := Lib.hid (MK.out.below hb)
    have I5 := Lib.hid (Own.below HIL.out hb)
    have Z5 := Lib.hid (Nat.le_trans HSZ.out hb.size)
    clear hb HIN MK HIL HSZ k2 z3 x1
    cases qb
    ·
     go_wp2_with fail
     go_roundw
     case rel =>
      have e : cK (k + 1) = L := by rw [HUS.out, HT.out, if_neg (by simp), List.append_nil]
      exact ⟨k + 1, lA, lc, by omega, by go_num, Lib.hid ⟨by rw [e]; exact M5.out, by rw [e]; exact I5.out, Z5.out⟩⟩
     case measure => simp [intOf]; omega
    ·
     go_upto_region 20 with fail
     have c1 := M5.out.y.cell 1
     go_upto_region 18 with (at_builtin; go_must (refine wpList_apI _ rfl (.tmp 201) (.tmp 203) rfl (B := S2) (L := L) rfl (Own.alloc I5.out _) rfl ((Blk.new _ _ _).cell 0) (by omega) (by have := Z5.out; simp; omega) ?_); intro g6 c6 w6 hi6 hg6 hb6; have HI6 := Lib.hid hi6; have M6 := Lib.hid ((M5.out.below (belowAlloc w5 (.cells #[.int .i64 (k : Int)] 3))).grown HOL.out HPS.out HW2.out hg6 (fun r e => (Own.block I5.out e).1)); have HZ6 := Lib.hid (show S2 ≤ w6.heap.size from Nat.le_trans Z5.out (Nat.le_trans (by simp) hg6.size)); clear hi6 hg6 hb6 c1; have c1 := M6.out.y.cell 1; have f1 := M6.out.y.frz 1; have hl6 := M6.out.y.lt)
     have M7 := Lib.hid (show WdM d zA cA wA dA tA sA xA hA zA' cA' wA' dA' tA' sA' cl dc tc sc zc cc wc xc xL.length hn hc ta dc' tc' sc' zc' cc' wc' cq P3 P4 P5 P7 P8 bO lo hi ylo yhi D S R w (#[.int .i64 (ta : Int), .slice (some ⟨g6, 0, none⟩) (L.length + 1) c6, .int .i64 ylo, .int .i64 yhi]) ((d.wide D S).cu) ((d.wide D S).wd) (w6.setCell ⟨P8, 1, none⟩ (.slice (some ⟨g6, 0, none⟩) (L.length + 1) c6)) from M6.out.store8 1 (.slice (some ⟨g6, 0, none⟩) (L.length + 1) c6))
     have HI7 := Lib.hid (show IL (w6.setCell ⟨P8, 1, none⟩ (.slice (some ⟨g6, 0, none⟩) (L.length + 1) c6)) S2 (.slice (some ⟨g6, 0, none⟩) (L.length + 1) c6) (L ++ [(k : Int)]) from Own.setCell (p := ⟨P8, 1, none⟩) HI6.out (Own.ne_blk HI6.out M6.out.y (by decide)) _)
     have HZ7 := Lib.hid (show S2 ≤ (w6.setCell ⟨P8, 1, none⟩ (.slice (some ⟨g6, 0, none⟩) (L.length + 1) c6)).heap.size from by simp; exact HZ6.out)
     generalize (w6.setCell ⟨P8, 1, none⟩ (.slice (some ⟨g6, 0, none⟩) (L.length + 1) c6)) = wf at M7 HI7 HZ7 ⊢
     clear M6 HI6 HZ6 c1 f1 hl6 M5 I5 Z5
     go_wp2_with fail
     go_roundw
     case rel =>
      have e : cK (k + 1) = L ++ [(k : Int)] := by rw [HUS.out, HT.out, if_pos rfl]
      exact ⟨k + 1, some ⟨g6, 0, none⟩, c6, by omega, by go_num, Lib.hid ⟨by rw [e]; simpa using M7.out, by rw [e]; simpa using HI7.out, HZ7.out⟩⟩
     case measure => simp [intOf]; omega
  ·
   obtain rfl : k = d.s.nd := by omega
   have g2 : decide (d.s.nd < d.s.nd) = false := decide_eq_false (Nat.lt_irrefl _)
   have MK := Lib.hid HI.out.1
   have HIL := Lib.hid HI.out.2.1
   clear HI
   go_upto_if 187 with fail
   refine wp_cond_false rfl (wp_exit ?_)
   (try simp only [Exit.then])
   apply_assumption
   exact HTL.out wr lA lc S2 _ _ _ _ _ _ _ _ _ _ _ _ _ _ _ _ _ _ _ _ _ _ _ _ _ _ _ _ _ _ _ _ _ _ _ _ _ _ _ _ _ _ _ _ _ _ _ _ _ _ _ _ _ _ _ _ _ _ _ _ _ _ _ _ _ _ _ _ _ _ _ _ _ _ _ _ _ _ _ _ _ _ _ _ _ _ _ _ _ _ _ _ _ _ _ _ _ _ _ _ _ _ _ _ _ _ _ _ _ _ _ _ _ _ _ _ _ _ _ _ _ _ _ _ _ _ _ _ _ _ _ _ _ _ _ _ _ _ _ _ _ _ _ _ _ _ _ _ _ _ _ _ _ _ _ _ _ _ _ _ _ _ _ _ _ _ _ _ _ _ _ _ _ _ _ _ _ _ _ _ _ _ _ _ _ _ _ _ _ _ _ _ _ _ _ _ _ _ _ _ _ _ _ _ _ _ _ _ _ _ _ _ _ _ _ _ _ _ _ _ _ _ _ _ _ _ _ _ _ _ _ _ _ _ _ _ _ _ _ _ _ _ _ _ _ _ _ _ _ _ _ _ _ _ _ _ _ _ _ _ _ _ _ _ _ _ _ _ _ MK.out HIL.out
end
end Go.Proofs.YtnbeembnnjdmdaaDoor
