/- DriftWider, walked. -/
import Derived.Test.YtnbeembnnjdmdaaDoorWC
import Derived.Test.YtnbeembnnjdmdaaDoorJ6
import Derived.Test.YtnbeembnnjdmdaaDoorG4
namespace Go.Proofs.YtnbeembnnjdmdaaDoor
open Go.RowKit Go.Maps

section
variable {P : Program} {md : Region.Mode} {ops : Array Oper} {Q : Exit → Act → World → Prop} {S : World → Prop} {e : Nat}
/-- a read is taken first, its conditions in one; no panic is asked for -/
theorem takeK {i : Nat} {oi : Oper} {v : Value} {fuel : Nat} {listed : Array Bool} {a : Act} {w : World} (hi : ops[i]? = some oi)
  (hc : (Region.noSelect ops && Region.free md ops listed i && (Region.ready md ops listed).contains i && Region.needs md ops ops.size e i && (!listed.getD e false && e != i && closedB md ops listed)) = true)
  (hy : YieldsIf P ops S oi v a) (hS : S w) (h : wpAnyT P md ops (fun x a w => (∀ c, x ≠ .panic c) ∧ Q x a w) S e fuel (listed.setIfInBounds i true) (a.put oi.dst v) w) : wpAnyT P md ops (fun x a w => (∀ c, x ≠ .panic c) ∧ Q x a w) S e (fuel + 1) listed a w := by
 simp only [Bool.and_eq_true] at hc
 obtain ⟨⟨⟨⟨h1, h2⟩, h3⟩, h4⟩, h5⟩ := hc
 exact wpAnyT_take hi h1 h2 h3 h4 (by simp only [Bool.and_eq_true]; exact h5) (fun _ _ _ h => absurd rfl (h.1 _)) hy hS h
end
section
variable {d : M.Dr} {zA cA wA dA tA sA xA hA : Option Addr} {cl : Nat → Nat} {B dc tc sc zc cc wc xc hn hc ta cq P3 P4 P5 : Nat} {lo hi ylo yhi D S : Int} {xL : List Int} {Xs : Nat → SgV} {w X : World}
set_option maxRecDepth 100000 in
set_option maxHeartbeats 12800000 in
theorem wider_front {v0 v1 v2 v7 v8 v9 v10 v11 v12 v13 v14 v15 v16 v17 v18 v19 v20 v21 v22 v23 v24 v25 v26 v27 v28 v29 v30 v31 v32 v33 v34 v35 v36 v37 v38 v39 v40 v41 v42 v43 v44 v45 v46 v47 v48 v49 v50 v51 v52 v53 v54 v55 v56 v57 v58 v59 v60 v61 v62 v63 v64 v65 v66 v67 v68 v69 v70 v71 v72 v73 v74 v75 v76 v77 v78 v79 v80 v81 v82 v83 v84 v85 v86 v87 v88 v89 v90 v91 v92 v93 v94 v95 v96 v97 v98 v99 v100 v101 v102 v103 v104 v105 v106 v107 v108 v109 v110 v111 v112 v113 v114 v115 v116 v117 v118 v119 v120 v121 v122 v123 v124 v125 v126 v127 v128 v129 v130 v131 v132 v133 v134 v135 v136 v137 v138 v139 v140 v141 v142 v143 v144 v145 v146 v147 v148 v149 v150 v151 v152 v153 v154 v155 v156 v157 v158 v159 v160 v161 v162 v163 v164 v165 v166 v167 v168 v169 v170 v171 v172 v173 v174 v175 v176 v177 v178 v179 v180 v181 v182 v183 v184 v185 v186 v187 v188 v189 v190 v191 v192 v193 v194 v195 v196 v197 v198 v199 v200 v201 v202 v203 v204 v205 v206 v207 v208 v209 v210 v211 v212 v213 v214 v215 v216 v217 v218 v219 v220 v221 v222 v223 v224 v225 v226 v227 v228 v229 v230 v231 v232 v233 v234 v235 v236 v237 v238 v239 v240 v241 v242 v243 v244 v245 v246 v247 v248 v249 v250 v251 v252 v253 v254 v255 v256 v257 v258 v259 v260 v261 v262 v263 v264 v265 v266 v267 v268 v269 v270 v271 v272 v273 v274 : Value} (hd : d.Ok) (hcl : ∀ i, i < d.nz → cl i + 1 = d.s.nt) (hR : RdD w B dA tA sA zA cA wA d.s.nd d.s.nt d.s.nt d.s.nd d.nz (d.s.nt - 1) d.s.dep d.s.tide d.s.sw d.z cl d.cu d.wd) (hB : B ≤ w.heap.size) (hW : Ways w) (hF : Fre w) (hx3 : Rd1 w B xA xL.length (fun k => xL.getD k 0)) (hx4 : xL.length ≤ maxLen) (hRS : RdS w B hA hn Xs) (hhn : hn ≤ maxLen)
  (hXo : chkX d.s.nd d.s.nt (ta : Int) lo hi xL = true) (hSo : chkS d.s.nd d.s.nt (ta : Int) hn Xs = true) (hD : 0 ≤ D ∧ D ≤ 63) (hS : 0 ≤ S ∧ S ≤ 3) (hY1 : 0 ≤ ylo) (hY2 : yhi ≤ 8) (hcq : cq < d.s.nd) (h1 : ylo ≤ lo) (h2 : hi ≤ yhi)
  (hFO : FarOk d.s.nd d.s.nt d.s.nt d.s.nd d.nz (d.s.nt - 1) cl true) (hxn : xL.length ≤ 1048576) (hX : Below w.heap.size w X) (B3 : Blk X P3 29 #[.int .i64 (d.s.W : Int), .int .i64 (d.s.H : Int), .slice dA d.s.nd dc, .slice tA d.s.nt tc, .slice sA d.s.nt sc, .slice zA d.s.nd zc, .slice cA d.nz cc, .slice wA (d.s.nt - 1) wc]) (B4 : Blk X P4 33 #[.int .i64 (ta : Int), .slice xA xL.length xc, .int .i64 lo, .int .i64 hi]) (B5 : Blk X P5 36 #[.slice hA hn hc, .int .i64 D, .int .i64 S, .int .i64 (cq : Int), .int .i64 ylo, .int .i64 yhi]) :
  Code.wp Tryd.prog (restAt Tryd.f3 2) (bodyPost Tryd.prog Tryd.f3 (WidR w)) { tmps := List.toArray (v0 :: v1 :: v2 :: .pointer (some ⟨P3, 0, none⟩) :: .pointer (some ⟨P4, 0, none⟩) :: .pointer (some ⟨P5, 0, none⟩) :: .bool false :: v7 :: v8 :: v9 :: v10 :: v11 :: v12 :: v13 :: v14 :: v15 :: v16 :: v17 :: v18 :: v19 :: v20 :: v21 :: v22 :: v23 :: v24 :: v25 :: v26 :: v27 :: v28 :: v29 :: v30 :: v31 :: v32 :: v33 :: v34 :: v35 :: v36 :: v37 :: v38 :: v39 :: v40 :: v41 :: v42 :: v43 :: v44 :: v45 :: v46 :: v47 :: v48 :: v49 :: v50 :: v51 :: v52 :: v53 :: v54 :: v55 :: v56 :: v57 :: v58 :: v59 :: v60 :: v61 :: v62 :: v63 :: v64 :: v65 :: v66 :: v67 :: v68 :: v69 :: v70 :: v71 :: v72 :: v73 :: v74 :: v75 :: v76 :: v77 :: v78 :: v79 :: v80 :: v81 :: v82 :: v83 :: v84 :: v85 :: v86 :: v87 :: v88 :: v89 :: v90 :: v91 :: v92 :: v93 :: v94 :: v95 :: v96 :: v97 :: v98 :: v99 :: v100 :: v101 :: v102 :: v103 :: v104 :: v105 :: v106 :: v107 :: v108 :: v109 :: v110 :: v111 :: v112 :: v113 :: v114 :: v115 :: v116 :: v117 :: v118 :: v119 :: v120 :: v121 :: v122 :: v123 :: v124 :: v125 :: v126 :: v127 :: v128 :: v129 :: v130 :: v131 :: v132 :: v133 :: v134 :: v135 :: v136 :: v137 :: v138 :: v139 :: v140 :: v141 :: v142 :: v143 :: v144 :: v145 :: v146 :: v147 :: v148 :: v149 :: v150 :: v151 :: v152 :: v153 :: v154 :: v155 :: v156 :: v157 :: v158 :: v159 :: v160 :: v161 :: v162 :: v163 :: v164 :: v165 :: v166 :: v167 :: v168 :: v169 :: v170 :: v171 :: v172 :: v173 :: v174 :: v175 :: v176 :: v177 :: v178 :: v179 :: v180 :: v181 :: v182 :: v183 :: v184 :: v185 :: v186 :: v187 :: v188 :: v189 :: v190 :: v191 :: v192 :: v193 :: v194 :: v195 :: v196 :: v197 :: v198 :: v199 :: v200 :: v201 :: v202 :: v203 :: v204 :: v205 :: v206 :: v207 :: v208 :: v209 :: v210 :: v211 :: v212 :: v213 :: v214 :: v215 :: v216 :: v217 :: v218 :: v219 :: v220 :: v221 :: v222 :: v223 :: v224 :: v225 :: v226 :: v227 :: v228 :: v229 :: v230 :: v231 :: v232 :: v233 :: v234 :: v235 :: v236 :: v237 :: v238 :: v239 :: v240 :: v241 :: v242 :: v243 :: v244 :: v245 :: v246 :: v247 :: v248 :: v249 :: v250 :: v251 :: v252 :: v253 :: v254 :: v255 :: v256 :: v257 :: v258 :: v259 :: v260 :: v261 :: v262 :: v263 :: v264 :: v265 :: v266 :: v267 :: v268 :: v269 :: v270 :: v271 :: v272 :: v273 :: v274 :: []), defers := [] } X := by
 have HCO := Lib.hid (fun (V : World) (hb : Below w.heap.size w V) => rdcopy_own (dc := dc) (tc := tc) (sc := sc) (zc := zc) (cc := cc) (wc := wc) (W := (d.s.W : Int)) (H := (d.s.H : Int)) hFO (hR.below (hb.mono hB)) (Nat.le_trans hB hb.size))
 have HCP := Lib.hid (fun (V : World) (hb : Below w.heap.size w V) => rcopied_any (at_ := (ta : Int)) (lo := lo) (hi := hi) (xc := xc) (hx3.below (hb.mono hB)) hxn (Nat.le_trans hB hb.size))
 have HTL := Lib.hid (fun (V : World) zA' cA' wA' dA' tA' sA' nA dc' tc' sc' zc' cc' wc' P7 P8 bO nc R (v0 v1 v2 v9 v10 v11 v12 v13 v14 v15 v16 v17 v18 v19 v20 v21 v22 v23 v24 v25 v26 v27 v28 v29 v30 v31 v32 v33 v34 v35 v36 v37 v38 v39 v40 v41 v42 v43 v44 v45 v46 v47 v48 v49 v50 v51 v52 v53 v54 v55 v56 v57 v58 v59 v60 v61 v62 v63 v64 v65 v66 v67 v68 v69 v70 v71 v72 v73 v74 v75 v76 v77 v78 v79 v80 v81 v82 v83 v84 v85 v86 v87 v88 v89 v90 v91 v92 v93 v94 v95 v96 v97 v98 v99 v100 v101 v102 v103 v104 v105 v106 v107 v108 v109 v110 v111 v112 v113 v114 v115 v116 v117 v118 v119 v120 v121 v122 v123 v124 v125 v126 v127 v128 v129 v130 v131 v132 v133 v134 v135 v136 v137 v138 v139 v140 v141 v142 v143 v144 v145 v146 v147 v148 v149 v150 v151 v152 v153 v154 v155 v156 v157 v158 v159 v160 v161 v162 v163 v164 v165 v166 v167 v168 v169 v170 v171 v172 v173 v174 v175 v176 v177 v178 v179 v180 v181 v182 v183 v184 v185 v186 v187 v188 v189 v190 v191 v192 v193 v194 v195 v196 v197 v198 v199 v200 v201 v202 v203 v204 v205 v206 v207 v208 v209 v210 v211 v212 v213 v214 v215 v216 v217 v218 v219 v220 v221 v222 v223 v224 v225 v226 v227 v228 v229 v230 v231 v232 v233 v234 v235 v236 v237 v238 v239 v240 v241 v242 v243 v244 v245 v246 v247 v248 v249 v250 v251 v252 v253 v254 v255 v256 v257 v258 v259 v260 v261 v262 v263 v264 v265 v266 v267 v268 v269 v270 v271 v272 v273 v274 : Value) (hv : WdM d zA cA wA dA tA sA xA hA zA' cA' wA' dA' tA' sA' cl dc tc sc zc cc wc xc xL.length hn hc ta dc' tc' sc' zc' cc' wc' cq P3 P4 P5 P7 P8 bO lo hi ylo yhi D S R w (#[.int .i64 (ta : Int), .slice nA xL.length nc, .int .i64 lo, .int .i64 hi]) (d.cu) (d.wd) V) => @wider_loops d zA cA wA dA tA sA xA hA zA' cA' wA' dA' tA' sA' nA cl B dc tc sc zc cc wc xc hn hc ta dc' tc' sc' zc' cc' wc' cq P3 P4 P5 P7 P8 bO xL.length nc lo hi ylo yhi D S xL R Xs w V v0 v1 v2 v9 v10 v11 v12 v13 v14 v15 v16 v17 v18 v19 v20 v21 v22 v23 v24 v25 v26 v27 v28 v29 v30 v31 v32 v33 v34 v35 v36 v37 v38 v39 v40 v41 v42 v43 v44 v45 v46 v47 v48 v49 v50 v51 v52 v53 v54 v55 v56 v57 v58 v59 v60 v61 v62 v63 v64 v65 v66 v67 v68 v69 v70 v71 v72 v73 v74 v75 v76 v77 v78 v79 v80 v81 v82 v83 v84 v85 v86 v87 v88 v89 v90 v91 v92 v93 v94 v95 v96 v97 v98 v99 v100 v101 v102 v103 v104 v105 v106 v107 v108 v109 v110 v111 v112 v113 v114 v115 v116 v117 v118 v119 v120 v121 v122 v123 v124 v125 v126 v127 v128 v129 v130 v131 v132 v133 v134 v135 v136 v137 v138 v139 v140 v141 v142 v143 v144 v145 v146 v147 v148 v149 v150 v151 v152 v153 v154 v155 v156 v157 v158 v159 v160 v161 v162 v163 v164 v165 v166 v167 v168 v169 v170 v171 v172 v173 v174 v175 v176 v177 v178 v179 v180 v181 v182 v183 v184 v185 v186 v187 v188 v189 v190 v191 v192 v193 v194 v195 v196 v197 v198 v199 v200 v201 v202 v203 v204 v205 v206 v207 v208 v209 v210 v211 v212 v213 v214 v215 v216 v217 v218 v219 v220 v221 v222 v223 v224 v225 v226 v227 v228 v229 v230 v231 v232 v233 v234 v235 v236 v237 v238 v239 v240 v241 v242 v243 v244 v245 v246 v247 v248 v249 v250 v251 v252 v253 v254 v255 v256 v257 v258 v259 v260 v261 v262 v263 v264 v265 v266 v267 v268 v269 v270 v271 v272 v273 v274 hd hcl hR hB hW hF hx3 hx4 hRS hhn hXo hSo hD hS hY1 hY2 hcq h1 h2 hv)
 have HB2 := Lib.hid hX
 have K2 := Lib.hid B3
 have X2 := Lib.hid B4
 have Z2 := Lib.hid B5
 clear hd hcl hR hB hW hF hx3 hRS hXo hSo hD hS hX hY1 hY2 h1 h2 hcq B3 B4 B5 hFO
 obtain ⟨w2, hw2⟩ : ∃ w2, w2 = X := ⟨_, rfl⟩
 rw [← hw2] at HB2 K2 X2 Z2 ⊢
 clear hw2
 conv in restAt _ _ => whnf
 go_upto_region 3 with fail
 refine wp_nopanic ?_
 refine wp_region_T 7 (fun w' => Below w2.heap.size w2 w') (by kernel_rfl) (Below.refl _ _).drew ?_
 intro hS
 refine takeK (i := 0) (v := ?_) rfl (by kernel_rfl) (.inl ⟨by kernel_rfl, ?_⟩) hS ?_
 rotate_left
 · (intro w' hw; have k0 := (K2.out.below' hw).cell 0; have k1 := (K2.out.below' hw).cell 1; have k2 := (K2.out.below' hw).cell 2; have k3 := (K2.out.below' hw).cell 3; have k4 := (K2.out.below' hw).cell 4; have k5 := (K2.out.below' hw).cell 5; have k6 := (K2.out.below' hw).cell 6; have k7 := (K2.out.below' hw).cell 7; go_simp; try with_reducible rfl)
 try simp only [put_laws]
 refine takeK (i := 2) (v := ?_) rfl (by kernel_rfl) (.inl ⟨by kernel_rfl, ?_⟩) hS ?_
 rotate_left
 · (intro w' hw; have x0 := (X2.out.below' hw).cell 0; have x1 := (X2.out.below' hw).cell 1; have x2 := (X2.out.below' hw).cell 2; have x3 := (X2.out.below' hw).cell 3; go_simp; try with_reducible rfl)
 try simp only [put_laws]
 refine wpAnyT_inv (fun listed a V => ∃ (bc bx bs b7 b8 d7 d8 ba : Bool) (vc vx vs x7 x8 x9 : Value), listed = #[true, bc, true, bx, b7, b8, d7, d8] ∧ a = { tmps := List.toArray (v0 :: v1 :: v2 :: .pointer (some ⟨P3, 0, none⟩) :: .pointer (some ⟨P4, 0, none⟩) :: .pointer (some ⟨P5, 0, none⟩) :: .bool false :: x7 :: x8 :: v9 :: v10 :: v11 :: v12 :: v13 :: v14 :: v15 :: v16 :: v17 :: v18 :: v19 :: v20 :: v21 :: v22 :: v23 :: v24 :: v25 :: v26 :: v27 :: v28 :: v29 :: v30 :: v31 :: v32 :: v33 :: v34 :: v35 :: v36 :: v37 :: v38 :: v39 :: v40 :: v41 :: v42 :: v43 :: v44 :: v45 :: v46 :: v47 :: v48 :: v49 :: v50 :: v51 :: v52 :: v53 :: v54 :: v55 :: v56 :: v57 :: v58 :: v59 :: v60 :: v61 :: v62 :: v63 :: v64 :: v65 :: v66 :: v67 :: v68 :: v69 :: v70 :: v71 :: v72 :: v73 :: v74 :: v75 :: v76 :: v77 :: v78 :: v79 :: v80 :: v81 :: v82 :: v83 :: v84 :: .agg #[.int .i64 (d.s.W : Int), .int .i64 (d.s.H : Int), .slice dA d.s.nd dc, .slice tA d.s.nt tc, .slice sA d.s.nt sc, .slice zA d.s.nd zc, .slice cA d.nz cc, .slice wA (d.s.nt - 1) wc] :: vc :: .agg #[.int .i64 (ta : Int), .slice xA xL.length xc, .int .i64 lo, .int .i64 hi] :: vx :: v89 :: v90 :: v91 :: v92 :: v93 :: v94 :: v95 :: v96 :: v97 :: v98 :: v99 :: v100 :: v101 :: v102 :: v103 :: v104 :: v105 :: v106 :: v107 :: v108 :: v109 :: v110 :: v111 :: v112 :: v113 :: v114 :: v115 :: v116 :: v117 :: v118 :: v119 :: v120 :: v121 :: v122 :: v123 :: v124 :: v125 :: v126 :: v127 :: v128 :: v129 :: v130 :: v131 :: v132 :: v133 :: v134 :: v135 :: v136 :: v137 :: v138 :: v139 :: v140 :: v141 :: v142 :: v143 :: v144 :: v145 :: v146 :: v147 :: v148 :: v149 :: v150 :: v151 :: v152 :: v153 :: v154 :: v155 :: v156 :: v157 :: v158 :: v159 :: v160 :: v161 :: v162 :: v163 :: v164 :: v165 :: v166 :: v167 :: v168 :: v169 :: v170 :: v171 :: v172 :: v173 :: v174 :: v175 :: v176 :: v177 :: v178 :: v179 :: v180 :: v181 :: v182 :: v183 :: v184 :: v185 :: v186 :: v187 :: v188 :: v189 :: v190 :: v191 :: v192 :: v193 :: v194 :: v195 :: v196 :: v197 :: v198 :: v199 :: v200 :: v201 :: v202 :: v203 :: v204 :: v205 :: v206 :: v207 :: v208 :: v209 :: v210 :: v211 :: v212 :: v213 :: v214 :: v215 :: v216 :: v217 :: v218 :: v219 :: v220 :: v221 :: v222 :: v223 :: v224 :: v225 :: v226 :: v227 :: v228 :: v229 :: v230 :: v231 :: v232 :: v233 :: v234 :: v235 :: v236 :: v237 :: v238 :: v239 :: v240 :: v241 :: v242 :: v243 :: v244 :: v245 :: v246 :: v247 :: v248 :: v249 :: v250 :: v251 :: v252 :: v253 :: v254 :: v255 :: v256 :: v257 :: v258 :: v259 :: v260 :: v261 :: v262 :: v263 :: v264 :: v265 :: v266 :: v267 :: v268 :: v269 :: v270 :: v271 :: v272 :: v273 :: v274 :: []), defers := [] } ∧ CpyI w2 (d.s.W : Int) (d.s.H : Int) d.s.nd d.s.nt d.s.nt d.s.nd d.nz (d.s.nt - 1) d.s.dep d.s.tide d.s.sw d.z cl d.cu d.wd (ta : Int) lo hi xL hn Xs bc bx bs b7 b8 d7 d8 ba vc vx vs x7 x8 x9 V) ?_ ?_ _ _ _ _ (of_decide_eq_true (by kernel_rfl)) ?_
 rotate_left 2
 · exact ⟨false, false, false, false, false, false, false, false, v86, v88, undef, v7, v8, undef, rfl, rfl, CpyI.start hS⟩
 rotate_left
 ·
  rintro listed a V i o hlt hun hall ho ⟨bc, bx, bs, b7, b8, d7, d8, ba, vc, vx, vs, x7, x8, x9, rfl, rfl, hI⟩ K' hK'
  have hi : i = 0 ∨ i = 1 ∨ i = 2 ∨ i = 3 ∨ i = 4 ∨ i = 5 ∨ i = 6 ∨ i = 7 := by have hlt' : i < 8 := hlt; omega
  rcases hi with rfl | rfl | rfl | rfl | rfl | rfl | rfl | rfl
  · exact absurd hun (by simp)
  ·
   obtain rfl : bc = false := hun
   have ho' := Option.some.inj ho
   subst ho'
   go_simp
   refine (HCO.out V (HB2.out.trans (hI.b.mono HB2.out.size))).mono ?_
   rintro e w5 ⟨⟨dA', dc', tA', tc', sA', sc', zA', zc', cA', cc', wA', wc', rfl, R, hO⟩, hb⟩
   try simp only
   exact hK'.out _ _ (.inr (hI.b.trans (hb.mono hI.b.size))) ⟨true, bx, bs, b7, b8, d7, d8, ba, _, _, _, _, _, _, rfl, rfl, hI.callc hb ⟨dA', dc', tA', tc', sA', sc', zA', zc', cA', cc', wA', wc', R, rfl, hO⟩⟩
  · exact absurd hun (by simp)
  ·
   obtain rfl : bx = false := hun
   have ho' := Option.some.inj ho
   subst ho'
   go_simp
   refine (HCP.out V (HB2.out.trans (hI.b.mono HB2.out.size))).mono ?_
   rintro e w5 ⟨⟨A', c', rfl, hO⟩, hb⟩
   try simp only
   exact hK'.out _ _ (.inr (hI.b.trans (hb.mono hI.b.size))) ⟨bc, true, bs, b7, b8, d7, d8, ba, _, _, _, _, _, _, rfl, rfl, hI.callx hb hO⟩
  ·
   obtain rfl : b7 = false := hun
   have ho' := Option.some.inj ho
   subst ho'
   go_simp
   try simp only [put_laws]
   exact hK'.out _ _ (.inr (hI.b.alloc hI.b.size _)) ⟨bc, bx, bs, true, b8, d7, d8, ba, _, _, _, _, _, _, rfl, rfl, hI.alloc7 rfl⟩
  ·
   obtain rfl : b8 = false := hun
   have ho' := Option.some.inj ho
   subst ho'
   go_simp
   try simp only [put_laws]
   exact hK'.out _ _ (.inr (hI.b.alloc hI.b.size _)) ⟨bc, bx, bs, b7, true, d7, d8, ba, _, _, _, _, _, _, rfl, rfl, hI.alloc8 rfl⟩
  ·
   obtain rfl : d7 = false := hun
   have ho' := Option.some.inj ho
   subst ho'
   have hb7 : b7 = true := hall _ (Array.mem_of_getElem? (i := 0) rfl) rfl
   have hbc : bc = true := hall _ (Array.mem_of_getElem? (i := 1) rfl) rfl
   obtain ⟨g, cs, hg, rfl, hbk, hz, -⟩ := hI.h7 hb7
   obtain rfl := hz rfl
   obtain ⟨dA', dc', tA', tc', sA', sc', zA', zc', cA', cc', wA', wc', R, rfl, hO⟩ := hI.hc hbc
   have c0 := hbk.cell 0
   have c1 := hbk.cell 1
   have c2 := hbk.cell 2
   have c3 := hbk.cell 3
   have c4 := hbk.cell 4
   have c5 := hbk.cell 5
   have c6 := hbk.cell 6
   have c7 := hbk.cell 7
   have f0 := hbk.frz 0
   have f1 := hbk.frz 1
   have f2 := hbk.frz 2
   have f3 := hbk.frz 3
   have f4 := hbk.frz 4
   have f5 := hbk.frz 5
   have f6 := hbk.frz 6
   have f7 := hbk.frz 7
   have hgl := hbk.lt
   go_simp
   try simp only [put_laws]
   have hJ := hI.store7 hbc hb7 hg hbk (gset (gset (gset (gset (gset (gset (gset (gset (World.grownBy.refl _ _)))))))) ) ((((((((hbk.set_ 0 _).set_ 1 _).set_ 2 _).set_ 3 _).set_ 4 _).set_ 5 _).set_ 6 _).set_ 7 _) rfl
   exact hK'.out _ _ (.inr hJ.b) ⟨bc, bx, bs, b7, b8, true, d8, ba, _, _, _, _, _, _, rfl, rfl, hJ⟩
  ·
   obtain rfl : d8 = false := hun
   have ho' := Option.some.inj ho
   subst ho'
   have hb8 : b8 = true := hall _ (Array.mem_of_getElem? (i := 0) rfl) rfl
   have hbx : bx = true := hall _ (Array.mem_of_getElem? (i := 1) rfl) rfl
   obtain ⟨g, cs, hg, rfl, hbk, hz, -⟩ := hI.h8 hb8
   obtain rfl := hz rfl
   obtain ⟨A', c', rfl, hO⟩ := hI.hx hbx
   have c0 := hbk.cell 0
   have c1 := hbk.cell 1
   have c2 := hbk.cell 2
   have c3 := hbk.cell 3
   have f0 := hbk.frz 0
   have f1 := hbk.frz 1
   have f2 := hbk.frz 2
   have f3 := hbk.frz 3
   have hgl := hbk.lt
   go_simp
   try simp only [put_laws]
   have hJ := hI.store8 hbx hb8 hg hbk (gset (gset (gset (gset (World.grownBy.refl _ _))))) ((((hbk.set_ 0 _).set_ 1 _).set_ 2 _).set_ 3 _) rfl
   exact hK'.out _ _ (.inr hJ.b) ⟨bc, bx, bs, b7, b8, d7, true, ba, _, _, _, _, _, _, rfl, rfl, hJ⟩
 rintro listed a V hr ⟨bc, bx, bs, b7, b8, d7, d8, ba, vc, vx, vs, x7, x8, x9, rfl, rfl, hI⟩
 have hall : bc = true ∧ bx = true ∧ b7 = true ∧ b8 = true ∧ d7 = true ∧ d8 = true := by
  clear hI
  cases bc <;> cases bx <;> cases b7 <;> cases b8 <;> cases d7 <;> cases d8 <;> first | exact ⟨rfl, rfl, rfl, rfl, rfl, rfl⟩ | exact absurd hr (of_decide_eq_false (by kernel_rfl))
 obtain ⟨rfl, rfl, rfl, rfl, rfl, rfl⟩ := hall
 refine ⟨fun x e => (by cases e), ?_⟩
 obtain ⟨dA', dc', tA', tc', sA', sc', zA', zc', cA', cc', wA', wc', R, rfl, hO⟩ := hI.hc rfl
 obtain ⟨A', c', rfl, hX⟩ := hI.hx rfl
 obtain ⟨g7, cs7, hg7, rfl, hk7, -, e7⟩ := hI.h7 rfl
 obtain ⟨g8, cs8, hg8, rfl, hk8, -, e8⟩ := hI.h8 rfl
 cases e7 rfl
 cases e8 rfl
 obtain ⟨w3, rfl⟩ : ∃ w3, w3 = V := ⟨_, rfl⟩
 have HB3 := Lib.hid (HB2.out.trans (hI.b.mono HB2.out.size))
 have K3 := Lib.hid (K2.out.below' hI.b)
 have X3 := Lib.hid (X2.out.below' hI.b)
 have C3 := Lib.hid hk7
 have Y3 := Lib.hid hk8
 have O3 := Lib.hid hO
 have I3 := Lib.hid hX
 have HBV := Lib.hid hI.b
 have Z3 := Lib.hid (Z2.out.below' hI.b)
 have NE9 := Lib.hid (show P4 ≠ g8 from fun e => by have := X2.out.lt; omega)
 have HG9 := Lib.hid (show w.heap.size ≤ g8 from Nat.le_trans HB2.out.size hg8)
 have HS9 := Lib.hid HB2.out.size
 (try simp only [Exit.then])
 apply_assumption
 exact HTL.out w3 zA' cA' wA' dA' tA' sA' A' dc' tc' sc' zc' cc' wc' g7 g8 w2.heap.size c' R _ _ _ _ _ _ _ _ _ _ _ _ _ _ _ _ _ _ _ _ _ _ _ _ _ _ _ _ _ _ _ _ _ _ _ _ _ _ _ _ _ _ _ _ _ _ _ _ _ _ _ _ _ _ _ _ _ _ _ _ _ _ _ _ _ _ _ _ _ _ _ _ _ _ _ _ _ _ _ _ _ _ _ _ _ _ _ _ _ _ _ _ _ _ _ _ _ _ _ _ _ _ _ _ _ _ _ _ _ _ _ _ _ _ _ _ _ _ _ _ _ _ _ _ _ _ _ _ _ _ _ _ _ _ _ _ _ _ _ _ _ _ _ _ _ _ _ _ _ _ _ _ _ _ _ _ _ _ _ _ _ _ _ _ _ _ _ _ _ _ _ _ _ _ _ _ _ _ _ _ _ _ _ _ _ _ _ _ _ _ _ _ _ _ _ _ _ _ _ _ _ _ _ _ _ _ _ _ _ _ _ _ _ _ _ _ _ _ _ _ _ _ _ _ _ _ _ _ _ _ _ _ _ _ _ _ _ _ _ _ _ _ _ _ _ _ _ _ _ _ _ _ _ _ _ _ _ _ _ _ _ _ _ _ _ _ _ _ _ ⟨HB3.out, K3.out, X3.out, Z3.out, C3.out, Y3.out, O3.out, HS9.out, HG9.out, NE9.out⟩
end
end Go.Proofs.YtnbeembnnjdmdaaDoor
