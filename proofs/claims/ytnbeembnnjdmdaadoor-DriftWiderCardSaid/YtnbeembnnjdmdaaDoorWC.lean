/- DriftWider, walked from its 3rd statement on: the wind and the currents, widened in place. -/
import Derived.Test.YtnbeembnnjdmdaaDoorWB
namespace Go.Proofs.YtnbeembnnjdmdaaDoor
open Go.RowKit Go.Maps

section
variable {d : M.Dr} {zA cA wA dA tA sA xA hA zA' cA' wA' dA' tA' sA' nA : Option Addr} {cl : Nat → Nat} {B dc tc sc zc cc wc xc hn hc ta dc' tc' sc' zc' cc' wc' cq P3 P4 P5 P7 P8 bO nn nc : Nat} {lo hi ylo yhi D S : Int} {xL : List Int} {R : Nat → Value} {Xs : Nat → SgV} {w X : World}
set_option maxRecDepth 100000 in
set_option maxHeartbeats 12800000 in
theorem wider_loops {v0 v1 v2 v9 v10 v11 v12 v13 v14 v15 v16 v17 v18 v19 v20 v21 v22 v23 v24 v25 v26 v27 v28 v29 v30 v31 v32 v33 v34 v35 v36 v37 v38 v39 v40 v41 v42 v43 v44 v45 v46 v47 v48 v49 v50 v51 v52 v53 v54 v55 v56 v57 v58 v59 v60 v61 v62 v63 v64 v65 v66 v67 v68 v69 v70 v71 v72 v73 v74 v75 v76 v77 v78 v79 v80 v81 v82 v83 v84 v85 v86 v87 v88 v89 v90 v91 v92 v93 v94 v95 v96 v97 v98 v99 v100 v101 v102 v103 v104 v105 v106 v107 v108 v109 v110 v111 v112 v113 v114 v115 v116 v117 v118 v119 v120 v121 v122 v123 v124 v125 v126 v127 v128 v129 v130 v131 v132 v133 v134 v135 v136 v137 v138 v139 v140 v141 v142 v143 v144 v145 v146 v147 v148 v149 v150 v151 v152 v153 v154 v155 v156 v157 v158 v159 v160 v161 v162 v163 v164 v165 v166 v167 v168 v169 v170 v171 v172 v173 v174 v175 v176 v177 v178 v179 v180 v181 v182 v183 v184 v185 v186 v187 v188 v189 v190 v191 v192 v193 v194 v195 v196 v197 v198 v199 v200 v201 v202 v203 v204 v205 v206 v207 v208 v209 v210 v211 v212 v213 v214 v215 v216 v217 v218 v219 v220 v221 v222 v223 v224 v225 v226 v227 v228 v229 v230 v231 v232 v233 v234 v235 v236 v237 v238 v239 v240 v241 v242 v243 v244 v245 v246 v247 v248 v249 v250 v251 v252 v253 v254 v255 v256 v257 v258 v259 v260 v261 v262 v263 v264 v265 v266 v267 v268 v269 v270 v271 v272 v273 v274 : Value} (hd : d.Ok) (hcl : ∀ i, i < d.nz → cl i + 1 = d.s.nt) (hR : RdD w B dA tA sA zA cA wA d.s.nd d.s.nt d.s.nt d.s.nd d.nz (d.s.nt - 1) d.s.dep d.s.tide d.s.sw d.z cl d.cu d.wd) (hB : B ≤ w.heap.size) (hW : Ways w) (hF : Fre w) (hx3 : Rd1 w B xA xL.length (fun k => xL.getD k 0)) (hx4 : xL.length ≤ maxLen) (hRS : RdS w B hA hn Xs) (hhn : hn ≤ maxLen)
  (hXo : chkX d.s.nd d.s.nt (ta : Int) lo hi xL = true) (hSo : chkS d.s.nd d.s.nt (ta : Int) hn Xs = true) (hD : 0 ≤ D ∧ D ≤ 63) (hS : 0 ≤ S ∧ S ≤ 3) (hY1 : 0 ≤ ylo) (hY2 : yhi ≤ 8) (hcq : cq < d.s.nd) (h1 : ylo ≤ lo) (h2 : hi ≤ yhi)
  (hM : WdM d zA cA wA dA tA sA xA hA zA' cA' wA' dA' tA' sA' cl dc tc sc zc cc wc xc xL.length hn hc ta dc' tc' sc' zc' cc' wc' cq P3 P4 P5 P7 P8 bO lo hi ylo yhi D S R w (#[.int .i64 (ta : Int), .slice nA nn nc, .int .i64 lo, .int .i64 hi]) (d.cu) (d.wd) X) :
  Code.wp Tryd.prog (restAt Tryd.f3 3) (bodyPost Tryd.prog Tryd.f3 (WidR w)) { tmps := List.toArray (v0 :: v1 :: v2 :: .pointer (some ⟨P3, 0, none⟩) :: .pointer (some ⟨P4, 0, none⟩) :: .pointer (some ⟨P5, 0, none⟩) :: .bool false :: .pointer (some ⟨P7, 0, none⟩) :: .pointer (some ⟨P8, 0, none⟩) :: v9 :: v10 :: v11 :: v12 :: v13 :: v14 :: v15 :: v16 :: v17 :: v18 :: v19 :: v20 :: v21 :: v22 :: v23 :: v24 :: v25 :: v26 :: v27 :: v28 :: v29 :: v30 :: v31 :: v32 :: v33 :: v34 :: v35 :: v36 :: v37 :: v38 :: v39 :: v40 :: v41 :: v42 :: v43 :: v44 :: v45 :: v46 :: v47 :: v48 :: v49 :: v50 :: v51 :: v52 :: v53 :: v54 :: v55 :: v56 :: v57 :: v58 :: v59 :: v60 :: v61 :: v62 :: v63 :: v64 :: v65 :: v66 :: v67 :: v68 :: v69 :: v70 :: v71 :: v72 :: v73 :: v74 :: v75 :: v76 :: v77 :: v78 :: v79 :: v80 :: v81 :: v82 :: v83 :: v84 :: v85 :: v86 :: v87 :: v88 :: v89 :: v90 :: v91 :: v92 :: v93 :: v94 :: v95 :: v96 :: v97 :: v98 :: v99 :: v100 :: v101 :: v102 :: v103 :: v104 :: v105 :: v106 :: v107 :: v108 :: v109 :: v110 :: v111 :: v112 :: v113 :: v114 :: v115 :: v116 :: v117 :: v118 :: v119 :: v120 :: v121 :: v122 :: v123 :: v124 :: v125 :: v126 :: v127 :: v128 :: v129 :: v130 :: v131 :: v132 :: v133 :: v134 :: v135 :: v136 :: v137 :: v138 :: v139 :: v140 :: v141 :: v142 :: v143 :: v144 :: v145 :: v146 :: v147 :: v148 :: v149 :: v150 :: v151 :: v152 :: v153 :: v154 :: v155 :: v156 :: v157 :: v158 :: v159 :: v160 :: v161 :: v162 :: v163 :: v164 :: v165 :: v166 :: v167 :: v168 :: v169 :: v170 :: v171 :: v172 :: v173 :: v174 :: v175 :: v176 :: v177 :: v178 :: v179 :: v180 :: v181 :: v182 :: v183 :: v184 :: v185 :: v186 :: v187 :: v188 :: v189 :: v190 :: v191 :: v192 :: v193 :: v194 :: v195 :: v196 :: v197 :: v198 :: v199 :: v200 :: v201 :: v202 :: v203 :: v204 :: v205 :: v206 :: v207 :: v208 :: v209 :: v210 :: v211 :: v212 :: v213 :: v214 :: v215 :: v216 :: v217 :: v218 :: v219 :: v220 :: v221 :: v222 :: v223 :: v224 :: v225 :: v226 :: v227 :: v228 :: v229 :: v230 :: v231 :: v232 :: v233 :: v234 :: v235 :: v236 :: v237 :: v238 :: v239 :: v240 :: v241 :: v242 :: v243 :: v244 :: v245 :: v246 :: v247 :: v248 :: v249 :: v250 :: v251 :: v252 :: v253 :: v254 :: v255 :: v256 :: v257 :: v258 :: v259 :: v260 :: v261 :: v262 :: v263 :: v264 :: v265 :: v266 :: v267 :: v268 :: v269 :: v270 :: v271 :: v272 :: v273 :: v274 :: []), defers := [] } X := by
 have h60 := hd.s.t2
 have h1n := hd.s.t1
 have hnz := hd.z4
 have HPU := Lib.hid (show ∀ i, i < d.nz → ∀ t, t < d.s.nt - 1 → ∀ q, d.cu i t 0 = q → 1 ≤ q ∧ q ≤ 63 from fun i hi t ht q e => by have := (M.pushB_iff.1 (hd.cu i hi t (by omega))).1; omega)
 have HPW := Lib.hid (show ∀ t, t < d.s.nt - 1 → 1 ≤ d.wd t 0 ∧ d.wd t 0 ≤ 63 from fun t ht => (M.pushB_iff.1 (hd.wd t (by omega))).1)
 have HPB := Lib.hid (show ∀ t, t < d.s.nt - 1 → 0 ≤ d.wd t 2 ∧ d.wd t 2 ≤ 3 from fun t ht => by have := M.pushB_iff.1 (hd.wd t (by omega)); omega)
 have HPC := Lib.hid (show ∀ i, i < d.nz → ∀ t, t < d.s.nt - 1 → 0 ≤ d.cu i t 1 ∧ d.cu i t 1 ≤ 3 from fun i hi t ht => by have := M.pushB_iff.1 (hd.cu i hi t (by omega)); omega)
 have HBO := Lib.hid (fun (x : Int) (hx : 1 ≤ x ∧ x ≤ 63) => (show bits .or .i64 x D = M.orI x D from bits_orI (by omega) hD))
 have HCL := Lib.hid (show ∀ i, i < d.nz → cl i = d.s.nt - 1 from fun i hi => by have := hcl i hi; omega)
 have HDB := Lib.hid (And.intro hD hS)
 have HNZ := Lib.hid (show 0 < d.nz by have := hd.z1; omega)
 have HNZ4 := Lib.hid (show d.nz ≤ 4 from hd.z4)
 obtain ⟨nw, hnw⟩ : ∃ n, n = d.s.nt - 1 := ⟨_, rfl⟩
 have HNW := Lib.hid hnw
 have hnw60 : nw ≤ 60 := by omega
 have HTL := Lib.hid (fun (V : World) (v0 v1 v2 v9 v10 v11 v12 v13 v14 v15 v16 v17 v18 v19 v20 v21 v22 v23 v24 v25 v26 v27 v28 v29 v30 v31 v32 v33 v34 v35 v36 v37 v38 v39 v40 v41 v42 v43 v44 v45 v46 v47 v48 v49 v50 v51 v52 v53 v54 v55 v56 v57 v58 v59 v60 v61 v62 v63 v64 v65 v66 v67 v68 v69 v70 v71 v72 v73 v74 v75 v76 v77 v78 v79 v80 v81 v82 v83 v84 v85 v86 v87 v88 v89 v90 v91 v92 v93 v94 v95 v96 v97 v98 v99 v100 v101 v102 v103 v104 v105 v106 v107 v108 v109 v110 v111 v112 v113 v114 v115 v116 v117 v118 v119 v120 v121 v122 v123 v124 v125 v126 v127 v128 v129 v130 v131 v132 v133 v134 v135 v136 v137 v138 v139 v140 v141 v142 v143 v144 v145 v146 v147 v148 v149 v150 v151 v152 v153 v154 v155 v156 v157 v158 v159 v160 v161 v162 v163 v164 v165 v166 v167 v168 v169 v170 v171 v172 v173 v174 v175 v176 v177 v178 v179 v180 v181 v182 v183 v184 v185 v186 v187 v188 v189 v190 v191 v192 v193 v194 v195 v196 v197 v198 v199 v200 v201 v202 v203 v204 v205 v206 v207 v208 v209 v210 v211 v212 v213 v214 v215 v216 v217 v218 v219 v220 v221 v222 v223 v224 v225 v226 v227 v228 v229 v230 v231 v232 v233 v234 v235 v236 v237 v238 v239 v240 v241 v242 v243 v244 v245 v246 v247 v248 v249 v250 v251 v252 v253 v254 v255 v256 v257 v258 v259 v260 v261 v262 v263 v264 v265 v266 v267 v268 v269 v270 v271 v272 v273 v274 : Value) (hv : WdM d zA cA wA dA tA sA xA hA zA' cA' wA' dA' tA' sA' cl dc tc sc zc cc wc xc xL.length hn hc ta dc' tc' sc' zc' cc' wc' cq P3 P4 P5 P7 P8 bO lo hi ylo yhi D S R w (#[.int .i64 (ta : Int), .slice nA nn nc, .int .i64 lo, .int .i64 hi]) ((d.wide D S).cu) ((d.wide D S).wd) V) => @wider_mid d zA cA wA dA tA sA xA hA zA' cA' wA' dA' tA' sA' nA cl B dc tc sc zc cc wc xc hn hc ta dc' tc' sc' zc' cc' wc' cq P3 P4 P5 P7 P8 bO nn nc lo hi ylo yhi D S xL R Xs w V v0 v1 v2 v9 v10 v11 v12 v13 v14 v15 v16 v17 v18 v19 v20 v21 v22 v23 v24 v25 v26 v27 v28 v29 v30 v31 v32 v33 v34 v35 v36 v37 v38 v39 v40 v41 v42 v43 v44 v45 v46 v47 v48 v49 v50 v51 v52 v53 v54 v55 v56 v57 v58 v59 v60 v61 v62 v63 v64 v65 v66 v67 v68 v69 v70 v71 v72 v73 v74 v75 v76 v77 v78 v79 v80 v81 v82 v83 v84 v85 v86 v87 v88 v89 v90 v91 v92 v93 v94 v95 v96 v97 v98 v99 v100 v101 v102 v103 v104 v105 v106 v107 v108 v109 v110 v111 v112 v113 v114 v115 v116 v117 v118 v119 v120 v121 v122 v123 v124 v125 v126 v127 v128 v129 v130 v131 v132 v133 v134 v135 v136 v137 v138 v139 v140 v141 v142 v143 v144 v145 v146 v147 v148 v149 v150 v151 v152 v153 v154 v155 v156 v157 v158 v159 v160 v161 v162 v163 v164 v165 v166 v167 v168 v169 v170 v171 v172 v173 v174 v175 v176 v177 v178 v179 v180 v181 v182 v183 v184 v185 v186 v187 v188 v189 v190 v191 v192 v193 v194 v195 v196 v197 v198 v199 v200 v201 v202 v203 v204 v205 v206 v207 v208 v209 v210 v211 v212 v213 v214 v215 v216 v217 v218 v219 v220 v221 v222 v223 v224 v225 v226 v227 v228 v229 v230 v231 v232 v233 v234 v235 v236 v237 v238 v239 v240 v241 v242 v243 v244 v245 v246 v247 v248 v249 v250 v251 v252 v253 v254 v255 v256 v257 v258 v259 v260 v261 v262 v263 v264 v265 v266 v267 v268 v269 v270 v271 v272 v273 v274 hd hcl hR hB hW hF hx3 hx4 hRS hhn hXo hSo hD hS hY1 hY2 hcq h1 h2 hv)
 have M0 := Lib.hid hM
 clear hd hcl hR hB hW hF hx3 hRS hXo hSo hD hS hM hY1 hY2 h1 h2 hcq
 conv in restAt _ _ => whnf
 go_wp2_with fail
 go_loopw [9] (fun i wr => ∃ k : Nat, k ≤ nw ∧ i = .int .i64 (k : Int) ∧ Hid (WdM d zA cA wA dA tA sA xA hA zA' cA' wA' dA' tA' sA' cl dc tc sc zc cc wc xc xL.length hn hc ta dc' tc' sc' zc' cc' wc' cq P3 P4 P5 P7 P8 bO lo hi ylo yhi D S R w (#[.int .i64 (ta : Int), .slice nA nn nc, .int .i64 lo, .int .i64 hi]) ((cT d.cu D S k 0)) ((wT d.wd D S k)) wr)) (fun i _ => nw - (intOf i).toNat)
 case atStart => exact ⟨0, Nat.zero_le _, rfl, Lib.hid (by rw [wT_zero, cT_zero]; exact M0.out)⟩
 case round =>
  obtain ⟨k, hk, rfl, HI⟩ := hrel
  clear M0
  have c7 := HI.out.c.cell 7
  rw [← HNW.out] at c7
  by_cases hlt : k < nw
  ·
   have g2 : decide (k < nw) = true := decide_eq_true hlt
   have hln : 0 < d.s.nt - 1 := by have := HNW.out; omega
   have hkn : k < d.s.nt - 1 := by have := HNW.out; omega
   obtain ⟨gw, hgw, hgw1, hgw2⟩ := HI.out.o.windb hln
   subst hgw
   clear hgw1 hgw2
   obtain ⟨gc, hgc⟩ : ∃ gc, cA' = some ⟨gc, 0, none⟩ := by obtain ⟨g, c, e⟩ := Own.nz HI.out.o.c (show 0 < d.nz from HNZ.out); cases e; exact ⟨g, rfl⟩
   subst hgc
   have w0c := Own.cell HI.out.o.w hkn (show 0 < 3 by omega)
   simp only [ints2, wT_at, Nat.add_zero] at w0c
   have wfz := Own.frz HI.out.o.w (k * 3)
   have z1 := HI.out.z.cell 1
   have hor := HBO.out _ (HPW.out k hkn)
   have hgl := (Own.block (g := gw) HI.out.o.w rfl).2
   obtain ⟨x0, hx0⟩ : ∃ x, x = d.wd k 0 := ⟨_, rfl⟩
   rw [← hx0] at w0c hor
   obtain ⟨u0, hu0⟩ : ∃ x, x = M.orI x0 D := ⟨_, rfl⟩
   rw [← hu0] at hor
   have HU0 := Lib.hid (show u0 = M.orI (d.wd k 0) D from hu0.trans (by rw [hx0]))
   clear hx0 hu0
   go_upto_region 7 with fail
   go_still_tail 14, (by kernel_rfl)
   change wpList _ _ _ _ _ wr.drew
   go_upto_region 8 with fail
   have M1 := Lib.hid (show WdM d zA cA wA dA tA sA xA hA zA' (some ⟨gc, 0, none⟩) (some ⟨gw, 0, none⟩) dA' tA' sA' cl dc tc sc zc cc wc xc xL.length hn hc ta dc' tc' sc' zc' cc' wc' cq P3 P4 P5 P7 P8 bO lo hi ylo yhi D S R w (#[.int .i64 (ta : Int), .slice nA nn nc, .int .i64 lo, .int .i64 hi]) ((cT d.cu D S k 0)) (setI (wT d.wd D S k) k 0 u0) (wr.setCell ⟨gw, k * 3, none⟩ (.int .i64 (u0))).drew from (HI.out.setw k (j := 0) (by omega) u0).below (Below.refl _ _).drew)
   generalize (wr.setCell ⟨gw, k * 3, none⟩ (.int .i64 (u0))).drew = w1 at M1 ⊢
   clear HI w0c wfz z1 hor hgl c7
   have c7 := M1.out.c.cell 7
   rw [← HNW.out] at c7
   have c7 : w1.cell? ⟨P7, 7, none⟩ = some (.slice (some ⟨gw, 0, none⟩) nw wc') := c7
   have w2c := Own.cell M1.out.o.w hkn (show 2 < 3 by omega)
   simp only [ints2, setI, wT_at] at w2c
   simp only [show ¬ (2 = 0) by omega, and_false, if_false] at w2c
   have wfz := Own.frz M1.out.o.w (k * 3 + 2)
   have z2 := M1.out.z.cell 2
   have hgl := (Own.block (g := gw) M1.out.o.w rfl).2
   obtain ⟨x2, hx2⟩ : ∃ x, x = d.wd k 2 := ⟨_, rfl⟩
   rw [← hx2] at w2c
   have HX2 := Lib.hid hx2
   clear hx2
   have hdr : Below w1.heap.size w1 w1.drew := (Below.refl _ _).drew
   have MD := Lib.hid (M1.out.below hdr)
   refine wp_nopanic ?_
   refine wp_region_T 16 (fun Z2 => Z2.cell? ⟨P7, 7, none⟩ = some (.slice (some ⟨gw, 0, none⟩) nw wc') ∧ Z2.cell? ⟨gw, k * 3 + 2, none⟩ = some (.int .i64 x2) ∧ Z2.cell? ⟨P5, 2, none⟩ = some (.int .i64 S)) (by kernel_rfl) ⟨c7, w2c, z2⟩ ?_
   intro hS
   refine wpAnyT_take (i := 0) (v := ?_) rfl (by kernel_rfl) (by kernel_rfl) (by kernel_rfl) (by kernel_rfl) (by kernel_rfl) (fun _ _ _ h => absurd rfl (h.1 _)) (.inl ⟨by kernel_rfl, ?_⟩) hS ?_
   rotate_left
   · (intro w' hw; obtain ⟨h1, h2, h3⟩ := hw; go_simp; try with_reducible rfl)
   try simp only [put_laws]
   refine wpAnyT_take (i := 1) (v := ?_) rfl (by kernel_rfl) (by kernel_rfl) (by kernel_rfl) (by kernel_rfl) (by kernel_rfl) (fun _ _ _ h => absurd rfl (h.1 _)) (.inl ⟨by kernel_rfl, ?_⟩) hS ?_
   rotate_left
   · (intro w' hw; obtain ⟨h1, h2, h3⟩ := hw; go_simp; try with_reducible rfl)
   try simp only [put_laws]
   refine wpAnyT_take (i := 2) (v := ?_) rfl (by kernel_rfl) (by kernel_rfl) (by kernel_rfl) (by kernel_rfl) (by kernel_rfl) (fun _ _ _ h => absurd rfl (h.1 _)) (.inl ⟨by kernel_rfl, ?_⟩) hS ?_
   rotate_left
   · (intro w' hw; obtain ⟨h1, h2, h3⟩ := hw; go_simp; try with_reducible rfl)
   try simp only [put_laws]
   refine wpAnyT_take (i := 3) (v := ?_) rfl (by kernel_rfl) (by kernel_rfl) (by kernel_rfl) (by kernel_rfl) (by kernel_rfl) (fun _ _ _ h => absurd rfl (h.1 _)) (.inl ⟨by kernel_rfl, ?_⟩) hS ?_
   rotate_left
   · (intro w' hw; obtain ⟨h1, h2, h3⟩ := hw; go_simp; try with_reducible rfl)
   try simp only [put_laws]
   refine wpAnyT_take (i := 4) (v := ?_) rfl (by kernel_rfl) (by kernel_rfl) (by kernel_rfl) (by kernel_rfl) (by kernel_rfl) (fun _ _ _ h => absurd rfl (h.1 _)) (.inl ⟨by kernel_rfl, ?_⟩) hS ?_
   rotate_left
   · (intro w' hw; obtain ⟨h1, h2, h3⟩ := hw; go_simp; try with_reducible rfl)
   try simp only [put_laws]
   refine wpAnyT_take (i := 5) (v := ?_) rfl (by kernel_rfl) (by kernel_rfl) (by kernel_rfl) (by kernel_rfl) (by kernel_rfl) (fun _ _ _ h => absurd rfl (h.1 _)) (.inl ⟨by kernel_rfl, ?_⟩) hS ?_
   rotate_left
   · (intro w' hw; obtain ⟨h1, h2, h3⟩ := hw; go_simp; try with_reducible rfl)
   try simp only [put_laws]
   refine wpAnyT_take (i := 6) (v := ?_) rfl (by kernel_rfl) (by kernel_rfl) (by kernel_rfl) (by kernel_rfl) (by kernel_rfl) (fun _ _ _ h => absurd rfl (h.1 _)) (.inl ⟨by kernel_rfl, ?_⟩) hS ?_
   rotate_left
   · (intro w' hw; obtain ⟨h1, h2, h3⟩ := hw; go_simp; try with_reducible rfl)
   try simp only [put_laws]
   refine wpAnyT_take (i := 7) (v := ?_) rfl (by kernel_rfl) (by kernel_rfl) (by kernel_rfl) (by kernel_rfl) (by kernel_rfl) (fun _ _ _ h => absurd rfl (h.1 _)) (.inl ⟨by kernel_rfl, ?_⟩) hS ?_
   rotate_left
   · (intro w' hw; obtain ⟨h1, h2, h3⟩ := hw; go_simp; try with_reducible rfl)
   try simp only [put_laws]
   refine wpAnyT_take (i := 8) (v := ?_) rfl (by kernel_rfl) (by kernel_rfl) (by kernel_rfl) (by kernel_rfl) (by kernel_rfl) (fun _ _ _ h => absurd rfl (h.1 _)) (.inl ⟨by kernel_rfl, ?_⟩) hS ?_
   rotate_left
   · (intro w' hw; obtain ⟨h1, h2, h3⟩ := hw; go_simp; try with_reducible rfl)
   try simp only [put_laws]
   refine wpAnyT_take (i := 9) (v := ?_) rfl (by kernel_rfl) (by kernel_rfl) (by kernel_rfl) (by kernel_rfl) (by kernel_rfl) (fun _ _ _ h => absurd rfl (h.1 _)) (.inl ⟨by kernel_rfl, ?_⟩) hS ?_
   rotate_left
   · (intro w' hw; obtain ⟨h1, h2, h3⟩ := hw; go_simp; try with_reducible rfl)
   try simp only [put_laws]
   refine wpAnyT_take (i := 10) (v := ?_) rfl (by kernel_rfl) (by kernel_rfl) (by kernel_rfl) (by kernel_rfl) (by kernel_rfl) (fun _ _ _ h => absurd rfl (h.1 _)) (.inl ⟨by kernel_rfl, ?_⟩) hS ?_
   rotate_left
   · (intro w' hw; obtain ⟨h1, h2, h3⟩ := hw; go_simp; try with_reducible rfl)
   try simp only [put_laws]
   refine wpAnyT_take (i := 11) (v := ?_) rfl (by kernel_rfl) (by kernel_rfl) (by kernel_rfl) (by kernel_rfl) (by kernel_rfl) (fun _ _ _ h => absurd rfl (h.1 _)) (.inl ⟨by kernel_rfl, ?_⟩) hS ?_
   rotate_left
   · (intro w' hw; obtain ⟨h1, h2, h3⟩ := hw; go_simp; try with_reducible rfl)
   try simp only [put_laws]
   refine wpAnyT_take (i := 12) (v := ?_) rfl (by kernel_rfl) (by kernel_rfl) (by kernel_rfl) (by kernel_rfl) (by kernel_rfl) (fun _ _ _ h => absurd rfl (h.1 _)) (.inl ⟨by kernel_rfl, ?_⟩) hS ?_
   rotate_left
   · (intro w' hw; obtain ⟨h1, h2, h3⟩ := hw; go_simp; try with_reducible rfl)
   try simp only [put_laws]
   refine wpAnyT_take (i := 13) (v := ?_) rfl (by kernel_rfl) (by kernel_rfl) (by kernel_rfl) (by kernel_rfl) (by kernel_rfl) (fun _ _ _ h => absurd rfl (h.1 _)) (.inl ⟨by kernel_rfl, ?_⟩) hS ?_
   rotate_left
   · (intro w' hw; obtain ⟨h1, h2, h3⟩ := hw; go_simp; try with_reducible rfl)
   try simp only [put_laws]
   refine wpAnyT_take (i := 14) (v := ?_) rfl (by kernel_rfl) (by kernel_rfl) (by kernel_rfl) (by kernel_rfl) (by kernel_rfl) (fun _ _ _ h => absurd rfl (h.1 _)) (.inl ⟨by kernel_rfl, ?_⟩) hS ?_
   rotate_left
   · (intro w' hw; obtain ⟨h1, h2, h3⟩ := hw; go_simp; try with_reducible rfl)
   try simp only [put_laws]
   refine wpAnyT_take (i := 15) (v := ?_) rfl (by kernel_rfl) (by kernel_rfl) (by kernel_rfl) (by kernel_rfl) (by kernel_rfl) (fun _ _ _ h => absurd rfl (h.1 _)) (.inl ⟨by kernel_rfl, ?_⟩) hS ?_
   rotate_left
   · (intro w' hw; obtain ⟨h1, h2, h3⟩ := hw; go_simp; try with_reducible rfl)
   try simp only [put_laws]
   have dfz := Own.frz MD.out.o.w (k * 3 + 2)
   have dgl := (Own.block (g := gw) MD.out.o.w rfl).2
   have dw2 := hS.2.1
   refine wpAnyT_one (i := 16) (by kernel_rfl) rfl ?_
   intro K' hK'
   go_simp
   refine hK'.out _ _ (.inl rfl) ?_
   clear hK' K'
   try simp only [put_laws]
   refine wpAnyT_done (by kernel_rfl) ?_ _
   refine ⟨fun x e => (by cases e), ?_⟩
   clear MD hdr hS
   clear dfz dgl dw2
   go_upto_region 9 with fail
   have M2 := Lib.hid (show WdM d zA cA wA dA tA sA xA hA zA' (some ⟨gc, 0, none⟩) (some ⟨gw, 0, none⟩) dA' tA' sA' cl dc tc sc zc cc wc xc xL.length hn hc ta dc' tc' sc' zc' cc' wc' cq P3 P4 P5 P7 P8 bO lo hi ylo yhi D S R w (#[.int .i64 (ta : Int), .slice nA nn nc, .int .i64 lo, .int .i64 hi]) ((cT d.cu D S k 0)) ((wT d.wd D S (k + 1))) (w1.setCell ⟨gw, k * 3 + 1 + 1, none⟩ (.int .i64 (max x2 S))).drew from by
    have h := M1.out.setw k (j := 2) (by omega) (max x2 S)
    rw [HX2.out, HU0.out, wT_next] at h
    rw [HX2.out]
    exact h.below (Below.refl _ _).drew)
   generalize (w1.setCell ⟨gw, k * 3 + 1 + 1, none⟩ (.int .i64 (max x2 S))).drew = w2 at M2 ⊢
   clear M1 w2c wfz z2 hgl c7 HX2 HU0
   go_wp2_with fail
   go_loopw [10] (fun i wr => ∃ j : Nat, j ≤ d.nz ∧ i = .int .i64 (j : Int) ∧ Hid (WdM d zA cA wA dA tA sA xA hA zA' (some ⟨gc, 0, none⟩) (some ⟨gw, 0, none⟩) dA' tA' sA' cl dc tc sc zc cc wc xc xL.length hn hc ta dc' tc' sc' zc' cc' wc' cq P3 P4 P5 P7 P8 bO lo hi ylo yhi D S R w (#[.int .i64 (ta : Int), .slice nA nn nc, .int .i64 lo, .int .i64 hi]) ((cT d.cu D S k j)) ((wT d.wd D S (k + 1))) wr)) (fun i _ => d.nz - (intOf i).toNat)
   case atStart => exact ⟨0, Nat.zero_le _, rfl, M2⟩
   case round =>
    obtain ⟨j, hj, rfl, HJ⟩ := hrel
    clear M2
    have c6 := HJ.out.c.cell 6
    by_cases hjl : j < d.nz
    ·
     have g3 : decide (j < d.nz) = true := decide_eq_true hjl
     have hcl1 := HCL.out j hjl
     obtain ⟨gj, cj, hRj, hj1, hj2⟩ := HJ.out.o.curb hjl (by omega)
     clear hj1
     have HRJ := Lib.hid hRj
     have r0 := Own.cell1 HJ.out.o.c hjl
     simp only [hRj] at r0
     rw [hcl1, ← HNW.out] at r0
     have ho := HJ.out.o.r j hjl
     rw [hRj] at ho
     have e0 := Own.cell ho (show k < cl j by omega) (show 0 < 3 by omega)
     simp only [ints2, cT_at, Nat.add_zero] at e0
     have efz := Own.frz ho (k * 3)
     have z1 := HJ.out.z.cell 1
     have hor := HBO.out _ (HPU.out j hjl k hkn _ rfl)
     obtain ⟨x0, hx0⟩ : ∃ x, x = d.cu j k 0 := ⟨_, rfl⟩
     rw [← hx0] at e0 hor
     obtain ⟨u1, hu1⟩ : ∃ x, x = M.orI x0 D := ⟨_, rfl⟩
     rw [← hu1] at hor
     have HU1 := Lib.hid (show u1 = M.orI (d.cu j k 0) D from hu1.trans (by rw [hx0]))
     have HC1 := Lib.hid hcl1
     have hjn : j ≤ 4 := by have := HNZ4.out; omega
     clear hx0 hu1 ho hRj hcl1
     go_upto_region 12 with fail
     go_still_tail 20, (by kernel_rfl)
     change wpList _ _ _ _ _ wr.drew
     go_upto_region 13 with fail
     have M3 := Lib.hid (show WdM d zA cA wA dA tA sA xA hA zA' (some ⟨gc, 0, none⟩) (some ⟨gw, 0, none⟩) dA' tA' sA' cl dc tc sc zc cc wc xc xL.length hn hc ta dc' tc' sc' zc' cc' wc' cq P3 P4 P5 P7 P8 bO lo hi ylo yhi D S R w (#[.int .i64 (ta : Int), .slice nA nn nc, .int .i64 lo, .int .i64 hi]) (fun i => if i = j then setI ((cT d.cu D S k j) i) k 0 u1 else (cT d.cu D S k j) i) ((wT d.wd D S (k + 1))) (wr.setCell ⟨gj, k * 3, none⟩ (.int .i64 (u1))).drew from (HJ.out.setc hjl HRJ.out k (j := 0) (by omega) u1).below (Below.refl _ _).drew)
     generalize (wr.setCell ⟨gj, k * 3, none⟩ (.int .i64 (u1))).drew = w3 at M3 ⊢
     clear HJ c6 r0 e0 efz z1 hor hj2
     have c6 : w3.cell? ⟨P7, 6, none⟩ = some (.slice (some ⟨gc, 0, none⟩) d.nz cc') := M3.out.c.cell 6
     have r0 := Own.cell1 M3.out.o.c hjl
     simp only [HRJ.out] at r0
     rw [HC1.out, ← HNW.out] at r0
     have ho := M3.out.o.r j hjl
     rw [HRJ.out] at ho
     have hj2 := (Own.block (g := gj) ho rfl).2
     have e1 := Own.cell ho (show k < cl j by have := HC1.out; omega) (show 1 < 3 by omega)
     simp only [ints2, if_true, setI, cT_at] at e1
     simp only [show ¬ (1 = 0) by omega, and_false, if_false] at e1
     have efz := Own.frz ho (k * 3 + 1)
     have z2 := M3.out.z.cell 2
     clear ho
     obtain ⟨x1, hx1⟩ : ∃ x, x = d.cu j k 1 := ⟨_, rfl⟩
     rw [← hx1] at e1
     have HX1 := Lib.hid hx1
     clear hx1
     have hdr : Below w3.heap.size w3 w3.drew := (Below.refl _ _).drew
     have MD := Lib.hid (M3.out.below hdr)
     refine wp_nopanic ?_
     refine wp_region_T 22 (fun Z2 => Z2.cell? ⟨P7, 6, none⟩ = some (.slice (some ⟨gc, 0, none⟩) d.nz cc') ∧ Z2.cell? ⟨gc, j, none⟩ = some (.slice (some ⟨gj, 0, none⟩) nw cj) ∧ Z2.cell? ⟨gj, k * 3 + 1, none⟩ = some (.int .i64 x1) ∧ Z2.cell? ⟨P5, 2, none⟩ = some (.int .i64 S)) (by kernel_rfl) ⟨c6, r0, e1, z2⟩ ?_
     intro hS
     refine wpAnyT_take (i := 0) (v := ?_) rfl (by kernel_rfl) (by kernel_rfl) (by kernel_rfl) (by kernel_rfl) (by kernel_rfl) (fun _ _ _ h => absurd rfl (h.1 _)) (.inl ⟨by kernel_rfl, ?_⟩) hS ?_
     rotate_left
     · (intro w' hw; obtain ⟨h1, h2, h3, h4⟩ := hw; go_simp; try with_reducible rfl)
     try simp only [put_laws]
     refine wpAnyT_take (i := 1) (v := ?_) rfl (by kernel_rfl) (by kernel_rfl) (by kernel_rfl) (by kernel_rfl) (by kernel_rfl) (fun _ _ _ h => absurd rfl (h.1 _)) (.inl ⟨by kernel_rfl, ?_⟩) hS ?_
     rotate_left
     · (intro w' hw; obtain ⟨h1, h2, h3, h4⟩ := hw; go_simp; try with_reducible rfl)
     try simp only [put_laws]
     refine wpAnyT_take (i := 2) (v := ?_) rfl (by kernel_rfl) (by kernel_rfl) (by kernel_rfl) (by kernel_rfl) (by kernel_rfl) (fun _ _ _ h => absurd rfl (h.1 _)) (.inl ⟨by kernel_rfl, ?_⟩) hS ?_
     rotate_left
     · (intro w' hw; obtain ⟨h1, h2, h3, h4⟩ := hw; go_simp; try with_reducible rfl)
     try simp only [put_laws]
     refine wpAnyT_take (i := 3) (v := ?_) rfl (by kernel_rfl) (by kernel_rfl) (by kernel_rfl) (by kernel_rfl) (by kernel_rfl) (fun _ _ _ h => absurd rfl (h.1 _)) (.inl ⟨by kernel_rfl, ?_⟩) hS ?_
     rotate_left
     · (intro w' hw; obtain ⟨h1, h2, h3, h4⟩ := hw; go_simp; try with_reducible rfl)
     try simp only [put_laws]
     refine wpAnyT_take (i := 4) (v := ?_) rfl (by kernel_rfl) (by kernel_rfl) (by kernel_rfl) (by kernel_rfl) (by kernel_rfl) (fun _ _ _ h => absurd rfl (h.1 _)) (.inl ⟨by kernel_rfl, ?_⟩) hS ?_
     rotate_left
     · (intro w' hw; obtain ⟨h1, h2, h3, h4⟩ := hw; go_simp; try with_reducible rfl)
     try simp only [put_laws]
     refine wpAnyT_take (i := 5) (v := ?_) rfl (by kernel_rfl) (by kernel_rfl) (by kernel_rfl) (by kernel_rfl) (by kernel_rfl) (fun _ _ _ h => absurd rfl (h.1 _)) (.inl ⟨by kernel_rfl, ?_⟩) hS ?_
     rotate_left
     · (intro w' hw; obtain ⟨h1, h2, h3, h4⟩ := hw; go_simp; try with_reducible rfl)
     try simp only [put_laws]
     refine wpAnyT_take (i := 6) (v := ?_) rfl (by kernel_rfl) (by kernel_rfl) (by kernel_rfl) (by kernel_rfl) (by kernel_rfl) (fun _ _ _ h => absurd rfl (h.1 _)) (.inl ⟨by kernel_rfl, ?_⟩) hS ?_
     rotate_left
     · (intro w' hw; obtain ⟨h1, h2, h3, h4⟩ := hw; go_simp; try with_reducible rfl)
     try simp only [put_laws]
     refine wpAnyT_take (i := 7) (v := ?_) rfl (by kernel_rfl) (by kernel_rfl) (by kernel_rfl) (by kernel_rfl) (by kernel_rfl) (fun _ _ _ h => absurd rfl (h.1 _)) (.inl ⟨by kernel_rfl, ?_⟩) hS ?_
     rotate_left
     · (intro w' hw; obtain ⟨h1, h2, h3, h4⟩ := hw; go_simp; try with_reducible rfl)
     try simp only [put_laws]
     refine wpAnyT_take (i := 8) (v := ?_) rfl (by kernel_rfl) (by kernel_rfl) (by kernel_rfl) (by kernel_rfl) (by kernel_rfl) (fun _ _ _ h => absurd rfl (h.1 _)) (.inl ⟨by kernel_rfl, ?_⟩) hS ?_
     rotate_left
     · (intro w' hw; obtain ⟨h1, h2, h3, h4⟩ := hw; go_simp; try with_reducible rfl)
     try simp only [put_laws]
     refine wpAnyT_take (i := 9) (v := ?_) rfl (by kernel_rfl) (by kernel_rfl) (by kernel_rfl) (by kernel_rfl) (by kernel_rfl) (fun _ _ _ h => absurd rfl (h.1 _)) (.inl ⟨by kernel_rfl, ?_⟩) hS ?_
     rotate_left
     · (intro w' hw; obtain ⟨h1, h2, h3, h4⟩ := hw; go_simp; try with_reducible rfl)
     try simp only [put_laws]
     refine wpAnyT_take (i := 10) (v := ?_) rfl (by kernel_rfl) (by kernel_rfl) (by kernel_rfl) (by kernel_rfl) (by kernel_rfl) (fun _ _ _ h => absurd rfl (h.1 _)) (.inl ⟨by kernel_rfl, ?_⟩) hS ?_
     rotate_left
     · (intro w' hw; obtain ⟨h1, h2, h3, h4⟩ := hw; go_simp; try with_reducible rfl)
     try simp only [put_laws]
     refine wpAnyT_take (i := 11) (v := ?_) rfl (by kernel_rfl) (by kernel_rfl) (by kernel_rfl) (by kernel_rfl) (by kernel_rfl) (fun _ _ _ h => absurd rfl (h.1 _)) (.inl ⟨by kernel_rfl, ?_⟩) hS ?_
     rotate_left
     · (intro w' hw; obtain ⟨h1, h2, h3, h4⟩ := hw; go_simp; try with_reducible rfl)
     try simp only [put_laws]
     refine wpAnyT_take (i := 12) (v := ?_) rfl (by kernel_rfl) (by kernel_rfl) (by kernel_rfl) (by kernel_rfl) (by kernel_rfl) (fun _ _ _ h => absurd rfl (h.1 _)) (.inl ⟨by kernel_rfl, ?_⟩) hS ?_
     rotate_left
     · (intro w' hw; obtain ⟨h1, h2, h3, h4⟩ := hw; go_simp; try with_reducible rfl)
     try simp only [put_laws]
     refine wpAnyT_take (i := 13) (v := ?_) rfl (by kernel_rfl) (by kernel_rfl) (by kernel_rfl) (by kernel_rfl) (by kernel_rfl) (fun _ _ _ h => absurd rfl (h.1 _)) (.inl ⟨by kernel_rfl, ?_⟩) hS ?_
     rotate_left
     · (intro w' hw; obtain ⟨h1, h2, h3, h4⟩ := hw; go_simp; try with_reducible rfl)
     try simp only [put_laws]
     refine wpAnyT_take (i := 14) (v := ?_) rfl (by kernel_rfl) (by kernel_rfl) (by kernel_rfl) (by kernel_rfl) (by kernel_rfl) (fun _ _ _ h => absurd rfl (h.1 _)) (.inl ⟨by kernel_rfl, ?_⟩) hS ?_
     rotate_left
     · (intro w' hw; obtain ⟨h1, h2, h3, h4⟩ := hw; go_simp; try with_reducible rfl)
     try simp only [put_laws]
     refine wpAnyT_take (i := 15) (v := ?_) rfl (by kernel_rfl) (by kernel_rfl) (by kernel_rfl) (by kernel_rfl) (by kernel_rfl) (fun _ _ _ h => absurd rfl (h.1 _)) (.inl ⟨by kernel_rfl, ?_⟩) hS ?_
     rotate_left
     · (intro w' hw; obtain ⟨h1, h2, h3, h4⟩ := hw; go_simp; try with_reducible rfl)
     try simp only [put_laws]
     refine wpAnyT_take (i := 16) (v := ?_) rfl (by kernel_rfl) (by kernel_rfl) (by kernel_rfl) (by kernel_rfl) (by kernel_rfl) (fun _ _ _ h => absurd rfl (h.1 _)) (.inl ⟨by kernel_rfl, ?_⟩) hS ?_
     rotate_left
     · (intro w' hw; obtain ⟨h1, h2, h3, h4⟩ := hw; go_simp; try with_reducible rfl)
     try simp only [put_laws]
     refine wpAnyT_take (i := 17) (v := ?_) rfl (by kernel_rfl) (by kernel_rfl) (by kernel_rfl) (by kernel_rfl) (by kernel_rfl) (fun _ _ _ h => absurd rfl (h.1 _)) (.inl ⟨by kernel_rfl, ?_⟩) hS ?_
     rotate_left
     · (intro w' hw; obtain ⟨h1, h2, h3, h4⟩ := hw; go_simp; try with_reducible rfl)
     try simp only [put_laws]
     refine wpAnyT_take (i := 18) (v := ?_) rfl (by kernel_rfl) (by kernel_rfl) (by kernel_rfl) (by kernel_rfl) (by kernel_rfl) (fun _ _ _ h => absurd rfl (h.1 _)) (.inl ⟨by kernel_rfl, ?_⟩) hS ?_
     rotate_left
     · (intro w' hw; obtain ⟨h1, h2, h3, h4⟩ := hw; go_simp; try with_reducible rfl)
     try simp only [put_laws]
     refine wpAnyT_take (i := 19) (v := ?_) rfl (by kernel_rfl) (by kernel_rfl) (by kernel_rfl) (by kernel_rfl) (by kernel_rfl) (fun _ _ _ h => absurd rfl (h.1 _)) (.inl ⟨by kernel_rfl, ?_⟩) hS ?_
     rotate_left
     · (intro w' hw; obtain ⟨h1, h2, h3, h4⟩ := hw; go_simp; try with_reducible rfl)
     try simp only [put_laws]
     refine wpAnyT_take (i := 20) (v := ?_) rfl (by kernel_rfl) (by kernel_rfl) (by kernel_rfl) (by kernel_rfl) (by kernel_rfl) (fun _ _ _ h => absurd rfl (h.1 _)) (.inl ⟨by kernel_rfl, ?_⟩) hS ?_
     rotate_left
     · (intro w' hw; obtain ⟨h1, h2, h3, h4⟩ := hw; go_simp; try with_reducible rfl)
     try simp only [put_laws]
     refine wpAnyT_take (i := 21) (v := ?_) rfl (by kernel_rfl) (by kernel_rfl) (by kernel_rfl) (by kernel_rfl) (by kernel_rfl) (fun _ _ _ h => absurd rfl (h.1 _)) (.inl ⟨by kernel_rfl, ?_⟩) hS ?_
     rotate_left
     · (intro w' hw; obtain ⟨h1, h2, h3, h4⟩ := hw; go_simp; try with_reducible rfl)
     try simp only [put_laws]
     have ho9 := MD.out.o.r j hjl
     rw [HRJ.out] at ho9
     have dfz := Own.frz ho9 (k * 3 + 1)
     have dgl := (Own.block (g := gj) ho9 rfl).2
     have dw2 := hS.2.2.1
     clear ho9
     refine wpAnyT_one (i := 22) (by kernel_rfl) rfl ?_
     intro K' hK'
     go_simp
     refine hK'.out _ _ (.inl rfl) ?_
     clear hK' K'
     try simp only [put_laws]
     refine wpAnyT_done (by kernel_rfl) ?_ _
     refine ⟨fun x e => (by cases e), ?_⟩
     clear MD hdr hS
     clear dfz dgl dw2
     go_upto_region 11 with fail
     have M4 := Lib.hid (show WdM d zA cA wA dA tA sA xA hA zA' (some ⟨gc, 0, none⟩) (some ⟨gw, 0, none⟩) dA' tA' sA' cl dc tc sc zc cc wc xc xL.length hn hc ta dc' tc' sc' zc' cc' wc' cq P3 P4 P5 P7 P8 bO lo hi ylo yhi D S R w (#[.int .i64 (ta : Int), .slice nA nn nc, .int .i64 lo, .int .i64 hi]) ((cT d.cu D S k (j + 1))) ((wT d.wd D S (k + 1))) (w3.setCell ⟨gj, k * 3 + 1, none⟩ (.int .i64 (min x1 S))).drew from by
      have h := M3.out.setc hjl HRJ.out k (j := 1) (by omega) (min x1 S)
      rw [HX1.out, HU1.out, cT_next] at h
      rw [HX1.out]
      exact h.below (Below.refl _ _).drew)
     generalize (w3.setCell ⟨gj, k * 3 + 1, none⟩ (.int .i64 (min x1 S))).drew = w4 at M4 ⊢
     clear M3 c6 r0 e1 efz z2 hj2 HX1 HU1 HRJ HC1
     go_wp2_with fail
     go_roundw
     case rel => exact ⟨j + 1, by omega, by go_num, M4⟩
     case measure => simp [intOf]; omega
    ·
     obtain rfl : j = d.nz := by omega
     have g3 : decide (d.nz < d.nz) = false := decide_eq_false (Nat.lt_irrefl _)
     have M5 := Lib.hid (show WdM d zA cA wA dA tA sA xA hA zA' (some ⟨gc, 0, none⟩) (some ⟨gw, 0, none⟩) dA' tA' sA' cl dc tc sc zc cc wc xc xL.length hn hc ta dc' tc' sc' zc' cc' wc' cq P3 P4 P5 P7 P8 bO lo hi ylo yhi D S R w (#[.int .i64 (ta : Int), .slice nA nn nc, .int .i64 lo, .int .i64 hi]) ((cT d.cu D S (k + 1) 0)) ((wT d.wd D S (k + 1))) wr from HJ.out.cong (fun i hi a _ q _ => by rw [cT_row hi]) (fun _ _ _ _ => rfl))
     clear HJ
     go_wp2_with fail
     go_roundw
     case rel => exact ⟨k + 1, by omega, by go_num, M5⟩
     case measure => simp [intOf]; omega
  ·
   obtain rfl : k = nw := by omega
   have g2 : decide (k < k) = false := decide_eq_false (Nat.lt_irrefl _)
   have M9 := Lib.hid (show WdM d zA cA wA dA tA sA xA hA zA' cA' wA' dA' tA' sA' cl dc tc sc zc cc wc xc xL.length hn hc ta dc' tc' sc' zc' cc' wc' cq P3 P4 P5 P7 P8 bO lo hi ylo yhi D S R w (#[.int .i64 (ta : Int), .slice nA nn nc, .int .i64 lo, .int .i64 hi]) ((d.wide D S).cu) ((d.wide D S).wd) wr from HI.out.cong (fun i hi a ha q _ => by
    have h := HCL.out i hi
    have h2 := HNW.out
    unfold cT
    rw [if_pos (.inl (by omega))]
    rfl) (fun a ha q _ => by
    have h2 := HNW.out
    unfold wT
    rw [if_pos (by omega)]
    rfl))
   clear HI
   go_upto_if 93 with fail
   refine wp_cond_false rfl (wp_exit ?_)
   (try simp only [Exit.then])
   apply_assumption
   exact HTL.out wr _ _ _ _ _ _ _ _ _ _ _ _ _ _ _ _ _ _ _ _ _ _ _ _ _ _ _ _ _ _ _ _ _ _ _ _ _ _ _ _ _ _ _ _ _ _ _ _ _ _ _ _ _ _ _ _ _ _ _ _ _ _ _ _ _ _ _ _ _ _ _ _ _ _ _ _ _ _ _ _ _ _ _ _ _ _ _ _ _ _ _ _ _ _ _ _ _ _ _ _ _ _ _ _ _ _ _ _ _ _ _ _ _ _ _ _ _ _ _ _ _ _ _ _ _ _ _ _ _ _ _ _ _ _ _ _ _ _ _ _ _ _ _ _ _ _ _ _ _ _ _ _ _ _ _ _ _ _ _ _ _ _ _ _ _ _ _ _ _ _ _ _ _ _ _ _ _ _ _ _ _ _ _ _ _ _ _ _ _ _ _ _ _ _ _ _ _ _ _ _ _ _ _ _ _ _ _ _ _ _ _ _ _ _ _ _ _ _ _ _ _ _ _ _ _ _ _ _ _ _ _ _ _ _ _ _ _ _ _ _ _ _ _ _ _ _ _ _ _ _ _ _ _ _ _ _ _ _ _ _ _ _ _ _ _ _ _ _ _ M9.out
end
end Go.Proofs.YtnbeembnnjdmdaaDoor
