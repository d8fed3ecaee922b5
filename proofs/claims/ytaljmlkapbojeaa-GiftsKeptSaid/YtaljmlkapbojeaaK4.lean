/- GiftsKept, walked: the book that pays a gift first: its first list (region 33), as a theorem of its own. -/
import Derived.Test.YtaljmlkapbojeaaK0
import Derived.Test.YtaljmlkapbojeaaK3
import Derived.Test.YtaljmlkapbojeaaM6
import Derived.Test.YtaljmlkapbojeaaR2
import Derived.Test.YtaljmlkapbojeaaSeq
import Derived.Deep.DeepCutAuto
import Derived.Deep.DrawnRows
namespace Go.Proofs.Ytaljmlkapbojeaa
open Go.RowKit

def sndN : Nat → Code → Code
  | 0, c => c
  | n + 1, .seq _ b => sndN n b
  | _, c => c
def fstC : Code → Code
  | .seq a _ => a
  | c => c
/-- a statement of a function's text -/
def codeAt (f : Func) (n : Nat) : Code :=
  match f.body with
  | some b => fstC (sndN n b)
  | none => .skip
def First0 (G : Nat → Nat → Int) (k : Nat) : Nat → Nat → Int := fun j c => if j = 0 then G k c else G (j - 1) c
set_option maxRecDepth 100000 in
set_option maxHeartbeats 25600000 in
theorem seg33 (w Y wc : World) (gb go g gc k B : Nat) (G : Nat → Nat → Int) (post : Ending → World → Prop) (K' : Act → World → Prop)
    (hkg : k < g) (hg6 : g ≤ 6) (hYs : w.heap.size < Y.heap.size) (hgbY : gb < Y.heap.size) (hzc : Y.heap.size ≤ wc.heap.size)
    (q0 : wc.cell? ⟨w.heap.size, 0, none⟩ = some (.slice (some ⟨gb, go, none⟩) g gc)) (c0 : wc.cell? ⟨gb, go + k * 3, none⟩ = some (.int .i64 (G k 0))) (c1 : wc.cell? ⟨gb, go + k * 3 + 1, none⟩ = some (.int .i64 (G k 1))) (c2 : wc.cell? ⟨gb, go + k * 3 + 2, none⟩ = some (.int .i64 (G k 2)))
    (hRd : ∀ W : World, Below Y.heap.size Y W → Rd W B (some ⟨gb, go, none⟩) 3 g G) (hbc : Below Y.heap.size Y wc) {v0 v1 v4 v5 v6 v7 v8 v9 v10 v11 v12 v13 v14 v15 v16 v17 v18 v19 v20 v21 v22 v23 v24 v25 v26 v27 v28 v29 v30 v31 v32 v33 v34 v35 v36 v37 v38 v39 v40 v41 v42 v43 v44 v45 v46 v47 v48 v49 v50 v51 v52 v53 v54 v55 v56 v57 v58 v59 v60 v61 v62 v63 v64 v65 v66 v67 v68 v69 v70 v71 v72 v73 v74 v75 v76 v77 v78 v79 v80 v81 v82 v83 v84 v85 v86 v87 v88 v89 v90 v91 v92 v93 v94 v95 v96 v97 v98 v99 v100 v101 v102 v103 v104 v105 v106 v107 v108 v109 v110 v111 v112 v113 v114 v115 v116 v117 v118 v119 v120 v121 v122 v123 v124 v125 v126 v127 v128 v129 v130 v131 v132 v133 v134 v135 v136 v137 v138 v139 v140 v141 v142 v143 v144 v145 v146 v147 v148 v149 v150 v151 v152 v153 v154 v155 v156 v157 v158 v159 v160 v161 v162 v163 v164 v165 v166 v167 v168 v169 v170 v171 v172 v173 v174 v175 v176 v177 v178 v179 v180 v181 v182 v183 v184 v185 v186 v187 v188 v189 v190 v191 v192 v193 v194 v195 v196 v197 v198 v199 v200 v201 v202 v203 v204 v205 v206 v207 v208 v209 v210 v211 v212 v213 v214 v215 v216 v217 v218 v219 v220 v221 v222 v223 v224 v225 v226 v227 v228 v229 v230 v231 v232 v233 v234 v235 v236 v237 v238 v239 v240 v241 v242 v243 v244 v245 v246 v247 v248 v249 v250 v251 v252 v253 v254 v255 v256 v257 v258 v259 v260 v261 v262 v263 v264 v265 v266 v267 v268 v269 v270 v271 v272 v273 v274 v275 v276 v277 v278 v279 v280 v281 v282 v283 v284 v285 v286 v287 v288 v289 v290 v291 v292 v293 v294 v295 v296 v297 v298 v299 v300 v301 v302 v303 v304 v305 v306 v307 v308 v309 v310 v311 v312 v313 v314 v315 v316 v317 v318 v319 v320 v321 v322 v323 v324 v325 v326 v327 v328 v329 v330 v331 v332 v333 : Value}
    (hK : ∀ (P g3 c3 : Nat) (wx : World) (x217 x218 x219 x220 x221 x222 x223 x224 x225 x226 : Value), Blk wx P 25 #[.slice (some ⟨g3, 0, none⟩) (g + 1) c3, .slice none 0 0] → Own wx Y.heap.size 36 3 (.slice (some ⟨g3, 0, none⟩) (g + 1) c3) (g + 1) (ints2 (First0 G k)) → Y.heap.size ≤ P → Below Y.heap.size Y wx →
      K' { tmps := #[v0, v1, .int .i64 (k : Int), .pointer (some ⟨w.heap.size, 0, none⟩), v4, v5, v6, v7, v8, v9, v10, v11, v12, v13, v14, v15, v16, .pointer (some ⟨P, 0, none⟩), v18, v19, v20, v21, v22, v23, v24, v25, v26, v27, v28, v29, v30, v31, v32, v33, v34, v35, v36, v37, v38, v39, v40, v41, v42, v43, v44, v45, v46, v47, v48, v49, v50, v51, v52, v53, v54, v55, v56, v57, v58, v59, v60, v61, v62, v63, v64, v65, v66, v67, v68, v69, v70, v71, v72, v73, v74, v75, v76, v77, v78, v79, v80, v81, v82, v83, v84, v85, v86, v87, v88, v89, v90, v91, v92, v93, v94, v95, v96, v97, v98, v99, v100, v101, v102, v103, v104, v105, v106, v107, v108, v109, v110, v111, v112, v113, v114, v115, v116, v117, v118, v119, v120, v121, v122, v123, v124, v125, v126, v127, v128, v129, v130, v131, v132, v133, v134, v135, v136, v137, v138, v139, v140, v141, v142, v143, v144, v145, v146, v147, v148, v149, v150, v151, v152, v153, v154, v155, v156, v157, v158, v159, v160, v161, v162, v163, v164, v165, v166, v167, v168, v169, v170, v171, v172, v173, v174, v175, v176, v177, v178, v179, v180, v181, v182, v183, v184, v185, v186, v187, v188, v189, v190, v191, v192, v193, v194, v195, v196, v197, v198, v199, v200, v201, v202, v203, v204, v205, v206, v207, v208, v209, v210, v211, v212, v213, v214, v215, v216, x217, x218, x219, x220, x221, x222, x223, x224, x225, x226, v227, v228, v229, v230, v231, v232, v233, v234, v235, v236, v237, v238, v239, v240, v241, v242, v243, v244, v245, v246, v247, v248, v249, v250, v251, v252, v253, v254, v255, v256, v257, v258, v259, v260, v261, v262, v263, v264, v265, v266, v267, v268, v269, v270, v271, v272, v273, v274, v275, v276, v277, v278, v279, v280, v281, v282, v283, v284, v285, v286, v287, v288, v289, v290, v291, v292, v293, v294, v295, v296, v297, v298, v299, v300, v301, v302, v303, v304, v305, v306, v307, v308, v309, v310, v311, v312, v313, v314, v315, v316, v317, v318, v319, v320, v321, v322, v323, v324, v325, v326, v327, v328, v329, v330, v331, v332, v333], defers := [] } wx) :
    Code.wp Try.prog (codeAt Try.f7 13) (Exit.then K' (bodyPost Try.prog Try.f7 post)) { tmps := #[v0, v1, .int .i64 (k : Int), .pointer (some ⟨w.heap.size, 0, none⟩), v4, v5, v6, v7, v8, v9, v10, v11, v12, v13, v14, v15, v16, v17, v18, v19, v20, v21, v22, v23, v24, v25, v26, v27, v28, v29, v30, v31, v32, v33, v34, v35, v36, v37, v38, v39, v40, v41, v42, v43, v44, v45, v46, v47, v48, v49, v50, v51, v52, v53, v54, v55, v56, v57, v58, v59, v60, v61, v62, v63, v64, v65, v66, v67, v68, v69, v70, v71, v72, v73, v74, v75, v76, v77, v78, v79, v80, v81, v82, v83, v84, v85, v86, v87, v88, v89, v90, v91, v92, v93, v94, v95, v96, v97, v98, v99, v100, v101, v102, v103, v104, v105, v106, v107, v108, v109, v110, v111, v112, v113, v114, v115, v116, v117, v118, v119, v120, v121, v122, v123, v124, v125, v126, v127, v128, v129, v130, v131, v132, v133, v134, v135, v136, v137, v138, v139, v140, v141, v142, v143, v144, v145, v146, v147, v148, v149, v150, v151, v152, v153, v154, v155, v156, v157, v158, v159, v160, v161, v162, v163, v164, v165, v166, v167, v168, v169, v170, v171, v172, v173, v174, v175, v176, v177, v178, v179, v180, v181, v182, v183, v184, v185, v186, v187, v188, v189, v190, v191, v192, v193, v194, v195, v196, v197, v198, v199, v200, v201, v202, v203, v204, v205, v206, v207, v208, v209, v210, v211, v212, v213, v214, v215, v216, v217, v218, v219, v220, v221, v222, v223, v224, v225, v226, v227, v228, v229, v230, v231, v232, v233, v234, v235, v236, v237, v238, v239, v240, v241, v242, v243, v244, v245, v246, v247, v248, v249, v250, v251, v252, v253, v254, v255, v256, v257, v258, v259, v260, v261, v262, v263, v264, v265, v266, v267, v268, v269, v270, v271, v272, v273, v274, v275, v276, v277, v278, v279, v280, v281, v282, v283, v284, v285, v286, v287, v288, v289, v290, v291, v292, v293, v294, v295, v296, v297, v298, v299, v300, v301, v302, v303, v304, v305, v306, v307, v308, v309, v310, v311, v312, v313, v314, v315, v316, v317, v318, v319, v320, v321, v322, v323, v324, v325, v326, v327, v328, v329, v330, v331, v332, v333], defers := [] } wc := by
  have HK' := Lib.hid hK
  have HRX := Lib.hid hRd
  have HB8' := Lib.hid hbc
  clear hK hRd hbc
  obtain ⟨gi, hi, hz0, hz1, hz2⟩ := info_parts gift_info
  have GI := Lib.hid (And.intro hi (And.intro hz0 (And.intro hz1 hz2)))
  clear hi hz0 hz1 hz2
  have nk : decide (g ≤ k) = false := decide_eq_false (by omega)
  conv in codeAt _ _ => whnf
  go_region_held3 (fun w' => w'.cell? ⟨w.heap.size, 0, none⟩ = some (.slice (some ⟨gb, go, none⟩) g gc) ∧ w'.cell? ⟨gb, go + k * 3, none⟩ = some (.int .i64 (G k 0)) ∧ w'.cell? ⟨gb, go + k * 3 + 1, none⟩ = some (.int .i64 (G k 1)) ∧ w'.cell? ⟨gb, go + k * 3 + 2, none⟩ = some (.int .i64 (G k 2)) ∧ Below Y.heap.size Y w')
    (first
      | assumption
      | exact hS'
      | exact KeptF.start ⟨q0, c0, c1, c2, HB8'.out⟩
      | exact KeptF.alloc_drew (Y := Y) (by assumption) hYs hgbY
      | exact KeptF.alloc (Y := Y) (by assumption) hYs hgbY _
      | exact KeptF.grown (Y := Y) (by assumption) hYs hgbY hg (by intro q hq; injection hq with hq; subst hq; first | omega | (dsimp only; omega) | (simp; omega))
      | exact KeptF.store (Y := Y) (by assumption) hYs hgbY (by omega) _ _
      | fail)
    (first
      | (refine step_cat (by rfl) (.tmp 222) (.tmp 224) 22 (by rfl) 36 gi _ 3 24 Try.underlying22 GI.out.1 GI.out.2.1 GI.out.2.2.1 GI.out.2.2.2 rfl (by omega) (by omega) (base := Y.heap.size) (by rfl) (F := ints2 fun _ c => G k c) (by first | exact own_one3 (Blk.new1 _ _ _ _) (by omega) rfl rfl rfl | exact Own.alloc (own_one3 (Blk.new _ _ _) (by omega) rfl rfl rfl) _ | exact own_one3 (Blk.new _ _ _) (by omega) rfl rfl rfl | fail) (by omega) (by simp; omega) (by rfl) (HRX.out _ (by go_split_ands; assumption)) (by omega) ?_; intro v' w' ho hg hat; rw [Nat.add_comm 1 g] at ho; obtain ⟨g3, c3, rfl⟩ := ho.nz (by omega); go_must (have hS' := KeptF.grown (w := w) (Y := Y) (gb := gb) (go := go) (k := k) (g := g) (gc := gc) (G := G) (by assumption) hYs hgbY hg (by intro q hq; injection hq with hq; subst hq; first | omega | (dsimp only; omega) | (simp; omega))); (first | (have mP := (((Blk.new _ 25 #[.slice none 0 0, .slice none 0 0]).alloc (.cells #[.int .i64 (G k 0), .int .i64 (G k 1), .int .i64 (G k 2)] 36)).drew).grown hg (by intro e; injection e with e; first | omega | (dsimp only at e; omega) | (simp at e)); have p0 := mP.cell 0; have p1 := mP.cell 1; have f0 := mP.frz 0; have f1 := mP.frz 1) | (have mP := ((Blk.new1 _ (.cells #[.int .i64 (G k 0), .int .i64 (G k 1), .int .i64 (G k 2)] 36) 25 #[.slice none 0 0, .slice none 0 0]).drew).grown hg (by intro e; injection e with e; first | omega | (dsimp only at e; omega) | (simp at e)); have p0 := mP.cell 0; have p1 := mP.cell 1; have f0 := mP.frz 0; have f1 := mP.frz 1) | skip))
      | fail)
  all_goals
    have oF := ho.congr (F' := ints2 (First0 G k)) fun i j _ _ => by
      unfold First0
      unfold catF
      by_cases e : i = 0
      · subst e; rfl
      · simp [show ¬ i < 1 by omega, e]
    clear ho
    have hbw' := hS'.2.2.2.2
    go_wp2_with fail
  · exact HK'.out _ g3 c3 _ _ _ _ _ _ _ _ _ _ _ (Blk.new _ _ _) (oF.alloc _) hbw'.size (hbw'.alloc hbw'.size _)
  · exact HK'.out _ g3 c3 _ _ _ _ _ _ _ _ _ _ _ ((mP.set_ 0 _).set_ 1 _) ((oF.setCell (p := ⟨wc.heap.size + 1, 0, none⟩) (oF.ne_blk mP (by decide)) _).setCell (p := ⟨wc.heap.size + 1, 1, none⟩) (oF.ne_blk mP (by decide)) _) (by omega) (KeptF.store (P := wc.heap.size + 1) hS' hYs hgbY (by omega) _ _).2.2.2.2
  · exact HK'.out _ g3 c3 _ _ _ _ _ _ _ _ _ _ _ ((mP.set_ 0 _).set_ 1 _) ((oF.setCell (p := ⟨wc.heap.size, 0, none⟩) (oF.ne_blk mP (by decide)) _).setCell (p := ⟨wc.heap.size, 1, none⟩) (oF.ne_blk mP (by decide)) _) (by omega) (KeptF.store (P := wc.heap.size) hS' hYs hgbY (by omega) _ _).2.2.2.2
end Go.Proofs.Ytaljmlkapbojeaa
