/- GiftsKept, walked from behind region 24 on: a theorem of its own. -/
import Derived.Test.YtaljmlkapbojeaaK5
import Derived.Test.YtaljmlkapbojeaaK0
import Derived.Test.YtaljmlkapbojeaaDMath
import Derived.Test.YtaljmlkapbojeaaM6
import Derived.Test.YtaljmlkapbojeaaU2
import Derived.Test.YtaljmlkapbojeaaSeq
import Derived.Deep.DeepCutAuto
import Derived.Deep.DrawnRows
namespace Go.Proofs.Ytaljmlkapbojeaa
open Go.RowKit

set_option maxRecDepth 100000 in
set_option maxHeartbeats 51200000 in
theorem seg25 (w X Y wc : World) (gb go g gc k bn bc g1 c1 c2' D lb lo lc : Nat) (bA A2 : Option Addr) (G H : Nat → Nat → Int) (SP : Nat → Nat → Int) (a1 : Int) {v0 v1 v4 v5 v6 v8 v9 v10 v11 v12 v13 v15 v16 v17 v18 v19 v20 v21 v22 v23 v24 v25 v26 v27 v28 v29 v30 v31 v32 v33 v34 v35 v36 v37 v38 v39 v40 v41 v42 v43 v44 v45 v46 v47 v48 v49 v50 v51 v52 v53 v54 v55 v56 v57 v58 v59 v60 v61 v62 v63 v64 v65 v66 v67 v68 v69 v70 v71 v72 v73 v74 v75 v76 v77 v78 v79 v80 v81 v82 v83 v84 v85 v86 v87 v88 v89 v90 v91 v92 v93 v94 v95 v96 v97 v98 v99 v100 v101 v102 v103 v104 v105 v106 v107 v108 v109 v110 v111 v112 v113 v114 v115 v116 v117 v118 v119 v120 v121 v122 v123 v124 v125 v126 v127 v128 v129 v130 v131 v132 v133 v134 v135 v136 v137 v138 v139 v140 v141 v142 v143 v144 v145 v146 v147 v148 v149 v150 v151 v152 v153 v154 v155 v156 v157 v158 v159 v160 v161 v162 v163 v164 v165 v166 v167 v168 v169 v170 v171 v172 v173 v174 v175 v176 v177 v178 v179 v180 v181 v182 v183 v184 v185 v186 v187 v188 v189 v190 v191 v192 v193 v194 v195 v196 v197 v198 v199 v200 v201 v202 v203 v204 v205 v206 v207 v208 v209 v210 v211 v212 v213 v214 v215 v216 v217 v218 v219 v220 v221 v222 v223 v224 v225 v226 v227 v228 v229 v230 v231 v232 v233 v234 v235 v236 v237 v238 v239 v240 v241 v242 v243 v244 v245 v246 v247 v248 v249 v250 v251 v252 v253 v254 v255 v256 v257 v258 v259 v260 v261 v262 v263 v264 v265 v266 v267 v268 v269 v270 v271 v272 v273 v274 v275 v276 v277 v278 v279 v280 v281 v282 v283 v284 v285 v286 v287 v288 v289 v290 v291 v292 v293 v294 v295 v296 v297 v298 v299 v300 v301 v302 v303 v304 v305 v306 v307 v308 v309 v310 v311 v312 v313 v314 v315 v316 v317 v318 v319 v320 v321 v322 v323 v324 v325 v326 v327 v328 v329 v330 v331 v332 v333 : Value}
    (hkg : k < g) (h6 : g ≤ 6 ∧ bn ≤ 6) (ok : Ok g bn G H) (hsp : SP = leftSp g bn G H) (hp : lpd g bn G H = true) (ha1 : a1 = SP k 1)
    (hWX : Below w.heap.size w X) (hXs : w.heap.size < X.heap.size) (hKX : Blk X w.heap.size 25 #[.slice (some ⟨gb, go, none⟩) g gc, .slice bA bn bc])
    (hRX : BookRd X X.heap.size (some ⟨gb, go, none⟩) g G bA bn H) (hBX : Below X.heap.size X Y) (hz : X.heap.size ≤ Y.heap.size)
    (l0w : X.cell? ⟨lb, lo + k * 2, none⟩ = some (.int .i64 (SP k 0))) (hlb : lb < X.heap.size)
    (m6 : Blk wc D 25 #[.slice (some ⟨g1, 0, none⟩) g c1, .slice A2 bn c2']) (o1 : Own wc Y.heap.size 36 3 (.slice (some ⟨g1, 0, none⟩) g c1) g (ints2 (set2 G k 2 (G k 2 - a1)))) (o2 : Own wc Y.heap.size 32 3 (.slice A2 bn c2') bn (ints2 H)) (hb6 : Below Y.heap.size Y wc)
    (hne : ∀ q, Value.ownBlock (.slice A2 bn c2') = some q → q ≠ g1) :
    Code.wp Try.prog (restAt Try.f7 10) (bodyPost Try.prog Try.f7 fun e w' => e = .returned (.bool true) ∧ Below w.heap.size w w') { tmps := List.toArray (v0 :: v1 :: .int .i64 (k : Int) :: .pointer (some ⟨w.heap.size, 0, none⟩) :: v4 :: v5 :: v6 :: .slice (some ⟨lb, lo, none⟩) g lc :: v8 :: v9 :: v10 :: v11 :: v12 :: v13 :: .pointer (some ⟨D, 0, none⟩) :: v15 :: v16 :: v17 :: v18 :: v19 :: v20 :: v21 :: v22 :: v23 :: v24 :: v25 :: v26 :: v27 :: v28 :: v29 :: v30 :: v31 :: v32 :: v33 :: v34 :: v35 :: v36 :: v37 :: v38 :: v39 :: v40 :: v41 :: v42 :: v43 :: v44 :: v45 :: v46 :: v47 :: v48 :: v49 :: v50 :: v51 :: v52 :: v53 :: v54 :: v55 :: v56 :: v57 :: v58 :: v59 :: v60 :: v61 :: v62 :: v63 :: v64 :: v65 :: v66 :: v67 :: v68 :: v69 :: v70 :: v71 :: v72 :: v73 :: v74 :: v75 :: v76 :: v77 :: v78 :: v79 :: v80 :: v81 :: v82 :: v83 :: v84 :: v85 :: v86 :: v87 :: v88 :: v89 :: v90 :: v91 :: v92 :: v93 :: v94 :: v95 :: v96 :: v97 :: v98 :: v99 :: v100 :: v101 :: v102 :: v103 :: v104 :: v105 :: v106 :: v107 :: v108 :: v109 :: v110 :: v111 :: v112 :: v113 :: v114 :: v115 :: v116 :: v117 :: v118 :: v119 :: v120 :: v121 :: v122 :: v123 :: v124 :: v125 :: v126 :: v127 :: v128 :: v129 :: v130 :: v131 :: v132 :: v133 :: v134 :: v135 :: v136 :: v137 :: v138 :: v139 :: v140 :: v141 :: v142 :: v143 :: v144 :: v145 :: v146 :: v147 :: v148 :: v149 :: v150 :: v151 :: v152 :: v153 :: v154 :: v155 :: v156 :: v157 :: v158 :: v159 :: v160 :: v161 :: v162 :: v163 :: v164 :: v165 :: v166 :: v167 :: v168 :: v169 :: v170 :: v171 :: v172 :: v173 :: v174 :: v175 :: v176 :: v177 :: v178 :: v179 :: v180 :: v181 :: v182 :: v183 :: v184 :: v185 :: v186 :: v187 :: v188 :: v189 :: v190 :: v191 :: v192 :: v193 :: v194 :: v195 :: v196 :: v197 :: v198 :: v199 :: v200 :: v201 :: v202 :: v203 :: v204 :: v205 :: v206 :: v207 :: v208 :: v209 :: v210 :: v211 :: v212 :: v213 :: v214 :: v215 :: v216 :: v217 :: v218 :: v219 :: v220 :: v221 :: v222 :: v223 :: v224 :: v225 :: v226 :: v227 :: v228 :: v229 :: v230 :: v231 :: v232 :: v233 :: v234 :: v235 :: v236 :: v237 :: v238 :: v239 :: v240 :: v241 :: v242 :: v243 :: v244 :: v245 :: v246 :: v247 :: v248 :: v249 :: v250 :: v251 :: v252 :: v253 :: v254 :: v255 :: v256 :: v257 :: v258 :: v259 :: v260 :: v261 :: v262 :: v263 :: v264 :: v265 :: v266 :: v267 :: v268 :: v269 :: v270 :: v271 :: v272 :: v273 :: v274 :: v275 :: v276 :: v277 :: v278 :: v279 :: v280 :: v281 :: v282 :: v283 :: v284 :: v285 :: v286 :: v287 :: v288 :: v289 :: v290 :: v291 :: v292 :: v293 :: v294 :: v295 :: v296 :: v297 :: v298 :: v299 :: v300 :: v301 :: v302 :: v303 :: v304 :: v305 :: v306 :: v307 :: v308 :: v309 :: v310 :: v311 :: v312 :: v313 :: v314 :: v315 :: v316 :: v317 :: v318 :: v319 :: v320 :: v321 :: v322 :: v323 :: v324 :: v325 :: v326 :: v327 :: v328 :: v329 :: v330 :: v331 :: v332 :: v333 :: []), defers := [] } wc := by
  have LB := Lib.hid (fun q (hg : q < g) => left_bounds (bn := bn) ok hp hg)
  have LO := Lib.hid (fun q (hg : q < g) => less_ok (bn := bn) (H := H) hp hg)
  have LN := Lib.hid (fun q (hg : q < g) h => less_not (gn := g) (bn := bn) (G := G) (H := H) (g := q) hg h)
  have FO := Lib.hid (fun q (hg : q < g) => first_ok ok hg h6.1)
  have FL := Lib.hid (fun q (hg : q < g) => first_lpd ok hp hg)
  have FU := Lib.hid (fun q (hg : q < g) => first_used ok hp hg h6.1)
  simp only [← hsp] at LB LO LN FU
  have OK := Lib.hid ok
  have HWX := Lib.hid hWX
  have HK := Lib.hid hKX
  have HRX := Lib.hid hRX
  have HB := Lib.hid hBX
  have HNE := Lib.hid hne
  clear hsp ok hp hWX hKX hRX hBX hne
  have lbd := LB.out k hkg
  rw [← ha1] at lbd
  have HA1 := Lib.hid ha1
  clear ha1
  have okg := OK.out.2.2.1 k hkg
  have hYs : w.heap.size < Y.heap.size := by omega
  obtain ⟨gb', go', ge, hgb, c0w, c1w, c2w⟩ := HRX.out.1.at3 hkg
  injection ge with ge
  injection ge with ge1 ge2 _
  subst ge1; subst ge2
  conv in restAt _ _ => whnf
  have n0 := m6.cell 0
  have n1 := m6.cell 1
  have M7 := Lib.hid m6
  have O1 := Lib.hid o1
  have O2 := Lib.hid o2
  have HB7 := Lib.hid hb6
  have hg1 : Y.heap.size ≤ g1 ∧ g1 < wc.heap.size := o1.block rfl
  have hz7 := hb6.size
  have hgW := hg1.2
  have hDW := m6.lt
  obtain ⟨cA, cc, ce, hr1⟩ := o1.rd
  injection ce with ce _ _
  subst ce
  obtain ⟨dA, dc, de, hr2⟩ := o2.rd
  injection de with de _ _
  subst de
  have HQ1 := Lib.hid (And.intro hr1 hr2 : BookRd _ _ _ _ _ _ _ _)
  have k1 := less_okF OK.out hkg (x := G k 2 - a1) (by omega)
  have k2 : payE g bn (set2 G k 2 (G k 2 - a1)) H = 0 := payE_paid k1 (by rw [HA1.out]; exact LO.out k hkg)
  have HK2 := Lib.hid k2
  clear m6 o1 o2 hb6 hr1 hr2 k1 k2
  go_wp2_with fail
  refine (pay_err _ _ _ _ _ _ _ _ _ _ (by unfold maxLen; omega) (by unfold maxLen; omega) HQ1.out (Nat.le_refl _)).mono ?_
  rw [HK2.out]
  rintro e w8 ⟨⟨PA, pn, pc', rfl⟩, hb8⟩
  have M8 := Lib.hid (M7.out.below hb8 M7.out.lt)
  have O18 := Lib.hid (O1.out.below hb8)
  have O28 := Lib.hid (O2.out.below hb8)
  have HB8 := Lib.hid (HB7.out.trans (hb8.mono HB7.out.size))
  have n0 := M8.out.cell 0
  have n1 := M8.out.cell 1
  have u1 : w8.cell? ⟨g1, k * 3 + 2, none⟩ = some (.int .i64 (set2 G k 2 (G k 2 - a1) k 2)) := O18.out.cell hkg (by omega)
  rw [show set2 G k 2 (G k 2 - a1) k 2 = G k 2 - a1 by simp [set2]] at u1
  have fr1 := O18.out.frz (k * 3 + 2)
  have hgW8 : g1 < w8.heap.size := (O18.out.block rfl).2
  have hDW8 := M8.out.lt
  have nk : decide (g ≤ k) = false := decide_eq_false (by omega)
  clear hb8 HQ1 O1 O2 M7 HB7 hgW hDW
  go_upto_if 200 with fail
  go_cut [] (fun wx => Below Y.heap.size Y wx)
  case first =>
    have s1 : wrap64 (G k 2 - a1 - 1) = G k 2 - a1 - 1 := IntWalk.wrap64_in _ (by omega)
    have o1 := O18.out.setm (k := k) (j := 2) (by omega) (.int .i64 (G k 2 - a1 - 1))
    rw [upd2_ints] at o1
    have o2 := O28.out.setCell (p := ⟨g1, k * 3 + 2, none⟩) (fun e => HNE.out _ e rfl) (.int .i64 (G k 2 - a1 - 1))
    have hb9 := HB8.out.setCell (p := ⟨g1, k * 3 + 2, none⟩) hg1.1 (.int .i64 (G k 2 - a1 - 1))
    obtain ⟨cA, cc, ce, hr1⟩ := o1.rd
    injection ce with ce _ _
    subst ce
    obtain ⟨dA, dc, de, hr2⟩ := o2.rd
    injection de with de _ _
    subst de
    rw [set2_twice G k 2 (G k 2 - a1) (G k 2 - a1 - 1)] at hr1
    have HQ1 := Lib.hid (And.intro hr1 hr2 : BookRd _ _ _ _ _ _ _ _)
    have HB9 := Lib.hid hb9
    clear hr1 hr2 o1 o2 hb9
    go_wp2_with fail
    · have hpos : a1 < G k 2 := by omega
      have k1 := less_okF OK.out hkg (x := G k 2 - a1 - 1) (by omega)
      have k2 : payE g bn (set2 G k 2 (G k 2 - a1 - 1)) H = 3 := payE_none k1 (by have h := LN.out k hkg (by rw [← HA1.out]; omega); rw [← HA1.out] at h; exact h)
      refine (pay_err _ _ _ _ _ _ _ _ _ _ (by unfold maxLen; omega) (by unfold maxLen; omega) HQ1.out (Nat.le_refl _)).mono ?_
      rw [k2]
      rintro e w10 ⟨⟨PA, pn, pc', rfl⟩, hb10⟩
      have HB10 := Lib.hid (HB9.out.trans (hb10.mono HB9.out.size))
      clear hb10 k1 k2
      go_wp2_with fail
      go_meet
      exact HB10.out
    · go_meet
      exact HB8.out
  case rest =>
    have HB8' := Lib.hid hcut
    clear n0 n1 u1 fr1 hgW8 hDW8 nk M8 O18 O28 HB8 HK2 HNE hcut
    go_upto_region 33 with fail
    have hzc := HB8'.out.size
    have q0 := ((HB.out.trans (HB8'.out.mono hz)).cell (p := ⟨w.heap.size, 0, none⟩) hXs).trans (HK.out.cell 0)
    have c0 := ((HB.out.trans (HB8'.out.mono hz)).cell (p := ⟨gb, go + k * 3, none⟩) hgb).trans c0w
    have c1 := ((HB.out.trans (HB8'.out.mono hz)).cell (p := ⟨gb, go + k * 3 + 1, none⟩) hgb).trans c1w
    have c2 := ((HB.out.trans (HB8'.out.mono hz)).cell (p := ⟨gb, go + k * 3 + 2, none⟩) hgb).trans c2w
    have hgbY : gb < Y.heap.size := by omega
    refine seg33 w Y _ gb go g gc k X.heap.size G _ _ hkg h6.1 hYs hgbY hzc q0 c0 c1 c2 (fun W hb => HRX.out.1.below (HB.out.trans (hb.mono hz))) HB8'.out ?_
    intro P g3 c3 wx x217 x218 x219 x220 x221 x222 x223 x224 x225 x226 mP oG hP hbc
    apply_assumption
    exact seg34 w X Y _ gb go g gc k bn bc P g3 c3 lb lo lc bA G H (SP k 0) hkg h6 OK.out (FO.out k hkg) (FL.out k hkg) (FU.out k hkg) HWX.out hXs HK.out HRX.out HB.out hz l0w hlb mP oG hP hbc
end Go.Proofs.Ytaljmlkapbojeaa
