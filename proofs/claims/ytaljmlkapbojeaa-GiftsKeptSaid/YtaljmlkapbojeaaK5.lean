/- GiftsKept, walked from region 34 on: a theorem of its own. -/
import Derived.Test.YtaljmlkapbojeaaK4
import Derived.Deep.RegionLaw
import Derived.Test.YtaljmlkapbojeaaW2
namespace Go.Proofs.Ytaljmlkapbojeaa
open Go.RowKit

theorem Own.rdK {w : World} {b t m n n' c : Nat} {A : Option Addr} {f : Nat → Nat → Int} (h : Own w b t m (.slice A n' c) n (ints2 f)) : Rd w w.heap.size A m n f := by
  obtain ⟨A', c', e, h⟩ := h.rd
  injection e with e1 e2 e3
  subst e1
  exact h
theorem sum_bd {n : Nat} {f : Nat → Int} {c : Int} (h : ∀ i, i < n → 0 ≤ f i ∧ f i ≤ c) : ∀ k, k ≤ n → 0 ≤ M.sumTo k f ∧ M.sumTo k f ≤ k * c
  | 0, _ => by simp [M.sumTo]
  | k + 1, hk => by
    have h1 := sum_bd h k (by omega)
    have h2 := h k (by omega)
    have : ((k + 1 : Nat) : Int) * c = k * c + c := by rw [Int.natCast_add, Int.add_mul]; simp
    simp only [M.sumTo]
    omega
theorem cat_list {H : Nat → Nat → Int} {l : List Nat} {n j : Nat} (i : Nat) (hi : i < l.length + 1) : catF l.length (ints2 fun a c => H (l.getD a 0) c) (ints2 fun _ c => H n c) i j = ints2 (fun a c => H ((l ++ [n]).getD a 0) c) i j := by
  unfold catF
  split
  · rename_i h
    simp [List.getElem?_append_left h]
  · obtain rfl : i = l.length := by omega
    simp
/-- the statements from the n-th on -/
def restAt (f : Func) (n : Nat) : Code :=
  match f.body with
  | some b => sndN n b
  | none => .skip
set_option maxRecDepth 100000 in
set_option maxHeartbeats 25600000 in
theorem seg34 (w X Y wc : World) (gb go g gc k bn bc P g3 c3 lb lo lc : Nat) (bA : Option Addr) (G H : Nat → Nat → Int) (a0 : Int) {v0 v1 v4 v5 v6 v8 v9 v10 v11 v12 v13 v14 v15 v16 v18 v19 v20 v21 v22 v23 v24 v25 v26 v27 v28 v29 v30 v31 v32 v33 v34 v35 v36 v37 v38 v39 v40 v41 v42 v43 v44 v45 v46 v47 v48 v49 v50 v51 v52 v53 v54 v55 v56 v57 v58 v59 v60 v61 v62 v63 v64 v65 v66 v67 v68 v69 v70 v71 v72 v73 v74 v75 v76 v77 v78 v79 v80 v81 v82 v83 v84 v85 v86 v87 v88 v89 v90 v91 v92 v93 v94 v95 v96 v97 v98 v99 v100 v101 v102 v103 v104 v105 v106 v107 v108 v109 v110 v111 v112 v113 v114 v115 v116 v117 v118 v119 v120 v121 v122 v123 v124 v125 v126 v127 v128 v129 v130 v131 v132 v133 v134 v135 v136 v137 v138 v139 v140 v141 v142 v143 v144 v145 v146 v147 v148 v149 v150 v151 v152 v153 v154 v155 v156 v157 v158 v159 v160 v161 v162 v163 v164 v165 v166 v167 v168 v169 v170 v171 v172 v173 v174 v175 v176 v177 v178 v179 v180 v181 v182 v183 v184 v185 v186 v187 v188 v189 v190 v191 v192 v193 v194 v195 v196 v197 v198 v199 v200 v201 v202 v203 v204 v205 v206 v207 v208 v209 v210 v211 v212 v213 v214 v215 v216 v217 v218 v219 v220 v221 v222 v223 v224 v225 v226 v227 v228 v229 v230 v231 v232 v233 v234 v235 v236 v237 v238 v239 v240 v241 v242 v243 v244 v245 v246 v247 v248 v249 v250 v251 v252 v253 v254 v255 v256 v257 v258 v259 v260 v261 v262 v263 v264 v265 v266 v267 v268 v269 v270 v271 v272 v273 v274 v275 v276 v277 v278 v279 v280 v281 v282 v283 v284 v285 v286 v287 v288 v289 v290 v291 v292 v293 v294 v295 v296 v297 v298 v299 v300 v301 v302 v303 v304 v305 v306 v307 v308 v309 v310 v311 v312 v313 v314 v315 v316 v317 v318 v319 v320 v321 v322 v323 v324 v325 v326 v327 v328 v329 v330 v331 v332 v333 : Value}
    (hkg : k < g) (h6 : g ≤ 6 ∧ bn ≤ 6) (ok : Ok g bn G H) (hfo : Ok (g + 1) bn (firstG G k) (firstH G H k bn)) (hfl : lpd (g + 1) bn (firstG G k) (firstH G H k bn) = true)
    (hfu : G k 2 - M.sumTo bn (fun i => M.payAt (g + 1) bn (s0 (firstG G k) (firstH G H k bn) (g + 1)) i 0) = a0)
    (hWX : Below w.heap.size w X) (hXs : w.heap.size < X.heap.size) (hKX : Blk X w.heap.size 25 #[.slice (some ⟨gb, go, none⟩) g gc, .slice bA bn bc])
    (hRX : BookRd X X.heap.size (some ⟨gb, go, none⟩) g G bA bn H) (hBX : Below X.heap.size X Y) (hz : X.heap.size ≤ Y.heap.size)
    (l0w : X.cell? ⟨lb, lo + k * 2, none⟩ = some (.int .i64 a0)) (hlb : lb < X.heap.size)
    (mP : Blk wc P 25 #[.slice (some ⟨g3, 0, none⟩) (g + 1) c3, .slice none 0 0]) (oG : Own wc Y.heap.size 36 3 (.slice (some ⟨g3, 0, none⟩) (g + 1) c3) (g + 1) (ints2 (First0 G k))) (hP : Y.heap.size ≤ P) (hbc : Below Y.heap.size Y wc) :
    Code.wp Try.prog (restAt Try.f7 14) (bodyPost Try.prog Try.f7 fun e w' => e = .returned (.bool true) ∧ Below w.heap.size w w') { tmps := #[v0, v1, .int .i64 (k : Int), .pointer (some ⟨w.heap.size, 0, none⟩), v4, v5, v6, .slice (some ⟨lb, lo, none⟩) g lc, v8, v9, v10, v11, v12, v13, v14, v15, v16, .pointer (some ⟨P, 0, none⟩), v18, v19, v20, v21, v22, v23, v24, v25, v26, v27, v28, v29, v30, v31, v32, v33, v34, v35, v36, v37, v38, v39, v40, v41, v42, v43, v44, v45, v46, v47, v48, v49, v50, v51, v52, v53, v54, v55, v56, v57, v58, v59, v60, v61, v62, v63, v64, v65, v66, v67, v68, v69, v70, v71, v72, v73, v74, v75, v76, v77, v78, v79, v80, v81, v82, v83, v84, v85, v86, v87, v88, v89, v90, v91, v92, v93, v94, v95, v96, v97, v98, v99, v100, v101, v102, v103, v104, v105, v106, v107, v108, v109, v110, v111, v112, v113, v114, v115, v116, v117, v118, v119, v120, v121, v122, v123, v124, v125, v126, v127, v128, v129, v130, v131, v132, v133, v134, v135, v136, v137, v138, v139, v140, v141, v142, v143, v144, v145, v146, v147, v148, v149, v150, v151, v152, v153, v154, v155, v156, v157, v158, v159, v160, v161, v162, v163, v164, v165, v166, v167, v168, v169, v170, v171, v172, v173, v174, v175, v176, v177, v178, v179, v180, v181, v182, v183, v184, v185, v186, v187, v188, v189, v190, v191, v192, v193, v194, v195, v196, v197, v198, v199, v200, v201, v202, v203, v204, v205, v206, v207, v208, v209, v210, v211, v212, v213, v214, v215, v216, v217, v218, v219, v220, v221, v222, v223, v224, v225, v226, v227, v228, v229, v230, v231, v232, v233, v234, v235, v236, v237, v238, v239, v240, v241, v242, v243, v244, v245, v246, v247, v248, v249, v250, v251, v252, v253, v254, v255, v256, v257, v258, v259, v260, v261, v262, v263, v264, v265, v266, v267, v268, v269, v270, v271, v272, v273, v274, v275, v276, v277, v278, v279, v280, v281, v282, v283, v284, v285, v286, v287, v288, v289, v290, v291, v292, v293, v294, v295, v296, v297, v298, v299, v300, v301, v302, v303, v304, v305, v306, v307, v308, v309, v310, v311, v312, v313, v314, v315, v316, v317, v318, v319, v320, v321, v322, v323, v324, v325, v326, v327, v328, v329, v330, v331, v332, v333], defers := [] } wc := by
  have OK := Lib.hid ok
  have FO := Lib.hid hfo
  have FL := Lib.hid hfl
  have FU := Lib.hid hfu
  have HWX := Lib.hid hWX
  have HK := Lib.hid hKX
  have HRX := Lib.hid hRX
  have HB := Lib.hid hBX
  clear ok hfo hfl hfu hWX hKX hRX hBX
  obtain ⟨gb', go', ge, hgb, c0w, c1w, c2w⟩ := HRX.out.1.at3 hkg
  injection ge with ge
  injection ge with ge1 ge2 _
  subst ge1; subst ge2
  obtain ⟨bi, ki, kz0, kz1, kz2⟩ := info_parts bill_info
  have BI := Lib.hid (And.intro ki (And.intro kz0 (And.intro kz1 kz2)))
  clear ki kz0 kz1 kz2
  have hgbY : gb < Y.heap.size := by omega
  conv in restAt _ _ => whnf
  have u1 : wc.cell? ⟨g3, (k + 1) * 3 + 2, none⟩ = some (.int .i64 (First0 G k (k + 1) 2)) := oG.cell (by omega) (by omega)
  have fr1 := oG.frz ((k + 1) * 3 + 2)
  have p0 := mP.cell 0
  have hPs := mP.lt
  have hg3 : Y.heap.size ≤ g3 ∧ g3 < wc.heap.size := oG.block rfl
  have hPg : P ≠ g3 := fun e => oG.ne_blk mP (by decide) (by rw [e]; rfl)
  have nk1 : decide (g + 1 ≤ k + 1) = false := decide_eq_false (by omega)
  have mP' := Lib.hid (mP.far (p := ⟨g3, (k + 1) * 3 + 2, none⟩) hPg (.int .i64 0))
  have oG1 := oG.setm (k := k + 1) (j := 2) (by omega) (.int .i64 0)
  rw [upd2_ints] at oG1
  unfold First0 at oG1
  rw [first_set] at oG1
  have oG' := Lib.hid oG1
  have hbc' := Lib.hid (hbc.setCell (p := ⟨g3, (k + 1) * 3 + 2, none⟩) hg3.1 (.int .i64 0))
  clear mP oG oG1 hbc
  go_wp2_with fail
  clear u1 fr1 p0 nk1
  go_loopw [18, 19] (fun l i wr => ∃ n : Nat, n ≤ bn ∧ i = .int .i64 n ∧ ∃ s1, Blk wr P 25 #[.slice (some ⟨g3, 0, none⟩) (g + 1) c3, s1] ∧ Own wr Y.heap.size 36 3 (.slice (some ⟨g3, 0, none⟩) (g + 1) c3) (g + 1) (ints2 (firstG G k)) ∧
    Own wr Y.heap.size 32 3 s1 (servedTo G H k n).length (ints2 fun a c => H ((servedTo G H k n).getD a 0) c) ∧ Own wr Y.heap.size 32 3 l (othersTo G H k n).length (ints2 fun a c => H ((othersTo G H k n).getD a 0) c) ∧ Apart s1 l ∧ Below Y.heap.size Y wr) (fun _ i _ => bn - (intOf i).toNat)
  case atStart => exact ⟨0, Nat.zero_le _, rfl, _, mP'.out, oG'.out, Own.nil_, Own.nil_, Apart.nil_left, hbc'.out⟩
  case round =>
    clear mP' oG' hbc' hPs
    obtain ⟨n, hn, rfl, s1, mP, oG, o1, o2, hap, hbY⟩ := hrel
    obtain ⟨sA, sc, rfl⟩ := o1.form
    obtain ⟨tA, tc, rfl⟩ := o2.form
    have hl1 := served_len (G := G) (H := H) (g := k) n
    have hl2 := others_len (G := G) (H := H) (g := k) n
    have hzr := hbY.size
    have MP := Lib.hid mP
    have OG := Lib.hid oG
    have O1 := Lib.hid o1
    have O2 := Lib.hid o2
    have HAP := Lib.hid hap
    have HBY := Lib.hid hbY
    have hPr := mP.lt
    have hXW : Below X.heap.size X wr := HB.out.trans (hbY.mono hz)
    have q1 := (hXW.cell (p := ⟨w.heap.size, 1, none⟩) hXs).trans (HK.out.cell 1)
    by_cases hltn : n < bn
    · have q0 := (hXW.cell (p := ⟨w.heap.size, 0, none⟩) hXs).trans (HK.out.cell 0)
      obtain ⟨bb, bo, rfl, hbb, k0w, k1w, k2w⟩ := HRX.out.2.at3 hltn
      have c0 := (hXW.cell (p := ⟨gb, go + k * 3, none⟩) hgb).trans c0w
      have c1 := (hXW.cell (p := ⟨gb, go + k * 3 + 1, none⟩) hgb).trans c1w
      have c2 := (hXW.cell (p := ⟨gb, go + k * 3 + 2, none⟩) hgb).trans c2w
      have d0 := (hXW.cell (p := ⟨bb, bo + n * 3, none⟩) hbb).trans k0w
      have d1 := (hXW.cell (p := ⟨bb, bo + n * 3 + 1, none⟩) hbb).trans k1w
      have d2 := (hXW.cell (p := ⟨bb, bo + n * 3 + 2, none⟩) hbb).trans k2w
      have hbs : bb < wr.heap.size := by omega
      have hgs : gb < wr.heap.size := by omega
      have hh := OK.out.2.2.2 n hltn
      have H0 := hh.1
      have H7 := hh.2.1
      have nk : decide (g ≤ k) = false := decide_eq_false (by omega)
      have hs' : (M.bt (G k 0) (H n 0).toNat && decide (G k 1 ≤ H n 1)) = M.srv G H k n := rfl
      have hsl := served_succ (G := G) (H := H) (g := k) n
      have hol := others_succ (G := G) (H := H) (g := k) n
      clear mP oG o1 o2 hap hbY
      cases hsv : M.srv G H k n
      · rw [hsv] at hs' hsl hol
        simp only [Bool.false_eq_true, if_false, List.append_nil] at hsl hol
        have HS' := Lib.hid hs'
        have HSL := Lib.hid hsl
        have HOL := Lib.hid hol
        clear hs' hsv hsl hol
        go_wp2_with fail
        go_still_tail 10, (by kernel_rfl)
        change wpList _ _ _ _ _ wr.drew
        go_wp2_with fail
        refine (serves_any _ _ _ _ _ _ _ H0 H7).mono ?_
        rw [HS'.out]
        rintro e w4 ⟨rfl, hb4⟩
        have MP4 := Lib.hid (MP.out.drew.below hb4 MP.out.lt)
        have OG4 := Lib.hid (OG.out.drew.below hb4)
        have O14 := Lib.hid (O1.out.drew.below hb4)
        have O24 := Lib.hid (O2.out.drew.below hb4)
        have HBY4 := Lib.hid (HBY.out.drew.trans (hb4.mono hzr))
        have hXW4 := HB.out.trans (HBY4.out.mono hz)
        have q1 := (hXW4.cell (p := ⟨w.heap.size, 1, none⟩) hXs).trans (HK.out.cell 1)
        have d0 := (hXW4.cell (p := ⟨bb, bo + n * 3, none⟩) hbb).trans k0w
        have d1 := (hXW4.cell (p := ⟨bb, bo + n * 3 + 1, none⟩) hbb).trans k1w
        have d2 := (hXW4.cell (p := ⟨bb, bo + n * 3 + 2, none⟩) hbb).trans k2w
        have hz4 := HBY4.out.size
        have hbs4 : bb < w4.heap.size := by omega
        clear hb4 hXW4
        go_wp2_with (at_builtin; refine wpList_app rfl (.tmp 261) (.tmp 267) 23 rfl Y.heap.size 32 3 24 Try.underlying23 BI.out.1 BI.out.2.1 BI.out.2.2.1 BI.out.2.2.2 rfl (by decide) (by decide) (O24.out.alloc _) rfl (by omega) (by simp; omega) w4.heap.size 1 (fun j => ints2 (fun _ c => H n c) 0 j) rfl (cells3 _ _ _ rfl _ _ _ _ rfl rfl rfl) (fun _ _ => rfl) ?_; intro v2 w2 o2 hg2 hat2; obtain ⟨A2, z2, rfl⟩ := o2.form; have HO2 := Lib.hid o2; have HG2 := Lib.hid hg2; have HAT2 := Lib.hid hat2; clear o2 hg2 hat2)
        go_roundw
        case rel =>
          have apG := OG4.out.alloc (.cells #[.int .i64 (H n 0), .int .i64 (H n 1), .int .i64 (H n 2)] 32)
          refine ⟨n + 1, by omega, by go_num, _, (MP4.out.alloc _).grown HG2.out (fun e => O24.out.ne_blk MP4.out (by decide) e.symm), apG.apart_grown (O24.out.apart_type OG4.out (by decide)) HG2.out, ?_, ?_, ?_, (HBY4.out.alloc hz4 _).grown HG2.out (by simp; omega) (fun q hq => (O24.out.block hq).1)⟩
          · rw [HSL.out]
            exact (O14.out.alloc _).apart_grown HAP.out.symm HG2.out
          · rw [HOL.out, List.length_append]
            exact HO2.out.congr fun i j hi _ => app_list i hi
          · exact (Apart.app HAP.out.symm HAT2.out (fun q hq => by have := (O14.out.block hq).2; simp; omega)).symm
        case measure => simp [intOf]; omega
      · rw [hsv] at hs' hsl hol
        simp only [if_true, List.append_nil] at hsl hol
        have HS' := Lib.hid hs'
        have HSL := Lib.hid hsl
        have HOL := Lib.hid hol
        clear hs' hsv hsl hol
        go_wp2_with fail
        go_still_tail 10, (by kernel_rfl)
        change wpList _ _ _ _ _ wr.drew
        go_wp2_with fail
        refine (serves_any _ _ _ _ _ _ _ H0 H7).mono ?_
        rw [HS'.out]
        rintro e w4 ⟨rfl, hb4⟩
        have MP4 := Lib.hid (MP.out.drew.below hb4 MP.out.lt)
        have OG4 := Lib.hid (OG.out.drew.below hb4)
        have O14 := Lib.hid (O1.out.drew.below hb4)
        have O24 := Lib.hid (O2.out.drew.below hb4)
        have HBY4 := Lib.hid (HBY.out.drew.trans (hb4.mono hzr))
        have hXW4 := HB.out.trans (HBY4.out.mono hz)
        have q1 := (hXW4.cell (p := ⟨w.heap.size, 1, none⟩) hXs).trans (HK.out.cell 1)
        have d0 := (hXW4.cell (p := ⟨bb, bo + n * 3, none⟩) hbb).trans k0w
        have d1 := (hXW4.cell (p := ⟨bb, bo + n * 3 + 1, none⟩) hbb).trans k1w
        have d2 := (hXW4.cell (p := ⟨bb, bo + n * 3 + 2, none⟩) hbb).trans k2w
        have p1 := MP4.out.cell 1
        have hz4 := HBY4.out.size
        have hbs4 : bb < w4.heap.size := by omega
        have hP4 := MP4.out.lt
        clear hb4 hXW4
        have p1d : w4.drew.cell? ⟨P, 1, none⟩ = some (.slice sA (servedTo G H k n).length sc) := p1
        have p1a : (w4.drew.alloc (.cells #[.int .i64 (H n 0), .int .i64 (H n 1), .int .i64 (H n 2)] 32)).cell? ⟨P, 1, none⟩ = some (.slice sA (servedTo G H k n).length sc) := (((Below.refl w4.heap.size w4).drew.alloc (Nat.le_refl _) _).cell (p := ⟨P, 1, none⟩) hP4).trans p1
        go_wp2_with fail
        go_region_law (first
            | (refine step_cat (by rfl) (.tmp 252) (.tmp 258) 23 (by rfl) 32 bi _ 3 24 Try.underlying23 BI.out.1 BI.out.2.1 BI.out.2.2.1 BI.out.2.2.2 rfl (by omega) (by omega) (base := Y.heap.size) (by rfl) (O14.out.drew.alloc _) (by omega) (by simp; omega) (by rfl) (own_one3 (F := fun _ c => H n c) (Blk.new w4.drew 32 #[.int .i64 (H n 0), .int .i64 (H n 1), .int .i64 (H n 2)]) (Nat.le_refl _) rfl rfl rfl).rdK (by omega) ?_; intro v2 w2 o2 hg2 hat2; obtain ⟨A2, z2, rfl⟩ := o2.form; have m2 := (MP4.out.drew.alloc (.cells #[.int .i64 (H n 0), .int .i64 (H n 1), .int .i64 (H n 2)] 32)).grown hg2 (fun e => O14.out.ne_blk MP4.out (by decide) e.symm); have p12 := m2.cell 1; have f12 := m2.frz 1)
            | fail)
        all_goals
          have M2 := Lib.hid m2
          have HO2 := Lib.hid o2
          have HG2 := Lib.hid hg2
          have HAT2 := Lib.hid hat2
          clear o2 hg2 hat2 m2
          go_wp2_with fail
          go_roundw
          case rel =>
            have apG := OG4.out.drew.alloc (.cells #[.int .i64 (H n 0), .int .i64 (H n 1), .int .i64 (H n 2)] 32)
            refine ⟨n + 1, by omega, by go_num, _, M2.out.set_ 1 _, (apG.apart_grown (O14.out.apart_type OG4.out (by decide)) HG2.out).setCell (p := ⟨P, 1, none⟩) (OG4.out.ne_blk MP4.out (by decide)) _, ?_, ?_, ?_, ((HBY4.out.drew.alloc hz4 _).grown HG2.out (by simp; omega) (fun q hq => (O14.out.block hq).1)).setCell (p := ⟨P, 1, none⟩) hP _⟩
            · rw [HSL.out, List.length_append]
              exact (HO2.out.congr fun i j hi _ => cat_list i hi).setCell (p := ⟨P, 1, none⟩) (HO2.out.ne_blk M2.out (by decide)) _
            · rw [HOL.out]
              exact ((O24.out.drew.alloc _).apart_grown HAP.out HG2.out).setCell (p := ⟨P, 1, none⟩) (O24.out.ne_blk MP4.out (by decide)) _
            · exact Apart.app HAP.out HAT2.out (fun q hq => by have := (O24.out.block hq).2; simp; omega)
          case measure => simp [intOf]; omega
    · have OO1 := O1
      obtain rfl : n = bn := by omega
      have p0 := mP.cell 0
      have p1 := mP.cell 1
      obtain ⟨tA', tc', te, ht⟩ := o2.rd
      injection te with te _ _
      subst te
      have HT := Lib.hid ht
      have hlen := idx_len (G := G) (H := H) (g := k) (bn := n)
      rw [List.length_append] at hlen
      have fo := FO.out
      have fl := FL.out
      have fu := FU.out
      have fpo := payOk_pay fo fl
      clear mP oG o1 o2 hap hbY ht hXW
      go_wp2_with (at_builtin; go_must (refine wpList_cat rfl (.tmp 270) (.tmp 271) 23 rfl 32 bi _ 3 24 Try.underlying23 BI.out.1 BI.out.2.1 BI.out.2.2.1 BI.out.2.2.2 rfl (by omega) (by omega) rfl OO1.out (by omega) hzr rfl HT.out (by omega) ?_); intro v2 w2 o2 hg2 hat2; obtain ⟨A2, z2, rfl⟩ := o2.form; have m2 := MP.out.grown hg2 (fun e => OO1.out.ne_blk MP.out (by decide) e.symm); have p02 := m2.cell 0; have p12 := m2.cell 1; have f12 := m2.frz 1; have M2 := Lib.hid m2; have HO2 := Lib.hid o2; have HG2 := Lib.hid hg2; clear o2 hg2 hat2 m2)
      have o2' := HO2.out
      rw [hlen] at o2'
      have oH := (o2'.congr (F' := ints2 (firstH G H k n)) fun i j _ _ => cat_first i j).setCell (p := ⟨P, 1, none⟩) (o2'.ne_blk M2.out (by decide)) (.slice A2 n z2)
      have oG9 := (OG.out.apart_grown (OO1.out.apart_type OG.out (by decide)) HG2.out).setCell (p := ⟨P, 1, none⟩) (OG.out.ne_blk MP.out (by decide)) (.slice A2 n z2)
      have m9 := M2.out.set_ 1 (.slice A2 n z2)
      have b9 := (HBY.out.grown HG2.out hzr (fun q hq => (OO1.out.block hq).1)).setCell (p := ⟨P, 1, none⟩) hP (.slice A2 n z2)
      refine (pay_ok _ _ _ _ _ _ _ _ _ _ ⟨oG9.rdK, oH.rdK⟩ (Nat.le_refl _) (M.okF_iff.2 fo) fl).mono ?_
      rintro e w9 ⟨v9, F9, rfl, hrows, hb9⟩
      obtain ⟨A9, c9, rfl, hrr⟩ := hrows.rr
      obtain ⟨Pm, hPm⟩ : ∃ Pm, Pm = M.payAt (g + 1) n (s0 (firstG G k) (firstH G H k n) (g + 1)) := ⟨_, rfl⟩
      rw [← hPm] at hrr fu fpo
      have HRR := Lib.hid hrr
      have M9 := Lib.hid (m9.below hb9 m9.lt)
      have HB9 := Lib.hid (b9.trans (hb9.mono b9.size))
      have FU' := Lib.hid fu
      have SB := Lib.hid (fun j (hj : j ≤ n) => sum_bd (f := fun i => Pm i 0) (c := 1000000) (fun i hi => ⟨(fpo.cell i hi 0 (by omega)).1, (fpo.cell i hi 0 (by omega)).2.1⟩) j hj)
      have hz9 := HB9.out.size
      have hX9 : Below X.heap.size X w9 := HB.out.trans (HB9.out.mono hz)
      have HX9 := Lib.hid hX9
      have q1 := (hX9.cell (p := ⟨w.heap.size, 1, none⟩) hXs).trans (HK.out.cell 1)
      have p0 := M9.out.cell 0
      clear o2' oH oG9 m9 b9 hb9 hrows hrr fo fl fu fpo hPm hX9 p12 f12 p02
      go_wp2_with fail
      go_loopw [21, 22] (fun u i wr => ∃ j : Nat, j ≤ n ∧ i = .int .i64 j ∧ u = .int .i64 (M.sumTo j fun i => Pm i 0) ∧ Below w9.heap.size w9 wr) (fun _ i _ => n - (intOf i).toNat)
      case atStart => exact ⟨0, Nat.zero_le _, rfl, rfl, Below.refl _ _⟩
      case round =>
        clear q1 p0
        obtain ⟨j, hj, rfl, rfl, hbw⟩ := hrel
        have sb := SB.out j hj
        have HBW := Lib.hid hbw
        have hzw := hbw.size
        by_cases hltj : j < n
        · obtain ⟨rb, ro, rfl, hrb, eA, ec, x0w, hE⟩ := (HRR.out.below hbw).at_ hltj
          obtain ⟨eb, eo, rfl, heb, y0w⟩ := hE.at_ (show 0 < g + 1 by omega)
          have y0 : wr.cell? ⟨eb, eo, none⟩ = some (.int .i64 (Pm j 0)) := y0w
          have hPw : P < w9.heap.size := M9.out.lt
          have p0 := (hbw.cell (p := ⟨P, 0, none⟩) hPw).trans (M9.out.cell 0)
          have sb1 := SB.out (j + 1) hltj
          have hx : M.sumTo (j + 1) (fun i => Pm i 0) = M.sumTo j (fun i => Pm i 0) + Pm j 0 := rfl
          obtain ⟨u, hu⟩ : ∃ u, u = M.sumTo j (fun i => Pm i 0) := ⟨_, rfl⟩
          rw [← hu] at sb hx ⊢
          rw [hx] at sb1
          have HX := Lib.hid hx
          have hg0 : decide (g + 1 ≤ 0) = false := decide_eq_false (by omega)
          have hg1 : decide ((g : Int) + 1 ≤ 0) = false := decide_eq_false (by omega)
          clear hx hu hbw y0w
          go_wp2_with fail
          go_quiet (fail)
          go_wp2_with fail
          go_roundw
          case rel => exact ⟨j + 1, by omega, by go_num, by rw [HX.out], HBW.out.drewN _⟩
          case measure => simp [intOf]; omega
        · obtain rfl : j = n := by omega
          have fu := FU'.out
          obtain ⟨u, hu⟩ : ∃ u, u = M.sumTo j (fun i => Pm i 0) := ⟨_, rfl⟩
          rw [← hu] at sb fu ⊢
          have hXw : Below X.heap.size X wr := HX9.out.trans (hbw.mono (by have := HX9.out.size; omega))
          have q0 := (hXw.cell (p := ⟨w.heap.size, 0, none⟩) hXs).trans (HK.out.cell 0)
          have c2 := (hXw.cell (p := ⟨gb, go + k * 3 + 2, none⟩) hgb).trans c2w
          have l0 := (hXw.cell (p := ⟨lb, lo + k * 2, none⟩) hlb).trans l0w
          have HXW := Lib.hid (HWX.out.trans (hXw.mono (by omega)))
          have nk : decide (g ≤ k) = false := decide_eq_false (by omega)
          have hgs : gb < wr.heap.size := by have := hXw.size; omega
          have hls : lb < wr.heap.size := by have := hXw.size; omega
          have okg := OK.out.2.2.1 k hkg
          have fu2 : G k 2 - u = a0 := fu
          clear hu hbw hXw fu
          go_wp2_with fail
          refine wp_region_seq 0 15 (by kernel_rfl) (by kernel_rfl) fun R hRR => ?_
          simp only [List.take_succ_cons, List.take_zero, List.drop_succ_cons, List.drop_zero] at hRR ⊢
          have HRG := Lib.hid hRR
          clear hRR
          refine HRG.out _ _ ?_
          clear HRG
          repeat (go_big_quiet_step (fail))
          refine wpQuiet_nil ?_
          go_wp2_with (go_at_call 12; refine (works_any _).mono ?_; rintro e w8 ⟨rfl, hb8⟩; have HB8 := Lib.hid hb8; clear hb8)
          go_ret
          exact ⟨rfl, HXW.out.drewN _ |>.trans (HB8.out.mono (by have := HXW.out.size; simp; omega))⟩
end Go.Proofs.Ytaljmlkapbojeaa
