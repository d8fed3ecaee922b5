/- DriftWider, walked from its 7th statement on: the two Places, compared. -/
import Derived.Test.YtnbeembnnjdmdaaDoorHP
import Derived.Test.YtnbeembnnjdmdaaDoorLaW
import Derived.Test.YtnbeembnnjdmdaaDoorG2
import Derived.Test.YtnbeembnnjdmdaaDoorG4
import Derived.Test.YtnbeembnnjdmdaaDoorE10
namespace Go.Proofs.YtnbeembnnjdmdaaDoor
open Go.RowKit Go.Maps

theorem anyTo_mem' {L : List Int} {x : Int} (h : x ∈ L) : M.anyTo L.length (fun i => decide (L.getD i 0 = x)) = true := by
 rw [M.anyTo_iff]
 obtain ⟨i, hi, rfl⟩ := List.getElem_of_mem h
 exact ⟨i, hi, decide_eq_true (by rw [List.getD_eq_getElem?_getD, List.getElem?_eq_getElem hi, Option.getD_some])⟩
def WidR (w : World) (e : Ending) (w' : World) : Prop := e = .returned (.bool true) ∧ Below w.heap.size w w'
section
variable {d : M.Dr} {zA cA wA dA tA sA xA hA zA' cA' wA' dA' tA' sA' yA : Option Addr} {cl : Nat → Nat} {B dc tc sc zc cc wc xc hn hc ta dc' tc' sc' zc' cc' wc' yc cq P3 P4 P5 P7 P8 : Nat} {lo hi ylo yhi D S : Int} {xL yL : List Int} {Xs : Nat → SgV} {w X : World}
set_option maxRecDepth 100000 in
set_option maxHeartbeats 12800000 in
theorem wider_tail {v0 v1 v2 v9 v10 v11 v12 v13 v14 v15 v16 v17 v18 v19 v20 v21 v22 v23 v24 v25 v26 v27 v28 v29 v30 v31 v32 v33 v34 v35 v36 v37 v38 v39 v40 v41 v42 v43 v44 v45 v46 v47 v48 v49 v50 v51 v52 v53 v54 v55 v56 v57 v58 v59 v60 v61 v62 v63 v64 v65 v66 v67 v68 v69 v70 v71 v72 v73 v74 v75 v76 v77 v78 v79 v80 v81 v82 v83 v84 v85 v86 v87 v88 v89 v90 v91 v92 v93 v94 v95 v96 v97 v98 v99 v100 v101 v102 v103 v104 v105 v106 v107 v108 v109 v110 v111 v112 v113 v114 v115 v116 v117 v118 v119 v120 v121 v122 v123 v124 v125 v126 v127 v128 v129 v130 v131 v132 v133 v134 v135 v136 v137 v138 v139 v140 v141 v142 v143 v144 v145 v146 v147 v148 v149 v150 v151 v152 v153 v154 v155 v156 v157 v158 v159 v160 v161 v162 v163 v164 v165 v166 v167 v168 v169 v170 v171 v172 v173 v174 v175 v176 v177 v178 v179 v180 v181 v182 v183 v184 v185 v186 v187 v188 v189 v190 v191 v192 v193 v194 v195 v196 v197 v198 v199 v200 v201 v202 v203 v204 v205 v206 v207 v208 v209 v210 v211 v212 v213 v214 v215 v216 v217 v218 v219 v220 v221 v222 v223 v224 v225 v226 v227 v228 v229 v230 v231 v232 v233 v234 v235 v236 v237 v238 v239 v240 v241 v242 v243 v244 v245 v246 v247 v248 v249 v250 v251 v252 v253 v254 v255 v256 v257 v258 v259 v260 v261 v262 v263 v264 v265 v266 v267 v268 v269 v270 v271 v272 v273 v274 : Value} (hd : d.Ok) (hcl : ∀ i, i < d.nz → cl i + 1 = d.s.nt) (hR : RdD w B dA tA sA zA cA wA d.s.nd d.s.nt d.s.nt d.s.nd d.nz (d.s.nt - 1) d.s.dep d.s.tide d.s.sw d.z cl d.cu d.wd) (hB : B ≤ w.heap.size) (hW : Ways w) (hF : Fre w) (hx3 : Rd1 w B xA xL.length (fun k => xL.getD k 0)) (hx4 : xL.length ≤ maxLen) (hRS : RdS w B hA hn Xs) (hhn : hn ≤ maxLen)
  (hXo : chkX d.s.nd d.s.nt (ta : Int) lo hi xL = true) (hSo : chkS d.s.nd d.s.nt (ta : Int) hn Xs = true) (hD : 0 ≤ D ∧ D ≤ 63) (hS : 0 ≤ S ∧ S ≤ 3) (hY : chkX d.s.nd d.s.nt (ta : Int) ylo yhi yL = true) (h1 : ylo ≤ lo) (h2 : hi ≤ yhi) (hsub : ∀ c, c ∈ xL → c ∈ yL) (hyl : yL.length ≤ maxLen)
  (hX : Below w.heap.size w X) (B3 : Blk X P3 29 #[.int .i64 (d.s.W : Int), .int .i64 (d.s.H : Int), .slice dA d.s.nd dc, .slice tA d.s.nt tc, .slice sA d.s.nt sc, .slice zA d.s.nd zc, .slice cA d.nz cc, .slice wA (d.s.nt - 1) wc]) (B4 : Blk X P4 33 #[.int .i64 (ta : Int), .slice xA xL.length xc, .int .i64 lo, .int .i64 hi]) (B5 : Blk X P5 36 #[.slice hA hn hc, .int .i64 D, .int .i64 S, .int .i64 (cq : Int), .int .i64 ylo, .int .i64 yhi]) (B7 : Blk X P7 29 #[.int .i64 (d.s.W : Int), .int .i64 (d.s.H : Int), .slice dA' d.s.nd dc', .slice tA' d.s.nt tc', .slice sA' d.s.nt sc', .slice zA' d.s.nd zc', .slice cA' d.nz cc', .slice wA' (d.s.nt - 1) wc']) (B8 : Blk X P8 33 #[.int .i64 (ta : Int), .slice yA yL.length yc, .int .i64 ylo, .int .i64 yhi])
  (hR7 : RdD X X.heap.size dA' tA' sA' zA' cA' wA' d.s.nd d.s.nt d.s.nt d.s.nd d.nz (d.s.nt - 1) d.s.dep d.s.tide d.s.sw d.z cl (d.wide D S).cu (d.wide D S).wd) (hy3 : Rd1 X X.heap.size yA yL.length (fun k => yL.getD k 0)) :
  Code.wp Tryd.prog (restAt Tryd.f3 7) (bodyPost Tryd.prog Tryd.f3 (WidR w)) { tmps := List.toArray (v0 :: v1 :: v2 :: .pointer (some ⟨P3, 0, none⟩) :: .pointer (some ⟨P4, 0, none⟩) :: .pointer (some ⟨P5, 0, none⟩) :: .bool false :: .pointer (some ⟨P7, 0, none⟩) :: .pointer (some ⟨P8, 0, none⟩) :: v9 :: v10 :: v11 :: v12 :: v13 :: v14 :: v15 :: v16 :: v17 :: v18 :: v19 :: v20 :: v21 :: v22 :: v23 :: v24 :: v25 :: v26 :: v27 :: v28 :: v29 :: v30 :: v31 :: v32 :: v33 :: v34 :: v35 :: v36 :: v37 :: v38 :: v39 :: v40 :: v41 :: v42 :: v43 :: v44 :: v45 :: v46 :: v47 :: v48 :: v49 :: v50 :: v51 :: v52 :: v53 :: v54 :: v55 :: v56 :: v57 :: v58 :: v59 :: v60 :: v61 :: v62 :: v63 :: v64 :: v65 :: v66 :: v67 :: v68 :: v69 :: v70 :: v71 :: v72 :: v73 :: v74 :: v75 :: v76 :: v77 :: v78 :: v79 :: v80 :: v81 :: v82 :: v83 :: v84 :: v85 :: v86 :: v87 :: v88 :: v89 :: v90 :: v91 :: v92 :: v93 :: v94 :: v95 :: v96 :: v97 :: v98 :: v99 :: v100 :: v101 :: v102 :: v103 :: v104 :: v105 :: v106 :: v107 :: v108 :: v109 :: v110 :: v111 :: v112 :: v113 :: v114 :: v115 :: v116 :: v117 :: v118 :: v119 :: v120 :: v121 :: v122 :: v123 :: v124 :: v125 :: v126 :: v127 :: v128 :: v129 :: v130 :: v131 :: v132 :: v133 :: v134 :: v135 :: v136 :: v137 :: v138 :: v139 :: v140 :: v141 :: v142 :: v143 :: v144 :: v145 :: v146 :: v147 :: v148 :: v149 :: v150 :: v151 :: v152 :: v153 :: v154 :: v155 :: v156 :: v157 :: v158 :: v159 :: v160 :: v161 :: v162 :: v163 :: v164 :: v165 :: v166 :: v167 :: v168 :: v169 :: v170 :: v171 :: v172 :: v173 :: v174 :: v175 :: v176 :: v177 :: v178 :: v179 :: v180 :: v181 :: v182 :: v183 :: v184 :: v185 :: v186 :: v187 :: v188 :: v189 :: v190 :: v191 :: v192 :: v193 :: v194 :: v195 :: v196 :: v197 :: v198 :: v199 :: v200 :: v201 :: v202 :: v203 :: v204 :: v205 :: v206 :: v207 :: v208 :: v209 :: v210 :: v211 :: v212 :: v213 :: v214 :: v215 :: v216 :: v217 :: v218 :: v219 :: v220 :: v221 :: v222 :: v223 :: v224 :: v225 :: v226 :: v227 :: v228 :: v229 :: v230 :: v231 :: v232 :: v233 :: v234 :: v235 :: v236 :: v237 :: v238 :: v239 :: v240 :: v241 :: v242 :: v243 :: v244 :: v245 :: v246 :: v247 :: v248 :: v249 :: v250 :: v251 :: v252 :: v253 :: v254 :: v255 :: v256 :: v257 :: v258 :: v259 :: v260 :: v261 :: v262 :: v263 :: v264 :: v265 :: v266 :: v267 :: v268 :: v269 :: v270 :: v271 :: v272 :: v273 :: v274 :: []), defers := [] } X := by
 have h60 := hd.s.t2
 have h1n := hd.s.t1
 have hnd2 := hd.s.nd1
 obtain ⟨⟨ha1, ha2⟩, hxl, ⟨hx1, hx2⟩, hl1, hl2, hl3⟩ := chkX_bd hXo
 clear hxl hx1 hx2
 obtain ⟨m, hm⟩ : ∃ m, m = d.s.nt - ta := ⟨_, rfl⟩
 have HM1 := Lib.hid (show ta + m = d.s.nt by omega)
 have hm60 : m ≤ 60 := by omega
 obtain ⟨pl1, hpl1⟩ : ∃ f, f = plcL d ta m hn xL Xs lo hi := ⟨_, rfl⟩
 obtain ⟨pl2, hpl2⟩ : ∃ f, f = plcL (d.wide D S) ta m hn yL Xs ylo yhi := ⟨_, rfl⟩
 have HWK := Lib.hid (fun (V : World) (hb : Below w.heap.size w V) => works_any V (hW.below hb))
 have HP1 := Lib.hid (fun (V : World) (hb : Below w.heap.size w V) => plcs_rows (dc := dc) (tc := tc) (sc := sc) (zc := zc) (cc := cc) (wc := wc) (xc := xc) (hc := hc) hd hcl (hR.below (hb.mono hB)) (Nat.le_trans hB hb.size) (hW.below hb) (hx3.below (hb.mono hB)) hx4 (hRS.below (hb.mono hB)) hhn (hF.below hb) hXo hSo)
 have HP2 := Lib.hid (fun (V : World) (hb : Below X.heap.size X V) => show Calls Tryd.prog 10 #[.agg #[.int .i64 (d.s.W : Int), .int .i64 (d.s.H : Int), .slice dA' d.s.nd dc', .slice tA' d.s.nt tc', .slice sA' d.s.nt sc', .slice zA' d.s.nd zc', .slice cA' d.nz cc', .slice wA' (d.s.nt - 1) wc'], .agg #[.int .i64 (ta : Int), .slice yA yL.length yc, .int .i64 ylo, .int .i64 yhi], .slice hA hn hc] V fun e w' => Below V.heap.size V w' ∧ ((strP (d.wide D S) (ta : Int) ylo yhi yL hn Xs 0 (-1) = false ∧ e = .returned (.tuple #[.slice none 0 0, .int .i64 3])) ∨ (strP (d.wide D S) (ta : Int) ylo yhi yL hn Xs 0 (-1) = true ∧ ∃ ow U, e = .returned (.tuple #[.slice (some ⟨ow, 0, none⟩) (d.s.nt - ta) (d.s.nt - ta), .int .i64 0]) ∧ Rws w' ow (d.s.nt - ta) U (plcL (d.wide D S) ta (d.s.nt - ta) hn yL Xs ylo yhi))) from
  plcs_rows (d := d.wide D S) (dc := dc') (tc := tc') (sc := sc') (zc := zc') (cc := cc') (wc := wc') (xc := yc) (hc := hc) (hd.wide hD hS) hcl ((hR7.below hb).more hb.size) (Nat.le_refl _) (hW.below (hX.trans (hb.mono hX.size))) ((hy3.below hb).more hb.size) hyl ((hRS.below ((hX.trans (hb.mono hX.size)).mono hB)).more (Nat.le_trans hB (hX.trans (hb.mono hX.size)).size)) hhn (hF.below (hX.trans (hb.mono hX.size))) hY hSo)
 rw [← hm] at HP1 HP2
 rw [← hpl1] at HP1
 rw [← hpl2] at HP2
 have HS2 := Lib.hid (show strP d (ta : Int) lo hi xL hn Xs 0 (-1) = true → strP (d.wide D S) (ta : Int) ylo yhi yL hn Xs 0 (-1) = true from strP_wider hd (by omega) h1 h2 hsub)
 have HSU := Lib.hid (show ∀ k, k < m → ∀ q, q < (pl1 k).length → (pl1 k).getD q 0 ∈ pl2 k from fun k hk q hq => by
  rw [hpl2]
  refine plc_wider hd (by omega) h1 h2 hsub hk ?_
  rw [← hpl1, List.getD_eq_getElem?_getD, List.getElem?_eq_getElem hq, Option.getD_some]
  exact List.getElem_mem hq)
 have HPN1 := Lib.hid (show ∀ k, (pl1 k).length ≤ 1000 from fun k => by rw [hpl1]; have := M.listB_len d.s.nd (plcB d ta m hn xL Xs lo hi k); show (M.listB _ _).length ≤ _; omega)
 have HPN2 := Lib.hid (show ∀ k, (pl2 k).length ≤ maxLen from fun k => by rw [hpl2]; have := M.listB_len d.s.nd (plcB (d.wide D S) ta m hn yL Xs ylo yhi k); show (M.listB d.s.nd _).length ≤ _; unfold maxLen; omega)
 obtain ⟨q1, hq1⟩ : ∃ q, q = strP d (ta : Int) lo hi xL hn Xs 0 (-1) := ⟨_, rfl⟩
 obtain ⟨q2, hq2⟩ : ∃ q, q = strP (d.wide D S) (ta : Int) ylo yhi yL hn Xs 0 (-1) := ⟨_, rfl⟩
 rw [← hq1] at HP1 HS2
 rw [← hq2] at HP2 HS2
 clear hq1 hq2 hpl1 hpl2 hm hd hcl hR hB hW hF hx3 hRS hXo hSo hY hsub hR7 hy3 hD hS h1 h2
 have HX0 := Lib.hid (Below.refl X.heap.size X)
 have HB2 := Lib.hid hX
 have K2 := Lib.hid B3
 have X2 := Lib.hid B4
 have Z2 := Lib.hid B5
 have C2 := Lib.hid B7
 have Y2 := Lib.hid B8
 clear hX B3 B4 B5 B7 B8
 obtain ⟨w2, hw2⟩ : ∃ w2, w2 = X := ⟨_, rfl⟩
 have HY2 := Lib.hid (show Below X.heap.size X w2 by rw [hw2]; exact HX0.out)
 rw [← hw2] at HB2 K2 X2 Z2 C2 Y2 ⊢
 clear hw2 HX0
 conv in restAt _ _ => whnf
 cases q1
 ·
  cases q2
  ·
   have HSX := Lib.hid (show Calls Tryd.prog 10 #[.agg #[.int .i64 (d.s.W : Int), .int .i64 (d.s.H : Int), .slice dA d.s.nd dc, .slice tA d.s.nt tc, .slice sA d.s.nt sc, .slice zA d.s.nd zc, .slice cA d.nz cc, .slice wA (d.s.nt - 1) wc], .agg #[.int .i64 (ta : Int), .slice xA xL.length xc, .int .i64 lo, .int .i64 hi], .slice hA hn hc] w2 fun e w' => e = .returned (.tuple #[.slice none 0 0, .int .i64 3]) ∧ Below w2.heap.size w2 w' from (HP1.out w2 HB2.out).mono fun e w' h => by
    obtain ⟨hb, h⟩ := h
    rcases h with ⟨_, h1⟩ | ⟨h1, _⟩
    · exact ⟨h1, hb⟩
    · cases h1)
   have k0 := K2.out.cell 0
   have k1 := K2.out.cell 1
   have k2 := K2.out.cell 2
   have k3 := K2.out.cell 3
   have k4 := K2.out.cell 4
   have k5 := K2.out.cell 5
   have k6 := K2.out.cell 6
   have k7 := K2.out.cell 7
   have x0 := X2.out.cell 0
   have x1 := X2.out.cell 1
   have x2 := X2.out.cell 2
   have x3 := X2.out.cell 3
   have z0 := Z2.out.cell 0
   go_wp2_with fail
   refine HSX.out.mono ?_
   rintro e w3 ⟨rfl, hb⟩
   have HB3 := Lib.hid (HB2.out.trans (hb.mono HB2.out.size))
   have HY3 := Lib.hid (HY2.out.trans (hb.mono HY2.out.size))
   have Z3 := Lib.hid (Z2.out.below' hb)
   have C3 := Lib.hid (C2.out.below' hb)
   have Y3 := Lib.hid (Y2.out.below' hb)
   clear HP1
   clear k0 k1 k2 k3 k4 k5 k6 k7 x0 x1 x2 x3 z0
   clear hb HSX HB2 HY2 K2 X2 Z2 C2 Y2
   have HSX := Lib.hid (show Calls Tryd.prog 10 #[.agg #[.int .i64 (d.s.W : Int), .int .i64 (d.s.H : Int), .slice dA' d.s.nd dc', .slice tA' d.s.nt tc', .slice sA' d.s.nt sc', .slice zA' d.s.nd zc', .slice cA' d.nz cc', .slice wA' (d.s.nt - 1) wc'], .agg #[.int .i64 (ta : Int), .slice yA yL.length yc, .int .i64 ylo, .int .i64 yhi], .slice hA hn hc] w3 fun e w' => e = .returned (.tuple #[.slice none 0 0, .int .i64 3]) ∧ Below w3.heap.size w3 w' from (HP2.out w3 HY3.out).mono fun e w' h => by
    obtain ⟨hb, h⟩ := h
    rcases h with ⟨_, h1⟩ | ⟨h1, _⟩
    · exact ⟨h1, hb⟩
    · cases h1)
   have k0 := C3.out.cell 0
   have k1 := C3.out.cell 1
   have k2 := C3.out.cell 2
   have k3 := C3.out.cell 3
   have k4 := C3.out.cell 4
   have k5 := C3.out.cell 5
   have k6 := C3.out.cell 6
   have k7 := C3.out.cell 7
   have x0 := Y3.out.cell 0
   have x1 := Y3.out.cell 1
   have x2 := Y3.out.cell 2
   have x3 := Y3.out.cell 3
   have z0 := Z3.out.cell 0
   go_wp2_with fail
   refine HSX.out.mono ?_
   rintro e w4 ⟨rfl, hb⟩
   have HB4 := Lib.hid (HB3.out.trans (hb.mono HB3.out.size))
   have HY4 := Lib.hid (HY3.out.trans (hb.mono HY3.out.size))
   clear HP2
   clear k0 k1 k2 k3 k4 k5 k6 k7 x0 x1 x2 x3 z0
   clear hb HSX HB3 HY3  Z3 C3 Y3
   have HWX := Lib.hid (HWK.out w4 HB4.out)
   go_wp2_with fail
   refine HWX.out.mono ?_
   rintro e wz ⟨rfl, hb⟩
   have HBZ := Lib.hid (HB4.out.trans (hb.mono HB4.out.size))
   clear hb
   go_wp2_with fail
   go_ret
   exact ⟨rfl, HBZ.out⟩
  ·
   have HSX := Lib.hid (show Calls Tryd.prog 10 #[.agg #[.int .i64 (d.s.W : Int), .int .i64 (d.s.H : Int), .slice dA d.s.nd dc, .slice tA d.s.nt tc, .slice sA d.s.nt sc, .slice zA d.s.nd zc, .slice cA d.nz cc, .slice wA (d.s.nt - 1) wc], .agg #[.int .i64 (ta : Int), .slice xA xL.length xc, .int .i64 lo, .int .i64 hi], .slice hA hn hc] w2 fun e w' => e = .returned (.tuple #[.slice none 0 0, .int .i64 3]) ∧ Below w2.heap.size w2 w' from (HP1.out w2 HB2.out).mono fun e w' h => by
    obtain ⟨hb, h⟩ := h
    rcases h with ⟨_, h1⟩ | ⟨h1, _⟩
    · exact ⟨h1, hb⟩
    · cases h1)
   have k0 := K2.out.cell 0
   have k1 := K2.out.cell 1
   have k2 := K2.out.cell 2
   have k3 := K2.out.cell 3
   have k4 := K2.out.cell 4
   have k5 := K2.out.cell 5
   have k6 := K2.out.cell 6
   have k7 := K2.out.cell 7
   have x0 := X2.out.cell 0
   have x1 := X2.out.cell 1
   have x2 := X2.out.cell 2
   have x3 := X2.out.cell 3
   have z0 := Z2.out.cell 0
   go_wp2_with fail
   refine HSX.out.mono ?_
   rintro e w3 ⟨rfl, hb⟩
   have HB3 := Lib.hid (HB2.out.trans (hb.mono HB2.out.size))
   have HY3 := Lib.hid (HY2.out.trans (hb.mono HY2.out.size))
   have Z3 := Lib.hid (Z2.out.below' hb)
   have C3 := Lib.hid (C2.out.below' hb)
   have Y3 := Lib.hid (Y2.out.below' hb)
   clear HP1
   clear k0 k1 k2 k3 k4 k5 k6 k7 x0 x1 x2 x3 z0
   clear hb HSX HB2 HY2 K2 X2 Z2 C2 Y2
   have HSX := Lib.hid (show Calls Tryd.prog 10 #[.agg #[.int .i64 (d.s.W : Int), .int .i64 (d.s.H : Int), .slice dA' d.s.nd dc', .slice tA' d.s.nt tc', .slice sA' d.s.nt sc', .slice zA' d.s.nd zc', .slice cA' d.nz cc', .slice wA' (d.s.nt - 1) wc'], .agg #[.int .i64 (ta : Int), .slice yA yL.length yc, .int .i64 ylo, .int .i64 yhi], .slice hA hn hc] w3 fun e w' => (∃ ow U, e = .returned (.tuple #[.slice (some ⟨ow, 0, none⟩) m m, .int .i64 0]) ∧ Rws w' ow m U pl2) ∧ Below w3.heap.size w3 w' from (HP2.out w3 HY3.out).mono fun e w' h => by
    obtain ⟨hb, h⟩ := h
    rcases h with ⟨h1, _⟩ | ⟨_, h1⟩
    · cases h1
    · exact ⟨h1, hb⟩)
   have k0 := C3.out.cell 0
   have k1 := C3.out.cell 1
   have k2 := C3.out.cell 2
   have k3 := C3.out.cell 3
   have k4 := C3.out.cell 4
   have k5 := C3.out.cell 5
   have k6 := C3.out.cell 6
   have k7 := C3.out.cell 7
   have x0 := Y3.out.cell 0
   have x1 := Y3.out.cell 1
   have x2 := Y3.out.cell 2
   have x3 := Y3.out.cell 3
   have z0 := Z3.out.cell 0
   go_wp2_with fail
   refine HSX.out.mono ?_
   rintro e w4 ⟨⟨ow2, U2, rfl, hr⟩, hb⟩
   have HB4 := Lib.hid (HB3.out.trans (hb.mono HB3.out.size))
   have HY4 := Lib.hid (HY3.out.trans (hb.mono HY3.out.size))
   have R2 := Lib.hid hr
   clear hr
   clear HP2
   clear k0 k1 k2 k3 k4 k5 k6 k7 x0 x1 x2 x3 z0
   clear hb HSX HB3 HY3  Z3 C3 Y3
   clear R2
   have HWX := Lib.hid (HWK.out w4 HB4.out)
   go_wp2_with fail
   refine HWX.out.mono ?_
   rintro e wz ⟨rfl, hb⟩
   have HBZ := Lib.hid (HB4.out.trans (hb.mono HB4.out.size))
   clear hb
   go_wp2_with fail
   go_ret
   exact ⟨rfl, HBZ.out⟩
 ·
  obtain rfl : q2 = true := HS2.out rfl
  have HSX := Lib.hid (show Calls Tryd.prog 10 #[.agg #[.int .i64 (d.s.W : Int), .int .i64 (d.s.H : Int), .slice dA d.s.nd dc, .slice tA d.s.nt tc, .slice sA d.s.nt sc, .slice zA d.s.nd zc, .slice cA d.nz cc, .slice wA (d.s.nt - 1) wc], .agg #[.int .i64 (ta : Int), .slice xA xL.length xc, .int .i64 lo, .int .i64 hi], .slice hA hn hc] w2 fun e w' => (∃ ow U, e = .returned (.tuple #[.slice (some ⟨ow, 0, none⟩) m m, .int .i64 0]) ∧ Rws w' ow m U pl1) ∧ Below w2.heap.size w2 w' from (HP1.out w2 HB2.out).mono fun e w' h => by
   obtain ⟨hb, h⟩ := h
   rcases h with ⟨h1, _⟩ | ⟨_, h1⟩
   · cases h1
   · exact ⟨h1, hb⟩)
  have k0 := K2.out.cell 0
  have k1 := K2.out.cell 1
  have k2 := K2.out.cell 2
  have k3 := K2.out.cell 3
  have k4 := K2.out.cell 4
  have k5 := K2.out.cell 5
  have k6 := K2.out.cell 6
  have k7 := K2.out.cell 7
  have x0 := X2.out.cell 0
  have x1 := X2.out.cell 1
  have x2 := X2.out.cell 2
  have x3 := X2.out.cell 3
  have z0 := Z2.out.cell 0
  go_wp2_with fail
  refine HSX.out.mono ?_
  rintro e w3 ⟨⟨ow1, U1, rfl, hr⟩, hb⟩
  have HB3 := Lib.hid (HB2.out.trans (hb.mono HB2.out.size))
  have HY3 := Lib.hid (HY2.out.trans (hb.mono HY2.out.size))
  have Z3 := Lib.hid (Z2.out.below' hb)
  have C3 := Lib.hid (C2.out.below' hb)
  have Y3 := Lib.hid (Y2.out.below' hb)
  have R1 := Lib.hid hr
  clear hr
  clear HP1
  clear k0 k1 k2 k3 k4 k5 k6 k7 x0 x1 x2 x3 z0
  clear hb HSX HB2 HY2 K2 X2 Z2 C2 Y2
  have HSX := Lib.hid (show Calls Tryd.prog 10 #[.agg #[.int .i64 (d.s.W : Int), .int .i64 (d.s.H : Int), .slice dA' d.s.nd dc', .slice tA' d.s.nt tc', .slice sA' d.s.nt sc', .slice zA' d.s.nd zc', .slice cA' d.nz cc', .slice wA' (d.s.nt - 1) wc'], .agg #[.int .i64 (ta : Int), .slice yA yL.length yc, .int .i64 ylo, .int .i64 yhi], .slice hA hn hc] w3 fun e w' => (∃ ow U, e = .returned (.tuple #[.slice (some ⟨ow, 0, none⟩) m m, .int .i64 0]) ∧ Rws w' ow m U pl2) ∧ Below w3.heap.size w3 w' from (HP2.out w3 HY3.out).mono fun e w' h => by
   obtain ⟨hb, h⟩ := h
   rcases h with ⟨h1, _⟩ | ⟨_, h1⟩
   · cases h1
   · exact ⟨h1, hb⟩)
  have k0 := C3.out.cell 0
  have k1 := C3.out.cell 1
  have k2 := C3.out.cell 2
  have k3 := C3.out.cell 3
  have k4 := C3.out.cell 4
  have k5 := C3.out.cell 5
  have k6 := C3.out.cell 6
  have k7 := C3.out.cell 7
  have x0 := Y3.out.cell 0
  have x1 := Y3.out.cell 1
  have x2 := Y3.out.cell 2
  have x3 := Y3.out.cell 3
  have z0 := Z3.out.cell 0
  go_wp2_with fail
  refine HSX.out.mono ?_
  rintro e w4 ⟨⟨ow2, U2, rfl, hr⟩, hb⟩
  have HB4 := Lib.hid (HB3.out.trans (hb.mono HB3.out.size))
  have HY4 := Lib.hid (HY3.out.trans (hb.mono HY3.out.size))
  have R1 := Lib.hid (R1.out.below hb)
  have R2 := Lib.hid hr
  clear hr
  clear HP2
  clear k0 k1 k2 k3 k4 k5 k6 k7 x0 x1 x2 x3 z0
  clear hb HSX HB3 HY3  Z3 C3 Y3
  have HI8 := Lib.hid (show Below w.heap.size w w4 ∧ Rws w4 ow1 m U1 pl1 ∧ Rws w4 ow2 m U2 pl2 from ⟨HB4.out, R1.out, R2.out⟩)
  clear HB4 HY4 R1 R2 HS2
  go_wp2_with fail
  go_loopw [16] (fun i wr => ∃ k : Nat, k ≤ m ∧ i = .int .i64 (k : Int) ∧ Hid (Below w.heap.size w wr ∧ Rws wr ow1 m U1 pl1 ∧ Rws wr ow2 m U2 pl2)) (fun i _ => m - (intOf i).toNat)
  case atStart => exact ⟨0, Nat.zero_le _, rfl, HI8⟩
  case round =>
   obtain ⟨k, hk, rfl, HS⟩ := hrel
   clear HI8
   by_cases hlt : k < m
   ·
    have g1 : decide (k < m) = true := decide_eq_true hlt
    have HKM := Lib.hid hlt
    go_wp2_with fail
    go_loopw [17] (fun i wr => ∃ q : Nat, q ≤ (pl1 k).length ∧ i = .int .i64 (q : Int) ∧ Hid (Below w.heap.size w wr ∧ Rws wr ow1 m U1 pl1 ∧ Rws wr ow2 m U2 pl2)) (fun i _ => (pl1 k).length - (intOf i).toNat)
    case atStart => exact ⟨0, Nat.zero_le _, rfl, HS⟩
    case round =>
     obtain ⟨q, hq, rfl, HT⟩ := hrel
     clear HS
     obtain ⟨yA1, yc1, hy, hyr⟩ := HT.out.2.1.r k hlt
     have c0 : wr.cell? ⟨ow1, k, none⟩ = some (.slice yA1 (pl1 k).length yc1) := by rw [← hy]; exact HT.out.2.1.c k hlt
     have hpn1 := HPN1.out k
     by_cases hlq : q < (pl1 k).length
     ·
      have g2 : decide (q < (pl1 k).length) = true := decide_eq_true hlq
      obtain ⟨aA, ac, ha, har⟩ := HT.out.2.2.r k hlt
      have c1 : wr.cell? ⟨ow2, k, none⟩ = some (.slice aA (pl2 k).length ac) := by rw [← ha]; exact HT.out.2.2.c k hlt
      obtain ⟨yb, yo, rfl, hyb, c2o⟩ := hyr.at_ hlq
      obtain ⟨z, hz⟩ : ∃ z, z = (pl1 k).getD q 0 := ⟨_, rfl⟩
      have HZM := Lib.hid (show z ∈ pl2 k from by rw [hz]; exact HSU.out k HKM.out q hlq)
      have c2 : wr.cell? ⟨yb, yo + q, none⟩ = some (.int .i64 z) := by rw [hz]; exact c2o
      clear hz c2o
      have HYD := Lib.hid (show Rd1 wr.drew wr.drew.heap.size aA (pl2 k).length (fun j => (pl2 k).getD j 0) from har)
      have HLT := Lib.hid (show ow2 < wr.drew.heap.size ∧ ow1 < wr.drew.heap.size ∧ yb < wr.drew.heap.size from ⟨HT.out.2.2.lt, HT.out.2.1.lt, hyb⟩)
      have HC := Lib.hid (And.intro c1 (And.intro c0 c2))
      clear hy hyr ha har hyb
      go_upto_region 33 with fail
      refine wp_nopanic ?_
      refine wp_region_T 12 (fun Z2 => Z2.cell? ⟨ow2, k, none⟩ = some (.slice aA (pl2 k).length ac) ∧ Z2.cell? ⟨ow1, k, none⟩ = some (.slice (some ⟨yb, yo, none⟩) (pl1 k).length yc1) ∧ Z2.cell? ⟨yb, yo + q, none⟩ = some (.int .i64 z)) (by kernel_rfl) HC.out ?_
      clear c0 c1 c2
      intro hS
      refine wpAnyT_take (i := 0) (v := ?_) rfl (by kernel_rfl) (by kernel_rfl) (by kernel_rfl) (by kernel_rfl) (by kernel_rfl) (fun _ _ _ h => absurd rfl (h.1 _)) (.inl ⟨by kernel_rfl, ?_⟩) hS ?_
      rotate_left
      · (intro w' hw; obtain ⟨h1, h2, h3⟩ := hw; go_simp; try with_reducible rfl)
      try simp only [put_laws]
      refine wpAnyT_take (i := 1) (v := ?_) rfl (by kernel_rfl) (by kernel_rfl) (by kernel_rfl) (by kernel_rfl) (by kernel_rfl) (fun _ _ _ h => absurd rfl (h.1 _)) (.inl ⟨by kernel_rfl, ?_⟩) hS ?_
      rotate_left
      · (intro w' hw; obtain ⟨h1, h2, h3⟩ := hw; go_simp; try with_reducible rfl)
      try simp only [put_laws]
      refine wpAnyT_take (i := 2) (v := ?_) rfl (by kernel_rfl) (by kernel_rfl) (by kernel_rfl) (by kernel_rfl) (by kernel_rfl) (fun _ _ _ h => absurd rfl (h.1 _)) (.inl ⟨by kernel_rfl, ?_⟩) hS ?_
      rotate_left
      · (intro w' hw; obtain ⟨h1, h2, h3⟩ := hw; go_simp; try with_reducible rfl)
      try simp only [put_laws]
      refine wpAnyT_take (i := 3) (v := ?_) rfl (by kernel_rfl) (by kernel_rfl) (by kernel_rfl) (by kernel_rfl) (by kernel_rfl) (fun _ _ _ h => absurd rfl (h.1 _)) (.inl ⟨by kernel_rfl, ?_⟩) hS ?_
      rotate_left
      · (intro w' hw; obtain ⟨h1, h2, h3⟩ := hw; go_simp; try with_reducible rfl)
      try simp only [put_laws]
      refine wpAnyT_take (i := 4) (v := ?_) rfl (by kernel_rfl) (by kernel_rfl) (by kernel_rfl) (by kernel_rfl) (by kernel_rfl) (fun _ _ _ h => absurd rfl (h.1 _)) (.inl ⟨by kernel_rfl, ?_⟩) hS ?_
      rotate_left
      · (intro w' hw; obtain ⟨h1, h2, h3⟩ := hw; go_simp; try with_reducible rfl)
      try simp only [put_laws]
      refine wpAnyT_take (i := 5) (v := ?_) rfl (by kernel_rfl) (by kernel_rfl) (by kernel_rfl) (by kernel_rfl) (by kernel_rfl) (fun _ _ _ h => absurd rfl (h.1 _)) (.inl ⟨by kernel_rfl, ?_⟩) hS ?_
      rotate_left
      · (intro w' hw; obtain ⟨h1, h2, h3⟩ := hw; go_simp; try with_reducible rfl)
      try simp only [put_laws]
      refine wpAnyT_take (i := 6) (v := ?_) rfl (by kernel_rfl) (by kernel_rfl) (by kernel_rfl) (by kernel_rfl) (by kernel_rfl) (fun _ _ _ h => absurd rfl (h.1 _)) (.inl ⟨by kernel_rfl, ?_⟩) hS ?_
      rotate_left
      · (intro w' hw; obtain ⟨h1, h2, h3⟩ := hw; go_simp; try with_reducible rfl)
      try simp only [put_laws]
      refine wpAnyT_take (i := 7) (v := ?_) rfl (by kernel_rfl) (by kernel_rfl) (by kernel_rfl) (by kernel_rfl) (by kernel_rfl) (fun _ _ _ h => absurd rfl (h.1 _)) (.inl ⟨by kernel_rfl, ?_⟩) hS ?_
      rotate_left
      · (intro w' hw; obtain ⟨h1, h2, h3⟩ := hw; go_simp; try with_reducible rfl)
      try simp only [put_laws]
      refine wpAnyT_take (i := 8) (v := ?_) rfl (by kernel_rfl) (by kernel_rfl) (by kernel_rfl) (by kernel_rfl) (by kernel_rfl) (fun _ _ _ h => absurd rfl (h.1 _)) (.inl ⟨by kernel_rfl, ?_⟩) hS ?_
      rotate_left
      · (intro w' hw; obtain ⟨h1, h2, h3⟩ := hw; go_simp; try with_reducible rfl)
      try simp only [put_laws]
      refine wpAnyT_take (i := 9) (v := ?_) rfl (by kernel_rfl) (by kernel_rfl) (by kernel_rfl) (by kernel_rfl) (by kernel_rfl) (fun _ _ _ h => absurd rfl (h.1 _)) (.inl ⟨by kernel_rfl, ?_⟩) hS ?_
      rotate_left
      · (intro w' hw; obtain ⟨h1, h2, h3⟩ := hw; go_simp; try with_reducible rfl)
      try simp only [put_laws]
      refine wpAnyT_take (i := 10) (v := ?_) rfl (by kernel_rfl) (by kernel_rfl) (by kernel_rfl) (by kernel_rfl) (by kernel_rfl) (fun _ _ _ h => absurd rfl (h.1 _)) (.inl ⟨by kernel_rfl, ?_⟩) hS ?_
      rotate_left
      · (intro w' hw; obtain ⟨h1, h2, h3⟩ := hw; go_simp; try with_reducible rfl)
      try simp only [put_laws]
      refine wpAnyT_one (i := 11) (by kernel_rfl) rfl ?_
      intro K' hK'
      go_simp
      refine (rin_list aA (pl2 k).length ac wr.drew.heap.size (fun j => (pl2 k).getD j 0) z wr.drew (HPN2.out k) HYD.out).mono ?_
      rintro e w6 ⟨rfl, hb⟩
      rw [anyTo_mem' HZM.out]
      have HB6 := Lib.hid hb
      clear hb
      refine hK'.out _ _ (.inr ⟨(HB6.out.cell HLT.out.1).trans hS.1, (HB6.out.cell HLT.out.2.1).trans hS.2.1, (HB6.out.cell HLT.out.2.2).trans hS.2.2⟩) ?_
      clear hK' K'
      try simp only [put_laws]
      refine wpAnyT_one (i := 12) (by kernel_rfl) rfl ?_
      intro K' hK'
      go_simp
      refine hK'.out _ _ (.inl rfl) ?_
      clear hK' K'
      try simp only [put_laws]
      refine wpAnyT_done (by kernel_rfl) ?_ _
      refine ⟨fun x e => (by cases e), ?_⟩
      have HD6 := Lib.hid (show Below wr.heap.size wr w6 from (Below.refl _ wr).drew.trans (HB6.out.mono (Nat.le_refl _)))
      have hIV := (show Hid (Below w.heap.size w w6 ∧ Rws w6 ow1 m U1 pl1 ∧ Rws w6 ow2 m U2 pl2) from Lib.hid ⟨(HT.out.1).trans ((HD6.out).mono (HT.out.1).size), (HT.out.2.1).below HD6.out, (HT.out.2.2).below HD6.out⟩)
      clear HT HC HYD HLT HB6 HD6 hS
      go_wp2_with fail
      go_roundw
      case rel => exact ⟨q + 1, by omega, by go_num, hIV⟩
      case measure => simp [intOf]; omega
     ·
      obtain rfl : q = (pl1 k).length := by omega
      have g2 : decide ((pl1 k).length < (pl1 k).length) = false := decide_eq_false (Nat.lt_irrefl _)
      go_wp2_with fail
      go_roundw
      case rel => exact ⟨k + 1, by omega, by go_num, HT⟩
      case measure => simp [intOf]; omega
   ·
    obtain rfl : k = m := by omega
    have g1 : decide (k < k) = false := decide_eq_false (Nat.lt_irrefl _)
    have HBr := Lib.hid HS.out.1
    have HWX := Lib.hid (HWK.out wr HBr.out)
    go_wp2_with fail
    refine HWX.out.mono ?_
    rintro e wz ⟨rfl, hb⟩
    have HBZ := Lib.hid (HBr.out.trans (hb.mono HBr.out.size))
    clear hb
    go_wp2_with fail
    go_ret
    exact ⟨rfl, HBZ.out⟩
end
end Go.Proofs.YtnbeembnnjdmdaaDoor
