/- GiftsLack, walked. -/
import Derived.Test.YtaljmlkapbojeaaDoorQ5
import Derived.Test.YtaljmlkapbojeaaDoorQ8
import Derived.Test.YtaljmlkapbojeaaDoorD2
import Derived.Deep.CutBlock
namespace Go.Proofs.YtaljmlkapbojeaaDoor
open Go.RowKit

set_option maxRecDepth 100000 in
set_option maxHeartbeats 6400000 in
theorem lackC_none (w wc : World) (gA bA A1 A9 lA : Option Addr) (gn gc bn bc B D c1 c9 lc : Nat) (G H : Nat → Nat → Int) (P : Nat → Bool) (L : List Nat) (s1 : Value) {v0 v1 v3 v4 v7 v8 v11 v12 v13 v14 v15 v16 v17 v18 v19 v20 v21 v22 v23 v24 v25 v26 v27 v28 v29 v30 v31 v32 v33 v34 v35 v36 v37 v38 v39 v40 v41 v42 v43 v44 v45 v46 v47 v48 v49 v50 v51 v52 v53 v54 v55 v56 v57 v58 v59 v60 v61 v62 v63 v64 v65 v66 v67 v68 v69 v70 v71 v72 v73 v74 v75 v76 v77 v78 v79 v80 v81 v82 v83 v84 v85 v86 v87 v88 v89 v90 v91 v92 v93 v94 v95 v96 v97 v98 v99 v100 v101 v102 v103 v104 v105 v106 v107 v108 v109 v110 v111 v112 v113 v114 v115 v116 v117 v118 v119 v120 v121 v122 v123 v124 v125 v126 v127 v128 v129 v130 v131 v132 v133 v134 v135 v136 v137 v138 v139 v140 v141 v142 v143 v144 v145 v146 v147 v148 v149 v150 v151 v152 v153 v154 v155 v156 v157 v158 v159 v160 v161 v162 v163 v164 v165 v166 v167 v168 v169 v170 v171 v172 v173 v174 v175 v176 v177 v178 v179 v180 v181 v182 v183 v184 v185 v186 v187 v188 v189 v190 v191 v192 v193 v194 v195 v196 v197 v198 v199 v200 v201 v202 v203 v204 : Value}
    (ok : Ok gn bn G H) (hp : lpd gn bn G H = true) (hbn : bn ≤ 8) (hgn : gn ≤ 12)
    (hB : B ≤ w.heap.size) (hK : Blk wc w.heap.size 25 #[.slice gA gn gc, .slice bA bn bc]) (hR : BookRd wc B gA gn G bA bn H) (hl : Rd1 wc wc.heap.size lA L.length (nats L))
    (hM : Blk wc D 25 #[.slice A1 gn c1, s1]) (hG : Rd wc wc.heap.size A1 3 gn G) (oB : Own wc D 41 3 s1 (M.elP bn P).length (ints2 (someH H (M.elP bn P))))
    (o9 : Own wc D 3 1 (.slice A9 (M.elP bn P).length c9) (M.elP bn P).length (ints (nats (M.elP bn P)))) (hW : Below w.heap.size w wc) :
    Code.wp Tryd.prog (restAt Tryd.f4 9) (bodyPost Tryd.prog Tryd.f4 fun e w' => e = .returned (.bool true) ∧ Below w.heap.size w w') { tmps := List.toArray (v0 :: v1 :: .pointer (some ⟨w.heap.size, 0, none⟩) :: v3 :: v4 :: .slice lA L.length lc :: .int .i64 3 :: v7 :: v8 :: .slice A9 (M.elP bn P).length c9 :: .pointer (some ⟨D, 0, none⟩) :: v11 :: v12 :: v13 :: v14 :: v15 :: v16 :: v17 :: v18 :: v19 :: v20 :: v21 :: v22 :: v23 :: v24 :: v25 :: v26 :: v27 :: v28 :: v29 :: v30 :: v31 :: v32 :: v33 :: v34 :: v35 :: v36 :: v37 :: v38 :: v39 :: v40 :: v41 :: v42 :: v43 :: v44 :: v45 :: v46 :: v47 :: v48 :: v49 :: v50 :: v51 :: v52 :: v53 :: v54 :: v55 :: v56 :: v57 :: v58 :: v59 :: v60 :: v61 :: v62 :: v63 :: v64 :: v65 :: v66 :: v67 :: v68 :: v69 :: v70 :: v71 :: v72 :: v73 :: v74 :: v75 :: v76 :: v77 :: v78 :: v79 :: v80 :: v81 :: v82 :: v83 :: v84 :: v85 :: v86 :: v87 :: v88 :: v89 :: v90 :: v91 :: v92 :: v93 :: v94 :: v95 :: v96 :: v97 :: v98 :: v99 :: v100 :: v101 :: v102 :: v103 :: v104 :: v105 :: v106 :: v107 :: v108 :: v109 :: v110 :: v111 :: v112 :: v113 :: v114 :: v115 :: v116 :: v117 :: v118 :: v119 :: v120 :: v121 :: v122 :: v123 :: v124 :: v125 :: v126 :: v127 :: v128 :: v129 :: v130 :: v131 :: v132 :: v133 :: v134 :: v135 :: v136 :: v137 :: v138 :: v139 :: v140 :: v141 :: v142 :: v143 :: v144 :: v145 :: v146 :: v147 :: v148 :: v149 :: v150 :: v151 :: v152 :: v153 :: v154 :: v155 :: v156 :: v157 :: v158 :: v159 :: v160 :: v161 :: v162 :: v163 :: v164 :: v165 :: v166 :: v167 :: v168 :: v169 :: v170 :: v171 :: v172 :: v173 :: v174 :: v175 :: v176 :: v177 :: v178 :: v179 :: v180 :: v181 :: v182 :: v183 :: v184 :: v185 :: v186 :: v187 :: v188 :: v189 :: v190 :: v191 :: v192 :: v193 :: v194 :: v195 :: v196 :: v197 :: v198 :: v199 :: v200 :: v201 :: v202 :: v203 :: v204 :: []), defers := [] } wc := by
  have hk8 : (M.elP bn P).length ≤ 8 := Nat.le_trans (M.elP_len bn P) hbn
  have hok1 := sub_ok ok P
  have hpe := show payE gn (M.elP bn P).length G (someH H (M.elP bn P)) = 0 by unfold payE; rw [hok1, sub_paid hp P]; rfl
  have HPE := Lib.hid hpe
  have HW := Lib.hid hW
  clear hpe
  obtain ⟨sA, sc, rfl⟩ := oB.form
  have hBk := Lib.hid (And.intro hG oB.rdK : BookRd wc wc.heap.size A1 gn G sA (M.elP bn P).length (someH H (M.elP bn P)))
  have H9 : Rd1 wc wc.heap.size A9 (M.elP bn P).length (nats (M.elP bn P)) := by
    obtain ⟨A', c', ce, h9⟩ := o9.rd1
    injection ce with ce _ _
    subst ce
    exact h9
  have H9 := Lib.hid H9
  obtain ⟨k, hk⟩ : ∃ k, k = (M.elP bn P).length := ⟨_, rfl⟩
  have m0 := hM.cell 0
  have m1 := hM.cell 1
  clear hG oB o9 hM hK hR hl hW ok hp
  rw [← hk] at hk8 m1 ⊢
  conv in restAt _ _ => whnf
  go_wp2_with fail
  rw [hk]
  refine (gpay_any A1 sA gn c1 (M.elP bn P).length sc wc.heap.size G (someH H (M.elP bn P)) _ (by unfold maxLen; omega) (by unfold maxLen; omega) hBk.out (Nat.le_refl _)).mono ?_
  rintro e w2 ⟨⟨pA, pc, rfl, hrr⟩, hb2⟩
  rw [HPE.out]
  have W2 := Lib.hid (HW.out.trans (hb2.mono HW.out.size))
  clear hrr hb2 m0 m1
  go_wp2_with (go_at_call 8; refine (works_any _).mono ?_; rintro e w9 ⟨rfl, hb9⟩; have HB9 := Lib.hid hb9; clear hb9)
  go_ret
  exact ⟨rfl, W2.out.trans (HB9.out.mono W2.out.size)⟩
set_option maxRecDepth 100000 in
set_option maxHeartbeats 6400000 in
theorem lackC_some (w wc : World) (gA bA A1 A9 lA : Option Addr) (gn gc bn bc B D c1 c9 lc : Nat) (G H : Nat → Nat → Int) (P : Nat → Bool) (L : List Nat) (s1 : Value) (t : Nat) (hL : L = M.elL bn t) {v0 v1 v3 v4 v7 v8 v11 v12 v13 v14 v15 v16 v17 v18 v19 v20 v21 v22 v23 v24 v25 v26 v27 v28 v29 v30 v31 v32 v33 v34 v35 v36 v37 v38 v39 v40 v41 v42 v43 v44 v45 v46 v47 v48 v49 v50 v51 v52 v53 v54 v55 v56 v57 v58 v59 v60 v61 v62 v63 v64 v65 v66 v67 v68 v69 v70 v71 v72 v73 v74 v75 v76 v77 v78 v79 v80 v81 v82 v83 v84 v85 v86 v87 v88 v89 v90 v91 v92 v93 v94 v95 v96 v97 v98 v99 v100 v101 v102 v103 v104 v105 v106 v107 v108 v109 v110 v111 v112 v113 v114 v115 v116 v117 v118 v119 v120 v121 v122 v123 v124 v125 v126 v127 v128 v129 v130 v131 v132 v133 v134 v135 v136 v137 v138 v139 v140 v141 v142 v143 v144 v145 v146 v147 v148 v149 v150 v151 v152 v153 v154 v155 v156 v157 v158 v159 v160 v161 v162 v163 v164 v165 v166 v167 v168 v169 v170 v171 v172 v173 v174 v175 v176 v177 v178 v179 v180 v181 v182 v183 v184 v185 v186 v187 v188 v189 v190 v191 v192 v193 v194 v195 v196 v197 v198 v199 v200 v201 v202 v203 v204 : Value}
    (ok : Ok gn bn G H) (hp : M.lackTo gn bn G H (2 ^ bn) = some t) (hbn : bn ≤ 8) (hgn : gn ≤ 12)
    (hB : B ≤ w.heap.size) (hK : Blk wc w.heap.size 25 #[.slice gA gn gc, .slice bA bn bc]) (hR : BookRd wc B gA gn G bA bn H) (hl : Rd1 wc wc.heap.size lA L.length (nats L))
    (hM : Blk wc D 25 #[.slice A1 gn c1, s1]) (hG : Rd wc wc.heap.size A1 3 gn G) (oB : Own wc D 41 3 s1 (M.elP bn P).length (ints2 (someH H (M.elP bn P))))
    (o9 : Own wc D 3 1 (.slice A9 (M.elP bn P).length c9) (M.elP bn P).length (ints (nats (M.elP bn P)))) (hW : Below w.heap.size w wc) :
    Code.wp Tryd.prog (restAt Tryd.f4 9) (bodyPost Tryd.prog Tryd.f4 fun e w' => e = .returned (.bool true) ∧ Below w.heap.size w w') { tmps := List.toArray (v0 :: v1 :: .pointer (some ⟨w.heap.size, 0, none⟩) :: v3 :: v4 :: .slice lA L.length lc :: .int .i64 0 :: v7 :: v8 :: .slice A9 (M.elP bn P).length c9 :: .pointer (some ⟨D, 0, none⟩) :: v11 :: v12 :: v13 :: v14 :: v15 :: v16 :: v17 :: v18 :: v19 :: v20 :: v21 :: v22 :: v23 :: v24 :: v25 :: v26 :: v27 :: v28 :: v29 :: v30 :: v31 :: v32 :: v33 :: v34 :: v35 :: v36 :: v37 :: v38 :: v39 :: v40 :: v41 :: v42 :: v43 :: v44 :: v45 :: v46 :: v47 :: v48 :: v49 :: v50 :: v51 :: v52 :: v53 :: v54 :: v55 :: v56 :: v57 :: v58 :: v59 :: v60 :: v61 :: v62 :: v63 :: v64 :: v65 :: v66 :: v67 :: v68 :: v69 :: v70 :: v71 :: v72 :: v73 :: v74 :: v75 :: v76 :: v77 :: v78 :: v79 :: v80 :: v81 :: v82 :: v83 :: v84 :: v85 :: v86 :: v87 :: v88 :: v89 :: v90 :: v91 :: v92 :: v93 :: v94 :: v95 :: v96 :: v97 :: v98 :: v99 :: v100 :: v101 :: v102 :: v103 :: v104 :: v105 :: v106 :: v107 :: v108 :: v109 :: v110 :: v111 :: v112 :: v113 :: v114 :: v115 :: v116 :: v117 :: v118 :: v119 :: v120 :: v121 :: v122 :: v123 :: v124 :: v125 :: v126 :: v127 :: v128 :: v129 :: v130 :: v131 :: v132 :: v133 :: v134 :: v135 :: v136 :: v137 :: v138 :: v139 :: v140 :: v141 :: v142 :: v143 :: v144 :: v145 :: v146 :: v147 :: v148 :: v149 :: v150 :: v151 :: v152 :: v153 :: v154 :: v155 :: v156 :: v157 :: v158 :: v159 :: v160 :: v161 :: v162 :: v163 :: v164 :: v165 :: v166 :: v167 :: v168 :: v169 :: v170 :: v171 :: v172 :: v173 :: v174 :: v175 :: v176 :: v177 :: v178 :: v179 :: v180 :: v181 :: v182 :: v183 :: v184 :: v185 :: v186 :: v187 :: v188 :: v189 :: v190 :: v191 :: v192 :: v193 :: v194 :: v195 :: v196 :: v197 :: v198 :: v199 :: v200 :: v201 :: v202 :: v203 :: v204 :: []), defers := [] } wc := by
  have hk8 : (M.elP bn P).length ≤ 8 := Nat.le_trans (M.elP_len bn P) hbn
  have hok1 := sub_ok ok P
  have hLl : L.length ≤ 8 := Nat.le_trans (by rw [hL]; exact M.elL_len bn t) hbn
  have hsl := fun h => sub_lack hp P h
  rw [← hL] at hsl
  have hlack : M.spareF gn bn G H t < 0 := ((lack_inv (2 ^ bn)).2 t hp).2.1
  have HK := Lib.hid hK
  have HR := Lib.hid hR
  have HL := Lib.hid hl
  have HW := Lib.hid hW
  have HC := Lib.hid hlack
  have OK := Lib.hid ok
  have HLL := Lib.hid hL
  obtain ⟨sA, sc, rfl⟩ := oB.form
  have hBk := Lib.hid (And.intro hG oB.rdK : BookRd wc wc.heap.size A1 gn G sA (M.elP bn P).length (someH H (M.elP bn P)))
  have H9 : Rd1 wc wc.heap.size A9 (M.elP bn P).length (nats (M.elP bn P)) := by
    obtain ⟨A', c', ce, h9⟩ := o9.rd1
    injection ce with ce _ _
    subst ce
    exact h9
  have H9 := Lib.hid H9
  obtain ⟨k, hk⟩ : ∃ k, k = (M.elP bn P).length := ⟨_, rfl⟩
  have m0 := hM.cell 0
  have m1 := hM.cell 1
  have hsl2 : lpd gn (M.elP bn P).length G (someH H (M.elP bn P)) = false → M.soonB (M.elP bn P).length L.length (nats (M.elP bn P)) (nats L) = false := hsl
  clear hG oB o9 hM hK hR hl hW hlack ok hp hsl hL
  cases hlp : lpd gn (M.elP bn P).length G (someH H (M.elP bn P))
  · have hpe := show payE gn (M.elP bn P).length G (someH H (M.elP bn P)) = 3 by unfold payE; rw [hok1, hlp]; rfl
    have hsf := hsl2 hlp
    have HPE := Lib.hid hpe
    have HSF := Lib.hid hsf
    clear hpe hsf hsl2 hlp
    rw [← hk] at hk8 m1 ⊢
    conv in restAt _ _ => whnf
    go_wp2_with fail
    rw [hk]
    refine (gpay_any A1 sA gn c1 (M.elP bn P).length sc wc.heap.size G (someH H (M.elP bn P)) _ (by unfold maxLen; omega) (by unfold maxLen; omega) hBk.out (Nat.le_refl _)).mono ?_
    rintro e w2 ⟨⟨pA, pc, rfl, hrr⟩, hb2⟩
    rw [HPE.out]
    have W2 := Lib.hid hb2
    have hz2 := hb2.size
    clear hrr hb2 m0 m1
    go_upto_if 108 with (go_at_call 18; go_must (refine (sooner_any A9 lA _ _ c9 lc wc.heap.size _ _ _ (by omega) (by omega) (H9.out.below W2.out) (HL.out.below W2.out) (by omega)).mono ?_); rw [HSF.out]; rintro e w3 ⟨rfl, hb3⟩; have W3 := Lib.hid (W2.out.trans (hb3.mono hz2)); clear hb3)
    refine wp_cond_false rfl (wp_skip ?_)
    go_upto_if 110 with fail
    refine wp_cond_false rfl (wp_skip ?_)
    apply_assumption
    exact lackB w _ gA bA lA gn gc bn bc B lc G H t L HLL.out OK.out HC.out hB (HK.out.below W3.out HK.out.lt) (HR.out.below (W3.out.mono (by have := HK.out.lt; omega))) ((HL.out.below W3.out).more W3.out.size) (HW.out.trans (W3.out.mono HW.out.size))
  · have hpe := show payE gn (M.elP bn P).length G (someH H (M.elP bn P)) = 0 by unfold payE; rw [hok1, hlp]; rfl
    have HPE := Lib.hid hpe
    clear hpe hsl2 hlp
    rw [← hk] at hk8 m1 ⊢
    conv in restAt _ _ => whnf
    go_wp2_with fail
    rw [hk]
    refine (gpay_any A1 sA gn c1 (M.elP bn P).length sc wc.heap.size G (someH H (M.elP bn P)) _ (by unfold maxLen; omega) (by unfold maxLen; omega) hBk.out (Nat.le_refl _)).mono ?_
    rintro e w2 ⟨⟨pA, pc, rfl, hrr⟩, hb2⟩
    rw [HPE.out]
    have W2 := Lib.hid hb2
    have hz2 := hb2.size
    clear hrr hb2 m0 m1
    go_upto_if 108 with fail
    refine wp_cond_false rfl (wp_skip ?_)
    go_upto_if 110 with fail
    refine wp_cond_false rfl (wp_skip ?_)
    apply_assumption
    exact lackB w _ gA bA lA gn gc bn bc B lc G H t L HLL.out OK.out HC.out hB (HK.out.below W2.out HK.out.lt) (HR.out.below (W2.out.mono (by have := HK.out.lt; omega))) ((HL.out.below W2.out).more W2.out.size) (HW.out.trans (W2.out.mono HW.out.size))
set_option maxRecDepth 100000 in
set_option maxHeartbeats 6400000 in
theorem lack_none (gA bA : Option Addr) (gn gc bn bc B : Nat) (G H : Nat → Nat → Int) (x : Int) (w : World) (hg : gn ≤ maxLen) (hb : bn ≤ maxLen) (hR : BookRd w B gA gn G bA bn H) (hB : B ≤ w.heap.size) (ht : thickF gn bn (M.okF gn bn G H) = false) (hok : M.okF gn bn G H = true) (hp : lpd gn bn G H = true)
    (hT : TabAt 1 Lib.deBruijn64tab w) (hG : 1 < w.heap.size) :
    Calls Tryd.prog 4 #[.agg #[.slice gA gn gc, .slice bA bn bc], .int .i64 x] w fun e w' => e = .returned (.bool true) ∧ Below w.heap.size w w' := by
  have hk : M.chkN gn bn G H = 0 := by simp [M.chkN, hok]
  have ok : Ok gn bn G H := M.okF_iff.1 hok
  have hgn : gn ≤ 12 ∧ bn ≤ 6 := by unfold thickF at ht; rw [hok] at ht; simp at ht; omega
  have hse : shortE gn bn G H = 3 := by unfold shortE; rw [hok, lack_paid.2 hp]; rfl
  have hpe : payE gn bn G H = 0 := by unfold payE; rw [hok, hp]; rfl
  obtain ⟨L, hsl⟩ : ∃ L, listOf bn (shortS gn bn G H) = L := ⟨_, rfl⟩
  have HT := Lib.hid hT
  have HSL := Lib.hid hsl
  have HSE := Lib.hid hse
  have HPE := Lib.hid hpe
  have OK := Lib.hid ok
  have HP := Lib.hid hp
  clear hT hsl hse hpe ok hp
  go_enter Tryd.func4, Tryd.ntmps4
  go_wp2_with fail
  refine (thick_any gA bA gn gc bn bc B G H _ hg hb (by exact hR.below ((belowAlloc _ _).mono hB)) (by simp; omega)).mono ?_
  rw [ht]
  rintro e w1 ⟨rfl, hb1⟩
  have HR := Lib.hid hR
  have HK1 := Lib.hid ((Blk.new w 25 #[.slice gA gn gc, .slice bA bn bc]).below hb1 (by simp))
  have HW1 := Lib.hid ((belowAlloc w (.cells #[.slice gA gn gc, .slice bA bn bc] 25)).trans (hb1.mono (by simp)))
  have q0 := HK1.out.cell 0
  have q1 := HK1.out.cell 1
  clear hb1 hR
  go_wp2_with fail
  clear q0 q1
  refine (rcheck_any gA bA gn gc bn bc B G H _ hg hb (by exact HR.out.below (HW1.out.mono hB)) (by have := HW1.out.size; omega)).mono ?_
  rw [hk]
  rintro e w2 ⟨rfl, hb2⟩
  have HK2 := Lib.hid (HK1.out.below hb2 HK1.out.lt)
  have HW2 := Lib.hid (HW1.out.trans (hb2.mono HW1.out.size))
  have q0 := HK2.out.cell 0
  have q1 := HK2.out.cell 1
  clear hb2 HK1 HW1
  go_wp2_with fail
  clear q0 q1
  refine (gshort_any gA bA gn gc bn bc B G H _ hg hb (by exact HR.out.below (HW2.out.mono hB)) (by have := HW2.out.size; omega) (TabAt.below (g := 1) (tab := Lib.deBruijn64tab) (w := w) HT.out HW2.out hG) (by have := HW2.out.size; omega)).mono ?_
  rintro e w3 ⟨⟨v3, rfl, ho3⟩, hb3⟩
  rw [HSL.out] at ho3
  rw [HSE.out]
  obtain ⟨lA, lc, rfl, hl3⟩ := ho3.rd1
  have HL3 := Lib.hid hl3
  have HK3 := Lib.hid (HK2.out.below hb3 HK2.out.lt)
  have HW3 := Lib.hid (HW2.out.trans (hb3.mono HW2.out.size))
  have q0 := HK3.out.cell 0
  have q1 := HK3.out.cell 1
  clear hb3 ho3 hl3 HK2 HW2
  go_wp2_with fail
  clear q0 q1
  refine (gpay_any gA bA gn gc bn bc B G H _ hg hb (by exact HR.out.below (HW3.out.mono hB)) (by have := HW3.out.size; omega)).mono ?_
  rintro e w4 ⟨⟨pA, pc, rfl, hrr⟩, hb4⟩
  rw [HPE.out]
  have HL4 := Lib.hid ((HL3.out.below hb4).more hb4.size)
  have HK4 := Lib.hid (HK3.out.below hb4 HK3.out.lt)
  have HW4 := Lib.hid (HW3.out.trans (hb4.mono HW3.out.size))
  have q0 := HK4.out.cell 0
  have q1 := HK4.out.cell 1
  clear hb4 hrr HL3 HK3 HW3
  go_wp2_with fail
  clear q0 q1
  refine (copy_any gA bA gn gc bn bc B G H _ (by omega) (by omega) (by exact HR.out.below (HW4.out.mono hB)) (by have := HW4.out.size; omega)).mono ?_
  rintro e w5 ⟨v1, v2, rfl, ho1, ho2, hb5⟩
  obtain ⟨A1, c1, rfl, hr1⟩ := ho1.rd
  obtain ⟨A2, c2, rfl⟩ := ho2.form
  have hz5 := hb5.size
  have hz4 := HK4.out.lt
  obtain ⟨V, hV⟩ : ∃ V, V = w5.alloc (.cells #[.slice A1 gn c1, .slice none 0 0] 25) := ⟨_, rfl⟩
  obtain ⟨D, hD⟩ : ∃ D, D = w5.heap.size := ⟨_, rfl⟩
  have hbV := belowAlloc w5 (.cells #[.slice A1 gn c1, .slice none 0 0] 25)
  have KD := Lib.hid (blk_at w5 (t := 25) (cs := #[.slice A1 gn c1, .slice none 0 0]) hD)
  rw [← hV] at hbV KD
  rw [← hD] at hz5 hbV hr1
  have hSD : w.heap.size < D := by omega
  have GV := Lib.hid (hr1.below hbV)
  have KV := Lib.hid ((HK4.out.below hb5 HK4.out.lt).below hbV (by omega))
  have WV := Lib.hid ((HW4.out.trans (hb5.mono (by omega))).trans (hbV.mono (by omega)))
  have LV := Lib.hid (((HL4.out.below hb5).more hz5).below hbV)
  have RV := Lib.hid (HR.out.below (WV.out.mono hB))
  have hDV := KD.out.lt
  clear ho1 ho2 hb5 hbV hr1 HL4 HK4 HW4
  go_upto_block 0 with fail
  rw [← hV, ← hD]
  clear hV hD hz5 hz4
  refine lackA w V _ gA bA A1 gn gc bn bc B D c1 H x (fun i => M.bt x i) _ _ rfl (by omega) hB hSD KV.out RV.out.2 KD.out (Below.refl D V) ?_
  intro x11 x62 x63 x64 x65 x66 x67 x68 x69 x70 x71 x72 x73 x74 x75 x76 x77 x78 x79 x80 x81 x82 x83 x84 x85 x86 x87 x88 A9 c9 s1 wx o9 m1 oB hbx
  have hzx := hbx.size
  apply_assumption
  exact lackC_none w wx gA bA A1 A9 lA gn gc bn bc B D c1 c9 lc G H (fun i => M.bt x i) L s1 OK.out HP.out (by omega) (by omega) hB (KV.out.below hbx hSD) (RV.out.below (hbx.mono (by omega))) ((LV.out.below hbx).more (by omega)) m1 ((GV.out.below hbx).more (by omega)) oB o9 (WV.out.trans (hbx.mono (by omega)))
set_option maxRecDepth 100000 in
set_option maxHeartbeats 6400000 in
theorem lack_some (gA bA : Option Addr) (gn gc bn bc B : Nat) (G H : Nat → Nat → Int) (x : Int) (w : World) (hg : gn ≤ maxLen) (hb : bn ≤ maxLen) (hR : BookRd w B gA gn G bA bn H) (hB : B ≤ w.heap.size) (ht : thickF gn bn (M.okF gn bn G H) = false) (hok : M.okF gn bn G H = true) (t : Nat) (hp : M.lackTo gn bn G H (2 ^ bn) = some t)
    (hT : TabAt 1 Lib.deBruijn64tab w) (hG : 1 < w.heap.size) :
    Calls Tryd.prog 4 #[.agg #[.slice gA gn gc, .slice bA bn bc], .int .i64 x] w fun e w' => e = .returned (.bool true) ∧ Below w.heap.size w w' := by
  have hk : M.chkN gn bn G H = 0 := by simp [M.chkN, hok]
  have ok : Ok gn bn G H := M.okF_iff.1 hok
  have hgn : gn ≤ 12 ∧ bn ≤ 6 := by unfold thickF at ht; rw [hok] at ht; simp at ht; omega
  have hse : shortE gn bn G H = 0 := by unfold shortE; rw [hok, hp]; rfl
  have hpe : payE gn bn G H = 3 := by
    unfold payE; rw [hok]
    cases hl : lpd gn bn G H
    · rfl
    · rw [lack_paid.2 hl] at hp; cases hp
  obtain ⟨L, hL⟩ : ∃ L, L = M.elL bn t := ⟨_, rfl⟩
  have hsl : listOf bn (shortS gn bn G H) = L := by unfold shortS; rw [hok, hp, hL]; rfl
  have HT := Lib.hid hT
  have HSL := Lib.hid hsl
  have HSE := Lib.hid hse
  have HPE := Lib.hid hpe
  have OK := Lib.hid ok
  have HP := Lib.hid hp
  have HL := Lib.hid hL
  clear hL
  clear hT hsl hse hpe ok hp
  go_enter Tryd.func4, Tryd.ntmps4
  go_wp2_with fail
  refine (thick_any gA bA gn gc bn bc B G H _ hg hb (by exact hR.below ((belowAlloc _ _).mono hB)) (by simp; omega)).mono ?_
  rw [ht]
  rintro e w1 ⟨rfl, hb1⟩
  have HR := Lib.hid hR
  have HK1 := Lib.hid ((Blk.new w 25 #[.slice gA gn gc, .slice bA bn bc]).below hb1 (by simp))
  have HW1 := Lib.hid ((belowAlloc w (.cells #[.slice gA gn gc, .slice bA bn bc] 25)).trans (hb1.mono (by simp)))
  have q0 := HK1.out.cell 0
  have q1 := HK1.out.cell 1
  clear hb1 hR
  go_wp2_with fail
  clear q0 q1
  refine (rcheck_any gA bA gn gc bn bc B G H _ hg hb (by exact HR.out.below (HW1.out.mono hB)) (by have := HW1.out.size; omega)).mono ?_
  rw [hk]
  rintro e w2 ⟨rfl, hb2⟩
  have HK2 := Lib.hid (HK1.out.below hb2 HK1.out.lt)
  have HW2 := Lib.hid (HW1.out.trans (hb2.mono HW1.out.size))
  have q0 := HK2.out.cell 0
  have q1 := HK2.out.cell 1
  clear hb2 HK1 HW1
  go_wp2_with fail
  clear q0 q1
  refine (gshort_any gA bA gn gc bn bc B G H _ hg hb (by exact HR.out.below (HW2.out.mono hB)) (by have := HW2.out.size; omega) (TabAt.below (g := 1) (tab := Lib.deBruijn64tab) (w := w) HT.out HW2.out hG) (by have := HW2.out.size; omega)).mono ?_
  rintro e w3 ⟨⟨v3, rfl, ho3⟩, hb3⟩
  rw [HSL.out] at ho3
  rw [HSE.out]
  obtain ⟨lA, lc, rfl, hl3⟩ := ho3.rd1
  have HL3 := Lib.hid hl3
  have HK3 := Lib.hid (HK2.out.below hb3 HK2.out.lt)
  have HW3 := Lib.hid (HW2.out.trans (hb3.mono HW2.out.size))
  have q0 := HK3.out.cell 0
  have q1 := HK3.out.cell 1
  clear hb3 ho3 hl3 HK2 HW2
  go_wp2_with fail
  clear q0 q1
  refine (gpay_any gA bA gn gc bn bc B G H _ hg hb (by exact HR.out.below (HW3.out.mono hB)) (by have := HW3.out.size; omega)).mono ?_
  rintro e w4 ⟨⟨pA, pc, rfl, hrr⟩, hb4⟩
  rw [HPE.out]
  have HL4 := Lib.hid ((HL3.out.below hb4).more hb4.size)
  have HK4 := Lib.hid (HK3.out.below hb4 HK3.out.lt)
  have HW4 := Lib.hid (HW3.out.trans (hb4.mono HW3.out.size))
  have q0 := HK4.out.cell 0
  have q1 := HK4.out.cell 1
  clear hb4 hrr HL3 HK3 HW3
  go_wp2_with fail
  clear q0 q1
  refine (copy_any gA bA gn gc bn bc B G H _ (by omega) (by omega) (by exact HR.out.below (HW4.out.mono hB)) (by have := HW4.out.size; omega)).mono ?_
  rintro e w5 ⟨v1, v2, rfl, ho1, ho2, hb5⟩
  obtain ⟨A1, c1, rfl, hr1⟩ := ho1.rd
  obtain ⟨A2, c2, rfl⟩ := ho2.form
  have hz5 := hb5.size
  have hz4 := HK4.out.lt
  obtain ⟨V, hV⟩ : ∃ V, V = w5.alloc (.cells #[.slice A1 gn c1, .slice none 0 0] 25) := ⟨_, rfl⟩
  obtain ⟨D, hD⟩ : ∃ D, D = w5.heap.size := ⟨_, rfl⟩
  have hbV := belowAlloc w5 (.cells #[.slice A1 gn c1, .slice none 0 0] 25)
  have KD := Lib.hid (blk_at w5 (t := 25) (cs := #[.slice A1 gn c1, .slice none 0 0]) hD)
  rw [← hV] at hbV KD
  rw [← hD] at hz5 hbV hr1
  have hSD : w.heap.size < D := by omega
  have GV := Lib.hid (hr1.below hbV)
  have KV := Lib.hid ((HK4.out.below hb5 HK4.out.lt).below hbV (by omega))
  have WV := Lib.hid ((HW4.out.trans (hb5.mono (by omega))).trans (hbV.mono (by omega)))
  have LV := Lib.hid (((HL4.out.below hb5).more hz5).below hbV)
  have RV := Lib.hid (HR.out.below (WV.out.mono hB))
  have hDV := KD.out.lt
  clear ho1 ho2 hb5 hbV hr1 HL4 HK4 HW4
  go_upto_block 0 with fail
  rw [← hV, ← hD]
  clear hV hD hz5 hz4
  refine lackA w V _ gA bA A1 gn gc bn bc B D c1 H x (fun i => M.bt x i) _ _ rfl (by omega) hB hSD KV.out RV.out.2 KD.out (Below.refl D V) ?_
  intro x11 x62 x63 x64 x65 x66 x67 x68 x69 x70 x71 x72 x73 x74 x75 x76 x77 x78 x79 x80 x81 x82 x83 x84 x85 x86 x87 x88 A9 c9 s1 wx o9 m1 oB hbx
  have hzx := hbx.size
  apply_assumption
  exact lackC_some w wx gA bA A1 A9 lA gn gc bn bc B D c1 c9 lc G H (fun i => M.bt x i) L s1 t HL.out OK.out HP.out (by omega) (by omega) hB (KV.out.below hbx hSD) (RV.out.below (hbx.mono (by omega))) ((LV.out.below hbx).more (by omega)) m1 ((GV.out.below hbx).more (by omega)) oB o9 (WV.out.trans (hbx.mono (by omega)))
set_option maxRecDepth 100000 in
set_option maxHeartbeats 3200000 in
theorem lack_thick (gA bA : Option Addr) (gn gc bn bc B : Nat) (G H : Nat → Nat → Int) (x : Int) (w : World) (hg : gn ≤ maxLen) (hb : bn ≤ maxLen) (hR : BookRd w B gA gn G bA bn H) (hB : B ≤ w.heap.size) (ht : thickF gn bn (M.okF gn bn G H) = true) :
    Calls Tryd.prog 4 #[.agg #[.slice gA gn gc, .slice bA bn bc], .int .i64 x] w fun e w' => e = .returned (.bool true) ∧ Below w.heap.size w w' := by
  go_enter Tryd.func4, Tryd.ntmps4
  go_wp2_with fail
  refine (thick_any gA bA gn gc bn bc B G H _ hg hb (by exact hR.below ((belowAlloc _ _).mono hB)) (by simp; omega)).mono ?_
  rw [ht]
  rintro e w1 ⟨rfl, hb1⟩
  have HB1 := Lib.hid hb1
  clear hb1
  go_wp2_with (go_at_call 8; refine (works_any _).mono ?_; rintro e w9 ⟨rfl, hb9⟩; have HB9 := Lib.hid hb9; clear hb9)
  go_ret
  exact ⟨rfl, (belowAlloc _ _).trans ((HB1.out.mono (by simp)).trans (HB9.out.mono (by have := HB1.out.size; simp at this; omega)))⟩
set_option maxRecDepth 100000 in
set_option maxHeartbeats 3200000 in
theorem lack_bad (gA bA : Option Addr) (gn gc bn bc B : Nat) (G H : Nat → Nat → Int) (x : Int) (w : World) (hg : gn ≤ maxLen) (hb : bn ≤ maxLen) (hR : BookRd w B gA gn G bA bn H) (hB : B ≤ w.heap.size) (ht : thickF gn bn (M.okF gn bn G H) = false) (hok : M.okF gn bn G H = false) :
    Calls Tryd.prog 4 #[.agg #[.slice gA gn gc, .slice bA bn bc], .int .i64 x] w fun e w' => e = .returned (.bool true) ∧ Below w.heap.size w w' := by
  have hk : M.chkN gn bn G H = 110 := by simp [M.chkN, hok]
  go_enter Tryd.func4, Tryd.ntmps4
  go_wp2_with fail
  refine (thick_any gA bA gn gc bn bc B G H _ hg hb (by exact hR.below ((belowAlloc _ _).mono hB)) (by simp; omega)).mono ?_
  rw [ht]
  rintro e w1 ⟨rfl, hb1⟩
  have K1 := (Blk.new w 25 #[.slice gA gn gc, .slice bA bn bc]).below hb1 (by simp)
  have W1 := (belowAlloc w (.cells #[.slice gA gn gc, .slice bA bn bc] 25)).trans (hb1.mono (by simp))
  have q0 := K1.cell 0
  have q1 := K1.cell 1
  have HW1 := Lib.hid W1
  clear hb1 K1 W1
  go_wp2_with fail
  refine (rcheck_any gA bA gn gc bn bc B G H _ hg hb (by exact hR.below (HW1.out.mono hB)) (by have := HW1.out.size; omega)).mono ?_
  rw [hk]
  rintro e w2 ⟨rfl, hb2⟩
  have HW2 := Lib.hid (HW1.out.trans (hb2.mono HW1.out.size))
  clear hb2
  go_wp2_with (go_at_call 8; refine (works_any _).mono ?_; rintro e w9 ⟨rfl, hb9⟩; have HB9 := Lib.hid hb9; clear hb9)
  go_ret
  exact ⟨rfl, HW2.out.trans (HB9.out.mono HW2.out.size)⟩
theorem giftsLack_any (gA bA : Option Addr) (gn gc bn bc B : Nat) (G H : Nat → Nat → Int) (x : Int) (w : World) (hg : gn ≤ maxLen) (hb : bn ≤ maxLen) (hR : BookRd w B gA gn G bA bn H) (hB : B ≤ w.heap.size)
    (hT : TabAt 1 Lib.deBruijn64tab w) (hG : 1 < w.heap.size) :
    Calls Tryd.prog 4 #[.agg #[.slice gA gn gc, .slice bA bn bc], .int .i64 x] w fun e w' => e = .returned (.bool true) ∧ Below w.heap.size w w' := by
  cases ht : thickF gn bn (M.okF gn bn G H)
  · cases hok : M.okF gn bn G H
    · exact lack_bad gA bA gn gc bn bc B G H x w hg hb hR hB ht hok
    · cases hl : M.lackTo gn bn G H (2 ^ bn) with
      | none => exact lack_none gA bA gn gc bn bc B G H x w hg hb hR hB ht hok (lack_paid.1 hl) hT hG
      | some t => exact lack_some gA bA gn gc bn bc B G H x w hg hb hR hB ht hok t hl hT hG
  · exact lack_thick gA bA gn gc bn bc B G H x w hg hb hR hB ht
end Go.Proofs.YtaljmlkapbojeaaDoor
