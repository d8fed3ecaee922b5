/- LanesFewer, walked from its 10th statement on: an aircraft alone at its level. -/
import Derived.Test.YtkdpmihdhiokkaaDoorA1
import Derived.Test.YtkdpmihdhiokkaaDoorR15
import Derived.Test.YtkdpmihdhiokkaaDoorR11
import Derived.Test.YtkdpmihdhiokkaaDoorR13
import Derived.Test.YtkdpmihdhiokkaaDoorW
import Derived.Test.YtkdpmihdhiokkaaDoorK23
import Derived.Test.YtkdpmihdhiokkaaDoorMix
import Derived.Test.YtkdpmihdhiokkaaDoorPA
import Derived.Test.YtkdpmihdhiokkaaDoorDT
import Derived.Test.YtkdpmihdhiokkaaDoorCards
import Derived.SevenTiedAt
namespace Go.Proofs.YtkdpmihdhiokkaaDoor
open Go.RowKit

def sndN : Nat → Code → Code
  | 0, c => c
  | n + 1, .seq _ b => sndN n b
  | _, c => c
/-- the statements from the n-th on -/
def restAt (f : Func) (n : Nat) : Code :=
  match f.body with
  | some b => sndN n b
  | none => .skip
theorem M.allTo_succ2 {n : Nat} {p : Nat → Bool} : M.allTo (n + 1) p = (M.allTo n p && p n) := by
  rw [Bool.eq_iff_iff, Bool.and_eq_true]
  simp only [M.allTo_iff]
  exact ⟨fun h => ⟨fun i hi => h i (by omega), h n (by omega)⟩, fun ⟨h1, h2⟩ i hi => by
    by_cases e : i = n
    · subst e; exact h2
    · exact h1 i (by omega)⟩
def FewR (w : World) (e : Ending) (w' : World) : Prop := e = .returned (.bool true) ∧ Below w.heap.size w w'
section
variable (s : M.Sea) (dA tA sA lA aA : Option Addr) (dc tc sc ln lc B P3 P7 an ac : Nat) (L : Nat → M.Leg) (at_ lv dr fr dst ev : Int) (tl : Bool) (w X : World)
set_option maxRecDepth 100000 in
set_option maxHeartbeats 3200000 in
theorem fewer_tail {v0 v2 v4 v5 v6 v10 v11 v12 v13 v14 v15 v16 v17 v18 v19 v20 v21 v22 v23 v24 v25 v26 v27 v28 v29 v30 v31 v32 v33 v34 v35 v36 v37 v38 v39 v40 v41 v42 v43 v44 v45 v46 v47 v48 v49 v50 v51 v52 v53 v54 v55 v56 v57 v58 v59 v60 v61 v62 v63 v64 v65 v66 v67 v68 v69 v70 v71 v72 v73 v74 v75 v76 v77 v78 v79 v80 v81 v82 v83 v84 v85 v86 v87 v88 v89 v90 v91 v92 v93 v94 v95 v96 v97 v98 v99 v100 v101 v102 v103 v104 v105 v106 v107 v108 v109 v110 v111 v112 v113 v114 v115 v116 v117 v118 v119 v120 v121 v122 v123 v124 v125 v126 v127 v128 v129 v130 v131 v132 v133 v134 v135 v136 v137 v138 v139 v140 v141 v142 v143 v144 v145 v146 v147 v148 v149 v150 v151 v152 v153 v154 v155 v156 v157 v158 v159 v160 v161 v162 v163 v164 v165 v166 v167 v168 v169 v170 v171 v172 v173 v174 v175 v176 v177 v178 v179 v180 v181 v182 v183 v184 v185 v186 : Value} (hs : s.Ok) (hnt : s.nt ≤ 60) (hw : Ways w) (hR : RdC w B dA tA sA s.nd s.nt s.nt s.dep s.tide s.sw) (hB : B ≤ w.heap.size) (hL : RdL w B lA ln L) (hln : ln ≤ 1048576) (hto : M.tripOk s ⟨at_, lv, dr, tl, fr, dst⟩ = true) (hX : Below w.heap.size w X) (C3 : Blk X P3 25 #[.int .i64 (s.W : Int), .int .i64 (s.H : Int), .slice dA s.nd dc, .slice tA s.nt tc, .slice sA s.nt sc]) (C7 : Blk X P7 28 #[.int .i64 at_, .int .i64 lv, .int .i64 dr, .bool tl, .int .i64 fr, .int .i64 dst]) (hev : ev = M.routeE s L ln ⟨at_, lv, dr, tl, fr, dst⟩) (han : M.hasR s L ln ⟨at_, lv, dr, tl, fr, dst⟩ = true → an = M.endK s L ln ⟨at_, lv, dr, tl, fr, dst⟩ + 1) :
    Code.wp Tryd.prog (restAt Tryd.f7 10) (bodyPost Tryd.prog Tryd.f7 (FewR w)) { tmps := List.toArray (v0 :: .slice lA ln lc :: v2 :: .pointer (some ⟨P3, 0, none⟩) :: v4 :: v5 :: v6 :: .pointer (some ⟨P7, 0, none⟩) :: .slice aA an ac :: .int .i64 ev :: v10 :: v11 :: v12 :: v13 :: v14 :: v15 :: v16 :: v17 :: v18 :: v19 :: v20 :: v21 :: v22 :: v23 :: v24 :: v25 :: v26 :: v27 :: v28 :: v29 :: v30 :: v31 :: v32 :: v33 :: v34 :: v35 :: v36 :: v37 :: v38 :: v39 :: v40 :: v41 :: v42 :: v43 :: v44 :: v45 :: v46 :: v47 :: v48 :: v49 :: v50 :: v51 :: v52 :: v53 :: v54 :: v55 :: v56 :: v57 :: v58 :: v59 :: v60 :: v61 :: v62 :: v63 :: v64 :: v65 :: v66 :: v67 :: v68 :: v69 :: v70 :: v71 :: v72 :: v73 :: v74 :: v75 :: v76 :: v77 :: v78 :: v79 :: v80 :: v81 :: v82 :: v83 :: v84 :: v85 :: v86 :: v87 :: v88 :: v89 :: v90 :: v91 :: v92 :: v93 :: v94 :: v95 :: v96 :: v97 :: v98 :: v99 :: v100 :: v101 :: v102 :: v103 :: v104 :: v105 :: v106 :: v107 :: v108 :: v109 :: v110 :: v111 :: v112 :: v113 :: v114 :: v115 :: v116 :: v117 :: v118 :: v119 :: v120 :: v121 :: v122 :: v123 :: v124 :: v125 :: v126 :: v127 :: v128 :: v129 :: v130 :: v131 :: v132 :: v133 :: v134 :: v135 :: v136 :: v137 :: v138 :: v139 :: v140 :: v141 :: v142 :: v143 :: v144 :: v145 :: v146 :: v147 :: v148 :: v149 :: v150 :: v151 :: v152 :: v153 :: v154 :: v155 :: v156 :: v157 :: v158 :: v159 :: v160 :: v161 :: v162 :: v163 :: v164 :: v165 :: v166 :: v167 :: v168 :: v169 :: v170 :: v171 :: v172 :: v173 :: v174 :: v175 :: v176 :: v177 :: v178 :: v179 :: v180 :: v181 :: v182 :: v183 :: v184 :: v185 :: v186 :: []), defers := [] } X := by
  have HRL := Lib.hid (fun V (hb2 : Below w.heap.size w V) => hL.below (hb2.mono hB))
  have HWO := Lib.hid (fun V (hb2 : Below w.heap.size w V) => works_any V (hw.below hb2))
  have HAP := Lib.hid (fun V a b (ha : a < s.nd) (hb : b < s.nd) (hb2 : Below w.heap.size w V) => apart_ok s dA tA sA dc tc sc B V a b hs ha hb (hw.below hb2) (hR.below (hb2.mono hB)) (Nat.le_trans hB hb2.size))
  have HS := Lib.hid hs
  have HTO := Lib.hid hto
  have HX := Lib.hid hX
  have H3 := Lib.hid C3
  have H7 := Lib.hid C7
  have HAN := Lib.hid han
  have hz := hX.size
  clear hs hw hR hB hL hto hX C3 C7 han
  subst hev
  conv in restAt _ _ => whnf
  go_wp2_with fail
  go_loopw [16, 17] (fun al i wr => ∃ k : Nat, k ≤ ln ∧ i = .int .i64 (k : Int) ∧ al = .bool (M.allTo k fun i => decide ((L i).lv ≠ lv)) ∧ Below X.heap.size X wr) (fun _ i _ => ln - (intOf i).toNat)
  case atStart => exact ⟨0, Nat.zero_le _, rfl, rfl, Below.refl _ _⟩
  case round =>
    obtain ⟨k, hk, rfl, rfl, hbw⟩ := hrel
    have HW := Lib.hid (HX.out.trans (hbw.mono hz))
    have HXW := Lib.hid hbw
    have hzw := hbw.size
    have G3 := Lib.hid (H3.out.below' hbw)
    have G7 := Lib.hid (H7.out.below' hbw)
    clear hbw
    by_cases hlt : k < ln
    · obtain ⟨b, off, rfl, hb, g0, g1, g2, g3, _⟩ := (HRL.out wr HW.out).at_ hlt
      have y1 := G7.out.cell 1
      have kx : decide (ln ≤ k) = false := decide_eq_false (by omega)
      have HAL := Lib.hid (show M.allTo (k + 1) (fun i => decide ((L i).lv ≠ lv)) = (M.allTo k (fun i => decide ((L i).lv ≠ lv)) && decide ((L k).lv ≠ lv)) from M.allTo_succ2)
      obtain ⟨al, hal⟩ : ∃ al, al = M.allTo k (fun i => decide ((L i).lv ≠ lv)) := ⟨_, rfl⟩
      rw [← hal] at HAL ⊢
      clear hal g0 g2 g3
      obtain ⟨lk, hlk⟩ : ∃ lk, lk = (L k).lv := ⟨_, rfl⟩
      rw [← hlk] at HAL g1
      clear hlk
      cases al
      · go_upto_region 21 with fail
        go_quiet (fail)
        go_wp2_with fail
        go_roundw
        case rel => exact ⟨k + 1, by omega, by go_num, by rw [HAL.out]; rfl, HXW.out.drewN nq⟩
        case measure => simp [intOf]; omega
      · by_cases he : lk = lv
        · have HAL2 := Lib.hid (show M.allTo (k + 1) (fun i => decide ((L i).lv ≠ lv)) = false by rw [HAL.out]; simp [he])
          clear HAL
          subst he
          go_upto_region 21 with fail
          go_quiet (fail)
          go_wp2_with fail
          go_roundw
          case rel => exact ⟨k + 1, by omega, by go_num, by rw [HAL2.out], HXW.out.drewN nq⟩
          case measure => simp [intOf]; omega
        · have HAL2 := Lib.hid (show M.allTo (k + 1) (fun i => decide ((L i).lv ≠ lv)) = true by rw [HAL.out]; simp [he])
          clear HAL
          go_upto_region 21 with fail
          go_quiet (fail)
          go_wp2_with fail
          go_roundw
          case rel => exact ⟨k + 1, by omega, by go_num, by rw [HAL2.out]; simp [he], HXW.out.drewN nq⟩
          case measure => simp [intOf]; omega
    · obtain rfl : k = ln := by omega
      have y0 := G7.out.cell 0
      have y1 := G7.out.cell 1
      have y4 := G7.out.cell 4
      have y5 := G7.out.cell 5
      have z0 := G3.out.cell 0
      have z1 := G3.out.cell 1
      have z2 := G3.out.cell 2
      have z3 := G3.out.cell 3
      have z4 := G3.out.cell 4
      cases hA : M.allTo k fun i => decide ((L i).lv ≠ lv)
      · clear hA
        go_wp2_with (go_at_call 13; go_must (refine (HWO.out _ HW.out).mono ?_); rintro e w9 ⟨rfl, hb9⟩; have HB9 := Lib.hid (HW.out.trans (hb9.mono HW.out.size)); clear hb9)
        go_ret
        exact ⟨rfl, HB9.out⟩
      · by_cases h0 : lv = 0
        · subst h0
          clear hA
          go_wp2_with (go_at_call 13; go_must (refine (HWO.out _ HW.out).mono ?_); rintro e w9 ⟨rfl, hb9⟩; have HB9 := Lib.hid (HW.out.trans (hb9.mono HW.out.size)); clear hb9)
          go_ret
          exact ⟨rfl, HB9.out⟩
        · have htk := M.tripOk_iff.1 HTO.out
          simp only at htk
          obtain ⟨⟨t0, t1⟩, ⟨t2, t3⟩, ⟨t4, t5⟩, tu⟩ := htk
          obtain ⟨a, rfl⟩ : ∃ a : Nat, fr = (a : Int) := ⟨fr.toNat, by omega⟩
          obtain ⟨b, rfl⟩ : ∃ b : Nat, dst = (b : Int) := ⟨dst.toNat, by omega⟩
          have HAP2 := Lib.hid (HAP.out wr a b (by omega) (by omega) HW.out)
          have HLV := Lib.hid (show 0 < lv from by
            have hu := tu
            unfold M.unit at hu
            simp only [Bool.or_eq_true, Bool.and_eq_true, decide_eq_true_eq, M.inB_iff] at hu
            omega)
          have HDE := Lib.hid (fun n (hd : M.IsDist s a b n) => M.dist_end (L := L) (ln := k) (r := ⟨at_, lv, dr, tl, (a : Int), (b : Int)⟩) HLV.out (fun i hi => of_decide_eq_true (M.allTo_iff.1 hA i hi)) ⟨t0, t1⟩ rfl rfl hd)
          have HNB := Lib.hid (fun n (hd : M.IsDist s a b n) => (show n < 144 from Nat.lt_of_lt_of_le hd.1 HS.out.nd1.2))
          clear hA tu t2 t3 t4 t5
          go_upto_region 25 with (go_at_call 29; go_must (refine HAP2.out.mono ?_); rintro e w5 ⟨⟨n, rfl, hd⟩, hb5⟩; have HD := Lib.hid hd; have HW2 := Lib.hid (HW.out.trans (hb5.mono HW.out.size)); have K3 := Lib.hid (G3.out.below' hb5); have K7 := Lib.hid (G7.out.below' hb5); clear hd hb5)
          clear y0 y1 y4 y5 z0 z1 z2 z3 z4
          have y0 := K7.out.cell 0
          have z3 := K3.out.cell 3
          have hn := HNB.out n HD.out
          have hwr : IntKind.i64.wrap (at_ + (n : Int)) = at_ + (n : Int) := by rw [IntKind.wrap_i64]; omega
          have hwn : IntKind.i64.wrap ((n : Int) + 1) = (n : Int) + 1 := by rw [IntKind.wrap_i64]; omega
          obtain ⟨hd1, hd2⟩ := HDE.out n HD.out
          clear HDE HNB HAP2
          by_cases hlt2 : at_ + (n : Int) < s.nt
          · rw [decide_eq_true hlt2] at hd1
            have hE : M.routeE s L k ⟨at_, lv, dr, tl, (a : Int), (b : Int)⟩ = 0 := by
              unfold M.hasR at hd1; unfold M.routeE; rw [if_pos (of_decide_eq_true hd1)]
            have hA2 : an = n + 1 := by rw [HAN.out hd1, hd2 hlt2]
            rw [hE]
            subst hA2
            clear hd1 hd2 hE HAN
            go_wp2_with (go_at_call 13; go_must (refine (HWO.out _ HW2.out).mono ?_); rintro e w9 ⟨rfl, hb9⟩; have HB9 := Lib.hid (HW2.out.trans (hb9.mono HW2.out.size)); clear hb9)
            go_ret
            exact ⟨rfl, HB9.out⟩
          · rw [decide_eq_false hlt2] at hd1
            have hE : M.routeE s L k ⟨at_, lv, dr, tl, (a : Int), (b : Int)⟩ = 3 := by
              unfold M.hasR at hd1; unfold M.routeE; rw [if_neg (of_decide_eq_false hd1)]
            rw [hE]
            clear hd1 hd2 hE HAN
            go_wp2_with (go_at_call 13; go_must (refine (HWO.out _ HW2.out).mono ?_); rintro e w9 ⟨rfl, hb9⟩; have HB9 := Lib.hid (HW2.out.trans (hb9.mono HW2.out.size)); clear hb9)
            go_ret
            exact ⟨rfl, HB9.out⟩
end
end Go.Proofs.YtkdpmihdhiokkaaDoor
/- LanesFewer, walked from its 6th statement on: the trip without a tow. -/
namespace Go.Proofs.YtkdpmihdhiokkaaDoor
open Go.RowKit

theorem RouteV.len2 {s : M.Sea} {L : Nat → M.Leg} {n : Nat} {r : M.Trip} {base : Nat} {v : Value} {w : World} (h : RouteV s L n r base v w) : ∃ A k c, v = .slice A k c ∧ (M.hasR s L n r = true → k = M.endK s L n r + 1) := by
  by_cases hh : M.endK s L n r < s.nt - r.at_.toNat
  · obtain ⟨A, c, e⟩ := (h.yes hh).form
    exact ⟨A, _, c, e, fun _ => rfl⟩
  · exact ⟨none, 0, 0, h.no hh, fun h2 => absurd (of_decide_eq_true h2) hh⟩
theorem routeE_yes {s : M.Sea} {L : Nat → M.Leg} {n : Nat} {r : M.Trip} (h : M.hasR s L n r = true) : M.routeE s L n r = 0 := by unfold M.routeE; rw [if_pos (of_decide_eq_true h)]
theorem routeE_no {s : M.Sea} {L : Nat → M.Leg} {n : Nat} {r : M.Trip} (h : M.hasR s L n r = false) : M.routeE s L n r = 3 := by unfold M.routeE; rw [if_neg (of_decide_eq_false h)]
section
variable (s : M.Sea) (dA tA sA lA aA : Option Addr) (dc tc sc ln lc B P3 P7 an ac : Nat) (L : Nat → M.Leg) (at_ lv dr fr dst ev : Int) (tl : Bool) (w X : World)
set_option maxRecDepth 100000 in
set_option maxHeartbeats 3200000 in
theorem fewer_light {v0 v2 v4 v5 v6 v10 v11 v12 v13 v14 v15 v16 v17 v18 v19 v20 v21 v22 v23 v24 v25 v26 v27 v28 v29 v30 v31 v32 v33 v34 v35 v36 v37 v38 v39 v40 v41 v42 v43 v44 v45 v46 v47 v48 v49 v50 v51 v52 v53 v54 v55 v56 v57 v58 v59 v60 v61 v62 v63 v64 v65 v66 v67 v68 v69 v70 v71 v72 v73 v74 v75 v76 v77 v78 v79 v80 v81 v82 v83 v84 v85 v86 v87 v88 v89 v90 v91 v92 v93 v94 v95 v96 v97 v98 v99 v100 v101 v102 v103 v104 v105 v106 v107 v108 v109 v110 v111 v112 v113 v114 v115 v116 v117 v118 v119 v120 v121 v122 v123 v124 v125 v126 v127 v128 v129 v130 v131 v132 v133 v134 v135 v136 v137 v138 v139 v140 v141 v142 v143 v144 v145 v146 v147 v148 v149 v150 v151 v152 v153 v154 v155 v156 v157 v158 v159 v160 v161 v162 v163 v164 v165 v166 v167 v168 v169 v170 v171 v172 v173 v174 v175 v176 v177 v178 v179 v180 v181 v182 v183 v184 v185 v186 : Value} (hs : s.Ok) (hnt : s.nt ≤ 60) (hw : Ways w) (hR : RdC w B dA tA sA s.nd s.nt s.nt s.dep s.tide s.sw) (hB : B ≤ w.heap.size) (hL : RdL w B lA ln L) (hln : ln ≤ 1048576) (hto : M.tripOk s ⟨at_, lv, dr, tl, fr, dst⟩ = true) (hlo : M.legsOk s ln L = true) (hX : Below w.heap.size w X) (C3 : Blk X P3 25 #[.int .i64 (s.W : Int), .int .i64 (s.H : Int), .slice dA s.nd dc, .slice tA s.nt tc, .slice sA s.nt sc]) (C7 : Blk X P7 28 #[.int .i64 at_, .int .i64 lv, .int .i64 dr, .bool tl, .int .i64 fr, .int .i64 dst]) (hev : ev = M.routeE s L ln ⟨at_, lv, dr, tl, fr, dst⟩) (han : M.hasR s L ln ⟨at_, lv, dr, tl, fr, dst⟩ = true → an = M.endK s L ln ⟨at_, lv, dr, tl, fr, dst⟩ + 1) :
    Code.wp Tryd.prog (restAt Tryd.f7 6) (bodyPost Tryd.prog Tryd.f7 (FewR w)) { tmps := List.toArray (v0 :: .slice lA ln lc :: v2 :: .pointer (some ⟨P3, 0, none⟩) :: v4 :: v5 :: v6 :: .pointer (some ⟨P7, 0, none⟩) :: .slice aA an ac :: .int .i64 ev :: v10 :: v11 :: v12 :: v13 :: v14 :: v15 :: v16 :: v17 :: v18 :: v19 :: v20 :: v21 :: v22 :: v23 :: v24 :: v25 :: v26 :: v27 :: v28 :: v29 :: v30 :: v31 :: v32 :: v33 :: v34 :: v35 :: v36 :: v37 :: v38 :: v39 :: v40 :: v41 :: v42 :: v43 :: v44 :: v45 :: v46 :: v47 :: v48 :: v49 :: v50 :: v51 :: v52 :: v53 :: v54 :: v55 :: v56 :: v57 :: v58 :: v59 :: v60 :: v61 :: v62 :: v63 :: v64 :: v65 :: v66 :: v67 :: v68 :: v69 :: v70 :: v71 :: v72 :: v73 :: v74 :: v75 :: v76 :: v77 :: v78 :: v79 :: v80 :: v81 :: v82 :: v83 :: v84 :: v85 :: v86 :: v87 :: v88 :: v89 :: v90 :: v91 :: v92 :: v93 :: v94 :: v95 :: v96 :: v97 :: v98 :: v99 :: v100 :: v101 :: v102 :: v103 :: v104 :: v105 :: v106 :: v107 :: v108 :: v109 :: v110 :: v111 :: v112 :: v113 :: v114 :: v115 :: v116 :: v117 :: v118 :: v119 :: v120 :: v121 :: v122 :: v123 :: v124 :: v125 :: v126 :: v127 :: v128 :: v129 :: v130 :: v131 :: v132 :: v133 :: v134 :: v135 :: v136 :: v137 :: v138 :: v139 :: v140 :: v141 :: v142 :: v143 :: v144 :: v145 :: v146 :: v147 :: v148 :: v149 :: v150 :: v151 :: v152 :: v153 :: v154 :: v155 :: v156 :: v157 :: v158 :: v159 :: v160 :: v161 :: v162 :: v163 :: v164 :: v165 :: v166 :: v167 :: v168 :: v169 :: v170 :: v171 :: v172 :: v173 :: v174 :: v175 :: v176 :: v177 :: v178 :: v179 :: v180 :: v181 :: v182 :: v183 :: v184 :: v185 :: v186 :: []), defers := [] } X := by
  have hlt : M.tripOk s ⟨at_, lv, dr, false, fr, dst⟩ = true := hto
  have HGL := Lib.hid (fun (h : M.hasR s L ln ⟨at_, lv, dr, tl, fr, dst⟩ = true) => (show M.hasR s L ln ⟨at_, lv, dr, false, fr, dst⟩ = true ∧ M.endK s L ln ⟨at_, lv, dr, false, fr, dst⟩ ≤ M.endK s L ln ⟨at_, lv, dr, tl, fr, dst⟩ from by
    have h2 := M.endK_mono (L := L) (L' := L) (n := ln) (n' := ln) (r := ⟨at_, lv, dr, tl, fr, dst⟩) (r' := ⟨at_, lv, dr, false, fr, dst⟩) rfl rfl rfl (fun p q t hg => M.goes_light hg) (of_decide_eq_true h)
    have h3 : M.endK s L ln ⟨at_, lv, dr, tl, fr, dst⟩ < s.nt - at_.toNat := of_decide_eq_true h
    exact ⟨decide_eq_true (show M.endK s L ln ⟨at_, lv, dr, false, fr, dst⟩ < s.nt - at_.toNat by omega), h2⟩))
  have HEV := Lib.hid hev
  have HAN := Lib.hid han
  clear hev han
  have hz := hX.size
  have D0 := Lib.hid (Blk.new X 28 #[.int .i64 at_, .int .i64 lv, .int .i64 dr, .bool tl, .int .i64 fr, .int .i64 dst])
  have X0 := Lib.hid (hX.alloc hz (.cells #[.int .i64 at_, .int .i64 lv, .int .i64 dr, .bool tl, .int .i64 fr, .int .i64 dst] 28))
  have T0 := Lib.hid (C3.alloc (.cells #[.int .i64 at_, .int .i64 lv, .int .i64 dr, .bool tl, .int .i64 fr, .int .i64 dst] 28))
  have S0 := Lib.hid (C7.alloc (.cells #[.int .i64 at_, .int .i64 lv, .int .i64 dr, .bool tl, .int .i64 fr, .int .i64 dst] 28))
  have hl7 := C7.lt
  have hl3 := C3.lt
  have y0 := C7.cell 0
  have y1 := C7.cell 1
  have y2 := C7.cell 2
  have y3 := C7.cell 3
  have y4 := C7.cell 4
  have y5 := C7.cell 5
  have HRA := Lib.hid (fun V (hb2 : Below w.heap.size w V) => Route_ok s dA tA sA lA dc tc sc ln lc B L V at_ lv dr fr dst false hs (hw.below hb2) (hR.below (hb2.mono hB)) (Nat.le_trans hB hb2.size) (hL.below (hb2.mono hB)) hln hlo hlt)
  have HALL := Lib.hid (show _ ∧ _ from ⟨hs, hw⟩)
  clear hlt
  conv in restAt _ _ => whnf
  go_upto_region 13 with fail
  clear y0 y1 y2 y3 y4 y5
  obtain ⟨Y, hY⟩ : ∃ Y, Y = X.alloc (.cells #[.int .i64 at_, .int .i64 lv, .int .i64 dr, .bool tl, .int .i64 fr, .int .i64 dst] 28) := ⟨_, rfl⟩
  rw [← hY] at D0 X0 T0 S0
  rw [← hY]
  clear hY
  have d3 := D0.out.cell 3
  have g3 := D0.out.frz 3
  go_upto_region 14 with fail
  clear d3 g3
  have D1 := Lib.hid (show Blk (Y.setCell ⟨X.heap.size, 3, none⟩ (.bool false)) X.heap.size 28 #[.int .i64 at_, .int .i64 lv, .int .i64 dr, .bool false, .int .i64 fr, .int .i64 dst] from D0.out.set_ 3 (.bool false))
  have HX4 := Lib.hid (X0.out.setCell (p := ⟨X.heap.size, 3, none⟩) hz (.bool false))
  have H34 := Lib.hid (T0.out.far (p := ⟨X.heap.size, 3, none⟩) (show P3 ≠ X.heap.size by omega) (.bool false))
  have H74 := Lib.hid (S0.out.far (p := ⟨X.heap.size, 3, none⟩) (show P7 ≠ X.heap.size by omega) (.bool false))
  generalize Y.setCell ⟨X.heap.size, 3, none⟩ (.bool false) = Z at D1 HX4 H34 H74 ⊢
  have d0 := D1.out.cell 0
  have d1 := D1.out.cell 1
  have d2 := D1.out.cell 2
  have d3 := D1.out.cell 3
  have d4 := D1.out.cell 4
  have d5 := D1.out.cell 5
  have z0 := H34.out.cell 0
  have z1 := H34.out.cell 1
  have z2 := H34.out.cell 2
  have z3 := H34.out.cell 3
  have z4 := H34.out.cell 4
  have HRO := Lib.hid (HRA.out Z HX4.out)
  go_upto_region 15 with (go_at_call 14; go_must (refine HRO.out.mono ?_); rintro e w5 ⟨⟨v, rfl, hv⟩, hb5⟩; obtain ⟨bA, bn, bc, rfl, hbn⟩ := RouteV.len2 hv; have HBN := Lib.hid hbn; have HX5 := Lib.hid (HX4.out.trans (hb5.mono HX4.out.size)); have H35 := Lib.hid (H34.out.below' hb5); have H75 := Lib.hid (H74.out.below' hb5); clear hv hb5 hbn)
  clear d0 d1 d2 d3 d4 d5 z0 z1 z2 z3 z4 HRO HRA
  cases hH : M.hasR s L ln ⟨at_, lv, dr, tl, fr, dst⟩
  · obtain rfl : ev = 3 := HEV.out.trans (routeE_no hH)
    cases hG : M.hasR s L ln ⟨at_, lv, dr, false, fr, dst⟩
    · rw [routeE_no hG]
      clear hH
      go_upto_if 125 with fail
      refine wp_cond_false rfl (wp_skip ?_)
      apply_assumption
      exact fewer_tail s dA tA sA lA aA dc tc sc ln lc B P3 P7 an ac L at_ lv dr fr dst 3 tl w _ hs hnt hw hR hB hL hln hto HX5.out H35.out H75.out HEV.out HAN.out
    · rw [routeE_yes hG]
      clear hH
      go_upto_if 125 with fail
      refine wp_cond_false rfl (wp_skip ?_)
      apply_assumption
      exact fewer_tail s dA tA sA lA aA dc tc sc ln lc B P3 P7 an ac L at_ lv dr fr dst 3 tl w _ hs hnt hw hR hB hL hln hto HX5.out H35.out H75.out HEV.out HAN.out
  · obtain rfl : ev = 0 := HEV.out.trans (routeE_yes hH)
    obtain ⟨g1, g2⟩ := HGL.out hH
    rw [routeE_yes g1]
    have hle : bn ≤ an := by rw [HBN.out g1, HAN.out hH]; omega
    have hle2 : decide (an < bn) = false := decide_eq_false (by omega)
    clear g1 g2
    clear hH
    go_upto_if 125 with fail
    refine wp_cond_false rfl (wp_skip ?_)
    apply_assumption
    exact fewer_tail s dA tA sA lA aA dc tc sc ln lc B P3 P7 an ac L at_ lv dr fr dst 0 tl w _ hs hnt hw hR hB hL hln hto HX5.out H35.out H75.out HEV.out HAN.out
end
end Go.Proofs.YtkdpmihdhiokkaaDoor
/- LanesFewer, walked. -/
namespace Go.Proofs.YtkdpmihdhiokkaaDoor
open Go.RowKit

/-- without the k-th leg -/
def M.lessF (L : Nat → M.Leg) (k : Nat) : Nat → M.Leg := fun i => if i < k then L i else L (i + 1)
theorem legs_less {s : M.Sea} {L : Nat → M.Leg} {n k : Nat} (hk : k < n) (h : M.legsOk s n L = true) : M.legsOk s (n - 1) (M.lessF L k) = true := by
  unfold M.legsOk at h ⊢
  simp only [Bool.and_eq_true, M.allTo_iff, decide_eq_true_eq] at h ⊢
  refine ⟨by omega, fun i hi => ?_⟩
  unfold M.lessF
  split
  · exact h.2 i (by omega)
  · exact h.2 (i + 1) (by omega)
theorem lessF_cat {L : Nat → M.Leg} {k i : Nat} : (if i < k then L i else L (i - k + (k + 1))) = M.lessF L k i := by
  unfold M.lessF
  by_cases e : i < k
  · rw [if_pos e, if_pos e]
  · rw [if_neg e, if_neg e, show i - k + (k + 1) = i + 1 by omega]
theorem lessF_bd {L : Nat → M.Leg} {n k : Nat} (h : ∀ i, i < n → (L i).n ≤ 100) (hk : k < n) (i : Nat) (hi : i < n - 1) : (M.lessF L k i).n ≤ maxLen := by
  unfold M.lessF maxLen
  by_cases e : i < k
  · rw [if_pos e]; have := h i (by omega); omega
  · rw [if_neg e]; have := h (i + 1) (by omega); omega
theorem fewer_less {s : M.Sea} {L : Nat → M.Leg} {ln k : Nat} {r : M.Trip} (hk : k < ln) (h : M.hasR s L ln r = true) : M.hasR s (M.lessF L k) (ln - 1) r = true ∧ M.endK s (M.lessF L k) (ln - 1) r ≤ M.endK s L ln r := by
  have h3 : M.endK s L ln r < s.nt - r.at_.toNat := of_decide_eq_true h
  have h2 := M.endK_mono (s := s) (L := L) (L' := M.lessF L k) (n := ln) (n' := ln - 1) (r := r) (r' := r) rfl rfl rfl (fun p q t hg => M.goes_sub (fun i hi => by
    unfold M.lessF
    split
    · exact ⟨i, by omega, rfl⟩
    · exact ⟨i + 1, by omega, rfl⟩) hg) h3
  exact ⟨decide_eq_true (by omega), h2⟩
theorem RdL.take {w : World} {B n k : Nat} {A : Option Addr} {L : Nat → M.Leg} (h : RdL w B A n L) (hk : k ≤ n) : RdL w B A k L := by
  rcases h with h | ⟨b, off, e, hb, hc⟩
  · exact .inl (by omega)
  · exact .inr ⟨b, off, e, hb, fun i hi => hc i (by omega)⟩
theorem RdL.drop {w : World} {B n k b off lc : Nat} {L : Nat → M.Leg} (h : RdL w B (some ⟨b, off, none⟩) n L) (hn : n ≤ lc) : RdL w B (if lc = k + 1 then some ⟨b, off, none⟩ else some ⟨b, off + (k + 1) * 5, none⟩) (n - (k + 1)) (fun i => L (i + (k + 1))) := by
  by_cases hc : lc = k + 1
  · exact .inl (by omega)
  · rw [if_neg hc]
    rcases h with h | ⟨b', off', e, hb, hcs⟩
    · exact .inl (by omega)
    · injection e with e
      injection e with e1 e2 _
      subst e1; subst e2
      refine .inr ⟨b, off + (k + 1) * 5, rfl, hb, fun i hi => ?_⟩
      have h2 := hcs (i + (k + 1)) (by omega)
      rw [show off + (i + (k + 1)) * 5 = off + (k + 1) * 5 + i * 5 by omega] at h2
      exact h2
theorem CL.one {W : World} {base n : Nat} {v : Value} {L : Nat → M.Leg} (h : CL W base v n L) : ∃ V, Own W base 41 5 v n (legV L V) ∧ (∀ i, i < n → Own W base 3 1 (V i) (L i).n (ints (L i).c)) ∧ ∀ i, (V i).oneCell' = true := by
  obtain ⟨V, h1, h2⟩ := h
  refine ⟨fun i => if i < n then V i else .slice none 0 0, h1.congr fun i j hi _ => ?_, fun i hi => ?_, fun i => ?_⟩
  · unfold legV; simp only [if_pos hi]
  · simp only [if_pos hi]; exact h2 i hi
  · by_cases e : i < n
    · simp only [if_pos e]
      obtain ⟨A, c, e2⟩ := (h2 i e).form
      rw [e2]; rfl
    · simp only [if_neg e]; rfl
theorem CL.cat {W W' : World} {base k m : Nat} {v1 v' : Value} {L1 L2 : Nat → M.Leg} {V1 V2 : Nat → Value} (h1 : Own W base 41 5 v1 k (legV L1 V1)) (h2 : ∀ i, i < k → Own W base 3 1 (V1 i) (L1 i).n (ints (L1 i).c)) (h3 : ∀ i, i < m → Own W base 3 1 (V2 i) (L2 i).n (ints (L2 i).c))
    (ho : Own W' base 41 5 v' (k + m) (catF k (legV L1 V1) (legV L2 V2))) (hg : W.grownBy W' v1.ownBlock) : CL W' base v' (k + m) (fun i => if i < k then L1 i else L2 (i - k)) := by
  refine ⟨fun i => if i < k then V1 i else V2 (i - k), ho.congr fun i j hi _ => ?_, fun i hi => ?_⟩
  · unfold catF legV
    by_cases e : i < k
    · simp only [if_pos e]
    · simp only [if_neg e]
  · by_cases e : i < k
    · simp only [if_pos e]
      exact (h2 i e).apart_grown (h1.apart_type (h2 i e) (by decide)) hg
    · simp only [if_neg e]
      have h4 := h3 (i - k) (by omega)
      exact h4.apart_grown (h1.apart_type h4 (by decide)) hg
section
variable (W H : Int) (dA tA sA lA : Option Addr) (nd dc nt tc ns sc ln lc B : Nat) (dep : Nat → Int) (tide : Nat → Nat → Int) (sw : Nat → Int) (L : Nat → M.Leg) (at_ lv dr fr dst bt : Int) (tl : Bool) (w : World)
set_option maxRecDepth 100000 in
set_option maxHeartbeats 6400000 in
theorem lanesFewer_any (hnd : nd ≤ maxLen) (hnt : nt ≤ maxLen) (hns : ns ≤ maxLen) (hln : ln ≤ maxLen) (hlc : ln ≤ lc) (hw : Ways w) (hR : RdC w B dA tA sA nd nt ns dep tide sw) (hB : B ≤ w.heap.size) (hL : RdL w B lA ln L) :
    Calls Tryd.prog 7 #[.agg #[.int .i64 W, .int .i64 H, .slice dA nd dc, .slice tA nt tc, .slice sA ns sc], .slice lA ln lc, .agg #[.int .i64 at_, .int .i64 lv, .int .i64 dr, .bool tl, .int .i64 fr, .int .i64 dst, .int .i64 bt]] w fun e w' => FewR w e w' := by
  have HR := Lib.hid (belowAlloc2 w (.cells #[.int .i64 W, .int .i64 H, .slice dA nd dc, .slice tA nt tc, .slice sA ns sc] 25) (.cells #[.int .i64 at_, .int .i64 lv, .int .i64 dr, .bool tl, .int .i64 fr, .int .i64 dst, .int .i64 bt] 60))
  have CR := Lib.hid ((Blk.new w 25 #[.int .i64 W, .int .i64 H, .slice dA nd dc, .slice tA nt tc, .slice sA ns sc]).alloc (.cells #[.int .i64 at_, .int .i64 lv, .int .i64 dr, .bool tl, .int .i64 fr, .int .i64 dst, .int .i64 bt] 60))
  have XR := Lib.hid (Blk.new1 w (.cells #[.int .i64 W, .int .i64 H, .slice dA nd dc, .slice tA nt tc, .slice sA ns sc] 25) 60 #[.int .i64 at_, .int .i64 lv, .int .i64 dr, .bool tl, .int .i64 fr, .int .i64 dst, .int .i64 bt])
  obtain ⟨X, hX⟩ : ∃ X, X = (w.alloc (.cells #[.int .i64 W, .int .i64 H, .slice dA nd dc, .slice tA nt tc, .slice sA ns sc] 25)).alloc (.cells #[.int .i64 at_, .int .i64 lv, .int .i64 dr, .bool tl, .int .i64 fr, .int .i64 dst, .int .i64 bt] 60) := ⟨_, rfl⟩
  have HXe := Lib.hid hX
  rw [← hX] at HR CR XR
  clear hX
  have HW0 := Lib.hid hw
  have HR0 := Lib.hid hR
  have HL0 := Lib.hid hL
  have HRC := Lib.hid (fun V (hb2 : Below w.heap.size w V) => hR.below (hb2.mono hB))
  have HRL := Lib.hid (fun V (hb2 : Below w.heap.size w V) => hL.below (hb2.mono hB))
  have HWY := Lib.hid (fun V (hb2 : Below w.heap.size w V) => hw.below hb2)
  have HBB := Lib.hid hB
  have HLC := Lib.hid hlc
  have HWO := Lib.hid (fun V (hb2 : Below w.heap.size w V) => works_any V (hw.below hb2))
  have HVA := Lib.hid (fun V (hb2 : Below w.heap.size w V) => valid_cl W H dA tA sA lA nd dc nt tc ns sc ln lc B dep tide sw L V hnd hnt hns hln (HRC.out _ hb2) (Nat.le_trans HBB.out hb2.size) (HRL.out _ hb2))
  obtain ⟨j0, ki, kz0, kz1, kz2⟩ := info_parts leg_info
  have MJ := Lib.hid (And.intro ki (And.intro kz0 (And.intro kz1 kz2)))
  clear ki kz0 kz1 kz2
  clear hR hw hB hL hlc
  go_enter Tryd.func7, Tryd.ntmps7
  go_upto_region 1 with fail
  rw [← HXe.out]
  clear HXe
  have x0 := XR.out.cell 0
  have x1 := XR.out.cell 1
  have x2 := XR.out.cell 2
  have x3 := XR.out.cell 3
  have x4 := XR.out.cell 4
  have x5 := XR.out.cell 5
  have x6 := XR.out.cell 6
  go_upto_region 2 with fail
  clear x0 x1 x2 x3 x4 x5
  have YR := Lib.hid (Blk.new X 28 #[.int .i64 at_, .int .i64 lv, .int .i64 dr, .bool tl, .int .i64 fr, .int .i64 dst])
  have HR' := Lib.hid (HR.out.alloc HR.out.size (.cells #[.int .i64 at_, .int .i64 lv, .int .i64 dr, .bool tl, .int .i64 fr, .int .i64 dst] 28))
  have CR' := Lib.hid (CR.out.alloc (.cells #[.int .i64 at_, .int .i64 lv, .int .i64 dr, .bool tl, .int .i64 fr, .int .i64 dst] 28))
  have XR' := Lib.hid (XR.out.alloc (.cells #[.int .i64 at_, .int .i64 lv, .int .i64 dr, .bool tl, .int .i64 fr, .int .i64 dst] 28))
  obtain ⟨P7, hP7⟩ : ∃ P7, P7 = X.heap.size := ⟨_, rfl⟩
  rw [← hP7] at YR
  rw [← hP7]
  generalize X.alloc (.cells #[.int .i64 at_, .int .i64 lv, .int .i64 dr, .bool tl, .int .i64 fr, .int .i64 dst] 28) = Y at YR HR' CR' XR' ⊢
  clear HR CR XR hP7
  have HR := HR'
  have CR := CR'
  have XR := XR'
  clear HR' CR' XR'
  have HLN := Lib.hid hln
  have c0 := CR.out.cell 0; have c1 := CR.out.cell 1; have c2 := CR.out.cell 2; have c3 := CR.out.cell 3; have c4 := CR.out.cell 4; have x6 := XR.out.cell 6; have y0 := YR.out.cell 0; have y1 := YR.out.cell 1; have y2 := YR.out.cell 2; have y3 := YR.out.cell 3; have y4 := YR.out.cell 4; have y5 := YR.out.cell 5
  go_wp2_with (go_at_call 11; go_must (refine (HVA.out _ HR.out).mono ?_); rintro e w1 ⟨⟨V, rfl, hV⟩, hb1⟩; have HV := Lib.hid hV; clear hV; have HR' := Lib.hid (HR.out.trans (hb1.mono HR.out.size)); have CR' := Lib.hid (CR.out.below' hb1); have XR' := Lib.hid (XR.out.below' hb1); have YR' := Lib.hid (YR.out.below' hb1); clear hb1 c0 c1 c2 c3 c4 x6 y0 y1 y2 y3 y4 y5 HR CR XR YR; have HR := HR'; have CR := CR'; have XR := XR'; have YR := YR'; clear HR' CR' XR' YR'; have c0 := CR.out.cell 0; have c1 := CR.out.cell 1; have c2 := CR.out.cell 2; have c3 := CR.out.cell 3; have c4 := CR.out.cell 4; have x6 := XR.out.cell 6; have y0 := YR.out.cell 0; have y1 := YR.out.cell 1; have y2 := YR.out.cell 2; have y3 := YR.out.cell 3; have y4 := YR.out.cell 4; have y5 := YR.out.cell 5; cases V)
  · go_wp2_with (go_at_call 13; go_must (refine (HWO.out _ HR.out).mono ?_); rintro e w9 ⟨rfl, hb9⟩; have HB9 := Lib.hid (HR.out.trans (hb9.mono HR.out.size)); clear hb9)
    go_ret
    exact ⟨rfl, HB9.out⟩
  · obtain ⟨W', H', rfl, rfl, rfl, hs, hnd20, hnt8, hln5, hlo⟩ := HV.out (by first | rfl | trivial)
    obtain ⟨s, hsd⟩ : ∃ s : M.Sea, s = ⟨W', H', nd, ns, dep, tide, sw⟩ := ⟨_, rfl⟩
    have HSN := Lib.hid (show s.nd = nd ∧ s.nt = ns by rw [hsd]; exact ⟨rfl, rfl⟩)
    have HSO := Lib.hid (show s.Ok by rw [hsd]; exact hs)
    have HLO := Lib.hid (show M.legsOk s ln L = true by rw [hsd]; exact hlo)
    have HAT := Lib.hid (show ∀ i, i < ln → -100 ≤ (L i).at_ ∧ (L i).at_ ≤ 100 ∧ (L i).n ≤ 100 from fun i hi => by
      have hlo2 := HLO.out
      unfold M.legsOk at hlo2
      simp only [Bool.and_eq_true] at hlo2
      have h := M.legOk_iff.1 (M.allTo_iff.1 hlo2.2 i hi)
      have h0 := h.at0
      have h1 := h.at1
      have h2 := h.n1
      have h3 := HSN.out.2
      omega)
    have HIT := Lib.hid (fun V (hb2 : Below w.heap.size w V) => (show Calls Tryd.prog 12 #[.agg #[.int .i64 (W' : Int), .int .i64 (H' : Int), .slice dA nd dc, .slice tA ns tc, .slice sA ns sc], .agg #[.int .i64 at_, .int .i64 lv, .int .i64 dr, .bool tl, .int .i64 fr, .int .i64 dst]] V fun e w' => e = .returned (.bool (M.tripOk s ⟨at_, lv, dr, tl, fr, dst⟩)) ∧ Below V.heap.size V w' from by
      have hs := HSO.out
      have hlo := HLO.out
      subst hsd
      exact istrip_ok ⟨W', H', nd, ns, dep, tide, sw⟩ dA tA sA dc tc sc at_ lv dr fr dst tl V hs))
    have HLS := Lib.hid (show M.legsOk s ln L = true by rw [hsd]; exact hlo)
    have hln12 : ln ≤ 12 := by
      have h := HLS.out
      unfold M.legsOk at h
      simp only [Bool.and_eq_true, decide_eq_true_eq] at h
      exact h.1
    have HRO := Lib.hid (fun V lA' n' c' (L' : Nat → M.Leg) (hl' : RdL V V.heap.size lA' n' L') (hn' : n' ≤ 1048576) (ho' : M.legsOk s n' L' = true) (hto : M.tripOk s ⟨at_, lv, dr, tl, fr, dst⟩ = true) (hb2 : Below w.heap.size w V) => (show Calls Tryd.prog 14 #[.agg #[.int .i64 (W' : Int), .int .i64 (H' : Int), .slice dA nd dc, .slice tA ns tc, .slice sA ns sc], .slice lA' n' c', .agg #[.int .i64 at_, .int .i64 lv, .int .i64 dr, .bool tl, .int .i64 fr, .int .i64 dst]] V fun e w' => (∃ v, e = .returned (.tuple #[v, .int .i64 (M.routeE s L' n' ⟨at_, lv, dr, tl, fr, dst⟩)]) ∧ RouteV s L' n' ⟨at_, lv, dr, tl, fr, dst⟩ V.heap.size v w') ∧ Below V.heap.size V w' from by
      have hs := HSO.out
      have hlo := HLO.out
      subst hsd
      exact Route_ok ⟨W', H', nd, ns, dep, tide, sw⟩ dA tA sA lA' dc tc sc n' c' V.heap.size L' V at_ lv dr fr dst tl hs (HWY.out V hb2) ((HRC.out V hb2).more (Nat.le_trans HBB.out hb2.size)) (Nat.le_refl _) hl' hn' ho' hto))
    have HCP := Lib.hid (fun V A' n' c' L' (hl' : RdL V V.heap.size A' n' L') (hn : n' ≤ 12) (hc : ∀ i, i < n' → (L' i).n ≤ 1048576) => rlcopy_any A' n' c' V.heap.size L' V hl' (Nat.le_refl _) (by omega) hc)
    have HSD := Lib.hid hsd
    clear hsd hs hlo hnt8 hnd20
    have HNM := Lib.hid (fun i (hi : i < ln) => (show (L i).n ≤ 100 from (HAT.out i hi).2.2))
    cases hT : M.tripOk s ⟨at_, lv, dr, tl, fr, dst⟩
    · rw [hT] at HIT
      clear hT
      go_wp2_with (go_at_call 12; go_must (refine (HIT.out _ HR.out).mono ?_); rintro e w2 ⟨rfl, hb2⟩; have HR' := Lib.hid (HR.out.trans (hb2.mono HR.out.size)); have CR' := Lib.hid (CR.out.below' hb2); have XR' := Lib.hid (XR.out.below' hb2); have YR' := Lib.hid (YR.out.below' hb2); clear hb2 c0 c1 c2 c3 c4 x6 y0 y1 y2 y3 y4 y5 HR CR XR YR; have HR := HR'; have CR := CR'; have XR := XR'; have YR := YR'; clear HR' CR' XR' YR'; have c0 := CR.out.cell 0; have c1 := CR.out.cell 1; have c2 := CR.out.cell 2; have c3 := CR.out.cell 3; have c4 := CR.out.cell 4; have x6 := XR.out.cell 6; have y0 := YR.out.cell 0; have y1 := YR.out.cell 1; have y2 := YR.out.cell 2; have y3 := YR.out.cell 3; have y4 := YR.out.cell 4; have y5 := YR.out.cell 5; clear HIT)
      go_wp2_with (go_at_call 13; go_must (refine (HWO.out _ HR.out).mono ?_); rintro e w9 ⟨rfl, hb9⟩; have HB9 := Lib.hid (HR.out.trans (hb9.mono HR.out.size)); clear hb9)
      go_ret
      exact ⟨rfl, HB9.out⟩
    · rw [hT] at HIT
      have HTO := Lib.hid hT
      have HR1 := Lib.hid (fun V (hb2 : Below w.heap.size w V) => HRO.out V lA ln lc L ((HRL.out V hb2).more (Nat.le_trans HBB.out hb2.size)) (by omega) HLS.out hT hb2)
      clear hT
      go_upto_region 4 with (go_at_call 12; go_must (refine (HIT.out _ HR.out).mono ?_); rintro e w2 ⟨rfl, hb2⟩; have HR' := Lib.hid (HR.out.trans (hb2.mono HR.out.size)); have CR' := Lib.hid (CR.out.below' hb2); have XR' := Lib.hid (XR.out.below' hb2); have YR' := Lib.hid (YR.out.below' hb2); clear hb2 c0 c1 c2 c3 c4 x6 y0 y1 y2 y3 y4 y5 HR CR XR YR; have HR := HR'; have CR := CR'; have XR := XR'; have YR := YR'; clear HR' CR' XR' YR'; have c0 := CR.out.cell 0; have c1 := CR.out.cell 1; have c2 := CR.out.cell 2; have c3 := CR.out.cell 3; have c4 := CR.out.cell 4; have x6 := XR.out.cell 6; have y0 := YR.out.cell 0; have y1 := YR.out.cell 1; have y2 := YR.out.cell 2; have y3 := YR.out.cell 3; have y4 := YR.out.cell 4; have y5 := YR.out.cell 5; clear HIT)
      go_upto_region 5 with (go_at_call 14; go_must (refine (HR1.out _ HR.out).mono ?_); rintro e w3 ⟨⟨v, rfl, hv⟩, hb3⟩; obtain ⟨aA, an, ac, rfl, han⟩ := RouteV.len2 hv; have HAN := Lib.hid han; clear hv han; have HR' := Lib.hid (HR.out.trans (hb3.mono HR.out.size)); have CR' := Lib.hid (CR.out.below' hb3); have XR' := Lib.hid (XR.out.below' hb3); have YR' := Lib.hid (YR.out.below' hb3); clear hb3 c0 c1 c2 c3 c4 x6 y0 y1 y2 y3 y4 y5 HR CR XR YR; have HR := HR'; have CR := CR'; have XR := XR'; have YR := YR'; clear HR' CR' XR' YR'; have c0 := CR.out.cell 0; have c1 := CR.out.cell 1; have c2 := CR.out.cell 2; have c3 := CR.out.cell 3; have c4 := CR.out.cell 4; have x6 := XR.out.cell 6; have y0 := YR.out.cell 0; have y1 := YR.out.cell 1; have y2 := YR.out.cell 2; have y3 := YR.out.cell 3; have y4 := YR.out.cell 4; have y5 := YR.out.cell 5; clear HR1)
      cases hH : M.hasR s L ln ⟨at_, lv, dr, tl, fr, dst⟩
      · have HEV := Lib.hid (show (3 : Int) = M.routeE s L ln ⟨at_, lv, dr, tl, fr, dst⟩ from (routeE_no hH).symm)
        rw [routeE_no hH]
        have HHH := Lib.hid hH
        clear hH
        by_cases hb0 : bt < 0
        · have hb1 : decide (0 ≤ bt) = false := decide_eq_false (by omega)
          go_upto_if 55 with fail
          refine wp_cond_false rfl (wp_skip ?_)
          apply_assumption
          have hsd := HSD.out
          have hs := HSO.out
          subst hsd
          exact fewer_light ⟨W', H', nd, ns, dep, tide, sw⟩ dA tA sA lA aA dc tc sc ln lc B w.heap.size P7 an ac L at_ lv dr fr dst 3 tl w _ hs hs.t2 HW0.out HR0.out HBB.out HL0.out (by omega) HTO.out HLS.out HR.out CR.out YR.out HEV.out HAN.out
        · by_cases hb1 : (ln : Int) ≤ bt
          · have hb2 : decide (bt < (ln : Int)) = false := decide_eq_false (by omega)
            go_upto_if 55 with fail
            refine wp_cond_false rfl (wp_skip ?_)
            apply_assumption
            have hsd := HSD.out
            have hs := HSO.out
            subst hsd
            exact fewer_light ⟨W', H', nd, ns, dep, tide, sw⟩ dA tA sA lA aA dc tc sc ln lc B w.heap.size P7 an ac L at_ lv dr fr dst 3 tl w _ hs hs.t2 HW0.out HR0.out HBB.out HL0.out (by omega) HTO.out HLS.out HR.out CR.out YR.out HEV.out HAN.out
          · obtain ⟨k, rfl⟩ : ∃ k : Nat, bt = (k : Int) := ⟨bt.toNat, by omega⟩
            have hk : k < ln := by omega
            have hkc : k < lc := Nat.lt_of_lt_of_le hk HLC.out
            obtain ⟨lb, lo, rfl, hlb, _⟩ := (HRL.out _ HR.out).at_ hk
            clear hb0 hb1
            have hwk : IntKind.i64.wrap ((k : Int) + 1) = (k : Int) + 1 := by rw [IntKind.wrap_i64]; omega
            have kx1 : (k : Int) ≤ (lc : Int) := (by have := HLC.out; omega)
            have kx2 : (k : Int) + 1 ≤ (ln : Int) := (by have := HLC.out; omega)
            have kx3 : (ln : Int) ≤ (lc : Int) := (by have := HLC.out; omega)
            have kx4 : (0 : Int) ≤ (k : Int) + 1 := (by have := HLC.out; omega)
            have kx5 : k ≤ lc := (by have := HLC.out; omega)
            go_upto_region 8 with fail
            have HXL := Lib.hid XR.out.lt
            refine wp_region_T 12 (fun w' => Below w3.heap.size w3 w') (by kernel_rfl) (Below.refl _ _).drew ?_
            intro hS
            refine wpAnyT_take (i := 0) (v := ?_) rfl (by kernel_rfl) (by kernel_rfl) (by kernel_rfl) (by kernel_rfl) (by kernel_rfl) (fun _ _ _ h => h) (.inl ⟨by kernel_rfl, ?_⟩) hS ?_
            rotate_left
            · (intro w' hw; have h1 := (hw.cell (p := ⟨w.heap.size + 1, 6, none⟩) HXL.out).trans x6; go_simp; try with_reducible rfl)
            try simp only [put_laws]
            refine wpAnyT_take (i := 1) (v := ?_) rfl (by kernel_rfl) (by kernel_rfl) (by kernel_rfl) (by kernel_rfl) (by kernel_rfl) (fun _ _ _ h => h) (.inl ⟨by kernel_rfl, ?_⟩) hS ?_
            rotate_left
            · (intro w' hw; have h1 := (hw.cell (p := ⟨w.heap.size + 1, 6, none⟩) HXL.out).trans x6; go_simp; try with_reducible rfl)
            try simp only [put_laws]
            refine wpAnyT_take (i := 2) (v := ?_) rfl (by kernel_rfl) (by kernel_rfl) (by kernel_rfl) (by kernel_rfl) (by kernel_rfl) (fun _ _ _ h => h) (.inl ⟨by kernel_rfl, ?_⟩) hS ?_
            rotate_left
            · (intro w' hw; have h1 := (hw.cell (p := ⟨w.heap.size + 1, 6, none⟩) HXL.out).trans x6; go_simp; try with_reducible rfl)
            try simp only [put_laws]
            refine wpAnyT_take (i := 3) (v := ?_) rfl (by kernel_rfl) (by kernel_rfl) (by kernel_rfl) (by kernel_rfl) (by kernel_rfl) (fun _ _ _ h => h) (.inl ⟨by kernel_rfl, ?_⟩) hS ?_
            rotate_left
            · (intro w' hw; have h1 := (hw.cell (p := ⟨w.heap.size + 1, 6, none⟩) HXL.out).trans x6; go_simp; try with_reducible rfl)
            try simp only [put_laws]
            refine wpAnyT_take (i := 5) (v := ?_) rfl (by kernel_rfl) (by kernel_rfl) (by kernel_rfl) (by kernel_rfl) (by kernel_rfl) (fun _ _ _ h => h) (.inl ⟨by kernel_rfl, ?_⟩) hS ?_
            rotate_left
            · (intro w' hw; have h1 := (hw.cell (p := ⟨w.heap.size + 1, 6, none⟩) HXL.out).trans x6; go_simp; try with_reducible rfl)
            try simp only [put_laws]
            refine wpAnyT_take (i := 6) (v := ?_) rfl (by kernel_rfl) (by kernel_rfl) (by kernel_rfl) (by kernel_rfl) (by kernel_rfl) (fun _ _ _ h => h) (.inl ⟨by kernel_rfl, ?_⟩) hS ?_
            rotate_left
            · (intro w' hw; have h1 := (hw.cell (p := ⟨w.heap.size + 1, 6, none⟩) HXL.out).trans x6; go_simp; try with_reducible rfl)
            try simp only [put_laws]
            refine wpAnyT_take (i := 7) (v := ?_) rfl (by kernel_rfl) (by kernel_rfl) (by kernel_rfl) (by kernel_rfl) (by kernel_rfl) (fun _ _ _ h => h) (.inl ⟨by kernel_rfl, ?_⟩) hS ?_
            rotate_left
            · (intro w' hw; have h1 := (hw.cell (p := ⟨w.heap.size + 1, 6, none⟩) HXL.out).trans x6; go_simp; try with_reducible rfl)
            try simp only [put_laws]
            refine wpAnyT_take (i := 8) (v := ?_) rfl (by kernel_rfl) (by kernel_rfl) (by kernel_rfl) (by kernel_rfl) (by kernel_rfl) (fun _ _ _ h => h) (.inl ⟨by kernel_rfl, ?_⟩) hS ?_
            rotate_left
            · (intro w' hw; have h1 := (hw.cell (p := ⟨w.heap.size + 1, 6, none⟩) HXL.out).trans x6; go_simp; try with_reducible rfl)
            try simp only [put_laws]
            refine wpAnyT_take (i := 9) (v := ?_) rfl (by kernel_rfl) (by kernel_rfl) (by kernel_rfl) (by kernel_rfl) (by kernel_rfl) (fun _ _ _ h => h) (.inl ⟨by kernel_rfl, ?_⟩) hS ?_
            rotate_left
            · (intro w' hw; have h1 := (hw.cell (p := ⟨w.heap.size + 1, 6, none⟩) HXL.out).trans x6; go_simp; try with_reducible rfl)
            try simp only [put_laws]
            refine wpAnyT_one (i := 4) (by kernel_rfl) rfl ?_
            intro K' hK'
            go_simp
            refine (HCP.out _ (some ⟨lb, lo, none⟩) k lc L (((HRL.out _ (HR.out.trans (hS.mono HR.out.size))).more (Nat.le_trans HBB.out (Nat.le_trans HR.out.size hS.size))).take (by omega)) (by omega) (fun i hi => by have := HNM.out i (by omega); omega)).mono ?_
            rintro e w8 ⟨⟨v8, rfl, hv8⟩, hb8⟩
            replace hv8 := hv8.less (show w3.heap.size ≤ _ from hS.size)
            obtain ⟨V8, ho8, hc8, hu8⟩ := hv8.one
            obtain ⟨A8, c8, rfl⟩ := ho8.form
            have hS' := hS.trans (hb8.mono hS.size)
            clear hS
            have hS := hS'
            clear hS'
            clear hb8 hv8
            refine hK'.out _ _ (.inr hS) ?_
            clear hK' K'
            try simp only [put_laws]
            refine wpAnyT_one (i := 10) (by kernel_rfl) rfl ?_
            intro K' hK'
            go_simp
            refine (HCP.out _ _ (ln - (k + 1)) _ (fun i => L (i + (k + 1))) (RdL.drop ((HRL.out _ (HR.out.trans (hS.mono HR.out.size))).more (Nat.le_trans HBB.out (Nat.le_trans HR.out.size hS.size))) HLC.out) (by omega) (fun i hi => by have := HNM.out (i + (k + 1)) (by omega); omega)).mono ?_
            rintro e w9 ⟨⟨v9, rfl, hv9⟩, hb9⟩
            replace hv9 := hv9.less (show w3.heap.size ≤ _ from hS.size)
            obtain ⟨V9, ho9, hc9, hu9⟩ := hv9.one
            obtain ⟨A9, c9, rfl⟩ := ho9.form
            have hk8 := ho8.below hb9
            have hkc8 := (fun i hi => (hc8 i hi).below hb9)
            have hS' := hS.trans (hb9.mono hS.size)
            clear hS
            have hS := hS'
            clear hS'
            clear hb9 hv9 ho8 hc8
            refine hK'.out _ _ (.inr hS) ?_
            clear hK' K'
            try simp only [put_laws]
            refine wpAnyT_one (i := 11) (by kernel_rfl) rfl ?_
            intro K' hK'
            refine step_cat (by rfl) (.tmp 60) (.tmp 66) 26 (by rfl) 41 j0 _ 5 56 Tryd.underlying26 MJ.out.1 MJ.out.2.1 MJ.out.2.2.1 MJ.out.2.2.2 rfl (by decide) (by decide) (base := w3.heap.size) (by rfl) hk8 (by omega) hS.size (fun i j => legRow_one _ _ (hu9 i) j) (by rfl) ho9.rdV (by omega) ?_
            intro v10 w10 o10 hg10 hat10
            have hcl := CL.cat hk8 hkc8 hc9 o10 hg10
            have hS' := Below.grown hS hg10 hS.size (fun q hq => (hk8.block hq).1)
            clear hS hg10 hat10 hk8 hkc8 hc9 ho9 o10 hu8 hu9
            have hS := hS'
            clear hS'
            replace hcl := hcl.congr (L' := M.lessF L k) (fun i hi => lessF_cat)
            rw [show k + (ln - (k + 1)) = ln - 1 by omega] at hcl
            obtain ⟨A10, c10, rfl⟩ := hcl.form
            refine hK'.out _ _ (.inr hS) ?_
            clear hK' K'
            try simp only [put_laws]
            refine wpAnyT_one (i := 12) (by kernel_rfl) rfl ?_
            intro K' hK'
            go_simp
            refine hK'.out _ _ (.inl rfl) ?_
            clear hK' K'
            try simp only [put_laws]
            refine wpAnyT_done (by kernel_rfl) ?_ _
            have HCL := Lib.hid hcl
            have HSZ := Lib.hid hS
            clear hcl hS
            have hsz := HSZ.out
            have HR' := Lib.hid (HR.out.trans (hsz.mono HR.out.size)); have CR' := Lib.hid (CR.out.below' hsz); have XR' := Lib.hid (XR.out.below' hsz); have YR' := Lib.hid (YR.out.below' hsz); clear hsz c0 c1 c2 c3 c4 x6 y0 y1 y2 y3 y4 y5 HR CR XR YR; have HR := HR'; have CR := CR'; have XR := XR'; have YR := YR'; clear HR' CR' XR' YR'; have c0 := CR.out.cell 0; have c1 := CR.out.cell 1; have c2 := CR.out.cell 2; have c3 := CR.out.cell 3; have c4 := CR.out.cell 4; have x6 := XR.out.cell 6; have y0 := YR.out.cell 0; have y1 := YR.out.cell 1; have y2 := YR.out.cell 2; have y3 := YR.out.cell 3; have y4 := YR.out.cell 4; have y5 := YR.out.cell 5
            have HR2 := Lib.hid (HRO.out w10 A10 (ln - 1) c10 (M.lessF L k) (HCL.out.rd (lessF_bd HNM.out hk)) (by omega) (legs_less hk HLS.out) HTO.out HR.out)
            go_upto_region 10 with (go_at_call 14; go_must (refine HR2.out.mono ?_); rintro e w11 ⟨⟨v, rfl, hv⟩, hb11⟩; obtain ⟨bA, bn, bc, rfl, hbn⟩ := RouteV.len2 hv; have HBN := Lib.hid hbn; clear hv hbn; have HR' := Lib.hid (HR.out.trans (hb11.mono HR.out.size)); have CR' := Lib.hid (CR.out.below' hb11); have XR' := Lib.hid (XR.out.below' hb11); have YR' := Lib.hid (YR.out.below' hb11); clear hb11 c0 c1 c2 c3 c4 x6 y0 y1 y2 y3 y4 y5 HR CR XR YR; have HR := HR'; have CR := CR'; have XR := XR'; have YR := YR'; clear HR' CR' XR' YR'; have c0 := CR.out.cell 0; have c1 := CR.out.cell 1; have c2 := CR.out.cell 2; have c3 := CR.out.cell 3; have c4 := CR.out.cell 4; have x6 := XR.out.cell 6; have y0 := YR.out.cell 0; have y1 := YR.out.cell 1; have y2 := YR.out.cell 2; have y3 := YR.out.cell 3; have y4 := YR.out.cell 4; have y5 := YR.out.cell 5)
            cases hG : M.hasR s (M.lessF L k) (ln - 1) ⟨at_, lv, dr, tl, fr, dst⟩
            · rw [routeE_no hG]
              clear hG
              go_upto_if 95 with fail
              refine wp_cond_false rfl (wp_skip ?_)
              apply_assumption
              have hsd := HSD.out
              have hs := HSO.out
              subst hsd
              exact fewer_light ⟨W', H', nd, ns, dep, tide, sw⟩ dA tA sA (some ⟨lb, lo, none⟩) aA dc tc sc ln lc B w.heap.size P7 an ac L at_ lv dr fr dst 3 tl w _ hs hs.t2 HW0.out HR0.out HBB.out HL0.out (by omega) HTO.out HLS.out HR.out CR.out YR.out HEV.out HAN.out
            · rw [routeE_yes hG]
              clear hG
              go_upto_if 95 with fail
              refine wp_cond_false rfl (wp_skip ?_)
              apply_assumption
              have hsd := HSD.out
              have hs := HSO.out
              subst hsd
              exact fewer_light ⟨W', H', nd, ns, dep, tide, sw⟩ dA tA sA (some ⟨lb, lo, none⟩) aA dc tc sc ln lc B w.heap.size P7 an ac L at_ lv dr fr dst 3 tl w _ hs hs.t2 HW0.out HR0.out HBB.out HL0.out (by omega) HTO.out HLS.out HR.out CR.out YR.out HEV.out HAN.out
      · have HEV := Lib.hid (show (0 : Int) = M.routeE s L ln ⟨at_, lv, dr, tl, fr, dst⟩ from (routeE_yes hH).symm)
        rw [routeE_yes hH]
        have HHH := Lib.hid hH
        clear hH
        by_cases hb0 : bt < 0
        · have hb1 : decide (0 ≤ bt) = false := decide_eq_false (by omega)
          go_upto_if 55 with fail
          refine wp_cond_false rfl (wp_skip ?_)
          apply_assumption
          have hsd := HSD.out
          have hs := HSO.out
          subst hsd
          exact fewer_light ⟨W', H', nd, ns, dep, tide, sw⟩ dA tA sA lA aA dc tc sc ln lc B w.heap.size P7 an ac L at_ lv dr fr dst 0 tl w _ hs hs.t2 HW0.out HR0.out HBB.out HL0.out (by omega) HTO.out HLS.out HR.out CR.out YR.out HEV.out HAN.out
        · by_cases hb1 : (ln : Int) ≤ bt
          · have hb2 : decide (bt < (ln : Int)) = false := decide_eq_false (by omega)
            go_upto_if 55 with fail
            refine wp_cond_false rfl (wp_skip ?_)
            apply_assumption
            have hsd := HSD.out
            have hs := HSO.out
            subst hsd
            exact fewer_light ⟨W', H', nd, ns, dep, tide, sw⟩ dA tA sA lA aA dc tc sc ln lc B w.heap.size P7 an ac L at_ lv dr fr dst 0 tl w _ hs hs.t2 HW0.out HR0.out HBB.out HL0.out (by omega) HTO.out HLS.out HR.out CR.out YR.out HEV.out HAN.out
          · obtain ⟨k, rfl⟩ : ∃ k : Nat, bt = (k : Int) := ⟨bt.toNat, by omega⟩
            have hk : k < ln := by omega
            have hkc : k < lc := Nat.lt_of_lt_of_le hk HLC.out
            obtain ⟨lb, lo, rfl, hlb, _⟩ := (HRL.out _ HR.out).at_ hk
            clear hb0 hb1
            have hwk : IntKind.i64.wrap ((k : Int) + 1) = (k : Int) + 1 := by rw [IntKind.wrap_i64]; omega
            have kx1 : (k : Int) ≤ (lc : Int) := (by have := HLC.out; omega)
            have kx2 : (k : Int) + 1 ≤ (ln : Int) := (by have := HLC.out; omega)
            have kx3 : (ln : Int) ≤ (lc : Int) := (by have := HLC.out; omega)
            have kx4 : (0 : Int) ≤ (k : Int) + 1 := (by have := HLC.out; omega)
            have kx5 : k ≤ lc := (by have := HLC.out; omega)
            go_upto_region 8 with fail
            have HXL := Lib.hid XR.out.lt
            refine wp_region_T 12 (fun w' => Below w3.heap.size w3 w') (by kernel_rfl) (Below.refl _ _).drew ?_
            intro hS
            refine wpAnyT_take (i := 0) (v := ?_) rfl (by kernel_rfl) (by kernel_rfl) (by kernel_rfl) (by kernel_rfl) (by kernel_rfl) (fun _ _ _ h => h) (.inl ⟨by kernel_rfl, ?_⟩) hS ?_
            rotate_left
            · (intro w' hw; have h1 := (hw.cell (p := ⟨w.heap.size + 1, 6, none⟩) HXL.out).trans x6; go_simp; try with_reducible rfl)
            try simp only [put_laws]
            refine wpAnyT_take (i := 1) (v := ?_) rfl (by kernel_rfl) (by kernel_rfl) (by kernel_rfl) (by kernel_rfl) (by kernel_rfl) (fun _ _ _ h => h) (.inl ⟨by kernel_rfl, ?_⟩) hS ?_
            rotate_left
            · (intro w' hw; have h1 := (hw.cell (p := ⟨w.heap.size + 1, 6, none⟩) HXL.out).trans x6; go_simp; try with_reducible rfl)
            try simp only [put_laws]
            refine wpAnyT_take (i := 2) (v := ?_) rfl (by kernel_rfl) (by kernel_rfl) (by kernel_rfl) (by kernel_rfl) (by kernel_rfl) (fun _ _ _ h => h) (.inl ⟨by kernel_rfl, ?_⟩) hS ?_
            rotate_left
            · (intro w' hw; have h1 := (hw.cell (p := ⟨w.heap.size + 1, 6, none⟩) HXL.out).trans x6; go_simp; try with_reducible rfl)
            try simp only [put_laws]
            refine wpAnyT_take (i := 3) (v := ?_) rfl (by kernel_rfl) (by kernel_rfl) (by kernel_rfl) (by kernel_rfl) (by kernel_rfl) (fun _ _ _ h => h) (.inl ⟨by kernel_rfl, ?_⟩) hS ?_
            rotate_left
            · (intro w' hw; have h1 := (hw.cell (p := ⟨w.heap.size + 1, 6, none⟩) HXL.out).trans x6; go_simp; try with_reducible rfl)
            try simp only [put_laws]
            refine wpAnyT_take (i := 5) (v := ?_) rfl (by kernel_rfl) (by kernel_rfl) (by kernel_rfl) (by kernel_rfl) (by kernel_rfl) (fun _ _ _ h => h) (.inl ⟨by kernel_rfl, ?_⟩) hS ?_
            rotate_left
            · (intro w' hw; have h1 := (hw.cell (p := ⟨w.heap.size + 1, 6, none⟩) HXL.out).trans x6; go_simp; try with_reducible rfl)
            try simp only [put_laws]
            refine wpAnyT_take (i := 6) (v := ?_) rfl (by kernel_rfl) (by kernel_rfl) (by kernel_rfl) (by kernel_rfl) (by kernel_rfl) (fun _ _ _ h => h) (.inl ⟨by kernel_rfl, ?_⟩) hS ?_
            rotate_left
            · (intro w' hw; have h1 := (hw.cell (p := ⟨w.heap.size + 1, 6, none⟩) HXL.out).trans x6; go_simp; try with_reducible rfl)
            try simp only [put_laws]
            refine wpAnyT_take (i := 7) (v := ?_) rfl (by kernel_rfl) (by kernel_rfl) (by kernel_rfl) (by kernel_rfl) (by kernel_rfl) (fun _ _ _ h => h) (.inl ⟨by kernel_rfl, ?_⟩) hS ?_
            rotate_left
            · (intro w' hw; have h1 := (hw.cell (p := ⟨w.heap.size + 1, 6, none⟩) HXL.out).trans x6; go_simp; try with_reducible rfl)
            try simp only [put_laws]
            refine wpAnyT_take (i := 8) (v := ?_) rfl (by kernel_rfl) (by kernel_rfl) (by kernel_rfl) (by kernel_rfl) (by kernel_rfl) (fun _ _ _ h => h) (.inl ⟨by kernel_rfl, ?_⟩) hS ?_
            rotate_left
            · (intro w' hw; have h1 := (hw.cell (p := ⟨w.heap.size + 1, 6, none⟩) HXL.out).trans x6; go_simp; try with_reducible rfl)
            try simp only [put_laws]
            refine wpAnyT_take (i := 9) (v := ?_) rfl (by kernel_rfl) (by kernel_rfl) (by kernel_rfl) (by kernel_rfl) (by kernel_rfl) (fun _ _ _ h => h) (.inl ⟨by kernel_rfl, ?_⟩) hS ?_
            rotate_left
            · (intro w' hw; have h1 := (hw.cell (p := ⟨w.heap.size + 1, 6, none⟩) HXL.out).trans x6; go_simp; try with_reducible rfl)
            try simp only [put_laws]
            refine wpAnyT_one (i := 4) (by kernel_rfl) rfl ?_
            intro K' hK'
            go_simp
            refine (HCP.out _ (some ⟨lb, lo, none⟩) k lc L (((HRL.out _ (HR.out.trans (hS.mono HR.out.size))).more (Nat.le_trans HBB.out (Nat.le_trans HR.out.size hS.size))).take (by omega)) (by omega) (fun i hi => by have := HNM.out i (by omega); omega)).mono ?_
            rintro e w8 ⟨⟨v8, rfl, hv8⟩, hb8⟩
            replace hv8 := hv8.less (show w3.heap.size ≤ _ from hS.size)
            obtain ⟨V8, ho8, hc8, hu8⟩ := hv8.one
            obtain ⟨A8, c8, rfl⟩ := ho8.form
            have hS' := hS.trans (hb8.mono hS.size)
            clear hS
            have hS := hS'
            clear hS'
            clear hb8 hv8
            refine hK'.out _ _ (.inr hS) ?_
            clear hK' K'
            try simp only [put_laws]
            refine wpAnyT_one (i := 10) (by kernel_rfl) rfl ?_
            intro K' hK'
            go_simp
            refine (HCP.out _ _ (ln - (k + 1)) _ (fun i => L (i + (k + 1))) (RdL.drop ((HRL.out _ (HR.out.trans (hS.mono HR.out.size))).more (Nat.le_trans HBB.out (Nat.le_trans HR.out.size hS.size))) HLC.out) (by omega) (fun i hi => by have := HNM.out (i + (k + 1)) (by omega); omega)).mono ?_
            rintro e w9 ⟨⟨v9, rfl, hv9⟩, hb9⟩
            replace hv9 := hv9.less (show w3.heap.size ≤ _ from hS.size)
            obtain ⟨V9, ho9, hc9, hu9⟩ := hv9.one
            obtain ⟨A9, c9, rfl⟩ := ho9.form
            have hk8 := ho8.below hb9
            have hkc8 := (fun i hi => (hc8 i hi).below hb9)
            have hS' := hS.trans (hb9.mono hS.size)
            clear hS
            have hS := hS'
            clear hS'
            clear hb9 hv9 ho8 hc8
            refine hK'.out _ _ (.inr hS) ?_
            clear hK' K'
            try simp only [put_laws]
            refine wpAnyT_one (i := 11) (by kernel_rfl) rfl ?_
            intro K' hK'
            refine step_cat (by rfl) (.tmp 60) (.tmp 66) 26 (by rfl) 41 j0 _ 5 56 Tryd.underlying26 MJ.out.1 MJ.out.2.1 MJ.out.2.2.1 MJ.out.2.2.2 rfl (by decide) (by decide) (base := w3.heap.size) (by rfl) hk8 (by omega) hS.size (fun i j => legRow_one _ _ (hu9 i) j) (by rfl) ho9.rdV (by omega) ?_
            intro v10 w10 o10 hg10 hat10
            have hcl := CL.cat hk8 hkc8 hc9 o10 hg10
            have hS' := Below.grown hS hg10 hS.size (fun q hq => (hk8.block hq).1)
            clear hS hg10 hat10 hk8 hkc8 hc9 ho9 o10 hu8 hu9
            have hS := hS'
            clear hS'
            replace hcl := hcl.congr (L' := M.lessF L k) (fun i hi => lessF_cat)
            rw [show k + (ln - (k + 1)) = ln - 1 by omega] at hcl
            obtain ⟨A10, c10, rfl⟩ := hcl.form
            refine hK'.out _ _ (.inr hS) ?_
            clear hK' K'
            try simp only [put_laws]
            refine wpAnyT_one (i := 12) (by kernel_rfl) rfl ?_
            intro K' hK'
            go_simp
            refine hK'.out _ _ (.inl rfl) ?_
            clear hK' K'
            try simp only [put_laws]
            refine wpAnyT_done (by kernel_rfl) ?_ _
            have HCL := Lib.hid hcl
            have HSZ := Lib.hid hS
            clear hcl hS
            have hsz := HSZ.out
            have HR' := Lib.hid (HR.out.trans (hsz.mono HR.out.size)); have CR' := Lib.hid (CR.out.below' hsz); have XR' := Lib.hid (XR.out.below' hsz); have YR' := Lib.hid (YR.out.below' hsz); clear hsz c0 c1 c2 c3 c4 x6 y0 y1 y2 y3 y4 y5 HR CR XR YR; have HR := HR'; have CR := CR'; have XR := XR'; have YR := YR'; clear HR' CR' XR' YR'; have c0 := CR.out.cell 0; have c1 := CR.out.cell 1; have c2 := CR.out.cell 2; have c3 := CR.out.cell 3; have c4 := CR.out.cell 4; have x6 := XR.out.cell 6; have y0 := YR.out.cell 0; have y1 := YR.out.cell 1; have y2 := YR.out.cell 2; have y3 := YR.out.cell 3; have y4 := YR.out.cell 4; have y5 := YR.out.cell 5
            have HR2 := Lib.hid (HRO.out w10 A10 (ln - 1) c10 (M.lessF L k) (HCL.out.rd (lessF_bd HNM.out hk)) (by omega) (legs_less hk HLS.out) HTO.out HR.out)
            go_upto_region 10 with (go_at_call 14; go_must (refine HR2.out.mono ?_); rintro e w11 ⟨⟨v, rfl, hv⟩, hb11⟩; obtain ⟨bA, bn, bc, rfl, hbn⟩ := RouteV.len2 hv; have HBN := Lib.hid hbn; clear hv hbn; have HR' := Lib.hid (HR.out.trans (hb11.mono HR.out.size)); have CR' := Lib.hid (CR.out.below' hb11); have XR' := Lib.hid (XR.out.below' hb11); have YR' := Lib.hid (YR.out.below' hb11); clear hb11 c0 c1 c2 c3 c4 x6 y0 y1 y2 y3 y4 y5 HR CR XR YR; have HR := HR'; have CR := CR'; have XR := XR'; have YR := YR'; clear HR' CR' XR' YR'; have c0 := CR.out.cell 0; have c1 := CR.out.cell 1; have c2 := CR.out.cell 2; have c3 := CR.out.cell 3; have c4 := CR.out.cell 4; have x6 := XR.out.cell 6; have y0 := YR.out.cell 0; have y1 := YR.out.cell 1; have y2 := YR.out.cell 2; have y3 := YR.out.cell 3; have y4 := YR.out.cell 4; have y5 := YR.out.cell 5)
            obtain ⟨g1, g2⟩ := fewer_less (s := s) (L := L) (ln := ln) (k := k) (r := ⟨at_, lv, dr, tl, fr, dst⟩) hk HHH.out
            rw [routeE_yes g1]
            have hle : bn ≤ an := by rw [HBN.out g1, HAN.out HHH.out]; omega
            have hle2 : decide (an < bn) = false := decide_eq_false (by omega)
            clear g1 g2
            go_upto_if 95 with fail
            refine wp_cond_false rfl (wp_skip ?_)
            apply_assumption
            have hsd := HSD.out
            have hs := HSO.out
            subst hsd
            exact fewer_light ⟨W', H', nd, ns, dep, tide, sw⟩ dA tA sA (some ⟨lb, lo, none⟩) aA dc tc sc ln lc B w.heap.size P7 an ac L at_ lv dr fr dst 0 tl w _ hs hs.t2 HW0.out HR0.out HBB.out HL0.out (by omega) HTO.out HLS.out HR.out CR.out YR.out HEV.out HAN.out
end
end Go.Proofs.YtkdpmihdhiokkaaDoor
/- Proved: LanesFewer answers true at every chart, legs, trip and index, and its arguments read as they did: the row and its tied card. Conditions: none beyond the card. -/
namespace Go.Proofs.YtkdpmihdhiokkaaDoor
open Go.ChangeShapes Go.WideShapes Go.ChangeAt Go.RowKit Go.Deep Go.Joins

namespace lanesFewer
set_option maxRecDepth 100000 in
theorem contract (H : Type) (enc : TypeId × Value → H) (W : World) (base : Nat) (args : Array Value) (ds gs : List (DataW H)) (before : List MemPlace)
    (hval : ∀ (j : Nat) t v, Tryd.f7.params[j]? = some t → args[j]? = some v → Value.okWide Tryd.prog W .any base t v)
    (hW : DataW.Whole enc Tryd.prog Tryd.f7.params.toList Rows.lanesFewerSpec.vars false W args.toList ds gs before) (hL : laidMetH Tryd.prog laidL W) :
    Calls Tryd.prog 7 args W fun e W' => ∃ v, e = .returned v ∧ Rows.lanesFewerSpec.post enc Tryd.prog Tryd.f7 false true false false W args v W' := by
  have hW' := hW
  obtain ⟨p, q, hA0, hV, rfl, hfz, hnd⟩ := hW
  have hA : DataW.TrodAll enc Tryd.prog W 0 (fun _ => true) true Tryd.f7.params.toList args.toList ds p := hA0
  rw [Tryd.params7] at hA hval
  obtain ⟨v0, v1, v2, d0, d1, d2, p0, p1, p2, rfl, rfl, rfl, h0, h1, h2⟩ := trodAll_three hA
  obtain ⟨rfl, rfl⟩ := trodVars_none hV
  have hWy := ways_of_laid hL
  obtain ⟨cW, cH, dA, tA, sA, nd, dc, nt, tc, ns, sc, dep, tide, sw, rfl, hnd, hnt, hns, hRC⟩ := open_chart (hval 0 25 v0 rfl rfl) h0
  obtain ⟨lA, ln, lc, L, rfl, hln, hlc, hRL⟩ := open_legs (hval 1 26 v1 rfl rfl) h1
  obtain ⟨at_, lv, dr, tl, fr, dst, bt, rfl⟩ := open_short (hval 2 60 v2 rfl rfl) h2
  refine (lanesFewer_any cW cH dA tA sA lA nd dc nt tc ns sc ln lc W.heap.size dep tide sw L at_ lv dr fr dst bt tl W hnd hnt hns hln hlc hWy hRC (Nat.le_refl _) hRL).mono fun e W' ⟨he, hbl⟩ => ⟨_, he, ?_⟩
  exact post_true rfl rfl (by
    rw [Tryd.params7]
    intro t ht
    simp at ht
    rcases ht with rfl | rfl | rfl
    · exact ⟨by kernel_rfl, of_decide_eq_true (by kernel_rfl)⟩
    · exact ⟨by kernel_rfl, of_decide_eq_true (by kernel_rfl)⟩
    · exact ⟨by kernel_rfl, of_decide_eq_true (by kernel_rfl)⟩) hW' rfl rfl rfl hbl

set_option maxRecDepth 100000 in
theorem lifted (os : Os) (started : os.Started) (H : Type) (enc : TypeId × Value → H) :
    ReturnsInHanded {} Tryd.checked os 7 .any (fun w args => (Rows.lanesFewerSpec.pre enc Tryd.prog Tryd.f7 [] false w args ∧ laidMetH Tryd.prog laidL w) ∧ sizedMet enc Tryd.prog Tryd.f7 (OpenSpec.ofChange Rows.lanesFewerSpec) false w args)
      (Rows.lanesFewerSpec.post enc Tryd.prog Tryd.f7 false true false false) := by
  refine returnsInHanded_of_change_and (C := Tryd.checked) (X := fun w _ => laidMetH Tryd.prog laidL w) (fun _ _ _ hh h => h.of_heap hh) own started (by kernel_rfl) Tryd.func7
    (ChangeSpec.witness_shaped (enc := enc) (C := Tryd.checked) (os := os) (X := fun w _ => laidMetH Tryd.prog laidL w) false (World.doorLaid Tryd.prog 400 os) #[.agg #[.int .i64 0, .int .i64 0, .slice none 0 0, .slice none 0 0, .slice none 0 0], .slice none 0 0, .agg #[.int .i64 0, .int .i64 0, .int .i64 0, .bool false, .int .i64 0, .int .i64 0, .int .i64 0]] 8 rfl (World.shaped_of_RefB (by kernel_rfl) (by kernel_rfl)) (by kernel_rfl) (by kernel_rfl) (by kernel_rfl) (door_met os _)) ?_
  intro W base args ds gs before hval hW _ _ hL _
  exact contract H enc W base args ds gs before hval hW hL
end lanesFewer

theorem lanesFewer_holds : Rows.LanesFewerSaid :=
  OpenClaim.holds_of_wide 7 Tryd.f7 rfl rfl rfl rfl rfl rfl rfl ⟨rfl, rfl, rfl, rfl, rfl⟩ rfl rfl rfl rfl rfl (by kernel_rfl) Tryd.func7 (by kernel_rfl)
    (of_decide_eq_true (by kernel_rfl)) (by unfold Func.isWrapper; first | (rw [if_pos (by decide +kernel)]; kernel_rfl) | (rw [if_neg (by decide +kernel)]; exact ⟨rfl, rfl⟩))
    (fun os started H enc _ => lanesFewer.lifted os started H enc)

theorem lanesFewer_card : Rows.LanesFewerCardSaid :=
  Claim7.holds_tied_plain_at .later [] [.data] true Rows.lanesFewerCard.stood.harness false
    lanesFewer_holds (fun _ h => by cases h) (by kernel_rfl) (fun _ h => by cases h) lanesFewer_row_tie rfl ⟨rfl, rfl⟩ (by kernel_rfl) rfl
    (fun f fn hf hfn => by
      obtain rfl : f = 7 := Option.some.inj ((show Tryd.prog.funcNamed "coble/coblelaw06.LanesFewer" = some 7 by kernel_rfl).symm.trans hf) |>.symm
      obtain rfl : fn = Tryd.f7 := (Option.some.inj (Tryd.func7.symm.trans hfn)).symm
      exact ⟨by kernel_rfl, fun j t ht => by
        rw [Tryd.params7] at ht
        have hm : t ∈ [25, 26, 60] := by simpa using Array.mem_of_getElem? ht
        have hall : ([25, 26, 60].all fun u => !Tryd.prog.wantsStandIn u) = true := by kernel_rfl
        exact (show Tryd.prog.wantsStandIn t = false by simpa using List.all_eq_true.1 hall t hm)⟩)
    (by kernel_rfl)
end Go.Proofs.YtkdpmihdhiokkaaDoor
