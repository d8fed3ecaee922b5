/- The reference's Apply. -/
import Derived.Test.YtfnfjmjejffjiaaDoorF6b
namespace Go.Proofs.YtfnfjmjejffjiaaDoor
open Go.RowKit

section
variable (n B1 B0 g c c' Bb Be Br B6 qc qc' : Nat) (A' Q Q' : Option Addr) (s : M.St) (e0 e1 e2 : Int) (ic im : Bool) (w : World) (t : Option M.St)
set_option maxRecDepth 100000 in
set_option maxHeartbeats 6400000 in
theorem app_all {v0 v1 v9 v10 v11 v12 v13 v14 v15 v16 v17 v18 v19 v20 v21 v22 v23 v24 v25 v26 v27 v28 v29 v30 v31 v32 v33 v34 v35 v36 v37 v38 v39 v40 v41 v42 v43 v44 v45 v46 v47 v48 v49 v50 v51 v52 v53 v54 v55 v56 v57 v58 v59 v60 v61 v62 v63 v64 v65 v66 v67 v68 v69 v70 v71 v72 v73 v74 v75 v76 v77 v78 v79 v80 v81 v82 v83 v84 v85 v86 v87 v88 v89 v90 v91 v92 v93 v94 v95 v96 v97 v98 v99 v100 v101 v102 v103 v104 v105 v106 v107 v108 v109 v110 v111 v112 v113 v114 v115 v116 v117 v118 v119 v120 v121 v122 v123 v124 v125 v126 v127 v128 v129 v130 v131 v132 v133 v134 v135 v136 v137 v138 v139 v140 v141 v142 v143 v144 v145 v146 v147 v148 v149 v150 v151 v152 v153 v154 v155 v156 v157 v158 v159 v160 v161 v162 v163 v164 v165 v166 v167 v168 v169 v170 v171 v172 v173 v174 v175 v176 v177 v178 v179 v180 v181 v182 v183 v184 v185 v186 v187 v188 v189 v190 v191 v192 v193 v194 v195 v196 v197 v198 v199 v200 v201 v202 v203 v204 v205 v206 v207 v208 v209 : Value} (hA : Own w B0 51 3 (.slice (some ⟨g, 0, none⟩) n c) n (ints2 s.c)) (hM : Own w B0 54 4 (.slice A' s.k c') s.k (ints2 s.m)) (hb : Blk w Bb 31 #[.slice Q n qc, .slice Q' s.k qc']) (he : Blk w Be 38 #[.int .i64 e0, .int .i64 e1, .int .i64 e2]) (hr : Blk w Br 31 #[.slice none 0 0, .slice none 0 0]) (h6 : Blk w B6 31 #[.slice (some ⟨g, 0, none⟩) n c, .slice A' s.k c']) (hd : Bb < B0 ∧ Be < B0 ∧ Br < B0 ∧ B0 ≤ B6 ∧ B1 ≤ Br ∧ B0 ≤ w.heap.size) (hwf : M.Wf n s)
    (ht : t = M.step n s e0 e1 e2) (hic : ic = decide (0 ≤ e1 ∧ e1 < n)) (him : im = decide (0 ≤ e1 ∧ e1 < s.k)) :
    Code.wp Tryd.prog (restAt Tryd.f9 4) (bodyPost Tryd.prog Tryd.f9 (AppR n B1 B0 (.agg #[.slice Q n qc, .slice Q' s.k qc']) t w)) { tmps := List.toArray (v0 :: v1 :: .pointer (some ⟨Bb, 0, none⟩) :: .pointer (some ⟨Be, 0, none⟩) :: .pointer (some ⟨Br, 0, none⟩) :: .bool false :: .pointer (some ⟨B6, 0, none⟩) :: .bool ic :: .bool im :: v9 :: v10 :: v11 :: v12 :: v13 :: v14 :: v15 :: v16 :: v17 :: v18 :: v19 :: v20 :: v21 :: v22 :: v23 :: v24 :: v25 :: v26 :: v27 :: v28 :: v29 :: v30 :: v31 :: v32 :: v33 :: v34 :: v35 :: v36 :: v37 :: v38 :: v39 :: v40 :: v41 :: v42 :: v43 :: v44 :: v45 :: v46 :: v47 :: v48 :: v49 :: v50 :: v51 :: v52 :: v53 :: v54 :: v55 :: v56 :: v57 :: v58 :: v59 :: v60 :: v61 :: v62 :: v63 :: v64 :: v65 :: v66 :: v67 :: v68 :: v69 :: v70 :: v71 :: v72 :: v73 :: v74 :: v75 :: v76 :: v77 :: v78 :: v79 :: v80 :: v81 :: v82 :: v83 :: v84 :: v85 :: v86 :: v87 :: v88 :: v89 :: v90 :: v91 :: v92 :: v93 :: v94 :: v95 :: v96 :: v97 :: v98 :: v99 :: v100 :: v101 :: v102 :: v103 :: v104 :: v105 :: v106 :: v107 :: v108 :: v109 :: v110 :: v111 :: v112 :: v113 :: v114 :: v115 :: v116 :: v117 :: v118 :: v119 :: v120 :: v121 :: v122 :: v123 :: v124 :: v125 :: v126 :: v127 :: v128 :: v129 :: v130 :: v131 :: v132 :: v133 :: v134 :: v135 :: v136 :: v137 :: v138 :: v139 :: v140 :: v141 :: v142 :: v143 :: v144 :: v145 :: v146 :: v147 :: v148 :: v149 :: v150 :: v151 :: v152 :: v153 :: v154 :: v155 :: v156 :: v157 :: v158 :: v159 :: v160 :: v161 :: v162 :: v163 :: v164 :: v165 :: v166 :: v167 :: v168 :: v169 :: v170 :: v171 :: v172 :: v173 :: v174 :: v175 :: v176 :: v177 :: v178 :: v179 :: v180 :: v181 :: v182 :: v183 :: v184 :: v185 :: v186 :: v187 :: v188 :: v189 :: v190 :: v191 :: v192 :: v193 :: v194 :: v195 :: v196 :: v197 :: v198 :: v199 :: v200 :: v201 :: v202 :: v203 :: v204 :: v205 :: v206 :: v207 :: v208 :: v209 :: []), defers := [] } w := by
  by_cases k1 : e0 = 1
  · by_cases hi : 0 ≤ e1 ∧ e1 < n
    · obtain ⟨a, rfl⟩ := Int.eq_ofNat_of_zero_le hi.1
      have ha : a < n := by omega
      have hc : ic = true := hic.trans (decide_eq_true hi)
      by_cases q0 : s.c a 0 = 1
      rotate_left
      · exact app_1b n B1 B0 g c c' Bb Be Br B6 qc qc' A' Q Q' s e0 a e2 ic im w t hA hM hb he hr h6 hd hwf (ht.trans (by unfold M.step M.offer M.again; (try simp only [Int.toNat_natCast]); (repeat' split); all_goals first | rfl | (exfalso; omega))) k1 a ha hc rfl  q0
      by_cases q1 : s.c a 2 < 9
      rotate_left
      · exact app_1c n B1 B0 g c c' Bb Be Br B6 qc qc' A' Q Q' s e0 a e2 ic im w t hA hM hb he hr h6 hd hwf (ht.trans (by unfold M.step M.offer M.again; (try simp only [Int.toNat_natCast]); (repeat' split); all_goals first | rfl | (exfalso; omega))) k1 a ha hc rfl q0 (by omega)
      by_cases q2 : 0 ≤ e2
      rotate_left
      · exact app_1d n B1 B0 g c c' Bb Be Br B6 qc qc' A' Q Q' s e0 a e2 ic im w t hA hM hb he hr h6 hd hwf (ht.trans (by unfold M.step M.offer M.again; (try simp only [Int.toNat_natCast]); (repeat' split); all_goals first | rfl | (exfalso; omega))) k1 a ha hc rfl q0 q1 (by omega)
      by_cases q3 : e2 < n
      rotate_left
      · exact app_1e n B1 B0 g c c' Bb Be Br B6 qc qc' A' Q Q' s e0 a e2 ic im w t hA hM hb he hr h6 hd hwf (ht.trans (by unfold M.step M.offer M.again; (try simp only [Int.toNat_natCast]); (repeat' split); all_goals first | rfl | (exfalso; omega))) k1 a ha hc rfl q0 q1 q2 (by omega)
      by_cases q4 : e2 ≠ (a : Int)
      rotate_left
      · exact app_1f n B1 B0 g c c' Bb Be Br B6 qc qc' A' Q Q' s e0 a e2 ic im w t hA hM hb he hr h6 hd hwf (ht.trans (by unfold M.step M.offer M.again; (try simp only [Int.toNat_natCast]); (repeat' split); all_goals first | rfl | (exfalso; omega))) k1 a ha hc rfl q0 q1 q2 q3 (Classical.not_not.1 q4)
      by_cases q5 : s.k < 6
      rotate_left
      · exact app_1g n B1 B0 g c c' Bb Be Br B6 qc qc' A' Q Q' s e0 a e2 ic im w t hA hM hb he hr h6 hd hwf (ht.trans (by unfold M.step M.offer M.again; (try simp only [Int.toNat_natCast]); (repeat' split); all_goals first | rfl | (exfalso; omega))) k1 a ha hc rfl q0 q1 q2 q3 q4 (by omega)
      exact app_1h n B1 B0 g c c' Bb Be Br B6 qc qc' A' Q Q' s e0 a e2 ic im w t hA hM hb he hr h6 hd hwf a (ht.trans (by unfold M.step M.offer M.again; (try simp only [Int.toNat_natCast]); (repeat' split); all_goals first | rfl | (exfalso; omega))) k1 ha hc rfl q0 q1 q2 q3 q4 q5
    · exact app_1a n B1 B0 g c c' Bb Be Br B6 qc qc' A' Q Q' s e0 e1 e2 ic im w t hA hM hb he hr h6 hd hwf (ht.trans (by unfold M.step M.offer M.again; (try simp only [Int.toNat_natCast]); (repeat' split); all_goals first | rfl | (exfalso; omega))) k1 (hic.trans (decide_eq_false hi))
  by_cases h2 : e2 = 0
  rotate_left
  · exact app_bad n B1 B0 g c c' Bb Be Br B6 qc qc' A' Q Q' s e0 e1 e2 ic im w t hA hM hb he hr h6 hd hwf (ht.trans (by unfold M.step M.offer M.again; (try simp only [Int.toNat_natCast]); (repeat' split); all_goals first | rfl | (exfalso; omega))) k1 h2
  by_cases k2 : e0 = 2
  · by_cases hi : 0 ≤ e1 ∧ e1 < s.k
    · obtain ⟨a, rfl⟩ := Int.eq_ofNat_of_zero_le hi.1
      have ha : a < s.k := by omega
      have hc : im = true := him.trans (decide_eq_true hi)
      exact app_2b n B1 B0 g c c' Bb Be Br B6 qc qc' A' Q Q' s e0 a e2 ic im w t hA hM hb he hr h6 hd hwf a (ht.trans (by unfold M.step M.offer M.again; (try simp only [Int.toNat_natCast]); (repeat' split); all_goals first | rfl | (exfalso; omega))) k2 h2 ha hc rfl
    · exact app_2a n B1 B0 g c c' Bb Be Br B6 qc qc' A' Q Q' s e0 e1 e2 ic im w t hA hM hb he hr h6 hd hwf (ht.trans (by unfold M.step M.offer M.again; (try simp only [Int.toNat_natCast]); (repeat' split); all_goals first | rfl | (exfalso; omega))) k2 h2 (him.trans (decide_eq_false hi))
  by_cases k3 : e0 = 3
  · by_cases hi : 0 ≤ e1 ∧ e1 < s.k
    · obtain ⟨a, rfl⟩ := Int.eq_ofNat_of_zero_le hi.1
      have ha : a < s.k := by omega
      have hc : im = true := him.trans (decide_eq_true hi)
      exact app_3b n B1 B0 g c c' Bb Be Br B6 qc qc' A' Q Q' s e0 a e2 ic im w t hA hM hb he hr h6 hd hwf a (ht.trans (by unfold M.step M.offer M.again; (try simp only [Int.toNat_natCast]); (repeat' split); all_goals first | rfl | (exfalso; omega))) k3 h2 ha hc rfl
    · exact app_3a n B1 B0 g c c' Bb Be Br B6 qc qc' A' Q Q' s e0 e1 e2 ic im w t hA hM hb he hr h6 hd hwf (ht.trans (by unfold M.step M.offer M.again; (try simp only [Int.toNat_natCast]); (repeat' split); all_goals first | rfl | (exfalso; omega))) k3 h2 (him.trans (decide_eq_false hi))
  by_cases k4 : e0 = 4
  · by_cases hi : 0 ≤ e1 ∧ e1 < s.k
    · obtain ⟨a, rfl⟩ := Int.eq_ofNat_of_zero_le hi.1
      have ha : a < s.k := by omega
      have hc : im = true := him.trans (decide_eq_true hi)
      by_cases q5 : s.k < 6
      · exact app_4c n B1 B0 g c c' Bb Be Br B6 qc qc' A' Q Q' s e0 a e2 ic im w t hA hM hb he hr h6 hd hwf a (ht.trans (by unfold M.step M.offer M.again; (try simp only [Int.toNat_natCast]); (repeat' split); all_goals first | rfl | (exfalso; omega))) k4 h2 ha hc rfl q5
      · exact app_4b n B1 B0 g c c' Bb Be Br B6 qc qc' A' Q Q' s e0 a e2 ic im w t hA hM hb he hr h6 hd hwf (ht.trans (by unfold M.step M.offer M.again; (try simp only [Int.toNat_natCast]); (repeat' split); all_goals first | rfl | (exfalso; omega))) k4 h2 hc (by omega)
    · exact app_4a n B1 B0 g c c' Bb Be Br B6 qc qc' A' Q Q' s e0 e1 e2 ic im w t hA hM hb he hr h6 hd hwf (ht.trans (by unfold M.step M.offer M.again; (try simp only [Int.toNat_natCast]); (repeat' split); all_goals first | rfl | (exfalso; omega))) k4 h2 (him.trans (decide_eq_false hi))
  by_cases k5 : e0 = 5
  · by_cases hi : 0 ≤ e1 ∧ e1 < n
    · obtain ⟨a, rfl⟩ := Int.eq_ofNat_of_zero_le hi.1
      have ha : a < n := by omega
      have hc : ic = true := hic.trans (decide_eq_true hi)
      by_cases q5 : s.k < 6
      rotate_left
      · exact app_5b n B1 B0 g c c' Bb Be Br B6 qc qc' A' Q Q' s e0 a e2 ic im w t hA hM hb he hr h6 hd hwf (ht.trans (by unfold M.step M.offer M.again; (try simp only [Int.toNat_natCast]); (repeat' split); all_goals first | rfl | (exfalso; omega))) k5 h2 hc (by omega)
      by_cases c2 : s.c a 0 = 2
      · exact app_5c n B1 B0 g c c' Bb Be Br B6 qc qc' A' Q Q' s e0 a e2 ic im w t hA hM hb he hr h6 hd hwf a (ht.trans (by unfold M.step M.offer M.again; (try simp only [Int.toNat_natCast]); (repeat' split); all_goals first | rfl | (exfalso; omega))) k5 h2 ha hc rfl q5 c2
      by_cases c3 : s.c a 0 = 3
      · exact app_5d n B1 B0 g c c' Bb Be Br B6 qc qc' A' Q Q' s e0 a e2 ic im w t hA hM hb he hr h6 hd hwf a (ht.trans (by unfold M.step M.offer M.again; (try simp only [Int.toNat_natCast]); (repeat' split); all_goals first | rfl | (exfalso; omega))) k5 h2 ha hc rfl q5 c3
      exact app_5e n B1 B0 g c c' Bb Be Br B6 qc qc' A' Q Q' s e0 a e2 ic im w t hA hM hb he hr h6 hd hwf (ht.trans (by unfold M.step M.offer M.again; (try simp only [Int.toNat_natCast]); (repeat' split); all_goals first | rfl | (exfalso; omega))) k5 h2 a ha hc rfl q5 c2 c3
    · exact app_5a n B1 B0 g c c' Bb Be Br B6 qc qc' A' Q Q' s e0 e1 e2 ic im w t hA hM hb he hr h6 hd hwf (ht.trans (by unfold M.step M.offer M.again; (try simp only [Int.toNat_natCast]); (repeat' split); all_goals first | rfl | (exfalso; omega))) k5 h2 (hic.trans (decide_eq_false hi))
  exact app_other n B1 B0 g c c' Bb Be Br B6 qc qc' A' Q Q' s e0 e1 e2 ic im w t hA hM hb he hr h6 hd hwf (ht.trans (by unfold M.step M.offer M.again; (try simp only [Int.toNat_natCast]); (repeat' split); all_goals first | rfl | (exfalso; omega))) ⟨k1, k2, k3, k4, k5⟩ h2
end
theorem app_up {P : Program} {fn : Func} {c : Code} {a : Act} {W w : World} {n B0 base : Nat} {vb : Value} {s : M.St} {e0 e1 e2 : Int} (hg : Below w.heap.size w W) (hv : CallV n s base vb w) (hB : base ≤ B0) (h : Code.wp P c (bodyPost P fn (AppR n w.heap.size B0 vb (M.step n s e0 e1 e2) W)) a W) :
    Code.wp P c (bodyPost P fn (fun e w' => (∃ v', e = .returned (.tuple #[v', .bool (M.step n s e0 e1 e2).isSome]) ∧ CallV n (M.go n s e0 e1 e2) base v' w') ∧ Below w.heap.size w w')) a W := by
  refine Code.wp_mono (fun e a w' q => ?_) h
  have hR : ∀ e w', AppR n w.heap.size B0 vb (M.step n s e0 e1 e2) W e w' → ((∃ v', e = .returned (.tuple #[v', .bool (M.step n s e0 e1 e2).isSome]) ∧ CallV n (M.go n s e0 e1 e2) base v' w') ∧ Below w.heap.size w w') := fun e w' ⟨⟨v', h1, h2⟩, h3⟩ => by
    refine ⟨⟨v', h1, ?_⟩, hg.trans h3⟩
    unfold M.go
    cases hs : M.step n s e0 e1 e2 with
    | none =>
      rw [hs] at h2
      rw [h2]
      exact hv.below (hg.trans h3)
    | some t =>
      rw [hs] at h2
      obtain ⟨A, c, A', c', e, o1, o2⟩ := h2
      exact ⟨A, c, A', c', e, o1.less hB, o2.less hB⟩
  cases e <;> simp only [bodyPost] at q ⊢ <;> first
    | exact q
    | exact hR _ _ q
    | exact ⟨q.1, hR _ _ q.2⟩
    | exact ⟨q.1, q.2.choose, q.2.choose_spec.1, hR _ _ q.2.choose_spec.2⟩
set_option maxRecDepth 100000 in
set_option maxHeartbeats 6400000 in
theorem rapply_any (n base : Nat) (s : M.St) (v : Value) (e0 e1 e2 : Int) (w : World) (hv : CallV n s base v w) (hbase : base ≤ w.heap.size) (hn : 2 ≤ n ∧ n ≤ 4) (hwf : M.Wf n s) :
    Calls Tryd.prog 9 #[v, .agg #[.int .i64 e0, .int .i64 e1, .int .i64 e2]] w fun e w' => (∃ v', e = .returned (.tuple #[v', .bool (M.step n s e0 e1 e2).isSome]) ∧ CallV n (M.go n s e0 e1 e2) base v' w') ∧ Below w.heap.size w w' := by
  obtain ⟨Q, qc, Q', qc', rfl, o1, o2⟩ := hv
  have HV := Lib.hid (show CallV n s base (.agg #[.slice Q n qc, .slice Q' s.k qc']) w from ⟨_, _, _, _, rfl, o1, o2⟩)
  have HW := Lib.hid hwf
  have hk6 := hwf.k6
  have hn2 := hn.1
  have hn4 := hn.2
  clear hn hwf o1 o2
  have V3 := Lib.hid (((HV.out.below (belowAlloc w (.cells #[.slice Q n qc, .slice Q' s.k qc'] 31))).below (belowAlloc _ (.cells #[.int .i64 e0, .int .i64 e1, .int .i64 e2] 38))).below (belowAlloc _ (.cells #[.slice none 0 0, .slice none 0 0] 31)))
  by_cases f1 : 0 ≤ e1
  · have i1 : decide (0 ≤ e1) = true := decide_eq_true f1
    by_cases f2 : e1 < s.k
    · have i2 : decide (e1 < (s.k : Int)) = true := decide_eq_true f2
      by_cases f3 : e1 < n
      · have i3 : decide (e1 < (n : Int)) = true := decide_eq_true f3
        go_enter Tryd.func9, Tryd.ntmps9
        go_upto_region 2 with (go_at_call 22; go_must (refine (rcopy_any n base s _ _ V3.out hn4 hk6).mono ?_); rintro e w1 ⟨⟨v1, rfl, A1, c1, A1', c1', rfl, o1, o2⟩, hb1⟩; have hz1 := hb1.size; (try simp only [World.size_alloc] at hz1 o1 o2); have O1 := Lib.hid o1; have O2 := Lib.hid o2; have HB1 := Lib.hid hb1; clear o1 o2 hb1)
        obtain ⟨g, cc, ee⟩ := O1.out.nz (show 0 < n by omega)
        injection ee with ee1 _ ee3
        subst ee1; subst ee3
        have hzw : w.heap.size + 1 + 1 + 1 ≤ w1.heap.size := hz1
        obtain ⟨X, hX⟩ : ∃ X, X = w1.alloc (.cells #[.slice (some ⟨g, 0, none⟩) n c1, .slice A1' s.k c1'] 31) := ⟨_, rfl⟩
        have AX := Lib.hid (show Own X (w.heap.size + 1 + 1 + 1) 51 3 (.slice (some ⟨g, 0, none⟩) n c1) n (ints2 s.c) by rw [hX]; exact O1.out.alloc _)
        have MX := Lib.hid (show Own X (w.heap.size + 1 + 1 + 1) 54 4 (.slice A1' s.k c1') s.k (ints2 s.m) by rw [hX]; exact O2.out.alloc _)
        have P0 := Lib.hid (show Blk X w.heap.size 31 #[.slice Q n qc, .slice Q' s.k qc'] by rw [hX]; exact ((((Blk.new w _ _).alloc (.cells #[.int .i64 e0, .int .i64 e1, .int .i64 e2] 38)).alloc (.cells #[.slice none 0 0, .slice none 0 0] 31)).below' HB1.out).alloc _)
        have P1 := Lib.hid (show Blk X (w.heap.size + 1) 38 #[.int .i64 e0, .int .i64 e1, .int .i64 e2] by rw [hX]; exact (((Blk.new1 w (.cells #[.slice Q n qc, .slice Q' s.k qc'] 31) _ _).alloc (.cells #[.slice none 0 0, .slice none 0 0] 31)).below' HB1.out).alloc _)
        have P2 := Lib.hid (show Blk X (w.heap.size + 1 + 1) 31 #[.slice none 0 0, .slice none 0 0] by rw [hX]; exact ((Blk.new2 w (.cells #[.slice Q n qc, .slice Q' s.k qc'] 31) (.cells #[.int .i64 e0, .int .i64 e1, .int .i64 e2] 38) _ _).below' HB1.out).alloc _)
        have P6 := Lib.hid (show Blk X w1.heap.size 31 #[.slice (some ⟨g, 0, none⟩) n c1, .slice A1' s.k c1'] by rw [hX]; exact Blk.new w1 _ _)
        have BX := Lib.hid (show Below w.heap.size w X by rw [hX]; exact ((((((Below.refl w.heap.size w).alloc (Nat.le_refl _) (.cells #[.slice Q n qc, .slice Q' s.k qc'] 31)).alloc (by simp) (.cells #[.int .i64 e0, .int .i64 e1, .int .i64 e2] 38)).alloc (by simp; omega) (.cells #[.slice none 0 0, .slice none 0 0] 31)).trans (HB1.out.mono (by simp; omega))).alloc (by omega) _))
        have hzX : w.heap.size + 1 + 1 + 1 ≤ X.heap.size := by rw [hX]; simp; omega
        rw [← hX]
        clear hX
        have y0 := P1.out.cell 0
        have y1 := P1.out.cell 1
        have y2 := P1.out.cell 2
        have d0 := P6.out.cell 0
        have d1 := P6.out.cell 1
        go_upto_region 3 with fail
        go_cut [8] from 9 (fun s8 wc => s8 = .bool true ∧ wc = X)
        case first =>
          go_wp2_with fail
          go_meet
          case rel => exact ⟨rfl, rfl⟩
        case rest =>
          obtain ⟨rfl, rfl⟩ := hcut
          go_step
          refine app_up (base := base) (B0 := w.heap.size + 1 + 1 + 1) BX.out HV.out (by omega) (app_all n w.heap.size (w.heap.size + 1 + 1 + 1) g c1 c1' w.heap.size (w.heap.size + 1) (w.heap.size + 1 + 1) w1.heap.size qc qc' A1' Q Q' s e0 e1 e2 _ _ _ _ AX.out MX.out P0.out P1.out P2.out P6.out (by omega) HW.out rfl (by symm; first | exact decide_eq_true (by omega) | exact decide_eq_false (by omega)) (by symm; first | exact decide_eq_true (by omega) | exact decide_eq_false (by omega)))
      · have i3 : decide (e1 < (n : Int)) = false := decide_eq_false f3
        go_enter Tryd.func9, Tryd.ntmps9
        go_upto_region 2 with (go_at_call 22; go_must (refine (rcopy_any n base s _ _ V3.out hn4 hk6).mono ?_); rintro e w1 ⟨⟨v1, rfl, A1, c1, A1', c1', rfl, o1, o2⟩, hb1⟩; have hz1 := hb1.size; (try simp only [World.size_alloc] at hz1 o1 o2); have O1 := Lib.hid o1; have O2 := Lib.hid o2; have HB1 := Lib.hid hb1; clear o1 o2 hb1)
        obtain ⟨g, cc, ee⟩ := O1.out.nz (show 0 < n by omega)
        injection ee with ee1 _ ee3
        subst ee1; subst ee3
        have hzw : w.heap.size + 1 + 1 + 1 ≤ w1.heap.size := hz1
        obtain ⟨X, hX⟩ : ∃ X, X = w1.alloc (.cells #[.slice (some ⟨g, 0, none⟩) n c1, .slice A1' s.k c1'] 31) := ⟨_, rfl⟩
        have AX := Lib.hid (show Own X (w.heap.size + 1 + 1 + 1) 51 3 (.slice (some ⟨g, 0, none⟩) n c1) n (ints2 s.c) by rw [hX]; exact O1.out.alloc _)
        have MX := Lib.hid (show Own X (w.heap.size + 1 + 1 + 1) 54 4 (.slice A1' s.k c1') s.k (ints2 s.m) by rw [hX]; exact O2.out.alloc _)
        have P0 := Lib.hid (show Blk X w.heap.size 31 #[.slice Q n qc, .slice Q' s.k qc'] by rw [hX]; exact ((((Blk.new w _ _).alloc (.cells #[.int .i64 e0, .int .i64 e1, .int .i64 e2] 38)).alloc (.cells #[.slice none 0 0, .slice none 0 0] 31)).below' HB1.out).alloc _)
        have P1 := Lib.hid (show Blk X (w.heap.size + 1) 38 #[.int .i64 e0, .int .i64 e1, .int .i64 e2] by rw [hX]; exact (((Blk.new1 w (.cells #[.slice Q n qc, .slice Q' s.k qc'] 31) _ _).alloc (.cells #[.slice none 0 0, .slice none 0 0] 31)).below' HB1.out).alloc _)
        have P2 := Lib.hid (show Blk X (w.heap.size + 1 + 1) 31 #[.slice none 0 0, .slice none 0 0] by rw [hX]; exact ((Blk.new2 w (.cells #[.slice Q n qc, .slice Q' s.k qc'] 31) (.cells #[.int .i64 e0, .int .i64 e1, .int .i64 e2] 38) _ _).below' HB1.out).alloc _)
        have P6 := Lib.hid (show Blk X w1.heap.size 31 #[.slice (some ⟨g, 0, none⟩) n c1, .slice A1' s.k c1'] by rw [hX]; exact Blk.new w1 _ _)
        have BX := Lib.hid (show Below w.heap.size w X by rw [hX]; exact ((((((Below.refl w.heap.size w).alloc (Nat.le_refl _) (.cells #[.slice Q n qc, .slice Q' s.k qc'] 31)).alloc (by simp) (.cells #[.int .i64 e0, .int .i64 e1, .int .i64 e2] 38)).alloc (by simp; omega) (.cells #[.slice none 0 0, .slice none 0 0] 31)).trans (HB1.out.mono (by simp; omega))).alloc (by omega) _))
        have hzX : w.heap.size + 1 + 1 + 1 ≤ X.heap.size := by rw [hX]; simp; omega
        rw [← hX]
        clear hX
        have y0 := P1.out.cell 0
        have y1 := P1.out.cell 1
        have y2 := P1.out.cell 2
        have d0 := P6.out.cell 0
        have d1 := P6.out.cell 1
        go_upto_region 3 with fail
        go_cut [8] from 9 (fun s8 wc => s8 = .bool true ∧ wc = X)
        case first =>
          go_wp2_with fail
          go_meet
          case rel => exact ⟨rfl, rfl⟩
        case rest =>
          obtain ⟨rfl, rfl⟩ := hcut
          go_step
          refine app_up (base := base) (B0 := w.heap.size + 1 + 1 + 1) BX.out HV.out (by omega) (app_all n w.heap.size (w.heap.size + 1 + 1 + 1) g c1 c1' w.heap.size (w.heap.size + 1) (w.heap.size + 1 + 1) w1.heap.size qc qc' A1' Q Q' s e0 e1 e2 _ _ _ _ AX.out MX.out P0.out P1.out P2.out P6.out (by omega) HW.out rfl (by symm; first | exact decide_eq_true (by omega) | exact decide_eq_false (by omega)) (by symm; first | exact decide_eq_true (by omega) | exact decide_eq_false (by omega)))
    · have i2 : decide (e1 < (s.k : Int)) = false := decide_eq_false f2
      by_cases f3 : e1 < n
      · have i3 : decide (e1 < (n : Int)) = true := decide_eq_true f3
        go_enter Tryd.func9, Tryd.ntmps9
        go_upto_region 2 with (go_at_call 22; go_must (refine (rcopy_any n base s _ _ V3.out hn4 hk6).mono ?_); rintro e w1 ⟨⟨v1, rfl, A1, c1, A1', c1', rfl, o1, o2⟩, hb1⟩; have hz1 := hb1.size; (try simp only [World.size_alloc] at hz1 o1 o2); have O1 := Lib.hid o1; have O2 := Lib.hid o2; have HB1 := Lib.hid hb1; clear o1 o2 hb1)
        obtain ⟨g, cc, ee⟩ := O1.out.nz (show 0 < n by omega)
        injection ee with ee1 _ ee3
        subst ee1; subst ee3
        have hzw : w.heap.size + 1 + 1 + 1 ≤ w1.heap.size := hz1
        obtain ⟨X, hX⟩ : ∃ X, X = w1.alloc (.cells #[.slice (some ⟨g, 0, none⟩) n c1, .slice A1' s.k c1'] 31) := ⟨_, rfl⟩
        have AX := Lib.hid (show Own X (w.heap.size + 1 + 1 + 1) 51 3 (.slice (some ⟨g, 0, none⟩) n c1) n (ints2 s.c) by rw [hX]; exact O1.out.alloc _)
        have MX := Lib.hid (show Own X (w.heap.size + 1 + 1 + 1) 54 4 (.slice A1' s.k c1') s.k (ints2 s.m) by rw [hX]; exact O2.out.alloc _)
        have P0 := Lib.hid (show Blk X w.heap.size 31 #[.slice Q n qc, .slice Q' s.k qc'] by rw [hX]; exact ((((Blk.new w _ _).alloc (.cells #[.int .i64 e0, .int .i64 e1, .int .i64 e2] 38)).alloc (.cells #[.slice none 0 0, .slice none 0 0] 31)).below' HB1.out).alloc _)
        have P1 := Lib.hid (show Blk X (w.heap.size + 1) 38 #[.int .i64 e0, .int .i64 e1, .int .i64 e2] by rw [hX]; exact (((Blk.new1 w (.cells #[.slice Q n qc, .slice Q' s.k qc'] 31) _ _).alloc (.cells #[.slice none 0 0, .slice none 0 0] 31)).below' HB1.out).alloc _)
        have P2 := Lib.hid (show Blk X (w.heap.size + 1 + 1) 31 #[.slice none 0 0, .slice none 0 0] by rw [hX]; exact ((Blk.new2 w (.cells #[.slice Q n qc, .slice Q' s.k qc'] 31) (.cells #[.int .i64 e0, .int .i64 e1, .int .i64 e2] 38) _ _).below' HB1.out).alloc _)
        have P6 := Lib.hid (show Blk X w1.heap.size 31 #[.slice (some ⟨g, 0, none⟩) n c1, .slice A1' s.k c1'] by rw [hX]; exact Blk.new w1 _ _)
        have BX := Lib.hid (show Below w.heap.size w X by rw [hX]; exact ((((((Below.refl w.heap.size w).alloc (Nat.le_refl _) (.cells #[.slice Q n qc, .slice Q' s.k qc'] 31)).alloc (by simp) (.cells #[.int .i64 e0, .int .i64 e1, .int .i64 e2] 38)).alloc (by simp; omega) (.cells #[.slice none 0 0, .slice none 0 0] 31)).trans (HB1.out.mono (by simp; omega))).alloc (by omega) _))
        have hzX : w.heap.size + 1 + 1 + 1 ≤ X.heap.size := by rw [hX]; simp; omega
        rw [← hX]
        clear hX
        have y0 := P1.out.cell 0
        have y1 := P1.out.cell 1
        have y2 := P1.out.cell 2
        have d0 := P6.out.cell 0
        have d1 := P6.out.cell 1
        go_upto_region 3 with fail
        go_cut [8] from 9 (fun s8 wc => s8 = .bool false ∧ wc = X)
        case first =>
          go_wp2_with fail
          go_meet
          case rel => exact ⟨rfl, rfl⟩
        case rest =>
          obtain ⟨rfl, rfl⟩ := hcut
          go_step
          refine app_up (base := base) (B0 := w.heap.size + 1 + 1 + 1) BX.out HV.out (by omega) (app_all n w.heap.size (w.heap.size + 1 + 1 + 1) g c1 c1' w.heap.size (w.heap.size + 1) (w.heap.size + 1 + 1) w1.heap.size qc qc' A1' Q Q' s e0 e1 e2 _ _ _ _ AX.out MX.out P0.out P1.out P2.out P6.out (by omega) HW.out rfl (by symm; first | exact decide_eq_true (by omega) | exact decide_eq_false (by omega)) (by symm; first | exact decide_eq_true (by omega) | exact decide_eq_false (by omega)))
      · have i3 : decide (e1 < (n : Int)) = false := decide_eq_false f3
        go_enter Tryd.func9, Tryd.ntmps9
        go_upto_region 2 with (go_at_call 22; go_must (refine (rcopy_any n base s _ _ V3.out hn4 hk6).mono ?_); rintro e w1 ⟨⟨v1, rfl, A1, c1, A1', c1', rfl, o1, o2⟩, hb1⟩; have hz1 := hb1.size; (try simp only [World.size_alloc] at hz1 o1 o2); have O1 := Lib.hid o1; have O2 := Lib.hid o2; have HB1 := Lib.hid hb1; clear o1 o2 hb1)
        obtain ⟨g, cc, ee⟩ := O1.out.nz (show 0 < n by omega)
        injection ee with ee1 _ ee3
        subst ee1; subst ee3
        have hzw : w.heap.size + 1 + 1 + 1 ≤ w1.heap.size := hz1
        obtain ⟨X, hX⟩ : ∃ X, X = w1.alloc (.cells #[.slice (some ⟨g, 0, none⟩) n c1, .slice A1' s.k c1'] 31) := ⟨_, rfl⟩
        have AX := Lib.hid (show Own X (w.heap.size + 1 + 1 + 1) 51 3 (.slice (some ⟨g, 0, none⟩) n c1) n (ints2 s.c) by rw [hX]; exact O1.out.alloc _)
        have MX := Lib.hid (show Own X (w.heap.size + 1 + 1 + 1) 54 4 (.slice A1' s.k c1') s.k (ints2 s.m) by rw [hX]; exact O2.out.alloc _)
        have P0 := Lib.hid (show Blk X w.heap.size 31 #[.slice Q n qc, .slice Q' s.k qc'] by rw [hX]; exact ((((Blk.new w _ _).alloc (.cells #[.int .i64 e0, .int .i64 e1, .int .i64 e2] 38)).alloc (.cells #[.slice none 0 0, .slice none 0 0] 31)).below' HB1.out).alloc _)
        have P1 := Lib.hid (show Blk X (w.heap.size + 1) 38 #[.int .i64 e0, .int .i64 e1, .int .i64 e2] by rw [hX]; exact (((Blk.new1 w (.cells #[.slice Q n qc, .slice Q' s.k qc'] 31) _ _).alloc (.cells #[.slice none 0 0, .slice none 0 0] 31)).below' HB1.out).alloc _)
        have P2 := Lib.hid (show Blk X (w.heap.size + 1 + 1) 31 #[.slice none 0 0, .slice none 0 0] by rw [hX]; exact ((Blk.new2 w (.cells #[.slice Q n qc, .slice Q' s.k qc'] 31) (.cells #[.int .i64 e0, .int .i64 e1, .int .i64 e2] 38) _ _).below' HB1.out).alloc _)
        have P6 := Lib.hid (show Blk X w1.heap.size 31 #[.slice (some ⟨g, 0, none⟩) n c1, .slice A1' s.k c1'] by rw [hX]; exact Blk.new w1 _ _)
        have BX := Lib.hid (show Below w.heap.size w X by rw [hX]; exact ((((((Below.refl w.heap.size w).alloc (Nat.le_refl _) (.cells #[.slice Q n qc, .slice Q' s.k qc'] 31)).alloc (by simp) (.cells #[.int .i64 e0, .int .i64 e1, .int .i64 e2] 38)).alloc (by simp; omega) (.cells #[.slice none 0 0, .slice none 0 0] 31)).trans (HB1.out.mono (by simp; omega))).alloc (by omega) _))
        have hzX : w.heap.size + 1 + 1 + 1 ≤ X.heap.size := by rw [hX]; simp; omega
        rw [← hX]
        clear hX
        have y0 := P1.out.cell 0
        have y1 := P1.out.cell 1
        have y2 := P1.out.cell 2
        have d0 := P6.out.cell 0
        have d1 := P6.out.cell 1
        go_upto_region 3 with fail
        go_cut [8] from 9 (fun s8 wc => s8 = .bool false ∧ wc = X)
        case first =>
          go_wp2_with fail
          go_meet
          case rel => exact ⟨rfl, rfl⟩
        case rest =>
          obtain ⟨rfl, rfl⟩ := hcut
          go_step
          refine app_up (base := base) (B0 := w.heap.size + 1 + 1 + 1) BX.out HV.out (by omega) (app_all n w.heap.size (w.heap.size + 1 + 1 + 1) g c1 c1' w.heap.size (w.heap.size + 1) (w.heap.size + 1 + 1) w1.heap.size qc qc' A1' Q Q' s e0 e1 e2 _ _ _ _ AX.out MX.out P0.out P1.out P2.out P6.out (by omega) HW.out rfl (by symm; first | exact decide_eq_true (by omega) | exact decide_eq_false (by omega)) (by symm; first | exact decide_eq_true (by omega) | exact decide_eq_false (by omega)))
  · have i1 : decide (0 ≤ e1) = false := decide_eq_false f1
    go_enter Tryd.func9, Tryd.ntmps9
    go_upto_region 2 with (go_at_call 22; go_must (refine (rcopy_any n base s _ _ V3.out hn4 hk6).mono ?_); rintro e w1 ⟨⟨v1, rfl, A1, c1, A1', c1', rfl, o1, o2⟩, hb1⟩; have hz1 := hb1.size; (try simp only [World.size_alloc] at hz1 o1 o2); have O1 := Lib.hid o1; have O2 := Lib.hid o2; have HB1 := Lib.hid hb1; clear o1 o2 hb1)
    obtain ⟨g, cc, ee⟩ := O1.out.nz (show 0 < n by omega)
    injection ee with ee1 _ ee3
    subst ee1; subst ee3
    have hzw : w.heap.size + 1 + 1 + 1 ≤ w1.heap.size := hz1
    obtain ⟨X, hX⟩ : ∃ X, X = w1.alloc (.cells #[.slice (some ⟨g, 0, none⟩) n c1, .slice A1' s.k c1'] 31) := ⟨_, rfl⟩
    have AX := Lib.hid (show Own X (w.heap.size + 1 + 1 + 1) 51 3 (.slice (some ⟨g, 0, none⟩) n c1) n (ints2 s.c) by rw [hX]; exact O1.out.alloc _)
    have MX := Lib.hid (show Own X (w.heap.size + 1 + 1 + 1) 54 4 (.slice A1' s.k c1') s.k (ints2 s.m) by rw [hX]; exact O2.out.alloc _)
    have P0 := Lib.hid (show Blk X w.heap.size 31 #[.slice Q n qc, .slice Q' s.k qc'] by rw [hX]; exact ((((Blk.new w _ _).alloc (.cells #[.int .i64 e0, .int .i64 e1, .int .i64 e2] 38)).alloc (.cells #[.slice none 0 0, .slice none 0 0] 31)).below' HB1.out).alloc _)
    have P1 := Lib.hid (show Blk X (w.heap.size + 1) 38 #[.int .i64 e0, .int .i64 e1, .int .i64 e2] by rw [hX]; exact (((Blk.new1 w (.cells #[.slice Q n qc, .slice Q' s.k qc'] 31) _ _).alloc (.cells #[.slice none 0 0, .slice none 0 0] 31)).below' HB1.out).alloc _)
    have P2 := Lib.hid (show Blk X (w.heap.size + 1 + 1) 31 #[.slice none 0 0, .slice none 0 0] by rw [hX]; exact ((Blk.new2 w (.cells #[.slice Q n qc, .slice Q' s.k qc'] 31) (.cells #[.int .i64 e0, .int .i64 e1, .int .i64 e2] 38) _ _).below' HB1.out).alloc _)
    have P6 := Lib.hid (show Blk X w1.heap.size 31 #[.slice (some ⟨g, 0, none⟩) n c1, .slice A1' s.k c1'] by rw [hX]; exact Blk.new w1 _ _)
    have BX := Lib.hid (show Below w.heap.size w X by rw [hX]; exact ((((((Below.refl w.heap.size w).alloc (Nat.le_refl _) (.cells #[.slice Q n qc, .slice Q' s.k qc'] 31)).alloc (by simp) (.cells #[.int .i64 e0, .int .i64 e1, .int .i64 e2] 38)).alloc (by simp; omega) (.cells #[.slice none 0 0, .slice none 0 0] 31)).trans (HB1.out.mono (by simp; omega))).alloc (by omega) _))
    have hzX : w.heap.size + 1 + 1 + 1 ≤ X.heap.size := by rw [hX]; simp; omega
    rw [← hX]
    clear hX
    have y0 := P1.out.cell 0
    have y1 := P1.out.cell 1
    have y2 := P1.out.cell 2
    have d0 := P6.out.cell 0
    have d1 := P6.out.cell 1
    go_upto_region 3 with fail
    go_cut [8] from 9 (fun s8 wc => s8 = .bool false ∧ wc = X)
    case first =>
      go_wp2_with fail
      go_meet
      case rel => exact ⟨rfl, rfl⟩
    case rest =>
      obtain ⟨rfl, rfl⟩ := hcut
      go_step
      refine app_up (base := base) (B0 := w.heap.size + 1 + 1 + 1) BX.out HV.out (by omega) (app_all n w.heap.size (w.heap.size + 1 + 1 + 1) g c1 c1' w.heap.size (w.heap.size + 1) (w.heap.size + 1 + 1) w1.heap.size qc qc' A1' Q Q' s e0 e1 e2 _ _ _ _ AX.out MX.out P0.out P1.out P2.out P6.out (by omega) HW.out rfl (by symm; first | exact decide_eq_true (by omega) | exact decide_eq_false (by omega)) (by symm; first | exact decide_eq_true (by omega) | exact decide_eq_false (by omega)))
end Go.Proofs.YtfnfjmjejffjiaaDoor
