/- The handling of a message, joined. -/
import Derived.Test.YtbjggnecfppjgaaDoorT4
import Derived.Deep.CutBlock
namespace Go.Proofs.YtbjggnecfppjgaaDoor
open Go.RowKit

theorem handle_eq (s : M.St) (x0 x1 x3 : Int) (o : Nat) : M.handle s (M.v4 x0 x1 o x3) =
    if x0 = 1 ∧ (s.c o 0 = 0 ∨ s.c o 0 = 4) ∧ s.c o 2 < x3 then M.send (M.setC s o (M.v3 3 x1 x3)) 2 o x1
    else if x0 = 1 ∧ s.c o 0 = 3 ∧ s.c o 1 = x1 ∧ s.c o 2 = x3 then M.send s 2 o x1
    else if x0 = 2 ∧ s.c o 0 = 2 ∧ s.c o 1 = x1 ∧ s.c o 2 = x3 then M.send (M.setC s o (M.v3 4 (s.c o 1) (s.c o 2))) 3 o x1
    else if x0 = 2 ∧ s.c o 0 = 4 ∧ s.c o 1 = x1 ∧ s.c o 2 = x3 then M.send s 3 o x1
    else if x0 = 3 ∧ s.c o 0 = 3 ∧ s.c o 1 = x1 ∧ s.c o 2 = x3 then M.setC s o (M.v3 1 0 (s.c o 2))
    else s := rfl
section
variable (n g B o : Nat) (s : M.St) (x0 x1 x3 : Int) (sm : Bool) (w : World)
set_option maxRecDepth 100000 in
set_option maxHeartbeats 3200000 in
theorem hand_all {v1 v2 v6 v7 v8 v9 v10 v11 v12 v13 v14 v15 v16 v17 v18 v19 v20 v21 v22 v23 v24 v25 v26 v27 v28 v29 v30 v31 v32 v33 v34 v35 v36 v37 v38 v39 v40 v41 v42 v43 v44 v45 v46 v47 v48 v49 v50 v51 v52 v53 v54 v55 v56 v57 v58 v59 v60 v61 v62 v63 v64 v65 v66 v67 v68 v69 v70 v71 v72 v73 v74 v75 v76 v77 v78 v79 v80 v81 v82 v83 v84 v85 v86 v87 v88 v89 v90 v91 v92 v93 v94 v95 v96 v97 v98 v99 v100 v101 v102 v103 v104 v105 v106 v107 v108 v109 v110 v111 v112 v113 v114 v115 v116 v117 v118 v119 v120 v121 v122 v123 v124 v125 v126 v127 v128 v129 v130 v131 v132 v133 v134 v135 v136 v137 : Value} (t : M.St) (hs : Sf w g (stF n s)) (hb : Blk w B 72 #[.int .i64 x0, .int .i64 x1, .int .i64 (o : Int), .int .i64 x3]) (hgB : g ≠ B) (ho : o < 4) (hk6 : s.k < 6)
    (hi : 0 ≤ s.c o 0 ∧ s.c o 0 ≤ 4) (ht : t = M.handle s (M.v4 x0 x1 o x3)) (hsm : sm = decide (s.c o 1 = x1 ∧ s.c o 2 = x3)) :
    Code.wp Tryd.prog (restAt Tryd.f63 3) (bodyPost Tryd.prog Tryd.f63 (HandV n g t w))  { tmps := List.toArray (.pointer (some ⟨g, 0, none⟩) :: v1 :: v2 :: .pointer (some ⟨B, 0, none⟩) :: .pointer (some ⟨g, 1 + o * 3, none⟩) :: .bool sm :: v6 :: v7 :: v8 :: v9 :: v10 :: v11 :: v12 :: v13 :: v14 :: v15 :: v16 :: v17 :: v18 :: v19 :: v20 :: v21 :: v22 :: v23 :: v24 :: v25 :: v26 :: v27 :: v28 :: v29 :: v30 :: v31 :: v32 :: v33 :: v34 :: v35 :: v36 :: v37 :: v38 :: v39 :: v40 :: v41 :: v42 :: v43 :: v44 :: v45 :: v46 :: v47 :: v48 :: v49 :: v50 :: v51 :: v52 :: v53 :: v54 :: v55 :: v56 :: v57 :: v58 :: v59 :: v60 :: v61 :: v62 :: v63 :: v64 :: v65 :: v66 :: v67 :: v68 :: v69 :: v70 :: v71 :: v72 :: v73 :: v74 :: v75 :: v76 :: v77 :: v78 :: v79 :: v80 :: v81 :: v82 :: v83 :: v84 :: v85 :: v86 :: v87 :: v88 :: v89 :: v90 :: v91 :: v92 :: v93 :: v94 :: v95 :: v96 :: v97 :: v98 :: v99 :: v100 :: v101 :: v102 :: v103 :: v104 :: v105 :: v106 :: v107 :: v108 :: v109 :: v110 :: v111 :: v112 :: v113 :: v114 :: v115 :: v116 :: v117 :: v118 :: v119 :: v120 :: v121 :: v122 :: v123 :: v124 :: v125 :: v126 :: v127 :: v128 :: v129 :: v130 :: v131 :: v132 :: v133 :: v134 :: v135 :: v136 :: v137 :: []), defers := [] } w := by
  have hh : s.c o 0 = 0 ∨ s.c o 0 = 1 ∨ s.c o 0 = 2 ∨ s.c o 0 = 3 ∨ s.c o 0 = 4 := by omega
  by_cases k1 : x0 = 1
  · rcases hh with i | i | i | i | i
    · by_cases hl : s.c o 2 < x3
      · exact hand_1_0_go n g B o s x0 x1 x3 sm w t hs hb hgB ho hk6 (ht.trans ((handle_eq s x0 x1 x3 o).trans (by rw [if_pos (by omega)]))) k1 i hl
      · exact hand_1_0_no n g B o s x0 x1 x3 sm w t hs hb hgB ho hk6 (ht.trans ((handle_eq s x0 x1 x3 o).trans (by rw [if_neg (by omega), if_neg (by omega), if_neg (by omega), if_neg (by omega), if_neg (by omega)]))) k1 i hl
    · exact hand_1_1 n g B o s x0 x1 x3 sm w t hs hb hgB ho hk6 (ht.trans ((handle_eq s x0 x1 x3 o).trans (by rw [if_neg (by omega), if_neg (by omega), if_neg (by omega), if_neg (by omega), if_neg (by omega)]))) k1 i
    · exact hand_1_2 n g B o s x0 x1 x3 sm w t hs hb hgB ho hk6 (ht.trans ((handle_eq s x0 x1 x3 o).trans (by rw [if_neg (by omega), if_neg (by omega), if_neg (by omega), if_neg (by omega), if_neg (by omega)]))) k1 i
    · by_cases hq : s.c o 1 = x1 ∧ s.c o 2 = x3
      · exact hand_1_3_go n g B o s x0 x1 x3 sm w t hs hb hgB ho hk6 (ht.trans ((handle_eq s x0 x1 x3 o).trans (by rw [if_neg (by omega), if_pos (by omega)]))) k1 i (hsm.trans (decide_eq_true hq))
      · exact hand_1_3_no n g B o s x0 x1 x3 sm w t hs hb hgB ho hk6 (ht.trans ((handle_eq s x0 x1 x3 o).trans (by rw [if_neg (by omega), if_neg (by omega), if_neg (by omega), if_neg (by omega), if_neg (by omega)]))) k1 i (hsm.trans (decide_eq_false hq))
    · by_cases hl : s.c o 2 < x3
      · exact hand_1_4_go n g B o s x0 x1 x3 sm w t hs hb hgB ho hk6 (ht.trans ((handle_eq s x0 x1 x3 o).trans (by rw [if_pos (by omega)]))) k1 i hl
      · exact hand_1_4_no n g B o s x0 x1 x3 sm w t hs hb hgB ho hk6 (ht.trans ((handle_eq s x0 x1 x3 o).trans (by rw [if_neg (by omega), if_neg (by omega), if_neg (by omega), if_neg (by omega), if_neg (by omega)]))) k1 i hl
  · by_cases k2 : x0 = 2
    · rcases hh with i | i | i | i | i
      · exact hand_2_0 n g B o s x0 x1 x3 sm w t hs hb hgB ho hk6 (ht.trans ((handle_eq s x0 x1 x3 o).trans (by rw [if_neg (by omega), if_neg (by omega), if_neg (by omega), if_neg (by omega), if_neg (by omega)]))) k2 i
      · exact hand_2_1 n g B o s x0 x1 x3 sm w t hs hb hgB ho hk6 (ht.trans ((handle_eq s x0 x1 x3 o).trans (by rw [if_neg (by omega), if_neg (by omega), if_neg (by omega), if_neg (by omega), if_neg (by omega)]))) k2 i
      · by_cases hq : s.c o 1 = x1 ∧ s.c o 2 = x3
        · exact hand_2_2_go n g B o s x0 x1 x3 sm w t hs hb hgB ho hk6 (ht.trans ((handle_eq s x0 x1 x3 o).trans (by rw [if_neg (by omega), if_neg (by omega), if_pos (by omega)]))) k2 i (hsm.trans (decide_eq_true hq))
        · exact hand_2_2_no n g B o s x0 x1 x3 sm w t hs hb hgB ho hk6 (ht.trans ((handle_eq s x0 x1 x3 o).trans (by rw [if_neg (by omega), if_neg (by omega), if_neg (by omega), if_neg (by omega), if_neg (by omega)]))) k2 i (hsm.trans (decide_eq_false hq))
      · exact hand_2_3 n g B o s x0 x1 x3 sm w t hs hb hgB ho hk6 (ht.trans ((handle_eq s x0 x1 x3 o).trans (by rw [if_neg (by omega), if_neg (by omega), if_neg (by omega), if_neg (by omega), if_neg (by omega)]))) k2 i
      · by_cases hq : s.c o 1 = x1 ∧ s.c o 2 = x3
        · exact hand_2_4_go n g B o s x0 x1 x3 sm w t hs hb hgB ho hk6 (ht.trans ((handle_eq s x0 x1 x3 o).trans (by rw [if_neg (by omega), if_neg (by omega), if_neg (by omega), if_pos (by omega)]))) k2 i (hsm.trans (decide_eq_true hq))
        · exact hand_2_4_no n g B o s x0 x1 x3 sm w t hs hb hgB ho hk6 (ht.trans ((handle_eq s x0 x1 x3 o).trans (by rw [if_neg (by omega), if_neg (by omega), if_neg (by omega), if_neg (by omega), if_neg (by omega)]))) k2 i (hsm.trans (decide_eq_false hq))
    · by_cases k3 : x0 = 3
      · rcases hh with i | i | i | i | i
        · exact hand_3_0 n g B o s x0 x1 x3 sm w t hs hb hgB ho hk6 (ht.trans ((handle_eq s x0 x1 x3 o).trans (by rw [if_neg (by omega), if_neg (by omega), if_neg (by omega), if_neg (by omega), if_neg (by omega)]))) k3 i
        · exact hand_3_1 n g B o s x0 x1 x3 sm w t hs hb hgB ho hk6 (ht.trans ((handle_eq s x0 x1 x3 o).trans (by rw [if_neg (by omega), if_neg (by omega), if_neg (by omega), if_neg (by omega), if_neg (by omega)]))) k3 i
        · exact hand_3_2 n g B o s x0 x1 x3 sm w t hs hb hgB ho hk6 (ht.trans ((handle_eq s x0 x1 x3 o).trans (by rw [if_neg (by omega), if_neg (by omega), if_neg (by omega), if_neg (by omega), if_neg (by omega)]))) k3 i
        · by_cases hq : s.c o 1 = x1 ∧ s.c o 2 = x3
          · exact hand_3_3_go n g B o s x0 x1 x3 sm w t hs hb hgB ho hk6 (ht.trans ((handle_eq s x0 x1 x3 o).trans (by rw [if_neg (by omega), if_neg (by omega), if_neg (by omega), if_neg (by omega), if_pos (by omega)]))) k3 i (hsm.trans (decide_eq_true hq))
          · exact hand_3_3_no n g B o s x0 x1 x3 sm w t hs hb hgB ho hk6 (ht.trans ((handle_eq s x0 x1 x3 o).trans (by rw [if_neg (by omega), if_neg (by omega), if_neg (by omega), if_neg (by omega), if_neg (by omega)]))) k3 i (hsm.trans (decide_eq_false hq))
        · exact hand_3_4 n g B o s x0 x1 x3 sm w t hs hb hgB ho hk6 (ht.trans ((handle_eq s x0 x1 x3 o).trans (by rw [if_neg (by omega), if_neg (by omega), if_neg (by omega), if_neg (by omega), if_neg (by omega)]))) k3 i
      · exact hand_skip n g B o s x0 x1 x3 sm w t hs hb hgB ho hk6 (ht.trans ((handle_eq s x0 x1 x3 o).trans (by rw [if_neg (by omega), if_neg (by omega), if_neg (by omega), if_neg (by omega), if_neg (by omega)]))) ⟨k1, k2, k3⟩
end
theorem hand_up {P : Program} {fn : Func} {c : Code} {a : Act} {W w : World} {n g : Nat} {t : M.St} (hg : w.grownBy W (some g)) (h : Code.wp P c (bodyPost P fn (HandV n g t W)) a W) : Code.wp P c (bodyPost P fn (HandV n g t w)) a W := by
  refine Code.wp_mono (fun e a w' q => ?_) h
  have hR : ∀ e w', HandV n g t W e w' → HandV n g t w e w' := fun e w' h => ⟨h.1, h.2.1, hg.trans h.2.2⟩
  cases e <;> simp only [bodyPost] at q ⊢ <;> first
    | exact q
    | exact hR _ _ q
    | exact ⟨q.1, hR _ _ q.2⟩
    | exact ⟨q.1, q.2.choose, q.2.choose_spec.1, hR _ _ q.2.choose_spec.2⟩
set_option maxRecDepth 100000 in
set_option maxHeartbeats 3200000 in
theorem handle_any (n g o : Nat) (s : M.St) (x0 x1 x3 : Int) (w : World) (hs : Sf w g (stF n s)) (ho : o < 4) (hk6 : s.k < 6) (hi : 0 ≤ s.c o 0 ∧ s.c o 0 ≤ 4) :
    Calls Tryd.prog 63 #[.pointer (some ⟨g, 0, none⟩), .agg #[.int .i64 x0, .int .i64 x1, .int .i64 (o : Int), .int .i64 x3]] w (HandV n g (M.handle s (M.v4 x0 x1 o x3)) w) := by
  have hgw := hs.lt
  obtain ⟨t, ht⟩ : ∃ t, t = M.handle s (M.v4 x0 x1 o x3) := ⟨_, rfl⟩
  rw [← ht]
  have HT := Lib.hid ht
  have H := Lib.hid hs
  have HI := Lib.hid hi
  have p1 := idx_cen g o ho
  obtain ⟨c0, c1, c2⟩ := hs.cen (a := o) ho
  clear ht hs hi
  have GW := fun q => (World.grownBy_alloc w (.cells #[.int .i64 x0, .int .i64 x1, .int .i64 (o : Int), .int .i64 x3] 72) (some g)).trans (grown_drewN (w.alloc (.cells #[.int .i64 x0, .int .i64 x1, .int .i64 (o : Int), .int .i64 x3] 72)) g q)
  have HG := Lib.hid GW
  clear GW
  by_cases h1 : s.c o 1 = x1
  · have e1 : (s.c o 1 == x1) = true := by rw [h1]; simp
    by_cases h2 : s.c o 2 = x3
    · have e2 : (s.c o 2 == x3) = true := by rw [h2]; simp
      have HS := Lib.hid (show true = decide (s.c o 1 = x1 ∧ s.c o 2 = x3) from (decide_eq_true ⟨h1, h2⟩).symm)
      clear h1 h2
      go_enter Tryd.func63, Tryd.ntmps63
      go_wp2_with fail
      go_quiet (fail)
      go_wp2_with fail
      go_quiet (fail)
      go_upto_block 0 with fail
      refine hand_up ?_ (hand_all n g w.heap.size o s x0 x1 x3 _ _ t ?_ ?_ (by omega) ho hk6 HI.out HT.out HS.out)
      · first | exact HG.out _ | exact (HG.out _).trans (grown_drewN _ _ _)
      · exact H.out.alloc _
      · exact Blk.new w _ _
    · have e2 : (s.c o 2 == x3) = false := by rw [beq_eq_false_iff_ne]; exact h2
      have HS := Lib.hid (show false = decide (s.c o 1 = x1 ∧ s.c o 2 = x3) from (decide_eq_false fun h => h2 h.2).symm)
      clear h1 h2
      go_enter Tryd.func63, Tryd.ntmps63
      go_wp2_with fail
      go_quiet (fail)
      go_wp2_with fail
      go_quiet (fail)
      go_upto_block 0 with fail
      refine hand_up ?_ (hand_all n g w.heap.size o s x0 x1 x3 _ _ t ?_ ?_ (by omega) ho hk6 HI.out HT.out HS.out)
      · first | exact HG.out _ | exact (HG.out _).trans (grown_drewN _ _ _)
      · exact H.out.alloc _
      · exact Blk.new w _ _
  · have e1 : (s.c o 1 == x1) = false := by rw [beq_eq_false_iff_ne]; exact h1
    have HS := Lib.hid (show false = decide (s.c o 1 = x1 ∧ s.c o 2 = x3) from (decide_eq_false fun h => h1 h.1).symm)
    clear h1
    go_enter Tryd.func63, Tryd.ntmps63
    go_wp2_with fail
    go_quiet (fail)
    go_wp2_with fail
    go_quiet (fail)
    go_upto_block 0 with fail
    refine hand_up ?_ (hand_all n g w.heap.size o s x0 x1 x3 _ _ t ?_ ?_ (by omega) ho hk6 HI.out HT.out HS.out)
    · first | exact HG.out _ | exact (HG.out _).trans (grown_drewN _ _ _)
    · exact H.out.alloc _
    · exact Blk.new w _ _
end Go.Proofs.YtbjggnecfppjgaaDoor
