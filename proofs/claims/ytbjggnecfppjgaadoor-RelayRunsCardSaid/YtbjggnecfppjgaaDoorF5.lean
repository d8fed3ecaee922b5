/- The reference's handling of a message, joined. -/
import Derived.Test.YtbjggnecfppjgaaDoorF5a
import Derived.Deep.CutBlock
namespace Go.Proofs.YtbjggnecfppjgaaDoor
open Go.RowKit

section
variable (n base g c c' B Bm Br Bx o : Nat) (A' : Option Addr) (s : M.St) (x0 x1 x3 : Int) (sm : Bool) (w : World)
set_option maxRecDepth 100000 in
set_option maxHeartbeats 3200000 in
theorem rhand_all {v0 v1 v7 v8 v9 v10 v11 v12 v13 v14 v15 v16 v17 v18 v19 v20 v21 v22 v23 v24 v25 v26 v27 v28 v29 v30 v31 v32 v33 v34 v35 v36 v37 v38 v39 v40 v41 v42 v43 v44 v45 v46 v47 v48 v49 v50 v51 v52 v53 v54 v55 v56 v57 v58 v59 v60 v61 v62 v63 v64 v65 v66 v67 v68 v69 v70 v71 v72 v73 v74 v75 v76 v77 v78 v79 v80 v81 v82 v83 v84 v85 v86 v87 v88 v89 v90 v91 v92 v93 v94 v95 v96 v97 v98 v99 v100 v101 v102 v103 v104 v105 v106 v107 v108 v109 v110 v111 v112 v113 v114 v115 v116 v117 v118 v119 v120 v121 v122 v123 v124 v125 v126 v127 v128 v129 v130 v131 v132 v133 v134 v135 v136 v137 v138 v139 v140 v141 v142 : Value} (t : M.St) (hA : Own w base 69 3 (.slice (some ⟨g, 0, none⟩) n c) n (ints2 s.c)) (hM : Own w base 72 4 (.slice A' s.k c') s.k (ints2 s.m)) (hb : Blk w B 42 #[.slice (some ⟨g, 0, none⟩) n c, .slice A' s.k c']) (hm : Blk w Bm 72 #[.int .i64 x0, .int .i64 x1, .int .i64 (o : Int), .int .i64 x3]) (hr : Blk w Br 42 #[.slice none 0 0, .slice none 0 0]) (hx : Blk w Bx 69 #[.int .i64 (s.c o 0), .int .i64 (s.c o 1), .int .i64 (s.c o 2)]) (hd : g < B ∧ g < Bm ∧ g < Br ∧ g < Bx) (hbs : base ≤ Br ∧ base ≤ w.heap.size ∧ base ≤ g) (ho : o < n) (hk6 : s.k < 6)
    (hi : 0 ≤ s.c o 0 ∧ s.c o 0 ≤ 4) (ht : t = M.handle s (M.v4 x0 x1 o x3)) (hsm : sm = decide (s.c o 1 = x1 ∧ s.c o 2 = x3)) :
    Code.wp Tryd.prog (restAt Tryd.f47 3) (bodyPost Tryd.prog Tryd.f47 (HandR n base t w)) { tmps := List.toArray (v0 :: v1 :: .pointer (some ⟨B, 0, none⟩) :: .pointer (some ⟨Bm, 0, none⟩) :: .pointer (some ⟨Br, 0, none⟩) :: .pointer (some ⟨Bx, 0, none⟩) :: .bool sm :: v7 :: v8 :: v9 :: v10 :: v11 :: v12 :: v13 :: v14 :: v15 :: v16 :: v17 :: v18 :: v19 :: v20 :: v21 :: v22 :: v23 :: v24 :: v25 :: v26 :: v27 :: v28 :: v29 :: v30 :: v31 :: v32 :: v33 :: v34 :: v35 :: v36 :: v37 :: v38 :: v39 :: v40 :: v41 :: v42 :: v43 :: v44 :: v45 :: v46 :: v47 :: v48 :: v49 :: v50 :: v51 :: v52 :: v53 :: v54 :: v55 :: v56 :: v57 :: v58 :: v59 :: v60 :: v61 :: v62 :: v63 :: v64 :: v65 :: v66 :: v67 :: v68 :: v69 :: v70 :: v71 :: v72 :: v73 :: v74 :: v75 :: v76 :: v77 :: v78 :: v79 :: v80 :: v81 :: v82 :: v83 :: v84 :: v85 :: v86 :: v87 :: v88 :: v89 :: v90 :: v91 :: v92 :: v93 :: v94 :: v95 :: v96 :: v97 :: v98 :: v99 :: v100 :: v101 :: v102 :: v103 :: v104 :: v105 :: v106 :: v107 :: v108 :: v109 :: v110 :: v111 :: v112 :: v113 :: v114 :: v115 :: v116 :: v117 :: v118 :: v119 :: v120 :: v121 :: v122 :: v123 :: v124 :: v125 :: v126 :: v127 :: v128 :: v129 :: v130 :: v131 :: v132 :: v133 :: v134 :: v135 :: v136 :: v137 :: v138 :: v139 :: v140 :: v141 :: v142 :: []), defers := [] } w := by
  have hh : s.c o 0 = 0 ∨ s.c o 0 = 1 ∨ s.c o 0 = 2 ∨ s.c o 0 = 3 ∨ s.c o 0 = 4 := by omega
  by_cases k1 : x0 = 1
  · rcases hh with i | i | i | i | i
    · by_cases hl : s.c o 2 < x3
      · exact rhand_1_0_go n base g c c' B Bm Br Bx o A' s x0 x1 x3 sm w t hA hM hb hm hr hx hd hbs ho hk6 (ht.trans ((handle_eq s x0 x1 x3 o).trans (by rw [if_pos (by omega)]))) k1 i hl
      · exact rhand_1_0_no n base g c c' B Bm Br Bx o A' s x0 x1 x3 sm w t hA hM hb hm hr hx hd hbs ho hk6 (ht.trans ((handle_eq s x0 x1 x3 o).trans (by rw [if_neg (by omega), if_neg (by omega), if_neg (by omega), if_neg (by omega), if_neg (by omega)]))) k1 i hl
    · exact rhand_1_1 n base g c c' B Bm Br Bx o A' s x0 x1 x3 sm w t hA hM hb hm hr hx hd hbs ho hk6 (ht.trans ((handle_eq s x0 x1 x3 o).trans (by rw [if_neg (by omega), if_neg (by omega), if_neg (by omega), if_neg (by omega), if_neg (by omega)]))) k1 i
    · exact rhand_1_2 n base g c c' B Bm Br Bx o A' s x0 x1 x3 sm w t hA hM hb hm hr hx hd hbs ho hk6 (ht.trans ((handle_eq s x0 x1 x3 o).trans (by rw [if_neg (by omega), if_neg (by omega), if_neg (by omega), if_neg (by omega), if_neg (by omega)]))) k1 i
    · by_cases hq : s.c o 1 = x1 ∧ s.c o 2 = x3
      · exact rhand_1_3_go n base g c c' B Bm Br Bx o A' s x0 x1 x3 sm w t hA hM hb hm hr hx hd hbs ho hk6 (ht.trans ((handle_eq s x0 x1 x3 o).trans (by rw [if_neg (by omega), if_pos (by omega)]))) k1 i (hsm.trans (decide_eq_true hq))
      · exact rhand_1_3_no n base g c c' B Bm Br Bx o A' s x0 x1 x3 sm w t hA hM hb hm hr hx hd hbs ho hk6 (ht.trans ((handle_eq s x0 x1 x3 o).trans (by rw [if_neg (by omega), if_neg (by omega), if_neg (by omega), if_neg (by omega), if_neg (by omega)]))) k1 i (hsm.trans (decide_eq_false hq))
    · by_cases hl : s.c o 2 < x3
      · exact rhand_1_4_go n base g c c' B Bm Br Bx o A' s x0 x1 x3 sm w t hA hM hb hm hr hx hd hbs ho hk6 (ht.trans ((handle_eq s x0 x1 x3 o).trans (by rw [if_pos (by omega)]))) k1 i hl
      · exact rhand_1_4_no n base g c c' B Bm Br Bx o A' s x0 x1 x3 sm w t hA hM hb hm hr hx hd hbs ho hk6 (ht.trans ((handle_eq s x0 x1 x3 o).trans (by rw [if_neg (by omega), if_neg (by omega), if_neg (by omega), if_neg (by omega), if_neg (by omega)]))) k1 i hl
  · by_cases k2 : x0 = 2
    · rcases hh with i | i | i | i | i
      · exact rhand_2_0 n base g c c' B Bm Br Bx o A' s x0 x1 x3 sm w t hA hM hb hm hr hx hd hbs ho hk6 (ht.trans ((handle_eq s x0 x1 x3 o).trans (by rw [if_neg (by omega), if_neg (by omega), if_neg (by omega), if_neg (by omega), if_neg (by omega)]))) k2 i
      · exact rhand_2_1 n base g c c' B Bm Br Bx o A' s x0 x1 x3 sm w t hA hM hb hm hr hx hd hbs ho hk6 (ht.trans ((handle_eq s x0 x1 x3 o).trans (by rw [if_neg (by omega), if_neg (by omega), if_neg (by omega), if_neg (by omega), if_neg (by omega)]))) k2 i
      · by_cases hq : s.c o 1 = x1 ∧ s.c o 2 = x3
        · exact rhand_2_2_go n base g c c' B Bm Br Bx o A' s x0 x1 x3 sm w t hA hM hb hm hr hx hd hbs ho hk6 (ht.trans ((handle_eq s x0 x1 x3 o).trans (by rw [if_neg (by omega), if_neg (by omega), if_pos (by omega)]))) k2 i (hsm.trans (decide_eq_true hq))
        · exact rhand_2_2_no n base g c c' B Bm Br Bx o A' s x0 x1 x3 sm w t hA hM hb hm hr hx hd hbs ho hk6 (ht.trans ((handle_eq s x0 x1 x3 o).trans (by rw [if_neg (by omega), if_neg (by omega), if_neg (by omega), if_neg (by omega), if_neg (by omega)]))) k2 i (hsm.trans (decide_eq_false hq))
      · exact rhand_2_3 n base g c c' B Bm Br Bx o A' s x0 x1 x3 sm w t hA hM hb hm hr hx hd hbs ho hk6 (ht.trans ((handle_eq s x0 x1 x3 o).trans (by rw [if_neg (by omega), if_neg (by omega), if_neg (by omega), if_neg (by omega), if_neg (by omega)]))) k2 i
      · by_cases hq : s.c o 1 = x1 ∧ s.c o 2 = x3
        · exact rhand_2_4_go n base g c c' B Bm Br Bx o A' s x0 x1 x3 sm w t hA hM hb hm hr hx hd hbs ho hk6 (ht.trans ((handle_eq s x0 x1 x3 o).trans (by rw [if_neg (by omega), if_neg (by omega), if_neg (by omega), if_pos (by omega)]))) k2 i (hsm.trans (decide_eq_true hq))
        · exact rhand_2_4_no n base g c c' B Bm Br Bx o A' s x0 x1 x3 sm w t hA hM hb hm hr hx hd hbs ho hk6 (ht.trans ((handle_eq s x0 x1 x3 o).trans (by rw [if_neg (by omega), if_neg (by omega), if_neg (by omega), if_neg (by omega), if_neg (by omega)]))) k2 i (hsm.trans (decide_eq_false hq))
    · by_cases k3 : x0 = 3
      · rcases hh with i | i | i | i | i
        · exact rhand_3_0 n base g c c' B Bm Br Bx o A' s x0 x1 x3 sm w t hA hM hb hm hr hx hd hbs ho hk6 (ht.trans ((handle_eq s x0 x1 x3 o).trans (by rw [if_neg (by omega), if_neg (by omega), if_neg (by omega), if_neg (by omega), if_neg (by omega)]))) k3 i
        · exact rhand_3_1 n base g c c' B Bm Br Bx o A' s x0 x1 x3 sm w t hA hM hb hm hr hx hd hbs ho hk6 (ht.trans ((handle_eq s x0 x1 x3 o).trans (by rw [if_neg (by omega), if_neg (by omega), if_neg (by omega), if_neg (by omega), if_neg (by omega)]))) k3 i
        · exact rhand_3_2 n base g c c' B Bm Br Bx o A' s x0 x1 x3 sm w t hA hM hb hm hr hx hd hbs ho hk6 (ht.trans ((handle_eq s x0 x1 x3 o).trans (by rw [if_neg (by omega), if_neg (by omega), if_neg (by omega), if_neg (by omega), if_neg (by omega)]))) k3 i
        · by_cases hq : s.c o 1 = x1 ∧ s.c o 2 = x3
          · exact rhand_3_3_go n base g c c' B Bm Br Bx o A' s x0 x1 x3 sm w t hA hM hb hm hr hx hd hbs ho hk6 (ht.trans ((handle_eq s x0 x1 x3 o).trans (by rw [if_neg (by omega), if_neg (by omega), if_neg (by omega), if_neg (by omega), if_pos (by omega)]))) k3 i (hsm.trans (decide_eq_true hq))
          · exact rhand_3_3_no n base g c c' B Bm Br Bx o A' s x0 x1 x3 sm w t hA hM hb hm hr hx hd hbs ho hk6 (ht.trans ((handle_eq s x0 x1 x3 o).trans (by rw [if_neg (by omega), if_neg (by omega), if_neg (by omega), if_neg (by omega), if_neg (by omega)]))) k3 i (hsm.trans (decide_eq_false hq))
        · exact rhand_3_4 n base g c c' B Bm Br Bx o A' s x0 x1 x3 sm w t hA hM hb hm hr hx hd hbs ho hk6 (ht.trans ((handle_eq s x0 x1 x3 o).trans (by rw [if_neg (by omega), if_neg (by omega), if_neg (by omega), if_neg (by omega), if_neg (by omega)]))) k3 i
      · exact rhand_skip n base g c c' B Bm Br Bx o A' s x0 x1 x3 sm w t hA hM hb hm hr hx hd hbs ho hk6 (ht.trans ((handle_eq s x0 x1 x3 o).trans (by rw [if_neg (by omega), if_neg (by omega), if_neg (by omega), if_neg (by omega), if_neg (by omega)]))) ⟨k1, k2, k3⟩
end
theorem rhand_up {P : Program} {fn : Func} {c : Code} {a : Act} {W w : World} {n base : Nat} {t : M.St} (hg : Below base w W) (h : Code.wp P c (bodyPost P fn (HandR n base t W)) a W) : Code.wp P c (bodyPost P fn (HandR n base t w)) a W := by
  refine Code.wp_mono (fun e a w' q => ?_) h
  have hR : ∀ e w', HandR n base t W e w' → HandR n base t w e w' := fun e w' h => ⟨h.1, hg.trans h.2⟩
  cases e <;> simp only [bodyPost] at q ⊢ <;> first
    | exact q
    | exact hR _ _ q
    | exact ⟨q.1, hR _ _ q.2⟩
    | exact ⟨q.1, q.2.choose, q.2.choose_spec.1, hR _ _ q.2.choose_spec.2⟩
set_option maxRecDepth 100000 in
set_option maxHeartbeats 3200000 in
theorem rhandle_any (n base o : Nat) (v : Value) (s : M.St) (x0 x1 x3 : Int) (w : World) (hv : CallV n s base v w) (hbase : base ≤ w.heap.size) (ho : o < n) (hk6 : s.k < 6) (hi : 0 ≤ s.c o 0 ∧ s.c o 0 ≤ 4) :
    Calls Tryd.prog 47 #[v, .agg #[.int .i64 x0, .int .i64 x1, .int .i64 (o : Int), .int .i64 x3]] w (HandR n base (M.handle s (M.v4 x0 x1 o x3)) w) := by
  obtain ⟨A, c, A', c', rfl, hA, hM⟩ := hv
  obtain ⟨g, cc, ee⟩ := hA.nz (show 0 < n by omega)
  injection ee with e1 _ e3
  subst e1; subst e3
  have HGW := Lib.hid (show base ≤ g ∧ g < w.heap.size from hA.block rfl)
  obtain ⟨t, ht⟩ : ∃ t, t = M.handle s (M.v4 x0 x1 o x3) := ⟨_, rfl⟩
  rw [← ht]
  have HT := Lib.hid ht
  have HA := Lib.hid hA
  have HM := Lib.hid hM
  have HI := Lib.hid hi
  have c0 := hA.cell (i := o) (j := 0) ho (by omega)
  have c1 := hA.cell (i := o) (j := 1) ho (by omega)
  have c2 := hA.cell (i := o) (j := 2) ho (by omega)
  rw [Nat.add_zero] at c0
  have k1 : decide (n ≤ o) = false := decide_eq_false (by omega)
  have cc0 : (((w.alloc (.cells #[.slice (some ⟨g, 0, none⟩) n c, .slice A' s.k c'] 42)).alloc (.cells #[.int .i64 x0, .int .i64 x1, .int .i64 (o : Int), .int .i64 x3] 72)).alloc (.cells #[.slice none 0 0, .slice none 0 0] 42)).cell? ⟨g, o * 3, none⟩ = some (.int .i64 (s.c o 0)) := al_cell (al_cell (al_cell c0))
  have cc1 : (((w.alloc (.cells #[.slice (some ⟨g, 0, none⟩) n c, .slice A' s.k c'] 42)).alloc (.cells #[.int .i64 x0, .int .i64 x1, .int .i64 (o : Int), .int .i64 x3] 72)).alloc (.cells #[.slice none 0 0, .slice none 0 0] 42)).cell? ⟨g, o * 3 + 1, none⟩ = some (.int .i64 (s.c o 1)) := al_cell (al_cell (al_cell c1))
  have cc2 : (((w.alloc (.cells #[.slice (some ⟨g, 0, none⟩) n c, .slice A' s.k c'] 42)).alloc (.cells #[.int .i64 x0, .int .i64 x1, .int .i64 (o : Int), .int .i64 x3] 72)).alloc (.cells #[.slice none 0 0, .slice none 0 0] 42)).cell? ⟨g, o * 3 + 2, none⟩ = some (.int .i64 (s.c o 2)) := al_cell (al_cell (al_cell c2))
  clear ht hA hM hi c0 c1 c2
  by_cases h1 : s.c o 1 = x1
  · have e1 : (s.c o 1 == x1) = true := by rw [h1]; simp
    by_cases h2 : s.c o 2 = x3
    · have e2 : (s.c o 2 == x3) = true := by rw [h2]; simp
      have HS := Lib.hid (show true = decide (s.c o 1 = x1 ∧ s.c o 2 = x3) from (decide_eq_true ⟨h1, h2⟩).symm)
      clear h1 h2
      go_enter Tryd.func47, Tryd.ntmps47
      go_upto_region 2 with fail
      go_cut [6] from 7 (fun s6 wc => s6 = .bool true ∧ wc = (((w.alloc (.cells #[.slice (some ⟨g, 0, none⟩) n c, .slice A' s.k c'] 42)).alloc (.cells #[.int .i64 x0, .int .i64 x1, .int .i64 (o : Int), .int .i64 x3] 72)).alloc (.cells #[.slice none 0 0, .slice none 0 0] 42)).alloc (.cells #[.int .i64 (s.c o 0), .int .i64 (s.c o 1), .int .i64 (s.c o 2)] 69))
      case first =>
        go_wp2_with fail
        go_meet
        case rel => exact ⟨rfl, rfl⟩
      case rest =>
        obtain ⟨rfl, rfl⟩ := hcut
        go_step
        refine rhand_up ?_ (rhand_all n base g c c' w.heap.size (w.heap.size + 1) (w.heap.size + 1 + 1) (w.heap.size + 1 + 1 + 1) o A' s x0 x1 x3 _ _ t ((((HA.out.alloc _).alloc _).alloc _).alloc _) ((((HM.out.alloc _).alloc _).alloc _).alloc _) ((((Blk.new w _ _).alloc _).alloc _).alloc _) (((Blk.new1 w _ _ _).alloc _).alloc _) ((Blk.new2 w _ _ _ _).alloc _) (Blk.new3 w _ _ _ _ _) (by have := HGW.out; omega) (by have := HGW.out; simp; omega) ho hk6 HI.out HT.out HS.out)
        exact (((((Below.refl base w).alloc hbase (.cells #[.slice (some ⟨g, 0, none⟩) n c, .slice A' s.k c'] 42)).alloc (by simp; omega) (.cells #[.int .i64 x0, .int .i64 x1, .int .i64 (o : Int), .int .i64 x3] 72)).alloc (by simp; omega) (.cells #[.slice none 0 0, .slice none 0 0] 42)).alloc (by simp; omega) (.cells #[.int .i64 (s.c o 0), .int .i64 (s.c o 1), .int .i64 (s.c o 2)] 69))
    · have e2 : (s.c o 2 == x3) = false := by rw [beq_eq_false_iff_ne]; exact h2
      have HS := Lib.hid (show false = decide (s.c o 1 = x1 ∧ s.c o 2 = x3) from (decide_eq_false fun h => h2 h.2).symm)
      clear h1 h2
      go_enter Tryd.func47, Tryd.ntmps47
      go_upto_region 2 with fail
      go_cut [6] from 7 (fun s6 wc => s6 = .bool false ∧ wc = (((w.alloc (.cells #[.slice (some ⟨g, 0, none⟩) n c, .slice A' s.k c'] 42)).alloc (.cells #[.int .i64 x0, .int .i64 x1, .int .i64 (o : Int), .int .i64 x3] 72)).alloc (.cells #[.slice none 0 0, .slice none 0 0] 42)).alloc (.cells #[.int .i64 (s.c o 0), .int .i64 (s.c o 1), .int .i64 (s.c o 2)] 69))
      case first =>
        go_wp2_with fail
        go_meet
        case rel => exact ⟨rfl, rfl⟩
      case rest =>
        obtain ⟨rfl, rfl⟩ := hcut
        go_step
        refine rhand_up ?_ (rhand_all n base g c c' w.heap.size (w.heap.size + 1) (w.heap.size + 1 + 1) (w.heap.size + 1 + 1 + 1) o A' s x0 x1 x3 _ _ t ((((HA.out.alloc _).alloc _).alloc _).alloc _) ((((HM.out.alloc _).alloc _).alloc _).alloc _) ((((Blk.new w _ _).alloc _).alloc _).alloc _) (((Blk.new1 w _ _ _).alloc _).alloc _) ((Blk.new2 w _ _ _ _).alloc _) (Blk.new3 w _ _ _ _ _) (by have := HGW.out; omega) (by have := HGW.out; simp; omega) ho hk6 HI.out HT.out HS.out)
        exact (((((Below.refl base w).alloc hbase (.cells #[.slice (some ⟨g, 0, none⟩) n c, .slice A' s.k c'] 42)).alloc (by simp; omega) (.cells #[.int .i64 x0, .int .i64 x1, .int .i64 (o : Int), .int .i64 x3] 72)).alloc (by simp; omega) (.cells #[.slice none 0 0, .slice none 0 0] 42)).alloc (by simp; omega) (.cells #[.int .i64 (s.c o 0), .int .i64 (s.c o 1), .int .i64 (s.c o 2)] 69))
  · have e1 : (s.c o 1 == x1) = false := by rw [beq_eq_false_iff_ne]; exact h1
    have HS := Lib.hid (show false = decide (s.c o 1 = x1 ∧ s.c o 2 = x3) from (decide_eq_false fun h => h1 h.1).symm)
    clear h1
    go_enter Tryd.func47, Tryd.ntmps47
    go_upto_region 2 with fail
    go_cut [6] from 7 (fun s6 wc => s6 = .bool false ∧ wc = (((w.alloc (.cells #[.slice (some ⟨g, 0, none⟩) n c, .slice A' s.k c'] 42)).alloc (.cells #[.int .i64 x0, .int .i64 x1, .int .i64 (o : Int), .int .i64 x3] 72)).alloc (.cells #[.slice none 0 0, .slice none 0 0] 42)).alloc (.cells #[.int .i64 (s.c o 0), .int .i64 (s.c o 1), .int .i64 (s.c o 2)] 69))
    case first =>
      go_wp2_with fail
      go_meet
      case rel => exact ⟨rfl, rfl⟩
    case rest =>
      obtain ⟨rfl, rfl⟩ := hcut
      go_step
      refine rhand_up ?_ (rhand_all n base g c c' w.heap.size (w.heap.size + 1) (w.heap.size + 1 + 1) (w.heap.size + 1 + 1 + 1) o A' s x0 x1 x3 _ _ t ((((HA.out.alloc _).alloc _).alloc _).alloc _) ((((HM.out.alloc _).alloc _).alloc _).alloc _) ((((Blk.new w _ _).alloc _).alloc _).alloc _) (((Blk.new1 w _ _ _).alloc _).alloc _) ((Blk.new2 w _ _ _ _).alloc _) (Blk.new3 w _ _ _ _ _) (by have := HGW.out; omega) (by have := HGW.out; simp; omega) ho hk6 HI.out HT.out HS.out)
      exact (((((Below.refl base w).alloc hbase (.cells #[.slice (some ⟨g, 0, none⟩) n c, .slice A' s.k c'] 42)).alloc (by simp; omega) (.cells #[.int .i64 x0, .int .i64 x1, .int .i64 (o : Int), .int .i64 x3] 72)).alloc (by simp; omega) (.cells #[.slice none 0 0, .slice none 0 0] 42)).alloc (by simp; omega) (.cells #[.int .i64 (s.c o 0), .int .i64 (s.c o 1), .int .i64 (s.c o 2)] 69))
end Go.Proofs.YtbjggnecfppjgaaDoor
