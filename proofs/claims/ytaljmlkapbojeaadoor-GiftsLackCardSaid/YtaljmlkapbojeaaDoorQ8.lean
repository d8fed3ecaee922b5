/- GiftsLack, walked: its last part, as a theorem of its own. -/
import Derived.Test.YtaljmlkapbojeaaDoorQ6
import Derived.Test.YtaljmlkapbojeaaDoorW2
import Derived.Test.YtaljmlkapbojeaaDoorG1
namespace Go.Proofs.YtaljmlkapbojeaaDoor
open Go.RowKit

set_option maxRecDepth 100000 in
set_option maxHeartbeats 12800000 in
theorem lackB (w wc : World) (gA bA lA : Option Addr) (gn gc bn bc B lc : Nat) (G H : Nat → Nat → Int) (t : Nat) (L : List Nat) {v0 v1 v3 v4 v6 v7 v8 v9 v10 v11 v12 v13 v14 v15 v16 v17 v18 v19 v20 v21 v22 v23 v24 v25 v26 v27 v28 v29 v30 v31 v32 v33 v34 v35 v36 v37 v38 v39 v40 v41 v42 v43 v44 v45 v46 v47 v48 v49 v50 v51 v52 v53 v54 v55 v56 v57 v58 v59 v60 v61 v62 v63 v64 v65 v66 v67 v68 v69 v70 v71 v72 v73 v74 v75 v76 v77 v78 v79 v80 v81 v82 v83 v84 v85 v86 v87 v88 v89 v90 v91 v92 v93 v94 v95 v96 v97 v98 v99 v100 v101 v102 v103 v104 v105 v106 v107 v108 v109 v110 v111 v112 v113 v114 v115 v116 v117 v118 v119 v120 v121 v122 v123 v124 v125 v126 v127 v128 v129 v130 v131 v132 v133 v134 v135 v136 v137 v138 v139 v140 v141 v142 v143 v144 v145 v146 v147 v148 v149 v150 v151 v152 v153 v154 v155 v156 v157 v158 v159 v160 v161 v162 v163 v164 v165 v166 v167 v168 v169 v170 v171 v172 v173 v174 v175 v176 v177 v178 v179 v180 v181 v182 v183 v184 v185 v186 v187 v188 v189 v190 v191 v192 v193 v194 v195 v196 v197 v198 v199 v200 v201 v202 v203 v204 : Value}
    (hL : L = M.elL bn t) (ok : Ok gn bn G H) (hs : M.spareF gn bn G H t < 0) (hB : B ≤ w.heap.size)
    (hK : Blk wc w.heap.size 25 #[.slice gA gn gc, .slice bA bn bc]) (hR : BookRd wc B gA gn G bA bn H) (hl : Rd1 wc wc.heap.size lA L.length (nats L)) (hW : Below w.heap.size w wc) :
    Code.wp Tryd.prog (restAt Tryd.f4 12) (bodyPost Tryd.prog Tryd.f4 fun e w' => e = .returned (.bool true) ∧ Below w.heap.size w w') { tmps := List.toArray (v0 :: v1 :: .pointer (some ⟨w.heap.size, 0, none⟩) :: v3 :: v4 :: .slice lA L.length lc :: v6 :: v7 :: v8 :: v9 :: v10 :: v11 :: v12 :: v13 :: v14 :: v15 :: v16 :: v17 :: v18 :: v19 :: v20 :: v21 :: v22 :: v23 :: v24 :: v25 :: v26 :: v27 :: v28 :: v29 :: v30 :: v31 :: v32 :: v33 :: v34 :: v35 :: v36 :: v37 :: v38 :: v39 :: v40 :: v41 :: v42 :: v43 :: v44 :: v45 :: v46 :: v47 :: v48 :: v49 :: v50 :: v51 :: v52 :: v53 :: v54 :: v55 :: v56 :: v57 :: v58 :: v59 :: v60 :: v61 :: v62 :: v63 :: v64 :: v65 :: v66 :: v67 :: v68 :: v69 :: v70 :: v71 :: v72 :: v73 :: v74 :: v75 :: v76 :: v77 :: v78 :: v79 :: v80 :: v81 :: v82 :: v83 :: v84 :: v85 :: v86 :: v87 :: v88 :: v89 :: v90 :: v91 :: v92 :: v93 :: v94 :: v95 :: v96 :: v97 :: v98 :: v99 :: v100 :: v101 :: v102 :: v103 :: v104 :: v105 :: v106 :: v107 :: v108 :: v109 :: v110 :: v111 :: v112 :: v113 :: v114 :: v115 :: v116 :: v117 :: v118 :: v119 :: v120 :: v121 :: v122 :: v123 :: v124 :: v125 :: v126 :: v127 :: v128 :: v129 :: v130 :: v131 :: v132 :: v133 :: v134 :: v135 :: v136 :: v137 :: v138 :: v139 :: v140 :: v141 :: v142 :: v143 :: v144 :: v145 :: v146 :: v147 :: v148 :: v149 :: v150 :: v151 :: v152 :: v153 :: v154 :: v155 :: v156 :: v157 :: v158 :: v159 :: v160 :: v161 :: v162 :: v163 :: v164 :: v165 :: v166 :: v167 :: v168 :: v169 :: v170 :: v171 :: v172 :: v173 :: v174 :: v175 :: v176 :: v177 :: v178 :: v179 :: v180 :: v181 :: v182 :: v183 :: v184 :: v185 :: v186 :: v187 :: v188 :: v189 :: v190 :: v191 :: v192 :: v193 :: v194 :: v195 :: v196 :: v197 :: v198 :: v199 :: v200 :: v201 :: v202 :: v203 :: v204 :: []), defers := [] } wc := by
  have hgn := ok.1
  have hbn := ok.2.1
  have hLl : L.length ≤ bn := by rw [hL]; exact M.elL_len bn t
  have hLe : ∀ i, i < L.length → L.getD i 0 < bn := fun i hi => by rw [hL] at hi ⊢; exact M.elL_lt hi
  have hLr : ∀ i, i + 1 < L.length → L.getD i 0 < L.getD (i + 1) 0 := fun i hi => by rw [hL] at hi ⊢; exact M.elL_rise hi
  have HLE := Lib.hid hLe
  have HLR := Lib.hid hLr
  have hneed : M.sumTo L.length (fun i => H (L.getD i 0) 2) = M.needsF bn H t := by rw [hL]; exact need_list t
  have hhelp : ∀ g, (M.anyTo L.length fun i => M.srv G H g (L.getD i 0)) = M.helpsF bn G H g t := fun g => by rw [hL]; exact help_list t g
  have HN := Lib.hid hneed
  have HH := Lib.hid hhelp
  have HS := Lib.hid hs
  have HO := Lib.hid (fun a (ha : a < bn) => ok.2.2.2 a ha)
  have HGO := Lib.hid (fun g (hg : g < gn) => ok.2.2.1 g hg)
  have NB := Lib.hid (fun k (hk : k ≤ L.length) => M.sumTo_bd (n := k) (f := fun i => H (L.getD i 0) 2) (c := 1000000) fun i hi => ⟨(ok.2.2.2 _ (hLe i (by omega))).2.2.2.2.1, (ok.2.2.2 _ (hLe i (by omega))).2.2.2.2.2⟩)
  have HBD := Lib.hid (fun k (hk : k ≤ gn) => have_bd ok (t : Int) hk)
  have KC := Lib.hid hK
  have RC := Lib.hid hR
  have LC := Lib.hid hl
  have WC := Lib.hid hW
  have hSz := hK.lt
  have hBz : B ≤ wc.heap.size := by omega
  clear hL ok hs hLe hLr hneed hhelp hK hR hl hW
  conv in restAt _ _ => whnf
  go_wp2_with fail
  go_loopw [14, 16] (fun u i wr => ∃ k : Nat, k ≤ L.length ∧ i = .int .i64 k ∧ u = .int .i64 (M.sumTo k fun i => H (L.getD i 0) 2) ∧ Below wc.heap.size wc wr) (fun _ i _ => L.length - (intOf i).toNat)
  case atStart => exact ⟨0, Nat.zero_le _, rfl, rfl, Below.refl _ _⟩
  case round =>
    obtain ⟨k, hk, rfl, rfl, hbw⟩ := hrel
    have nb := NB.out k hk
    have hz := hbw.size
    have HB := Lib.hid hbw
    by_cases hlt : k < L.length
    · obtain ⟨lb, lo, rfl, hlb, e0w⟩ := (LC.out.below hbw).at_ hlt
      have q1 := (hbw.cell (p := ⟨w.heap.size, 1, none⟩) hSz).trans (KC.out.cell 1)
      have ha := HLE.out k hlt
      obtain ⟨bb, bo, rfl, hbb, d0w, d1w, d2w⟩ := (RC.out.2.below (hbw.mono hBz)).at3 ha
      have ho := HO.out _ ha
      have hx : M.sumTo (k + 1) (fun i => H (L.getD i 0) 2) = M.sumTo k (fun i => H (L.getD i 0) 2) + H (L.getD k 0) 2 := rfl
      have e0 : wr.cell? ⟨lb, lo + k, none⟩ = some (.int .i64 ((L.getD k 0 : Nat) : Int)) := e0w
      have hprev : ∀ j, k = j + 1 → wr.cell? ⟨lb, lo + j, none⟩ = some (.int .i64 ((L.getD j 0 : Nat) : Int)) := fun j hj => by
        rcases LC.out.below hbw with h | ⟨b', off', hA, _, hc⟩
        · omega
        · injection hA with hA; injection hA with h1 h2 _; subst h1; subst h2; exact hc j (by omega)
      have hrise : ∀ j, k = j + 1 → L.getD j 0 < L.getD k 0 := fun j hj => by rw [hj]; exact HLR.out j (by omega)
      obtain ⟨a, haa⟩ : ∃ a, a = L.getD k 0 := ⟨_, rfl⟩
      rw [← haa] at ha d2w ho hx e0 hrise
      obtain ⟨u, hu⟩ : ∃ u, u = M.sumTo k (fun i => H (L.getD i 0) 2) := ⟨_, rfl⟩
      rw [← hu] at nb hx ⊢
      have HX := Lib.hid hx
      have hls : lb < wr.heap.size := by omega
      have hbs : bb < wr.heap.size := by omega
      have hSr : w.heap.size < wr.heap.size := by omega
      have g0 : decide ((a : Int) < 0) = false := decide_eq_false (by omega)
      have g1 : decide ((bn : Int) ≤ (a : Int)) = false := decide_eq_false (by omega)
      have g2 : decide (bn ≤ a) = false := decide_eq_false (by omega)
      have g3 : decide (L.length ≤ k) = false := decide_eq_false (by omega)
      have hH2 : 0 ≤ H a 2 ∧ H a 2 ≤ 1000000 := ⟨ho.2.2.2.2.1, ho.2.2.2.2.2⟩
      have hu8 : 0 ≤ u ∧ u ≤ 8000000 := by omega
      clear hx hu haa e0w d0w d1w hbw nb ho
      by_cases hk0 : k = 0
      · have g5 : decide ((0 : Int) < (k : Int)) = false := decide_eq_false (by omega)
        have g7 : decide (0 < k) = false := decide_eq_false (by omega)
        clear hprev hrise hk0
        go_wp2_with fail
        go_quiet (fail)
        go_wp2_with fail
        go_quiet (fail)
        go_wp2_with fail
        go_roundw
        case rel => exact ⟨k + 1, by omega, by go_num, by rw [HX.out], by repeat (first | exact HB.out | refine Below.drewN ?_ _)⟩
        case measure => simp [intOf]; omega
      · obtain ⟨j, rfl⟩ : ∃ j, k = j + 1 := ⟨k - 1, by omega⟩
        clear hk0
        have e1 := hprev j rfl
        have hr := hrise j rfl
        obtain ⟨c, hcc⟩ : ∃ c, c = L.getD j 0 := ⟨_, rfl⟩
        rw [← hcc] at e1 hr
        have g4 : decide ((a : Int) ≤ (c : Int)) = false := decide_eq_false (by omega)
        have g4' : decide (a ≤ c) = false := decide_eq_false (by omega)
        have g5 : decide ((0 : Int) < (j : Int) + 1) = true := decide_eq_true (by omega)
        have g6 : decide (L.length ≤ j) = false := decide_eq_false (by omega)
        clear hprev hrise hcc hr
        go_wp2_with fail
        go_quiet (fail)
        go_wp2_with fail
        go_quiet (fail)
        go_wp2_with fail
        go_roundw
        case rel => exact ⟨j + 1 + 1, by omega, by go_num, by rw [HX.out], by repeat (first | exact HB.out | refine Below.drewN ?_ _)⟩
        case measure => simp [intOf]; omega
    · obtain rfl : k = L.length := by omega
      rw [HN.out] at nb ⊢
      obtain ⟨nd, hnd⟩ : ∃ nd, nd = M.needsF bn H t := ⟨_, rfl⟩
      rw [← hnd] at nb ⊢
      have HND := Lib.hid hnd
      have hnd8 : 0 ≤ nd ∧ nd ≤ 8000000 := by omega
      clear hnd nb hbw hz
      go_wp2_with fail
      go_loopw [15, 17] (fun u i wr => ∃ k : Nat, k ≤ gn ∧ i = .int .i64 k ∧ u = .int .i64 (M.haveF k bn G H t) ∧ Below wc.heap.size wc wr) (fun _ i _ => gn - (intOf i).toNat)
      case atStart => exact ⟨0, Nat.zero_le _, rfl, rfl, HB.out⟩
      case round =>
        clear HB
        obtain ⟨k, hk, rfl, rfl, hbw⟩ := hrel
        have hb2 := HBD.out k hk
        have hz := hbw.size
        have HB := Lib.hid hbw
        have q0 := (hbw.cell (p := ⟨w.heap.size, 0, none⟩) hSz).trans (KC.out.cell 0)
        have hSr : w.heap.size < wr.heap.size := by omega
        by_cases hlt : k < gn
        · have hx : M.haveF (k + 1) bn G H t = M.haveF k bn G H t + M.sel (M.helpsF bn G H k t) (G k 2) := rfl
          obtain ⟨u, hu⟩ : ∃ u, u = M.haveF k bn G H t := ⟨_, rfl⟩
          rw [← hu] at hx hb2 ⊢
          have HX := Lib.hid hx
          clear hx hu
          go_wp2_with fail
          go_loopw [18, 19] (fun f i wr => ∃ l : Nat, l ≤ L.length ∧ i = .int .i64 l ∧ f = .bool (M.anyTo l fun i => M.srv G H k (L.getD i 0)) ∧ Below wc.heap.size wc wr) (fun _ i _ => L.length - (intOf i).toNat)
          case atStart => exact ⟨0, Nat.zero_le _, rfl, rfl, HB.out⟩
          case round =>
            clear HB hbw q0 hSr hz
            obtain ⟨l, hl, rfl, rfl, hbw⟩ := hrel
            have hz := hbw.size
            have HB := Lib.hid hbw
            have q0 := (hbw.cell (p := ⟨w.heap.size, 0, none⟩) hSz).trans (KC.out.cell 0)
            have q1 := (hbw.cell (p := ⟨w.heap.size, 1, none⟩) hSz).trans (KC.out.cell 1)
            have hSr : w.heap.size < wr.heap.size := by omega
            have hRg := RC.out.below (hbw.mono hBz)
            obtain ⟨gb, go, rfl, hgb, c0, c1, c2⟩ := hRg.1.at3 hlt
            have hgs : gb < wr.heap.size := by omega
            have nk : decide (gn ≤ k) = false := decide_eq_false (by omega)
            by_cases hltl : l < L.length
            · obtain ⟨lb, lo, rfl, hlb, e0w⟩ := (LC.out.below hbw).at_ hltl
              have ha := HLE.out l hltl
              obtain ⟨bb, bo, rfl, hbb, d0, d1, d2⟩ := hRg.2.at3 ha
              have ho := HO.out _ ha
              have hx2 : M.anyTo (l + 1) (fun i => M.srv G H k (L.getD i 0)) = (M.anyTo l (fun i => M.srv G H k (L.getD i 0)) || M.srv G H k (L.getD l 0)) := rfl
              have e0 : wr.cell? ⟨lb, lo + l, none⟩ = some (.int .i64 ((L.getD l 0 : Nat) : Int)) := e0w
              have hsv : (M.bt (G k 0) (H (L.getD l 0) 0).toNat && decide (G k 1 ≤ H (L.getD l 0) 1)) = M.srv G H k (L.getD l 0) := rfl
              obtain ⟨a, haa⟩ : ∃ a, a = L.getD l 0 := ⟨_, rfl⟩
              rw [← haa] at ha d0 d1 d2 ho hx2 e0 hsv
              have H0 := ho.1
              have H7 := ho.2.1
              have HSV := Lib.hid hsv
              have hls : lb < wr.heap.size := by omega
              have hbs : bb < wr.heap.size := by omega
              have g1 : decide ((bn : Int) ≤ (a : Int)) = false := decide_eq_false (by omega)
              have g2 : decide (bn ≤ a) = false := decide_eq_false (by omega)
              have g3 : decide (L.length ≤ l) = false := decide_eq_false (by omega)
              clear haa e0w hsv ho hbw hRg
              cases hv : M.anyTo l fun i => M.srv G H k (L.getD i 0)
              · rw [hv, Bool.false_or] at hx2
                have HX2 := Lib.hid hx2
                clear hx2 hv
                go_wp2_with fail
                go_still_tail 15, (by kernel_rfl)
                change wpList _ _ _ _ _ wr.drew
                go_wp2_with (go_at_call 19; refine (serves_any _ _ _ _ _ _ _ H0 H7).mono ?_; rw [HSV.out]; rintro e w3 ⟨rfl, hb3⟩; have HB3 := Lib.hid hb3; clear hb3)
                go_roundw
                case rel => exact ⟨l + 1, by omega, by go_num, by rw [HX2.out], HB.out.drew.trans (HB3.out.mono (by show wc.heap.size ≤ wr.heap.size; omega))⟩
                case measure => simp [intOf]; omega
              · rw [hv, Bool.true_or] at hx2
                have HX2 := Lib.hid hx2
                clear hx2 hv
                go_wp2_with fail
                go_quiet (fail)
                go_wp2_with fail
                go_roundw
                case rel => exact ⟨l + 1, by omega, by go_num, by rw [HX2.out], HB.out.drewN _⟩
                case measure => simp [intOf]; omega
            · obtain rfl : l = L.length := by omega
              rw [HH.out k]
              have okg := HGO.out k hlt
              have hG2 : 0 ≤ G k 2 ∧ G k 2 ≤ 1000000 := ⟨okg.2.2.2.2.1, okg.2.2.2.2.2⟩
              clear okg hbw hRg
              cases hv : M.helpsF bn G H k t
              all_goals
                have HV := Lib.hid hv
                clear hv
                go_wp2_with fail
                go_roundw
                case rel => exact ⟨k + 1, by omega, by go_num, by (rw [HX.out, HV.out]) <;> simp only [M.sel] <;> first | (simp; done) | go_num, HB.out⟩
                case measure => simp [intOf]; omega
        · obtain rfl : k = gn := by omega
          have hs := HS.out
          unfold M.spareF at hs
          rw [← HND.out] at hs
          obtain ⟨u, hu⟩ : ∃ u, u = M.haveF k bn G H t := ⟨_, rfl⟩
          rw [← hu] at hs hb2 ⊢
          have g9 : decide (u < nd) = true := decide_eq_true (by omega)
          clear hu hs hbw
          go_wp2_with (go_at_call 8; refine (works_any _).mono ?_; rintro e w9 ⟨rfl, hb9⟩; have HB9 := Lib.hid hb9; clear hb9)
          go_ret
          exact ⟨rfl, WC.out.trans ((HB.out.trans (HB9.out.mono hz)).mono (by omega))⟩
end Go.Proofs.YtaljmlkapbojeaaDoor
