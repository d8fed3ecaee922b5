/- GiftsLack, walked: the loop that gathers some of the bills, as a theorem of its own. -/
import Derived.Test.YtaljmlkapbojeaaDoorK0
import Derived.Test.YtaljmlkapbojeaaDoorXMath
import Derived.Test.YtaljmlkapbojeaaDoorD1
import Derived.Deep.RegionLaw
import Derived.Deep.DeepCutAuto
import Derived.Deep.DrawnRows
namespace Go.Proofs.YtaljmlkapbojeaaDoor
open Go.RowKit

def sndN : Nat → Code → Code
  | 0, c => c
  | n + 1, .seq _ b => sndN n b
  | _, c => c
def fstC : Code → Code
  | .seq a _ => a
  | c => c
/-- a statement of a function's text -/
def codeAt (f : Func) (n : Nat) : Code :=
  match f.body with
  | some b => fstC (sndN n b)
  | none => .skip
/-- the statements from the n-th on -/
def restAt (f : Func) (n : Nat) : Code :=
  match f.body with
  | some b => sndN n b
  | none => .skip
/-- the loop of a statement that begins with its variable's first value -/
def blkAt (f : Func) (n : Nat) : Code := sndN 1 (codeAt f n)
theorem Own.rdK {w : World} {b t m n n' c : Nat} {A : Option Addr} {f : Nat → Nat → Int} (h : Own w b t m (.slice A n' c) n (ints2 f)) : Rd w w.heap.size A m n f := by
  obtain ⟨A', c', e, h⟩ := h.rd
  injection e with e1 e2 e3
  subst e1
  exact h
theorem cat_some {H : Nat → Nat → Int} {l : List Nat} {n j : Nat} (i : Nat) (hi : i < l.length + 1) : catF l.length (ints2 (someH H l)) (ints2 fun _ c => H n c) i j = ints2 (someH H (l ++ [n])) i j := by
  unfold catF someH
  split
  · rename_i h
    simp [List.getElem?_append_left h]
  · obtain rfl : i = l.length := by omega
    simp
set_option maxRecDepth 100000 in
set_option maxHeartbeats 12800000 in
theorem lackA (w Y wc : World) (gA bA A1 : Option Addr) (gn gc bn bc B D c1 : Nat) (H : Nat → Nat → Int) (x : Int) (P : Nat → Bool) (post : Ending → World → Prop) (K' : Act → World → Prop) {v0 v3 v4 v5 v6 v7 v8 v12 v13 v14 v15 v16 v17 v18 v19 v20 v21 v22 v23 v24 v25 v26 v27 v28 v29 v30 v31 v32 v33 v34 v35 v36 v37 v38 v39 v40 v41 v42 v43 v44 v45 v46 v47 v48 v49 v50 v51 v52 v53 v54 v55 v56 v57 v58 v59 v60 v61 v62 v63 v64 v65 v66 v67 v68 v69 v70 v71 v72 v73 v74 v75 v76 v77 v78 v79 v80 v81 v82 v83 v84 v85 v86 v87 v88 v89 v90 v91 v92 v93 v94 v95 v96 v97 v98 v99 v100 v101 v102 v103 v104 v105 v106 v107 v108 v109 v110 v111 v112 v113 v114 v115 v116 v117 v118 v119 v120 v121 v122 v123 v124 v125 v126 v127 v128 v129 v130 v131 v132 v133 v134 v135 v136 v137 v138 v139 v140 v141 v142 v143 v144 v145 v146 v147 v148 v149 v150 v151 v152 v153 v154 v155 v156 v157 v158 v159 v160 v161 v162 v163 v164 v165 v166 v167 v168 v169 v170 v171 v172 v173 v174 v175 v176 v177 v178 v179 v180 v181 v182 v183 v184 v185 v186 v187 v188 v189 v190 v191 v192 v193 v194 v195 v196 v197 v198 v199 v200 v201 v202 v203 v204 : Value}
    (hP : P = fun i => M.bt x i) (hbn : bn ≤ 8) (hB : B ≤ w.heap.size) (hSD : w.heap.size < D)
    (hK : Blk Y w.heap.size 25 #[.slice gA gn gc, .slice bA bn bc]) (hR : Rd Y B bA 3 bn H)
    (hM : Blk wc D 25 #[.slice A1 gn c1, .slice none 0 0]) (hb : Below D Y wc)
    (hK' : ∀ (x11 x62 x63 x64 x65 x66 x67 x68 x69 x70 x71 x72 x73 x74 x75 x76 x77 x78 x79 x80 x81 x82 x83 x84 x85 x86 x87 x88 : Value) (A9 : Option Addr) (c9 : Nat) (s1 : Value) (wx : World), Own wx D 3 1 (.slice A9 (M.elP bn P).length c9) (M.elP bn P).length (ints (nats (M.elP bn P))) → Blk wx D 25 #[.slice A1 gn c1, s1] → Own wx D 41 3 s1 (M.elP bn P).length (ints2 (someH H (M.elP bn P))) → Below D Y wx →
      K' { tmps := List.toArray (v0 :: .int .i64 x :: .pointer (some ⟨w.heap.size, 0, none⟩) :: v3 :: v4 :: v5 :: v6 :: v7 :: v8 :: .slice A9 (M.elP bn P).length c9 :: .pointer (some ⟨D, 0, none⟩) :: x11 :: v12 :: v13 :: v14 :: v15 :: v16 :: v17 :: v18 :: v19 :: v20 :: v21 :: v22 :: v23 :: v24 :: v25 :: v26 :: v27 :: v28 :: v29 :: v30 :: v31 :: v32 :: v33 :: v34 :: v35 :: v36 :: v37 :: v38 :: v39 :: v40 :: v41 :: v42 :: v43 :: v44 :: v45 :: v46 :: v47 :: v48 :: v49 :: v50 :: v51 :: v52 :: v53 :: v54 :: v55 :: v56 :: v57 :: v58 :: v59 :: v60 :: v61 :: x62 :: x63 :: x64 :: x65 :: x66 :: x67 :: x68 :: x69 :: x70 :: x71 :: x72 :: x73 :: x74 :: x75 :: x76 :: x77 :: x78 :: x79 :: x80 :: x81 :: x82 :: x83 :: x84 :: x85 :: x86 :: x87 :: x88 :: v89 :: v90 :: v91 :: v92 :: v93 :: v94 :: v95 :: v96 :: v97 :: v98 :: v99 :: v100 :: v101 :: v102 :: v103 :: v104 :: v105 :: v106 :: v107 :: v108 :: v109 :: v110 :: v111 :: v112 :: v113 :: v114 :: v115 :: v116 :: v117 :: v118 :: v119 :: v120 :: v121 :: v122 :: v123 :: v124 :: v125 :: v126 :: v127 :: v128 :: v129 :: v130 :: v131 :: v132 :: v133 :: v134 :: v135 :: v136 :: v137 :: v138 :: v139 :: v140 :: v141 :: v142 :: v143 :: v144 :: v145 :: v146 :: v147 :: v148 :: v149 :: v150 :: v151 :: v152 :: v153 :: v154 :: v155 :: v156 :: v157 :: v158 :: v159 :: v160 :: v161 :: v162 :: v163 :: v164 :: v165 :: v166 :: v167 :: v168 :: v169 :: v170 :: v171 :: v172 :: v173 :: v174 :: v175 :: v176 :: v177 :: v178 :: v179 :: v180 :: v181 :: v182 :: v183 :: v184 :: v185 :: v186 :: v187 :: v188 :: v189 :: v190 :: v191 :: v192 :: v193 :: v194 :: v195 :: v196 :: v197 :: v198 :: v199 :: v200 :: v201 :: v202 :: v203 :: v204 :: []), defers := [] } wx) :
    Code.wp Tryd.prog (blkAt Tryd.f4 8) (Exit.then K' (bodyPost Tryd.prog Tryd.f4 post)) { tmps := List.toArray (v0 :: .int .i64 x :: .pointer (some ⟨w.heap.size, 0, none⟩) :: v3 :: v4 :: v5 :: v6 :: v7 :: v8 :: .slice none 0 0 :: .pointer (some ⟨D, 0, none⟩) :: .int .i64 0 :: v12 :: v13 :: v14 :: v15 :: v16 :: v17 :: v18 :: v19 :: v20 :: v21 :: v22 :: v23 :: v24 :: v25 :: v26 :: v27 :: v28 :: v29 :: v30 :: v31 :: v32 :: v33 :: v34 :: v35 :: v36 :: v37 :: v38 :: v39 :: v40 :: v41 :: v42 :: v43 :: v44 :: v45 :: v46 :: v47 :: v48 :: v49 :: v50 :: v51 :: v52 :: v53 :: v54 :: v55 :: v56 :: v57 :: v58 :: v59 :: v60 :: v61 :: v62 :: v63 :: v64 :: v65 :: v66 :: v67 :: v68 :: v69 :: v70 :: v71 :: v72 :: v73 :: v74 :: v75 :: v76 :: v77 :: v78 :: v79 :: v80 :: v81 :: v82 :: v83 :: v84 :: v85 :: v86 :: v87 :: v88 :: v89 :: v90 :: v91 :: v92 :: v93 :: v94 :: v95 :: v96 :: v97 :: v98 :: v99 :: v100 :: v101 :: v102 :: v103 :: v104 :: v105 :: v106 :: v107 :: v108 :: v109 :: v110 :: v111 :: v112 :: v113 :: v114 :: v115 :: v116 :: v117 :: v118 :: v119 :: v120 :: v121 :: v122 :: v123 :: v124 :: v125 :: v126 :: v127 :: v128 :: v129 :: v130 :: v131 :: v132 :: v133 :: v134 :: v135 :: v136 :: v137 :: v138 :: v139 :: v140 :: v141 :: v142 :: v143 :: v144 :: v145 :: v146 :: v147 :: v148 :: v149 :: v150 :: v151 :: v152 :: v153 :: v154 :: v155 :: v156 :: v157 :: v158 :: v159 :: v160 :: v161 :: v162 :: v163 :: v164 :: v165 :: v166 :: v167 :: v168 :: v169 :: v170 :: v171 :: v172 :: v173 :: v174 :: v175 :: v176 :: v177 :: v178 :: v179 :: v180 :: v181 :: v182 :: v183 :: v184 :: v185 :: v186 :: v187 :: v188 :: v189 :: v190 :: v191 :: v192 :: v193 :: v194 :: v195 :: v196 :: v197 :: v198 :: v199 :: v200 :: v201 :: v202 :: v203 :: v204 :: []), defers := [] } wc := by
  have HK' := Lib.hid hK'
  have KY := Lib.hid hK
  have HR := Lib.hid hR
  have HM := Lib.hid hM
  have HB := Lib.hid hb
  have HP := Lib.hid hP
  have hDz := hM.lt
  have hDY : D ≤ wc.heap.size := by omega
  clear hK' hK hR hM hb hP
  obtain ⟨bi, ki, kz0, kz1, kz2⟩ := info_parts bill_info
  have BI := Lib.hid (And.intro ki (And.intro kz0 (And.intro kz1 kz2)))
  clear ki kz0 kz1 kz2
  obtain ⟨i0, hi, hz0, hz1, hz2⟩ := info_parts int_info
  have MI := Lib.hid (And.intro hi (And.intro hz0 (And.intro hz1 hz2)))
  clear hi hz0 hz1 hz2
  have hbt := toNat_i64_and_one
  conv in blkAt _ _ => whnf
  go_wp2_with fail
  go_loopw [9, 11] (fun v i wr => ∃ n : Nat, n ≤ bn ∧ i = .int .i64 n ∧ Own wr D 3 1 v (M.elP n P).length (ints (nats (M.elP n P))) ∧ ∃ s1, Blk wr D 25 #[.slice A1 gn c1, s1] ∧ Own wr D 41 3 s1 (M.elP n P).length (ints2 (someH H (M.elP n P))) ∧ Below D Y wr) (fun _ i _ => bn - (intOf i).toNat)
  case atStart => exact ⟨0, Nat.zero_le _, rfl, Own.nil_, _, HM.out, Own.nil_, HB.out⟩
  case round =>
    clear HM HB
    obtain ⟨n, hn, rfl, o0, s1, m1, o1, hbY⟩ := hrel
    obtain ⟨vA, vc, rfl⟩ := o0.form
    obtain ⟨sA, sc, rfl⟩ := o1.form
    have q1 := (hbY.cell (p := ⟨w.heap.size, 1, none⟩) hSD).trans (KY.out.cell 1)
    have hDr := m1.lt
    have hSz : w.heap.size < wr.heap.size := by omega
    have O0 := Lib.hid o0
    have O1 := Lib.hid o1
    have M1 := Lib.hid m1
    have HB := Lib.hid hbY
    have hl := M.elP_len n P
    by_cases hlt : n < bn
    · have he := M.elP_succ n P
      have hpb : P n = M.bt x n := by rw [HP.out]
      have u1 : IntKind.u64.wrap (n : Int) = n := by rw [IntKind.wrap_u64]; omega
      have u2 : min n 64 = n := by omega
      cases hc : P n
      · rw [hc] at he hpb
        simp only [Bool.false_eq_true, if_false, List.append_nil] at he
        have HE := Lib.hid he
        have hz : (x / 2 ^ n % 2 == 1) = false := hpb.symm
        clear he hpb hc m1 o0 o1 hbY
        go_wp2_with fail
        go_roundw
        case rel => exact ⟨n + 1, by omega, by go_num, by rw [HE.out]; exact O0.out, _, M1.out, by rw [HE.out]; exact O1.out, HB.out⟩
        case measure => simp [intOf]; omega
      · rw [hc] at he hpb
        simp only [if_true] at he
        have HE := Lib.hid he
        have hz : (x / 2 ^ n % 2 == 1) = true := hpb.symm
        clear he hpb hc m1 o0 o1 hbY
        obtain ⟨bb, bo, rfl, hbb, d0w, d1w, d2w⟩ := (HR.out.below (HB.out.mono (by omega))).at3 hlt
        have hbs : bb < wr.heap.size := by omega
        have nk : decide (bn ≤ n) = false := decide_eq_false (by omega)
        have D0 := Lib.hid d0w
        have D1 := Lib.hid d1w
        have D2 := Lib.hid d2w
        have Q1 := Lib.hid q1
        clear d0w d1w d2w
        go_wp2_with (at_builtin; refine wpList_app rfl (.tmp 75) (.tmp 77) 33 rfl D 3 1 8 Tryd.underlying33 MI.out.1 MI.out.2.1 MI.out.2.2.1 MI.out.2.2.2 rfl (by decide) (by decide) (O0.out.alloc _) rfl (by omega) (by simp; omega) wr.heap.size 1 (fun _ => .int .i64 (n : Int)) rfl (cell_last rfl) (fun _ _ => rfl) ?_; intro v6 w6 o6 hg6 hat6; obtain ⟨A6, z6, rfl⟩ := o6.form; have HO6 := Lib.hid o6; have HG6 := Lib.hid hg6; clear o6 hg6 hat6)
        have hne0 : ∀ q, Value.ownBlock (.slice vA (M.elP n P).length vc) = some q → D ≤ q ∧ q ≠ D := fun q hq => ⟨(O0.out.block hq).1, fun e => O0.out.ne_blk M1.out (by decide) (by rw [hq, e])⟩
        have m6 := (M1.out.alloc (.cells #[.int .i64 (n : Int)] 3)).grown HG6.out (fun e => (hne0 _ e.symm).2 rfl)
        have o16 := (O1.out.alloc (.cells #[.int .i64 (n : Int)] 3)).apart_grown (O0.out.apart_type O1.out (by decide)) HG6.out
        have b6 := (HB.out.alloc (by omega) (.cells #[.int .i64 (n : Int)] 3)).grown HG6.out (by simp; omega) (fun q hq => (hne0 q hq).1)
        have hz6 : wr.heap.size < w6.heap.size := by have := HG6.out.size; simp at this; omega
        have hgr : ∀ p : Addr, p.block < D → w6.cell? p = wr.cell? p := fun p hp => (b6.cell hp).trans (HB.out.cell hp).symm
        have q1 := (hgr ⟨w.heap.size, 1, none⟩ hSD).trans Q1.out
        have d0 := (hgr ⟨bb, bo + n * 3, none⟩ (by show bb < D; omega)).trans D0.out
        have d1 := (hgr ⟨bb, bo + n * 3 + 1, none⟩ (by show bb < D; omega)).trans D1.out
        have d2 := (hgr ⟨bb, bo + n * 3 + 2, none⟩ (by show bb < D; omega)).trans D2.out
        have MP4 := Lib.hid m6
        have O14 := Lib.hid o16
        have HB4 := Lib.hid b6
        have p1 := m6.cell 1
        have hP4 := m6.lt
        have hbs6 : bb < w6.heap.size := by omega
        have hS6 : w.heap.size < w6.heap.size := by omega
        clear m6 o16 b6 hgr hne0 Q1 D0 D1 D2
        have p1d : w6.drew.cell? ⟨D, 1, none⟩ = some (.slice sA (M.elP n P).length sc) := p1
        have p1a : (w6.drew.alloc (.cells #[.int .i64 (H n 0), .int .i64 (H n 1), .int .i64 (H n 2)] 41)).cell? ⟨D, 1, none⟩ = some (.slice sA (M.elP n P).length sc) := (((Below.refl w6.heap.size w6).drew.alloc (Nat.le_refl _) _).cell (p := ⟨D, 1, none⟩) hP4).trans p1
        go_region_law (first
            | (refine step_cat (by rfl) (.tmp 80) (.tmp 86) 23 (by rfl) 41 bi _ 3 24 Tryd.underlying23 BI.out.1 BI.out.2.1 BI.out.2.2.1 BI.out.2.2.2 rfl (by omega) (by omega) (base := D) (by rfl) (O14.out.drew.alloc _) (by omega) (by simp; omega) (by rfl) (own_one3 (F := fun _ c => H n c) (Blk.new w6.drew 41 #[.int .i64 (H n 0), .int .i64 (H n 1), .int .i64 (H n 2)]) (Nat.le_refl _) rfl rfl rfl).rdK (by omega) ?_; intro v2 w2 o2 hg2 hat2; obtain ⟨A2, z2, rfl⟩ := o2.form; have m2 := (MP4.out.drew.alloc (.cells #[.int .i64 (H n 0), .int .i64 (H n 1), .int .i64 (H n 2)] 41)).grown hg2 (fun e => O14.out.ne_blk MP4.out (by decide) e.symm); have p12 := m2.cell 1; have f12 := m2.frz 1)
            | fail)
        all_goals
          have M2 := Lib.hid m2
          have HO2 := Lib.hid o2
          have HG2 := Lib.hid hg2
          clear o2 hg2 hat2 m2
          go_wp2_with fail
          go_roundw
          case rel =>
            refine ⟨n + 1, by omega, by go_num, ?_, _, M2.out.set_ 1 _, ?_, ((HB4.out.drew.alloc (by show D ≤ w6.heap.size; omega) _).grown HG2.out (by simp; omega) (fun q hq => (O14.out.block hq).1)).setCell (p := ⟨D, 1, none⟩) (by show D ≤ D; omega) _⟩
            · rw [HE.out, List.length_append]
              exact (((HO6.out.congr (F' := ints (nats (M.elP n P ++ [n]))) fun i j hi _ => app_nats i j hi).drew.alloc _).apart_grown (O14.out.apart_type HO6.out (by decide)) HG2.out).setCell (p := ⟨D, 1, none⟩) (HO6.out.ne_blk MP4.out (by decide)) _
            · rw [HE.out, List.length_append]
              exact (HO2.out.congr fun i j hi _ => cat_some i hi).setCell (p := ⟨D, 1, none⟩) (HO2.out.ne_blk M2.out (by decide)) _
          case measure => simp [intOf]; omega
    · obtain rfl : n = bn := by omega
      clear m1 o0 o1 hbY
      go_wp2_with fail
      exact HK'.out _ _ _ _ _ _ _ _ _ _ _ _ _ _ _ _ _ _ _ _ _ _ _ _ _ _ _ _ _ _ _ _ O0.out M1.out O1.out HB.out
end Go.Proofs.YtaljmlkapbojeaaDoor
