/- drift.Alive of a valid drift, drifter and sightings. -/
import Derived.Test.YtnbeembnnjdmdaaGreatDoorA2
import Derived.Laws.OwnMore
import Derived.Test.YtnbeembnnjdmdaaGreatDoorA3
namespace Go.Proofs.YtnbeembnnjdmdaaGreatDoor
open Go.RowKit Go.Maps Go.Shelf

theorem mk_ints (n : Nat) (hn : n ≤ 60) (W : World) (z : Int) (hz : z = (n : Int)) : ∃ W', (Instr.makeSlice 22 (.int .i64 z) (.int .i64 z)).run Tryz.prog W = .ok (.slice (some ⟨W.heap.size, 0, none⟩) n n) W' ∧ Own W' W.heap.size 3 1 (.slice (some ⟨W.heap.size, 0, none⟩) n n) n (ints fun _ => 0) ∧ W.grownBy W' none ∧ W'.heap.size = W.heap.size + 1 := by
 subst hz
 obtain ⟨i0, h1, h2, h3, h4⟩ := info_parts int_info
 obtain ⟨W', hr, ho, hg⟩ := run_makeSlice_full W.heap.size 22 3 i0 (.int .i64 0) 1 Tryz.underlying22 h1 h2 h3 .i64 .i64 n (w := W) (by omega) (by rw [h4]; omega) (by unfold maxLen; omega) (Nat.le_refl _)
 have hr2 := run_makeSlice (w := W) 22 3 i0 (.int .i64 0) Tryz.underlying22 h1 h2 .i64 .i64 (n : Int) (n : Int) (by omega) (Int.le_refl _) (by rw [h3, Int.toNat_natCast]; omega) (by rw [h4]; omega) (by omega)
 have e := hr.symm.trans hr2
 simp only [Result.ok.injEq] at e
 exact ⟨W', hr, own_made ho, hg, by rw [e.2]; simp⟩
structure MkI (X : World) (m : Nat) (b1 b3 b4 b5 b6 b7 : Bool) (v1 v3 x13 x14 : Value) (V : World) : Prop where
 b : Below X.heap.size X V
 h1 : b1 = true → ∃ g, v1 = .slice (some ⟨g, 0, none⟩) m m ∧ Own V X.heap.size 3 1 v1 m (ints fun _ => 0)
 h3 : b3 = true → ∃ g, v3 = .slice (some ⟨g, 0, none⟩) m m ∧ Own V X.heap.size 3 1 v3 m (ints fun _ => 0)
 h4 : b4 = true → ∃ g, X.heap.size ≤ g ∧ x13 = .pointer (some ⟨g, 0, none⟩) ∧ Blk V g 22 (if b6 = true then #[v1] else #[.slice none 0 0])
 h5 : b5 = true → ∃ g, X.heap.size ≤ g ∧ x14 = .pointer (some ⟨g, 0, none⟩) ∧ Blk V g 22 (if b7 = true then #[v3] else #[.slice none 0 0])
 ne : b1 = true → b3 = true → v1.ownBlock ≠ v3.ownBlock
 nb : b4 = true → b5 = true → x13 ≠ x14
 c6 : b6 = true → b1 = true ∧ b4 = true
 c7 : b7 = true → b3 = true ∧ b5 = true
section
variable {X V V' : World} {m : Nat} {b1 b3 b4 b5 b6 b7 : Bool} {v1 v3 x13 x14 : Value}
theorem MkI.no6 (h : MkI X m false b3 b4 b5 b6 b7 v1 v3 x13 x14 V) : b6 = false := by
 cases hb : b6
 · rfl
 · have := (h.c6 hb).1; cases this
theorem MkI.no6' (h : MkI X m b1 b3 false b5 b6 b7 v1 v3 x13 x14 V) : b6 = false := by
 cases hb : b6
 · rfl
 · have := (h.c6 hb).2; cases this
theorem MkI.no7 (h : MkI X m b1 false b4 b5 b6 b7 v1 v3 x13 x14 V) : b7 = false := by
 cases hb : b7
 · rfl
 · have := (h.c7 hb).1; cases this
theorem MkI.no7' (h : MkI X m b1 b3 b4 false b6 b7 v1 v3 x13 x14 V) : b7 = false := by
 cases hb : b7
 · rfl
 · have := (h.c7 hb).2; cases this
theorem ownBlock_lt {W : World} {B t k n g : Nat} {v : Value} {F : Nat → Nat → Value} (h : Own W B t k v n F) (e : v.ownBlock = some g) : g < W.heap.size := (Own.block h e).2
theorem MkI.make1 (h : MkI X m false b3 b4 b5 b6 b7 v1 v3 x13 x14 V) (ho : Own V' V.heap.size 3 1 (.slice (some ⟨V.heap.size, 0, none⟩) m m) m (ints fun _ => 0)) (hg : V.grownBy V' none) : MkI X m true b3 b4 b5 b6 b7 (.slice (some ⟨V.heap.size, 0, none⟩) m m) v3 x13 x14 V' := by
 obtain rfl := h.no6
 have hb : Below V.heap.size V V' := (Below.refl _ V).grown hg (Nat.le_refl _) fun _ e => by cases e
 refine ⟨h.b.trans (hb.mono h.b.size), fun _ => ⟨_, rfl, Own.less ho h.b.size⟩, fun q => ?_, fun q => ?_, fun q => ?_, fun _ q => ?_, h.nb, fun q => (by cases q), h.c7⟩
 · obtain ⟨g, e, h1⟩ := h.h3 q; exact ⟨g, e, Own.below h1 hb⟩
 · obtain ⟨g, h1, h2, h3⟩ := h.h4 q; exact ⟨g, h1, h2, h3.below' hb⟩
 · obtain ⟨g, h1, h2, h3⟩ := h.h5 q; exact ⟨g, h1, h2, h3.below' hb⟩
 ·
  obtain ⟨g, e, h1⟩ := h.h3 q
  subst e
  have := ownBlock_lt h1 (g := g) rfl
  intro e
  injection e with e
  dsimp only at e
  omega
theorem MkI.make3 (h : MkI X m b1 false b4 b5 b6 b7 v1 v3 x13 x14 V) (ho : Own V' V.heap.size 3 1 (.slice (some ⟨V.heap.size, 0, none⟩) m m) m (ints fun _ => 0)) (hg : V.grownBy V' none) : MkI X m b1 true b4 b5 b6 b7 v1 (.slice (some ⟨V.heap.size, 0, none⟩) m m) x13 x14 V' := by
 obtain rfl := h.no7
 have hb : Below V.heap.size V V' := (Below.refl _ V).grown hg (Nat.le_refl _) fun _ e => by cases e
 refine ⟨h.b.trans (hb.mono h.b.size), fun q => ?_, fun _ => ⟨_, rfl, Own.less ho h.b.size⟩, fun q => ?_, fun q => ?_, fun q _ => ?_, h.nb, h.c6, fun q => (by cases q)⟩
 · obtain ⟨g, e, h1⟩ := h.h1 q; exact ⟨g, e, Own.below h1 hb⟩
 · obtain ⟨g, h1, h2, h3⟩ := h.h4 q; exact ⟨g, h1, h2, h3.below' hb⟩
 · obtain ⟨g, h1, h2, h3⟩ := h.h5 q; exact ⟨g, h1, h2, h3.below' hb⟩
 ·
  obtain ⟨g, e, h1⟩ := h.h1 q
  subst e
  have := ownBlock_lt h1 (g := g) rfl
  intro e
  injection e with e
  dsimp only at e
  omega
theorem MkI.alloc4 (h : MkI X m b1 b3 false b5 b6 b7 v1 v3 x13 x14 V) : MkI X m b1 b3 true b5 b6 b7 v1 v3 (.pointer (some ⟨V.heap.size, 0, none⟩)) x14 (V.alloc (.cells #[.slice none 0 0] 22)) := by
 obtain rfl := h.no6'
 have hb := belowAlloc V (.cells #[.slice none 0 0] 22)
 refine ⟨h.b.trans (hb.mono h.b.size), fun q => ?_, fun q => ?_, fun _ => ⟨_, h.b.size, rfl, Blk.new _ _ _⟩, fun q => ?_, h.ne, fun _ q => ?_, fun q => (by cases q), h.c7⟩
 · obtain ⟨g, e, h1⟩ := h.h1 q; exact ⟨g, e, Own.below h1 hb⟩
 · obtain ⟨g, e, h1⟩ := h.h3 q; exact ⟨g, e, Own.below h1 hb⟩
 · obtain ⟨g, h1, h2, h3⟩ := h.h5 q; exact ⟨g, h1, h2, h3.below' hb⟩
 ·
  obtain ⟨g, h1, h2, h3⟩ := h.h5 q
  have := h3.lt
  subst h2
  intro e
  injection e with e
  injection e with e
  injection e with e
  omega
theorem MkI.alloc5 (h : MkI X m b1 b3 b4 false b6 b7 v1 v3 x13 x14 V) : MkI X m b1 b3 b4 true b6 b7 v1 v3 x13 (.pointer (some ⟨V.heap.size, 0, none⟩)) (V.alloc (.cells #[.slice none 0 0] 22)) := by
 obtain rfl := h.no7'
 have hb := belowAlloc V (.cells #[.slice none 0 0] 22)
 refine ⟨h.b.trans (hb.mono h.b.size), fun q => ?_, fun q => ?_, fun q => ?_, fun _ => ⟨_, h.b.size, rfl, Blk.new _ _ _⟩, h.ne, fun q _ => ?_, h.c6, fun q => (by cases q)⟩
 · obtain ⟨g, e, h1⟩ := h.h1 q; exact ⟨g, e, Own.below h1 hb⟩
 · obtain ⟨g, e, h1⟩ := h.h3 q; exact ⟨g, e, Own.below h1 hb⟩
 · obtain ⟨g, h1, h2, h3⟩ := h.h4 q; exact ⟨g, h1, h2, h3.below' hb⟩
 ·
  obtain ⟨g, h1, h2, h3⟩ := h.h4 q
  have := h3.lt
  subst h2
  intro e
  injection e with e
  injection e with e
  injection e with e
  omega
theorem MkI.store6 {g : Nat} (h : MkI X m b1 b3 b4 b5 false b7 v1 v3 (.pointer (some ⟨g, 0, none⟩)) x14 V) (c1 : b1 = true) (c4 : b4 = true) : MkI X m b1 b3 b4 b5 true b7 v1 v3 (.pointer (some ⟨g, 0, none⟩)) x14 (V.setCell ⟨g, 0, none⟩ v1) := by
 obtain ⟨g', a1, a2, a3⟩ := h.h4 c4
 obtain rfl : g' = g := by injection a2 with a2; injection a2 with a2; injection a2 with a2; exact a2.symm
 rw [if_neg (by simp)] at a3
 refine ⟨h.b.setCell (p := ⟨g', 0, none⟩) a1 _, fun q => ?_, fun q => ?_, fun _ => ⟨g', a1, rfl, by rw [if_pos rfl]; exact a3.set_ 0 v1⟩, fun q => ?_, h.ne, h.nb, fun _ => ⟨c1, c4⟩, h.c7⟩
 · obtain ⟨k, e, k1⟩ := h.h1 q; exact ⟨k, e, Own.setCell k1 (p := ⟨g', 0, none⟩) (Own.ne_blk k1 a3 (by decide)) _⟩
 · obtain ⟨k, e, k1⟩ := h.h3 q; exact ⟨k, e, Own.setCell k1 (p := ⟨g', 0, none⟩) (Own.ne_blk k1 a3 (by decide)) _⟩
 ·
  obtain ⟨k, k1, k2, k3⟩ := h.h5 q
  exact ⟨k, k1, k2, k3.far (p := ⟨g', 0, none⟩) (fun e => h.nb c4 q (by rw [k2]; show Value.pointer (some ⟨g', 0, none⟩) = Value.pointer (some ⟨k, 0, none⟩); rw [show k = g' from e])) _⟩
theorem MkI.store7 {g : Nat} (h : MkI X m b1 b3 b4 b5 b6 false v1 v3 x13 (.pointer (some ⟨g, 0, none⟩)) V) (c3 : b3 = true) (c5 : b5 = true) : MkI X m b1 b3 b4 b5 b6 true v1 v3 x13 (.pointer (some ⟨g, 0, none⟩)) (V.setCell ⟨g, 0, none⟩ v3) := by
 obtain ⟨g', a1, a2, a3⟩ := h.h5 c5
 obtain rfl : g' = g := by injection a2 with a2; injection a2 with a2; injection a2 with a2; exact a2.symm
 rw [if_neg (by simp)] at a3
 refine ⟨h.b.setCell (p := ⟨g', 0, none⟩) a1 _, fun q => ?_, fun q => ?_, fun q => ?_, fun _ => ⟨g', a1, rfl, by rw [if_pos rfl]; exact a3.set_ 0 v3⟩, h.ne, h.nb, h.c6, fun _ => ⟨c3, c5⟩⟩
 · obtain ⟨k, e, k1⟩ := h.h1 q; exact ⟨k, e, Own.setCell k1 (p := ⟨g', 0, none⟩) (Own.ne_blk k1 a3 (by decide)) _⟩
 · obtain ⟨k, e, k1⟩ := h.h3 q; exact ⟨k, e, Own.setCell k1 (p := ⟨g', 0, none⟩) (Own.ne_blk k1 a3 (by decide)) _⟩
 ·
  obtain ⟨k, k1, k2, k3⟩ := h.h4 q
  exact ⟨k, k1, k2, k3.far (p := ⟨g', 0, none⟩) (fun e => h.nb q c5 (by rw [k2]; show Value.pointer (some ⟨k, 0, none⟩) = Value.pointer (some ⟨g', 0, none⟩); rw [show k = g' from e])) _⟩
end
end Go.Proofs.YtnbeembnnjdmdaaGreatDoor
/- drift.Alive of valid inputs: from its two lists on. -/
namespace Go.Proofs.YtnbeembnnjdmdaaGreatDoor
open Go.RowKit Go.Maps Go.Shelf

theorem own_rdA {w : World} {b t n c : Nat} {A : Option Addr} {f : Nat → Int} (h : Own w b t 1 (.slice A n c) n fun i _ => .int .i64 (f i)) : Rd1 w w.heap.size A n f := by
 obtain ⟨A', c', e, h⟩ := Own.rd1 h
 cases e; exact h
def sureA (d : M.Dr) (ta hn : Nat) (lo hi : Int) (xL : List Int) (Xs : Nat → SgV) (cs : Nat → Nat → Int) (s : Int) : Nat := M.sureN d ta (fun c => xL.contains c) (trFit Xs hn ta (-1) 0) (d.s.nt - ta - 1) (M.costN d.s.nd d.z cs) (leeL d (ta : Int) lo hi xL hn Xs) s
def mayA (d : M.Dr) (ta hn : Nat) (lo hi : Int) (xL : List Int) (Xs : Nat → SgV) (cs : Nat → Nat → Int) (s : Int) : Nat := M.mayN d ta (fun c => xL.contains c) (trFit Xs hn ta (-1) 0) (d.s.nt - ta - 1) (M.costN d.s.nd d.z cs) (leeL d (ta : Int) lo hi xL hn Xs) s
def AlvR (d : M.Dr) (ta hn : Nat) (lo hi : Int) (xL : List Int) (Xs : Nat → SgV) (cs : Nat → Nat → Int) (s0 s1 : Int) (w : World) (e : Ending) (w' : World) : Prop := Below w.heap.size w w' ∧
 ((leeL d (ta : Int) lo hi xL hn Xs = [] ∧ e = .returned (.tuple #[.int .i64 0, .int .i64 0, .int .i64 3])) ∨ (leeL d (ta : Int) lo hi xL hn Xs ≠ [] ∧ e = .returned (.tuple #[.int .i64 ((ta : Int) + (sureA d ta hn lo hi xL Xs cs s0 : Nat) - 1), .int .i64 ((ta : Int) + (mayA d ta hn lo hi xL Xs cs s1 : Nat) - 1), .int .i64 0])))
def fLA (d : M.Dr) (ta hn m : Nat) (xL : List Int) (Xs : Nat → SgV) (cs : Nat → Nat → Int) (ls : List Int) (i : Nat) : Int := if ls = [] then 0 else M.leastA d ta (fun c => xL.contains c) (trFit Xs hn ta (-1) 0) (m - 1) (M.costN d.s.nd d.z cs) ls i
def gLA (d : M.Dr) (ta hn m : Nat) (xL : List Int) (Xs : Nat → SgV) (cs : Nat → Nat → Int) (ls : List Int) (i : Nat) : Int := M.mostA d ta (fun c => xL.contains c) (trFit Xs hn ta (-1) 0) (m - 1) (M.costN d.s.nd d.z cs) ls i
theorem fLA_app {d : M.Dr} {ta hn m : Nat} {xL : List Int} {Xs : Nat → SgV} {cs : Nat → Nat → Int} {ls : List Int} {l : Int} {i : Nat} : fLA d ta hn m xL Xs cs (ls ++ [l]) i = if ls = [] then M.lowR d ta l (fun c => xL.contains c) (trFit Xs hn ta (-1) 0) (m - 1) (M.costN d.s.nd d.z cs) i else min (fLA d ta hn m xL Xs cs ls i) (M.lowR d ta l (fun c => xL.contains c) (trFit Xs hn ta (-1) 0) (m - 1) (M.costN d.s.nd d.z cs) i) := by
 unfold fLA
 rw [if_neg (by simp), M.leastA_app]
 by_cases h : ls = []
 · rw [if_pos h, if_pos h]
 · rw [if_neg h, if_neg h, if_neg h]
section
variable {d : M.Dr} {zA cA wA dA tA sA xA hA bA : Option Addr} {cl : Nat → Nat} {B B2 P m1 m2 dc tc sc zc cc wc xc hn hc ta bc m S : Nat} {lo hi s0 s1 : Int} {xL : List Int} {Xs : Nat → SgV} {cs : Nat → Nat → Int} {w X : World}
attribute [local go_sem] Oper.semAt_some
set_option maxRecDepth 100000 in
set_option maxHeartbeats 25600000 in
theorem alive_tail {v0 v1 v2 v3 v4 v5 v6 v8 v9 v10 v13 v14 v15 v16 v17 v18 v19 v20 v21 v22 v23 v24 v25 v26 v27 v28 v29 v30 v31 v32 v33 v34 v35 v36 v37 v38 v39 v40 v41 v42 v43 v44 v45 v46 v47 v48 v49 v50 v51 v52 v53 v54 v55 v56 v57 v58 v59 v60 v61 v62 v63 v64 v65 v66 v67 v68 v69 v70 v71 v72 v73 v74 v75 v76 v77 v78 v79 v80 v81 v82 v83 v84 v85 v86 v87 v88 v89 v90 v91 v92 v93 v94 v95 v96 v97 v98 v99 v100 v101 v102 v103 v104 v105 v106 v107 v108 v109 v110 v111 v112 v113 v114 v115 v116 v117 v118 v119 v120 v121 v122 v123 v124 v125 v126 v127 v128 v129 v130 v131 v132 v133 v134 v135 v136 v137 v138 v139 v140 v141 v142 v143 v144 v145 v146 v147 v148 v149 v150 v151 v152 v153 v154 v155 v156 v157 v158 v159 v160 v161 v162 v163 v164 v165 v166 v167 v168 v169 v170 v171 v172 v173 v174 v175 v176 v177 v178 v179 v180 v181 v182 v183 v184 v185 v186 v187 v188 v189 v190 v191 v192 v193 v194 v195 v196 v197 v198 v199 v200 v201 v202 v203 v204 v205 v206 v207 v208 v209 v210 v211 v212 v213 v214 v215 v216 v217 v218 v219 v220 v221 v222 v223 v224 v225 v226 v227 v228 v229 v230 v231 v232 v233 v234 : Value} (hd : d.Ok) (hhn : hn ≤ maxLen) (hx1 : xL.Pairwise (· < ·)) (hx2 : ∀ x, x ∈ xL → 0 ≤ x ∧ x < d.s.nd) (hxm : xL.length ≤ 1048576) (htm : ta + m = d.s.nt) (hm1 : 1 ≤ m) (hl1 : 0 ≤ lo) (hl2 : lo ≤ hi) (hl3 : hi ≤ 8)
 (hB : B ≤ w.heap.size) (hb : Rd w B bA 2 d.nz cs) (hcs : ∀ i, i < d.nz → 0 ≤ cs i 0 ∧ cs i 0 ≤ cs i 1 ∧ cs i 1 ≤ 100) (hx3 : Rd1 w B xA xL.length (fun k => xL.getD k 0)) (hRS : RdS w B hA hn Xs) (hF : Fre w)
 (hMX : SeaM d zA cA wA dA tA sA cl B2 P m1 m2 #[.int .i64 (d.s.W : Int), .int .i64 (d.s.H : Int), .slice dA d.s.nd dc, .slice tA d.s.nt tc, .slice sA d.s.nt sc, .slice zA d.s.nd zc, .slice cA d.nz cc, .slice wA (d.s.nt - 1) wc, .map (some m1), .map (some m2)] (own3 P m1 m2) X) (hBX : Below w.heap.size w X) (hK7 : Blk X (w.heap.size + 2) 73 #[.slice bA d.nz bc, .int .i64 s0, .int .i64 s1]) (hK11 : Blk X S 105 #[.pointer (some ⟨P, 0, none⟩), .int .i64 (ta : Int), .slice xA xL.length xc, .int .i64 lo, .int .i64 hi, .slice hA hn hc]) (hSX : S < X.heap.size) (hB2 : w.heap.size ≤ B2) (hBS : B2 ≤ S) :
 Code.wp Tryz.prog (restAt Tryz.f38 5) (bodyPostM Fence.wide 4 Tryz.prog Tryz.f38 (AlvR d ta hn lo hi xL Xs cs s0 s1 w)) { tmps := List.toArray (v0 :: v1 :: v2 :: v3 :: v4 :: v5 :: v6 :: .pointer (some ⟨w.heap.size + 2, 0, none⟩) :: v8 :: v9 :: v10 :: .pointer (some ⟨S, 0, none⟩) :: .int .i64 (m : Int) :: v13 :: v14 :: v15 :: v16 :: v17 :: v18 :: v19 :: v20 :: v21 :: v22 :: v23 :: v24 :: v25 :: v26 :: v27 :: v28 :: v29 :: v30 :: v31 :: v32 :: v33 :: v34 :: v35 :: v36 :: v37 :: v38 :: v39 :: v40 :: v41 :: v42 :: v43 :: v44 :: v45 :: v46 :: v47 :: v48 :: v49 :: v50 :: v51 :: v52 :: v53 :: v54 :: v55 :: v56 :: v57 :: v58 :: v59 :: v60 :: v61 :: v62 :: v63 :: v64 :: v65 :: v66 :: v67 :: v68 :: v69 :: v70 :: v71 :: v72 :: v73 :: v74 :: v75 :: v76 :: v77 :: v78 :: v79 :: v80 :: v81 :: v82 :: v83 :: v84 :: v85 :: v86 :: v87 :: v88 :: v89 :: v90 :: v91 :: v92 :: v93 :: v94 :: v95 :: v96 :: v97 :: v98 :: v99 :: v100 :: v101 :: v102 :: v103 :: v104 :: v105 :: v106 :: v107 :: v108 :: v109 :: v110 :: v111 :: v112 :: v113 :: v114 :: v115 :: v116 :: v117 :: v118 :: v119 :: v120 :: v121 :: v122 :: v123 :: v124 :: v125 :: v126 :: v127 :: v128 :: v129 :: v130 :: v131 :: v132 :: v133 :: v134 :: v135 :: v136 :: v137 :: v138 :: v139 :: v140 :: v141 :: v142 :: v143 :: v144 :: v145 :: v146 :: v147 :: v148 :: v149 :: v150 :: v151 :: v152 :: v153 :: v154 :: v155 :: v156 :: v157 :: v158 :: v159 :: v160 :: v161 :: v162 :: v163 :: v164 :: v165 :: v166 :: v167 :: v168 :: v169 :: v170 :: v171 :: v172 :: v173 :: v174 :: v175 :: v176 :: v177 :: v178 :: v179 :: v180 :: v181 :: v182 :: v183 :: v184 :: v185 :: v186 :: v187 :: v188 :: v189 :: v190 :: v191 :: v192 :: v193 :: v194 :: v195 :: v196 :: v197 :: v198 :: v199 :: v200 :: v201 :: v202 :: v203 :: v204 :: v205 :: v206 :: v207 :: v208 :: v209 :: v210 :: v211 :: v212 :: v213 :: v214 :: v215 :: v216 :: v217 :: v218 :: v219 :: v220 :: v221 :: v222 :: v223 :: v224 :: v225 :: v226 :: v227 :: v228 :: v229 :: v230 :: v231 :: v232 :: v233 :: v234 :: []), defers := [] } X := by
 have h60 := hd.s.t2
 have hnd := hd.s.nd1
 have hnz := hd.z4
 have hm60 : m ≤ 60 := by omega
 obtain ⟨N, hN⟩ : ∃ N, N = X.heap.size := ⟨_, rfl⟩
 have HSEQ := Lib.hid (fun (cb fb : Nat) => leeways1_seq (zA := zA) (cA := cA) (wA := wA) (dA := dA) (tA := tA) (sA := sA) (cl := cl) (B := B2) (P := P) (m1 := m1) (m2 := m2) (dc := dc) (tc := tc) (sc := sc) (zc := zc) (cc := cc) (wc := wc) (cb := cb) (fb := fb) (B' := B) (xc := xc) (hc := hc) (xA := xA) (hA := hA) (Xs := Xs) (fc := 0) (ft := -1) (fl := 0) hd hhn hx1 hx2 hxm htm hm1 hl1 hl3 hl2)
 have HB0 := Lib.hid hBX
 have HM0 := Lib.hid hMX
 have K70 := Lib.hid hK7
 have K110 := Lib.hid hK11
 have HD := Lib.hid hd
 have HF := Lib.hid hF
 have HRS := Lib.hid hRS
 have HX3 := Lib.hid hx3
 have HBD := Lib.hid hb
 have HCS := Lib.hid hcs
 have HTM := Lib.hid htm
 have HBN := Lib.hid (show B2 < N ∧ w.heap.size ≤ S ∧ S < N ∧ m1 < N ∧ m2 < N ∧ w.heap.size ≤ m1 ∧ w.heap.size ≤ m2 ∧ P < N from by have h1 := (hMX.t.2.2.2 m1 hMX.t.2.1).2; have h2 := (hMX.t.2.2.2 m2 hMX.t.2.2.1).2; have h3 := hMX.b.2.1; have h4 := hMX.b.2.2.1; have h5 := hMX.box.lt; omega)
 have HTS := Lib.hid (show ∀ k, TS P m1 m2 X k → k < N from fun k hk => by rw [hN]; exact (hMX.canon.t.2.2.2 k hk).2)
 clear hBX hMX hK7 hK11 hd hF hRS hx3 hb hcs hx1 hx2 hxm hhn htm
 conv in restAt _ _ => whnf
 go_upto_region 7 with fail
 refine wp_nopanic ?_
 refine wp_region_T 7 (fun V => Below X.heap.size X V) (by kernel_rfl) (Below.refl _ _).drew ?_
 intro hS
 refine tkA (i := 0) (v := ?_) rfl (by kernel_rfl) (.inl ⟨by kernel_rfl, ?_⟩) hS ?_
 rotate_left
 · (intro w' hw; go_simp; try with_reducible rfl)
 try simp only [put_laws]
 refine tkA (i := 2) (v := ?_) rfl (by kernel_rfl) (.inl ⟨by kernel_rfl, ?_⟩) hS ?_
 rotate_left
 · (intro w' hw; go_simp; try with_reducible rfl)
 try simp only [put_laws]
 refine wpAnyT_inv (fun listed a V => ∃ (b1 b3 b4 b5 b6 b7 : Bool) (v1' v3' x13 x14 : Value), listed = #[true, b1, true, b3, b4, b5, b6, b7] ∧ a = { tmps := List.toArray (v0 :: v1 :: v2 :: v3 :: v4 :: v5 :: v6 :: .pointer (some ⟨w.heap.size + 2, 0, none⟩) :: v8 :: v9 :: v10 :: .pointer (some ⟨S, 0, none⟩) :: .int .i64 (m : Int) :: x13 :: x14 :: v15 :: v16 :: v17 :: v18 :: v19 :: v20 :: v21 :: v22 :: v23 :: v24 :: v25 :: v26 :: v27 :: v28 :: v29 :: v30 :: v31 :: v32 :: v33 :: v34 :: v35 :: v36 :: v37 :: v38 :: v39 :: v40 :: v41 :: v42 :: v43 :: v44 :: v45 :: v46 :: v47 :: v48 :: v49 :: v50 :: v51 :: v52 :: v53 :: v54 :: v55 :: v56 :: v57 :: v58 :: v59 :: v60 :: v61 :: v62 :: v63 :: v64 :: v65 :: v66 :: v67 :: v68 :: v69 :: v70 :: v71 :: v72 :: v73 :: v74 :: v75 :: v76 :: v77 :: .int .i64 (m : Int) :: v1' :: .int .i64 (m : Int) :: v3' :: v82 :: v83 :: v84 :: v85 :: v86 :: v87 :: v88 :: v89 :: v90 :: v91 :: v92 :: v93 :: v94 :: v95 :: v96 :: v97 :: v98 :: v99 :: v100 :: v101 :: v102 :: v103 :: v104 :: v105 :: v106 :: v107 :: v108 :: v109 :: v110 :: v111 :: v112 :: v113 :: v114 :: v115 :: v116 :: v117 :: v118 :: v119 :: v120 :: v121 :: v122 :: v123 :: v124 :: v125 :: v126 :: v127 :: v128 :: v129 :: v130 :: v131 :: v132 :: v133 :: v134 :: v135 :: v136 :: v137 :: v138 :: v139 :: v140 :: v141 :: v142 :: v143 :: v144 :: v145 :: v146 :: v147 :: v148 :: v149 :: v150 :: v151 :: v152 :: v153 :: v154 :: v155 :: v156 :: v157 :: v158 :: v159 :: v160 :: v161 :: v162 :: v163 :: v164 :: v165 :: v166 :: v167 :: v168 :: v169 :: v170 :: v171 :: v172 :: v173 :: v174 :: v175 :: v176 :: v177 :: v178 :: v179 :: v180 :: v181 :: v182 :: v183 :: v184 :: v185 :: v186 :: v187 :: v188 :: v189 :: v190 :: v191 :: v192 :: v193 :: v194 :: v195 :: v196 :: v197 :: v198 :: v199 :: v200 :: v201 :: v202 :: v203 :: v204 :: v205 :: v206 :: v207 :: v208 :: v209 :: v210 :: v211 :: v212 :: v213 :: v214 :: v215 :: v216 :: v217 :: v218 :: v219 :: v220 :: v221 :: v222 :: v223 :: v224 :: v225 :: v226 :: v227 :: v228 :: v229 :: v230 :: v231 :: v232 :: v233 :: v234 :: []), defers := [] } ∧ MkI X m b1 b3 b4 b5 b6 b7 v1' v3' x13 x14 V) ?_ ?_ _ _ _ _ (by exact Nat.le_refl _) ?_
 rotate_left 2
 · exact ⟨false, false, false, false, false, false, v79, v81, v13, v14, rfl, rfl, ⟨hS, fun h => (by cases h), fun h => (by cases h), fun h => (by cases h), fun h => (by cases h), fun h => (by cases h), fun h => (by cases h), fun h => (by cases h), fun h => (by cases h)⟩⟩
 rotate_left
 ·
  rintro listed a V i o hlt hun hall ho ⟨b1, b3, b4, b5, b6, b7, v1', v3', x13, x14, rfl, rfl, hI⟩ K' hK'
  have hi : i = 0 ∨ i = 1 ∨ i = 2 ∨ i = 3 ∨ i = 4 ∨ i = 5 ∨ i = 6 ∨ i = 7 := by have hlt' : i < 8 := hlt; omega
  rcases hi with rfl | rfl | rfl | rfl | rfl | rfl | rfl | rfl
  ·
   exact absurd hun (by simp)
  ·
   obtain rfl : b1 = false := hun
   have ho' := Option.some.inj ho
   subst ho'
   obtain ⟨W', hr, h1, h2, h3⟩ := mk_ints m hm60 V (m : Int) rfl
   go_simp
   try simp only [put_laws]
   exact hK'.out _ _ (.inr ((hI.make1 h1 h2).b)) ⟨true, b3, b4, b5, b6, b7, _, _, _, _, rfl, rfl, hI.make1 h1 h2⟩
  ·
   exact absurd hun (by simp)
  ·
   obtain rfl : b3 = false := hun
   have ho' := Option.some.inj ho
   subst ho'
   obtain ⟨W', hr, h1, h2, h3⟩ := mk_ints m hm60 V (m : Int) rfl
   go_simp
   try simp only [put_laws]
   exact hK'.out _ _ (.inr ((hI.make3 h1 h2).b)) ⟨b1, true, b4, b5, b6, b7, _, _, _, _, rfl, rfl, hI.make3 h1 h2⟩
  ·
   obtain rfl : b4 = false := hun
   have ho' := Option.some.inj ho
   subst ho'
   go_simp
   try simp only [put_laws]
   exact hK'.out _ _ (.inr (hI.alloc4.b)) ⟨b1, b3, true, b5, b6, b7, _, _, _, _, rfl, rfl, hI.alloc4⟩
  ·
   obtain rfl : b5 = false := hun
   have ho' := Option.some.inj ho
   subst ho'
   go_simp
   try simp only [put_laws]
   exact hK'.out _ _ (.inr (hI.alloc5.b)) ⟨b1, b3, b4, true, b6, b7, _, _, _, _, rfl, rfl, hI.alloc5⟩
  ·
   obtain rfl : b6 = false := hun
   have ho' := Option.some.inj ho
   subst ho'
   have hc1 : b4 = true := hall _ (Array.mem_of_getElem? (i := 0) rfl) rfl
   have hc2 : b1 = true := hall _ (Array.mem_of_getElem? (i := 1) rfl) rfl
   obtain ⟨g, hg, rfl, hbk⟩ := hI.h4 hc1
   obtain ⟨gb, rfl, hob⟩ := hI.h1 hc2
   rw [if_neg (by simp)] at hbk
   have c0 := hbk.cell 0
   have f0 := hbk.frz 0
   have hgl := hbk.lt
   go_simp
   try simp only [put_laws]
   exact hK'.out _ _ (.inr ((hI.store6 hc2 hc1).b)) ⟨b1, b3, b4, b5, true, b7, _, _, _, _, rfl, rfl, hI.store6 hc2 hc1⟩
  ·
   obtain rfl : b7 = false := hun
   have ho' := Option.some.inj ho
   subst ho'
   have hc1 : b5 = true := hall _ (Array.mem_of_getElem? (i := 0) rfl) rfl
   have hc2 : b3 = true := hall _ (Array.mem_of_getElem? (i := 1) rfl) rfl
   obtain ⟨g, hg, rfl, hbk⟩ := hI.h5 hc1
   obtain ⟨gb, rfl, hob⟩ := hI.h3 hc2
   rw [if_neg (by simp)] at hbk
   have c0 := hbk.cell 0
   have f0 := hbk.frz 0
   have hgl := hbk.lt
   go_simp
   try simp only [put_laws]
   exact hK'.out _ _ (.inl rfl) ⟨b1, b3, b4, b5, b6, true, _, _, _, _, rfl, rfl, hI.store7 hc2 hc1⟩
 rintro listed a V hr ⟨b1, b3, b4, b5, b6, b7, v1', v3', x13, x14, rfl, rfl, hI⟩
 have hall : b1 = true ∧ b3 = true ∧ b4 = true ∧ b5 = true ∧ b6 = true ∧ b7 = true := by
  clear hI
  cases b1 <;> cases b3 <;> cases b4 <;> cases b5 <;> cases b6 <;> cases b7 <;> first | exact ⟨rfl, rfl, rfl, rfl, rfl, rfl⟩ | exact absurd hr (of_decide_eq_false (by kernel_rfl))
 obtain ⟨rfl, rfl, rfl, rfl, rfl, rfl⟩ := hall
 refine ⟨fun x e => (by cases e), ?_⟩
 obtain ⟨lb, rfl, hl⟩ := hI.h1 rfl
 obtain ⟨mb, rfl, hmm⟩ := hI.h3 rfl
 obtain ⟨b13, hg13, rfl, h13⟩ := hI.h4 rfl
 obtain ⟨b14, hg14, rfl, h14⟩ := hI.h5 rfl
 rw [if_pos rfl] at h13 h14
 have HNE := Lib.hid (show lb ≠ mb from fun e => hI.ne rfl rfl (by rw [e]))
 have HBV := Lib.hid hI.b
 have H13 := Lib.hid h13
 have H14 := Lib.hid h14
 have HL := Lib.hid hl
 have HM := Lib.hid hmm
 clear hI h13 h14 hl hmm hr hS hg13 hg14
 go_upto_region 9 with fail
 have hbl := belowAlloc V (.cells #[.bool false] 4)
 have K15 := Lib.hid (Blk.new V 4 #[.bool false])
 have HBY := Lib.hid (HBV.out.trans (hbl.mono HBV.out.size))
 have Y13 := Lib.hid (H13.out.below' hbl)
 have Y14 := Lib.hid (H14.out.below' hbl)
 have YL := Lib.hid (Own.below HL.out hbl)
 have YM := Lib.hid (Own.below HM.out hbl)
 have HVS := Lib.hid (show N ≤ V.heap.size by rw [hN]; exact HBV.out.size)
 clear H13 H14 HL HM HBV
 obtain ⟨b15, hb15⟩ : ∃ b, b = V.heap.size := ⟨_, rfl⟩
 have HYS := Lib.hid (show (V.alloc (.cells #[.bool false] 4)).heap.size = b15 + 1 by rw [hb15]; simp)
 rw [← hb15] at K15 HVS ⊢
 clear hb15 hbl
 generalize V.alloc (.cells #[.bool false] 4) = Y at K15 HBY Y13 Y14 YL YM HYS ⊢
 have Y11 := Lib.hid (K110.out.below' HBY.out)
 have Y7 := Lib.hid (K70.out.below' HBY.out)
 have HMY := Lib.hid (HM0.out.below HBY.out)
 have HBW := Lib.hid (HB0.out.trans (HBY.out.mono HB0.out.size))
 clear K110 K70 V
 obtain ⟨k0, k1, k2, k3⟩ := Y11.out.c4
 have k4 := Y11.out.cell 4
 have k5 := Y11.out.cell 5
 have HFY := Lib.hid (HF.out.below HBW.out)
 have j0 := HFY.out.c0
 have j1 := HFY.out.c1
 have j2 := HFY.out.c2
 have hLE := leeways_any (P := P) (ta := ta) (xA := xA) (xL := xL) (xc := xc) (lo := lo) (hi := hi) (hA := hA) (hn := hn) (hc := hc) (fc := 0) (ft := -1) (fl := 0) Y
 rw [HYS.out] at hLE
 have HLE := Lib.hid hLE
 clear hLE
 go_wp2_with (go_at_call 64; go_must (refine HLE.out.mono ?_); rintro e Z ⟨rfl, hk0, hk1, hbz, hzs⟩; have G0 := Lib.hid hk0; have G1 := Lib.hid hk1; have HBZ := Lib.hid hbz; have HZS := Lib.hid hzs; clear hk0 hk1 hbz hzs k0 k1 k2 k3 k4 k5 j0 j1 j2)
 simp only [Nat.add_assoc, Nat.reduceAdd] at *
 have hZS := HZS.out
 have hBN := HBN.out
 have hVS := HVS.out
 have HYZ := Lib.hid (show Below Y.heap.size Y Z from by rw [HYS.out]; exact HBZ.out)
 have HXZ := Lib.hid (HBY.out.trans (HYZ.out.mono HBY.out.size))
 have HWZ := Lib.hid (HB0.out.trans (HXZ.out.mono HB0.out.size))
 have HTZ := SeaT.grown HM0.out.canon (below_grown HXZ.out none) fun _ e => by cases e
 have HSMZ := Lib.hid HTZ.1
 have HCH := Lib.hid (show ChI d zA cA wA dA tA sA cl B2 P m1 m2 dc tc sc zc cc wc (b15 + 1) (b15 + 2) B ta xc hn hc xL lo hi 0 (-1) 0 xA hA Xs Z from ⟨HSMZ.out, G0.out, G1.out, HRS.out.below (HWZ.out.mono hB), HX3.out.below (HWZ.out.mono hB), Nat.le_trans hB HWZ.out.size⟩)
 have hlb := (Own.block (g := lb) YL.out rfl)
 have hmb := (Own.block (g := mb) YM.out rfl)
 have hYS := HYS.out
 rw [hYS, ← hN] at hlb hmb
 rw [← hN] at YL YM
 have HNL := Lib.hid (show ¬ TS P m1 m2 Z lb ∧ ¬ TS P m1 m2 Z mb from ⟨fun e => by have := HTS.out _ (HTZ.2 _ e); omega, fun e => by have := HTS.out _ (HTZ.2 _ e); omega⟩)
 have hbs : b15 < Z.heap.size ∧ lb < Z.heap.size ∧ mb < Z.heap.size := by omega
 have HAL := Lib.hid (show AlC B2 B w.heap.size b15 N from ⟨by omega, by omega, by omega, by omega, by omega, by omega⟩)
 have HI0 := Lib.hid (show AlB d zA cA wA dA tA sA cl B2 P m1 m2 dc tc sc zc cc wc (b15 + 1) (b15 + 2) B ta xc hn hc xL lo hi 0 (-1) 0 xA hA Xs bA d.nz bc s0 s1 w S (w.heap.size + 2) b13 b14 b15 lb mb N m (false) (fLA d ta hn m xL Xs cs []) (gLA d ta hn m xL Xs cs []) Z from ⟨HCH.out, HWZ.out, Y11.out.below' HYZ.out, Y7.out.below' HYZ.out, Y13.out.below' HYZ.out, Y14.out.below' HYZ.out, K15.out.below' HYZ.out, Own.below YL.out HYZ.out, Own.below YM.out HYZ.out, HNL.out.1, HNL.out.2, HNE.out⟩)
 clear HTZ HTS HSMZ HNL YL YM Y13 Y14 K15 Y11 Y7 HMY HFY HBW HLE HBZ HYZ G0 G1
 clear HBY HYS hYS HXZ
 obtain ⟨AX, hAX⟩ : ∃ AX : Int × Nat × (Nat → Value) → Act, AX = fun x => { tmps := List.toArray (v0 :: v1 :: v2 :: v3 :: v4 :: v5 :: v6 :: .pointer (some ⟨w.heap.size + 2, 0, none⟩) :: v8 :: v9 :: v10 :: .pointer (some ⟨S, 0, none⟩) :: .int .i64 (m : Int) :: .pointer (some ⟨b13, 0, none⟩) :: .pointer (some ⟨b14, 0, none⟩) :: .pointer (some ⟨b15, 0, none⟩) :: .int .i64 x.1 :: .slice (some ⟨x.2.1, 0, none⟩) m m :: v18 :: v19 :: v20 :: v21 :: v22 :: v23 :: v24 :: v25 :: v26 :: v27 :: v28 :: v29 :: v30 :: v31 :: v32 :: v33 :: v34 :: v35 :: v36 :: v37 :: v38 :: v39 :: v40 :: v41 :: v42 :: v43 :: v44 :: v45 :: v46 :: v47 :: v48 :: v49 :: v50 :: v51 :: v52 :: v53 :: v54 :: v55 :: v56 :: v57 :: v58 :: v59 :: v60 :: v61 :: v62 :: v63 :: v64 :: v65 :: v66 :: v67 :: v68 :: v69 :: v70 :: v71 :: v72 :: v73 :: v74 :: v75 :: v76 :: v77 :: .int .i64 (m : Int) :: .slice (some ⟨lb, 0, none⟩) m m :: .int .i64 (m : Int) :: .slice (some ⟨mb, 0, none⟩) m m :: .agg #[.pointer (some ⟨P, 0, none⟩), .int .i64 (ta : Int), .slice xA xL.length xc, .int .i64 lo, .int .i64 hi, .slice hA hn hc] :: .agg #[.int .i64 0, .int .i64 (-1), .int .i64 0] :: .func (.func 102) #[] #[.pointer (some ⟨b15 + 1, 0, none⟩), .pointer (some ⟨b15 + 2, 0, none⟩)] :: .int .i64 x.1 :: .slice (some ⟨x.2.1, 0, none⟩) m m :: v87 :: v88 :: v89 :: v90 :: v91 :: v92 :: v93 :: v94 :: v95 :: v96 :: v97 :: v98 :: v99 :: v100 :: v101 :: v102 :: v103 :: v104 :: v105 :: v106 :: v107 :: v108 :: v109 :: v110 :: v111 :: v112 :: v113 :: v114 :: v115 :: v116 :: v117 :: v118 :: v119 :: v120 :: v121 :: v122 :: v123 :: v124 :: v125 :: v126 :: v127 :: v128 :: v129 :: v130 :: v131 :: v132 :: v133 :: v134 :: v135 :: v136 :: v137 :: v138 :: v139 :: v140 :: v141 :: v142 :: v143 :: v144 :: v145 :: v146 :: v147 :: v148 :: v149 :: v150 :: v151 :: v152 :: v153 :: v154 :: v155 :: v156 :: v157 :: v158 :: v159 :: v160 :: v161 :: v162 :: v163 :: v164 :: v165 :: v166 :: v167 :: v168 :: v169 :: v170 :: v171 :: v172 :: v173 :: v174 :: v175 :: v176 :: v177 :: v178 :: v179 :: v180 :: v181 :: v182 :: v183 :: v184 :: v185 :: v186 :: v187 :: v188 :: v189 :: v190 :: v191 :: v192 :: v193 :: v194 :: v195 :: v196 :: v197 :: v198 :: v199 :: v200 :: v201 :: v202 :: v203 :: v204 :: v205 :: v206 :: v207 :: v208 :: v209 :: v210 :: v211 :: v212 :: v213 :: v214 :: v215 :: v216 :: v217 :: v218 :: v219 :: v220 :: v221 :: v222 :: v223 :: v224 :: v225 :: v226 :: v227 :: v228 :: v229 :: v230 :: v231 :: v232 :: v233 :: v234 :: []), defers := [] } := ⟨_, rfl⟩
 refine (wpIn_wide (n := 4)).1 ?_
 refine wpIn_rangeFunc_Y (F := Fence.wide) (n := 4) rfl (by omega) (gf := 102) (lb := #[.pointer (some ⟨b15 + 1, 0, none⟩), .pointer (some ⟨b15 + 2, 0, none⟩)]) rfl trivial (enters_of Tryz.func102 (by kernel_rfl) rfl) (HSEQ.out (b15 + 1) (b15 + 2)) (fun _ => rfl)
  (fun (s : List (Int × Nat × (Nat → Value))) (A : World) => AlB d zA cA wA dA tA sA cl B2 P m1 m2 dc tc sc zc cc wc (b15 + 1) (b15 + 2) B ta xc hn hc xL lo hi 0 (-1) 0 xA hA Xs bA d.nz bc s0 s1 w S (w.heap.size + 2) b13 b14 b15 lb mb N m (!s.isEmpty) (fLA d ta hn m xL Xs cs (s.map Prod.fst)) (gLA d ta hn m xL Xs cs (s.map Prod.fst)) A) (fun _ _ _ => False) (fun s A C row h hg hr => h.notes HAL.out (by omega) (by omega) (by omega) hg hr) (fun _ _ _ _ _ h _ _ => h) (fun A C h => h.1.keeps (by omega) (by omega)) (fun s A C h hab => h.ab hab (by omega) (by omega)) (fun _ _ _ _ h _ => h) (fun s A h => h.ch) HI0.out
  (fun W0 x a' W => a' = AX x ∧ Z.heap.size ≤ W0.heap.size ∧ SeaT d zA cA wA dA tA sA cl B2 P m1 m2 dc tc sc zc cc wc W ∧ RwO P m1 m2 W0.heap.size x.2.1 m x.2.2 (fun i => M.rwL d ta x.1 (fun c => xL.contains c) (trFit Xs hn ta (-1) 0) (m - 1) i) W ∧ (lo ≤ x.1 ∧ x.1 ≤ hi) ∧ leeP d ta m hn xL Xs (-1) 0 x.1 = true)
  (fun W0 x a' s X2 Y2 row h hg hr => by
   obtain ⟨h1, h2, h4, h5, h6⟩ := h
   have hts := SeaT.grown h4 hg fun r e => ⟨by have := (hr r e).1; omega, by
    obtain ⟨q1, o, q2, q3⟩ := hr r e
    exact ts_notes h4 q1 q2 q3 (by omega) (by omega)⟩
   exact ⟨h1, h2, hts.1, h5.notes hg hts.2 hr, h6⟩) ?has ?hbody ?hdone (fun _ _ _ _ _ _ h _ => h.elim)
 case has =>
  intro l pre x W0 V K hi0 hab hyd hI2 hK
  have HK := Lib.hid (hK (AX x) V (KeepsFrom.refl _ _) hI2 ⟨rfl, by have := hi0.ch.kf.lt; omega, hI2.ch.sm, ⟨hyd.o, hyd.r, hyd.t, hyd.rt, hyd.rd⟩, hyd.l, hyd.p⟩)
  clear hK
  rw [hAX] at HK
  gi_wp2_with fail
  have h := HK.out
  refine Eq.mp (congrArg (fun a => K a V) ?_) h
  simp
 case hbody =>
  intro l pre x a' W0 V hl hlp' hi0 hI2 ha hlen
  obtain ⟨rfl, hW0, hst, hro, ⟨hx1, hx2⟩, hp⟩ := ha
  have hVS : Z.heap.size ≤ V.heap.size := by
   obtain ⟨r, hr⟩ := hlp'
   have := (Array.getElem?_eq_some_iff.1 hr).1
   omega
  obtain ⟨lx, gr, Ur⟩ := x
  obtain ⟨ln, rfl⟩ : ∃ n : Nat, lx = (n : Int) := ⟨lx.toNat, by dsimp only at hx1; omega⟩
  dsimp only at hro hx1 hx2 hp
  rw [hAX]
  dsimp only
  refine wpIn_mono (Q := roundPostB Z.heap.size (fun (_ : List Unit) W' => _) (fun _ _ _ => False) [] V) (show Code.wpIn _ 2 _ (rfBody Tryz.f38) _ _ _ from alive_body HD.out HTM.out hm1 (by omega) HBD.out hB rfl HCS.out rfl (fun e => by
   have h1 := M.posB_len.1 (show (M.rwL d ta (ln : Int) (fun c => xL.contains c) (trFit Xs hn ta (-1) 0) (m - 1) 0).length = 0 from by rw [e]; rfl)
   rw [show M.posB d ta (ln : Int) (fun c => xL.contains c) (trFit Xs hn ta (-1) 0) (m - 1) = true from hp] at h1
   cases h1) HAL.out (by omega) (by omega) hI2 hro (by omega) (by omega) hbs hVS (by omega) hW0) ?_
  intro e a2 w2 h
  cases e with
  | normal =>
   refine ⟨h.1, ?_⟩
   have e : (!(pre ++ [((ln : Int), gr, Ur)]).isEmpty) = true := by simp
   show AlB d zA cA wA dA tA sA cl B2 P m1 m2 dc tc sc zc cc wc (b15 + 1) (b15 + 2) B ta xc hn hc xL lo hi 0 (-1) 0 xA hA Xs bA d.nz bc s0 s1 w S (w.heap.size + 2) b13 b14 b15 lb mb N m (!(pre ++ [((ln : Int), gr, Ur)]).isEmpty) (fLA d ta hn m xL Xs cs ((pre ++ [((ln : Int), gr, Ur)]).map Prod.fst)) (gLA d ta hn m xL Xs cs ((pre ++ [((ln : Int), gr, Ur)]).map Prod.fst)) w2
   rw [e, List.map_append]
   refine AlB.congr h.2 (fun k hk => ?_) (fun k hk => ?_)
   ·
    rw [show List.map Prod.fst [((ln : Int), gr, Ur)] = [(ln : Int)] from rfl, fLA_app]
    cases pre with
    | nil => rfl
    | cons a l => rfl
   · exact M.mostA_app.symm
  | ret => exact h.2.elim
  | exit id => exact h.2.elim
  | goto t => exact h.2.elim
  | panic ps => exact h
  | outgrown => exact h
 case hdone =>
  intro D xs V hD hS hI hdf
  obtain ⟨ls, hls⟩ : ∃ ls, ls = xs.map Prod.fst := ⟨_, rfl⟩
  have hlx : ls = leeL d (ta : Int) lo hi xL hn Xs := by
   unfold leeL
   rw [Int.toNat_natCast, show d.s.nt - ta = m from by have := HTM.out; omega, hls]
   exact hS
  rw [← hls] at hI
  have HLX := Lib.hid hlx
  have HDF := Lib.hid hdf
  have HI := Lib.hid hI
  clear hS hI hdf hlx
  cases xs with
  | nil =>
   have x15 := HI.out.k15.cell 0
   rw [show (!([] : List (Int × Nat × (Nat → Value))).isEmpty) = false from rfl] at x15
   have HE := Lib.hid (show leeL d (ta : Int) lo hi xL hn Xs = [] from by rw [← HLX.out, hls]; rfl)
   go_wp2_with fail
   refine leaves_marks (lo := Z.heap.size) [D] V ⟨hD, HDF.out, fun x hx => (by cases hx), trivial⟩ fun w' hk => ⟨.tuple #[.int .i64 0, .int .i64 0, .int .i64 3], by simp [results, Tryz.f38, go_sem], ?_⟩
   have k1 := hk (fun _ X => Below w.heap.size w X) (fun _ X Y row hs hg hr => hs.grown hg hs.size fun r e => by have := (hr r e).1; omega) HI.out.bw
   exact ⟨k1, .inl ⟨HE.out, rfl⟩⟩
  | cons x xr =>
   have x15 := HI.out.k15.cell 0
   rw [show (!(x :: xr).isEmpty) = true from rfl] at x15
   have hle : ls ≠ [] := by rw [hls]; simp
   have HE := Lib.hid (show leeL d (ta : Int) lo hi xL hn Xs ≠ [] from by rw [← HLX.out]; exact hle)
   have HS1 := Lib.hid (show M.fstB (fun i => decide (s0 ≤ gLA d ta hn m xL Xs cs ls i)) m = sureA d ta hn lo hi xL Xs cs s0 from by
    have h9 := HTM.out
    unfold sureA M.sureN gLA
    rw [← HLX.out, show d.s.nt - ta - 1 = m - 1 from by omega, show m - 1 + 1 = m from by omega])
   have HS2 := Lib.hid (show M.fstB (fun i => decide (s1 ≤ fLA d ta hn m xL Xs cs ls i)) m = mayA d ta hn lo hi xL Xs cs s1 from by
    have h9 := HTM.out
    unfold mayA M.mayN fLA
    rw [← HLX.out, show d.s.nt - ta - 1 = m - 1 from by omega, show m - 1 + 1 = m from by omega]
    simp only [if_neg hle])
   have HA := Lib.hid (fun (W : World) (hw : Below V.heap.size V W) (b : Nat) (f : Nat → Int) (s : Int) (hf : Rd1 V V.heap.size (some ⟨b, 0, none⟩) m f) => alive1_any (A := some ⟨b, 0, none⟩) (n := m) (c := m) (f := f) (s := s) (P := P) (tA := tA) (nt := d.s.nt) (tc := tc) (ta := ta) W (by unfold maxLen; omega) (hf.below hw) hw.size (HI.out.k11.below' hw) ((HI.out.ch.sm.box.below' hw).cell 3) (Nat.lt_of_lt_of_le HI.out.ch.sm.box.lt hw.size) h60 HTM.out)
   have HA1 := Lib.hid (fun (W : World) (hw : Below V.heap.size V W) => HA.out W hw mb _ s0 (own_rdA HI.out.mm))
   have HA2 := Lib.hid (fun (W : World) (hw : Below V.heap.size V W) => HA.out W hw lb _ s1 (own_rdA HI.out.l))
   clear HA
   rw [HS1.out] at HA1
   rw [HS2.out] at HA2
   clear HS1 HS2 hle
   go_upto_region 50 with fail
   refine wp_nopanic ?_
   refine wp_region_T 14 (fun Z2 => Below V.heap.size V Z2) (by kernel_rfl) (Below.refl _ _).drew ?_
   intro hS
   refine tkA (i := 0) (v := ?_) rfl (by kernel_rfl) (.inl ⟨by kernel_rfl, ?_⟩) hS ?_
   rotate_left
   · (intro w' hw; have y1 := (HI.out.k7.below' hw).cell 1; have y2 := (HI.out.k7.below' hw).cell 2; have y3 := (HI.out.k13.below' hw).cell 0; have y4 := (HI.out.k14.below' hw).cell 0; go_simp; try with_reducible rfl)
   try simp only [put_laws]
   refine tkA (i := 1) (v := ?_) rfl (by kernel_rfl) (.inl ⟨by kernel_rfl, ?_⟩) hS ?_
   rotate_left
   · (intro w' hw; have y1 := (HI.out.k7.below' hw).cell 1; have y2 := (HI.out.k7.below' hw).cell 2; have y3 := (HI.out.k13.below' hw).cell 0; have y4 := (HI.out.k14.below' hw).cell 0; go_simp; try with_reducible rfl)
   try simp only [put_laws]
   refine tkA (i := 2) (v := ?_) rfl (by kernel_rfl) (.inl ⟨by kernel_rfl, ?_⟩) hS ?_
   rotate_left
   · (intro w' hw; have y1 := (HI.out.k7.below' hw).cell 1; have y2 := (HI.out.k7.below' hw).cell 2; have y3 := (HI.out.k13.below' hw).cell 0; have y4 := (HI.out.k14.below' hw).cell 0; go_simp; try with_reducible rfl)
   try simp only [put_laws]
   refine tkA (i := 3) (v := ?_) rfl (by kernel_rfl) (.inl ⟨by kernel_rfl, ?_⟩) hS ?_
   rotate_left
   · (intro w' hw; have y1 := (HI.out.k7.below' hw).cell 1; have y2 := (HI.out.k7.below' hw).cell 2; have y3 := (HI.out.k13.below' hw).cell 0; have y4 := (HI.out.k14.below' hw).cell 0; go_simp; try with_reducible rfl)
   try simp only [put_laws]
   refine tkA (i := 4) (v := ?_) rfl (by kernel_rfl) (.inl ⟨by kernel_rfl, ?_⟩) hS ?_
   rotate_left
   · (intro w' hw; have y1 := (HI.out.k7.below' hw).cell 1; have y2 := (HI.out.k7.below' hw).cell 2; have y3 := (HI.out.k13.below' hw).cell 0; have y4 := (HI.out.k14.below' hw).cell 0; go_simp; try with_reducible rfl)
   try simp only [put_laws]
   refine tkA (i := 6) (v := ?_) rfl (by kernel_rfl) (.inl ⟨by kernel_rfl, ?_⟩) hS ?_
   rotate_left
   · (intro w' hw; have y1 := (HI.out.k7.below' hw).cell 1; have y2 := (HI.out.k7.below' hw).cell 2; have y3 := (HI.out.k13.below' hw).cell 0; have y4 := (HI.out.k14.below' hw).cell 0; go_simp; try with_reducible rfl)
   try simp only [put_laws]
   refine tkA (i := 7) (v := ?_) rfl (by kernel_rfl) (.inl ⟨by kernel_rfl, ?_⟩) hS ?_
   rotate_left
   · (intro w' hw; have y1 := (HI.out.k7.below' hw).cell 1; have y2 := (HI.out.k7.below' hw).cell 2; have y3 := (HI.out.k13.below' hw).cell 0; have y4 := (HI.out.k14.below' hw).cell 0; go_simp; try with_reducible rfl)
   try simp only [put_laws]
   refine tkA (i := 8) (v := ?_) rfl (by kernel_rfl) (.inl ⟨by kernel_rfl, ?_⟩) hS ?_
   rotate_left
   · (intro w' hw; have y1 := (HI.out.k7.below' hw).cell 1; have y2 := (HI.out.k7.below' hw).cell 2; have y3 := (HI.out.k13.below' hw).cell 0; have y4 := (HI.out.k14.below' hw).cell 0; go_simp; try with_reducible rfl)
   try simp only [put_laws]
   refine tkA (i := 9) (v := ?_) rfl (by kernel_rfl) (.inl ⟨by kernel_rfl, ?_⟩) hS ?_
   rotate_left
   · (intro w' hw; have y1 := (HI.out.k7.below' hw).cell 1; have y2 := (HI.out.k7.below' hw).cell 2; have y3 := (HI.out.k13.below' hw).cell 0; have y4 := (HI.out.k14.below' hw).cell 0; go_simp; try with_reducible rfl)
   try simp only [put_laws]
   refine tkA (i := 10) (v := ?_) rfl (by kernel_rfl) (.inl ⟨by kernel_rfl, ?_⟩) hS ?_
   rotate_left
   · (intro w' hw; have y1 := (HI.out.k7.below' hw).cell 1; have y2 := (HI.out.k7.below' hw).cell 2; have y3 := (HI.out.k13.below' hw).cell 0; have y4 := (HI.out.k14.below' hw).cell 0; go_simp; try with_reducible rfl)
   try simp only [put_laws]
   refine wpAnyT_one (i := 5) (by kernel_rfl) rfl ?_
   intro K' hK'
   go_simp
   refine (HA1.out _ hS).mono ?_
   rintro e w5 ⟨rfl, hb5⟩
   have HB5 := Lib.hid (hS.trans (hb5.mono hS.size))
   clear hb5 hS
   have hS := HB5.out
   refine hK'.out _ _ (.inr hS) ?_
   clear hK' K'
   try simp only [put_laws]
   refine wpAnyT_one (i := 11) (by kernel_rfl) rfl ?_
   intro K' hK'
   go_simp
   refine (HA2.out _ hS).mono ?_
   rintro e w6 ⟨rfl, hb6⟩
   have HB6 := Lib.hid (hS.trans (hb6.mono hS.size))
   clear hb6 hS
   have hS := HB6.out
   refine hK'.out _ _ (.inr hS) ?_
   clear hK' K'
   try simp only [put_laws]
   refine tkA (i := 12) (v := ?_) rfl (by kernel_rfl) (.inl ⟨by kernel_rfl, ?_⟩) hS ?_
   rotate_left
   · (intro w' hw; go_simp; try with_reducible rfl)
   try simp only [put_laws]
   refine tkA (i := 13) (v := ?_) rfl (by kernel_rfl) (.inl ⟨by kernel_rfl, ?_⟩) hS ?_
   rotate_left
   · (intro w' hw; go_simp; try with_reducible rfl)
   try simp only [put_laws]
   refine wpAnyT_one (i := 14) (by kernel_rfl) rfl ?_
   intro K' hK'
   go_simp
   refine hK'.out _ _ (.inl rfl) ?_
   clear hK' K'
   try simp only [put_laws]
   refine wpAnyT_done (by kernel_rfl) ?_ _
   refine ⟨fun x e => (by cases e), ?_⟩
   go_wp2_with fail
   have hk6 : KeepsFrom Z.heap.size V w6 := KeepsFrom.of_grownBy (below_grown HB6.out none) fun _ e => by cases e
   refine leaves_marks (lo := Z.heap.size) [D] w6 ⟨hD, hk6.same D _ (by omega) HDF.out rfl, fun x hx => (by cases hx), trivial⟩ fun w' hk => ⟨.tuple #[.int .i64 ((ta : Int) + (sureA d ta hn lo hi xL Xs cs s0 : Nat) - 1), .int .i64 ((ta : Int) + (mayA d ta hn lo hi xL Xs cs s1 : Nat) - 1), .int .i64 0], by simp [results, Tryz.f38, go_sem], ?_⟩
   have k1 := hk (fun _ X => Below w.heap.size w X) (fun _ X Y row hs hg hr => hs.grown hg hs.size fun r e => by have := (hr r e).1; omega) (HI.out.bw.trans (HB6.out.mono HI.out.bw.size))
   exact ⟨k1, .inr ⟨HE.out, rfl⟩⟩
end
end Go.Proofs.YtnbeembnnjdmdaaGreatDoor
/- drift.Alive of a valid drift, drifter and sightings, walked. -/
namespace Go.Proofs.YtnbeembnnjdmdaaGreatDoor
open Go.RowKit Go.Maps Go.Shelf

section
variable {d : M.Dr} {zA cA wA dA tA sA xA hA bA : Option Addr} {cl : Nat → Nat} {B dc tc sc zc cc wc xc hn hc ta bn bc : Nat} {lo hi s0 s1 : Int} {xL : List Int} {Xs : Nat → SgV} {cs : Nat → Nat → Int} {w : World}
attribute [local go_sem] Oper.semAt_some
set_option maxRecDepth 100000 in
set_option maxHeartbeats 12800000 in
theorem alive_ok (hd : d.Ok) (hcl : ∀ i, i < d.nz → cl i + 1 = d.s.nt) (hR : RdD w B dA tA sA zA cA wA d.s.nd d.s.nt d.s.nt d.s.nd d.nz (d.s.nt - 1) d.s.dep d.s.tide d.s.sw d.z cl d.cu d.wd) (hB : B ≤ w.heap.size) (hW : Ways w)
  (hx3 : Rd1 w B xA xL.length (fun k => xL.getD k 0)) (hx4 : xL.length ≤ maxLen) (hRS : RdS w B hA hn Xs) (hhn : hn ≤ maxLen) (hF : Fre w) (hX : chkX d.s.nd d.s.nt (ta : Int) lo hi xL = true) (hS : chkS d.s.nd d.s.nt (ta : Int) hn Xs = true) (hb : Rd w B bA 2 bn cs) (hbm : bn ≤ maxLen) (hbo : M.bodB d.nz bn cs s0 s1 = true) :
  Calls Tryz.prog 38 #[.agg #[.int .i64 (d.s.W : Int), .int .i64 (d.s.H : Int), .slice dA d.s.nd dc, .slice tA d.s.nt tc, .slice sA d.s.nt sc, .slice zA d.s.nd zc, .slice cA d.nz cc, .slice wA (d.s.nt - 1) wc], .agg #[.int .i64 (ta : Int), .slice xA xL.length xc, .int .i64 lo, .int .i64 hi], .slice hA hn hc, .agg #[.slice bA bn bc, .int .i64 s0, .int .i64 s1]] w (AlvR d ta hn lo hi xL Xs cs s0 s1 w) := by
 obtain ⟨⟨ha1, ha2⟩, hxl, ⟨hx1, hx2⟩, hl1, hl2, hl3⟩ := chkX_bd hX
 have h60 := hd.s.t2
 have h1n := hd.s.t1
 have hnd := hd.s.nd1
 have hnz := hd.z4
 have hxm : xL.length ≤ 1048576 := by have := M.asc_len hx1 (fun x hx => ⟨by have := hx2 x hx; omega, (hx2 x hx).2⟩); omega
 unfold M.bodB at hbo
 simp only [Bool.and_eq_true, decide_eq_true_eq] at hbo
 obtain ⟨⟨hbn, hba⟩, hbs⟩ := hbo
 subst hbn
 have HCS := Lib.hid (show ∀ i, i < d.nz → 0 ≤ cs i 0 ∧ cs i 0 ≤ cs i 1 ∧ cs i 1 ≤ 100 from fun i hi => by have := M.allTo_iff.1 hba i hi; unfold M.spanOk at this; simp only [Bool.and_eq_true, decide_eq_true_eq] at this; exact ⟨this.1.1, this.1.2, this.2⟩)
 have HBA := Lib.hid hba
 have HBS := Lib.hid (show (decide (0 ≤ s0) && decide (s0 ≤ s1) && decide (s1 ≤ 100000)) = true from hbs)
 have hsb : 0 ≤ s0 ∧ s0 ≤ s1 ∧ s1 ≤ 100000 := by have := HBS.out; simp only [Bool.and_eq_true, decide_eq_true_eq] at this; exact ⟨this.1.1, this.1.2, this.2⟩
 clear hba hbs
 obtain ⟨m, hm⟩ : ∃ m, m = d.s.nt - ta := ⟨_, rfl⟩
 have hm1 : ta + m = d.s.nt := by omega
 have hm2 : 1 ≤ m := by omega
 have hm60 : m ≤ 60 := by omega
 have hbY := belowAlloc3 w (.cells #[.int .i64 (d.s.W : Int), .int .i64 (d.s.H : Int), .slice dA d.s.nd dc, .slice tA d.s.nt tc, .slice sA d.s.nt sc, .slice zA d.s.nd zc, .slice cA d.nz cc, .slice wA (d.s.nt - 1) wc] 29) (.cells #[.int .i64 (ta : Int), .slice xA xL.length xc, .int .i64 lo, .int .i64 hi] 44) (.cells #[.slice bA d.nz bc, .int .i64 s0, .int .i64 s1] 73)
 have hO := begin_ok (at_ := (ta : Int)) (lo := lo) (hi := hi) (xc := xc) (hc := hc) (dc := dc) (tc := tc) (sc := sc) (zc := zc) (cc := cc) (wc := wc) hd hcl (hR.below (hbY.mono hB)) (Nat.le_trans hB hbY.size) (hW.below hbY) (hx3.below (hbY.mono hB)) hx4 (hRS.below (hbY.mono hB)) hhn
 have K7 := Lib.hid (Blk.new2 w (.cells #[.int .i64 (d.s.W : Int), .int .i64 (d.s.H : Int), .slice dA d.s.nd dc, .slice tA d.s.nt tc, .slice sA d.s.nt sc, .slice zA d.s.nd zc, .slice cA d.nz cc, .slice wA (d.s.nt - 1) wc] 29) (.cells #[.int .i64 (ta : Int), .slice xA xL.length xc, .int .i64 lo, .int .i64 hi] 44) 73 #[.slice bA d.nz bc, .int .i64 s0, .int .i64 s1])
 have HO := Lib.hid (hO.mono (R' := fun e w' => ∃ B2 P m1 m2, w.heap.size ≤ B2 ∧ Below w.heap.size w w' ∧ e = .returned (.tuple #[.agg #[.pointer (some ⟨P, 0, none⟩), .int .i64 (ta : Int), .slice xA xL.length xc, .int .i64 lo, .int .i64 hi, .slice hA hn hc], .int .i64 0]) ∧ SeaM d zA cA wA dA tA sA cl B2 P m1 m2 #[.int .i64 (d.s.W : Int), .int .i64 (d.s.H : Int), .slice dA d.s.nd dc, .slice tA d.s.nt tc, .slice sA d.s.nt sc, .slice zA d.s.nd zc, .slice cA d.nz cc, .slice wA (d.s.nt - 1) wc, .map (some m1), .map (some m2)] (own3 P m1 m2) w' ∧ Blk w' (w.heap.size + 2) 73 #[.slice bA d.nz bc, .int .i64 s0, .int .i64 s1] ∧ w.heap.size + 3 ≤ B2) fun e w' h => by
  obtain ⟨hb, h⟩ := h
  rcases h with ⟨h1, h2⟩ | ⟨h1, h2, h3⟩ | ⟨h1, h2, B2, P, m1, m2, h3, h4, h5⟩
  · rw [hX] at h1; cases h1
  · rw [hS] at h2; cases h2
  ·
   refine ⟨B2, P, m1, m2, Nat.le_trans hbY.size h3, hbY.trans (hb.mono hbY.size), h4, h5, K7.out.below' hb, ?_⟩
   simpa using h3)
 have HFW := Lib.hid (fun (V : World) (hb : Below w.heap.size w V) => hF.below hb)
 have HRS := Lib.hid hRS
 have HX3 := Lib.hid hx3
 have HBD := Lib.hid (fun (V : World) (h : Below w.heap.size w V) => hb.below (h.mono hB))
 have HD := Lib.hid hd
 have HTL := Lib.hid (And.intro hhn (And.intro hx1 (And.intro hx2 (And.intro hxm (And.intro hm2 (And.intro hl1 (And.intro hl2 (And.intro hl3 (And.intro hF hb)))))))))
 have HM1 := Lib.hid hm1
 clear hF hO hbY hR hd hcl hW hx3 hRS hx1 hx2 hX hS hm hm1 hb K7
 refine (callsIn_wide (n := 4)).1 ?_
 refine callsIn_of_wp_marks Tryz.func38 rfl trivial ?_ rfl
 simp only [Tryz.ntmps38, List.size_toArray, List.length_cons, List.length_nil, Nat.reduceAdd, Nat.reduceSub, Array.replicate_succ, Array.replicate_zero, List.push_toArray, List.append_toArray, List.nil_append, List.cons_append]
 refine wpIn_wide.2 ?_
 go_upto_region 2 with (go_at_call 55; refine HO.out.mono ?_; rintro e w1 ⟨B2, P, m1, m2, hB2, hb, rfl, hM, hk7, hB3⟩; have HB1 := Lib.hid hb; have HMM := Lib.hid hM; have HB2 := Lib.hid hB2; have K7 := Lib.hid hk7; have HB3 := Lib.hid hB3; clear hb hM hB2 hk7 hB3)
 have hbl := belowAlloc w1 (.cells #[.pointer (some ⟨P, 0, none⟩), .int .i64 (ta : Int), .slice xA xL.length xc, .int .i64 lo, .int .i64 hi, .slice hA hn hc] 105)
 have K11 := Lib.hid (Blk.new w1 105 #[.pointer (some ⟨P, 0, none⟩), .int .i64 (ta : Int), .slice xA xL.length xc, .int .i64 lo, .int .i64 hi, .slice hA hn hc])
 have HMY := Lib.hid (HMM.out.below hbl)
 have HBY := Lib.hid (HB1.out.trans (hbl.mono HB1.out.size))
 have K7Y := Lib.hid (K7.out.below' hbl)
 have HSW := Lib.hid HB1.out.size
 have HSB := Lib.hid (show B2 ≤ w1.heap.size from HMM.out.b.2.2.2.2)
 simp only [Nat.add_assoc, Nat.reduceAdd]
 generalize hY : w1.alloc (.cells #[.pointer (some ⟨P, 0, none⟩), .int .i64 (ta : Int), .slice xA xL.length xc, .int .i64 lo, .int .i64 hi, .slice hA hn hc] 105) = Y at K11 HMY HBY K7Y ⊢
 have HSY := Lib.hid (show Y.heap.size = w1.heap.size + 1 from by rw [← hY]; simp)
 clear hY hbl HMM HB1 K7
 generalize w1.heap.size = S at K11 HSY HSW HSB ⊢
 go_upto_region 4 with fail
 refine wp_nopanic ?_
 refine wp_region_T 25 (fun Z2 => Below Y.heap.size Y Z2) (by kernel_rfl) (Below.refl _ _).drew ?_
 intro hS
 refine tkA (i := 0) (v := ?_) rfl (by kernel_rfl) (.inl ⟨by kernel_rfl, ?_⟩) hS ?_
 rotate_left
 · (intro w' hw; obtain ⟨y0, y1, y2⟩ := (K7Y.out.below' hw).c3; have c0 := (K11.out.below' hw).cell 0; have p6 := (HMY.out.below hw).box.cell 6; go_simp; try with_reducible rfl)
 try simp only [put_laws]
 refine tkA (i := 1) (v := ?_) rfl (by kernel_rfl) (.inl ⟨by kernel_rfl, ?_⟩) hS ?_
 rotate_left
 · (intro w' hw; obtain ⟨y0, y1, y2⟩ := (K7Y.out.below' hw).c3; have c0 := (K11.out.below' hw).cell 0; have p6 := (HMY.out.below hw).box.cell 6; go_simp; try with_reducible rfl)
 try simp only [put_laws]
 refine tkA (i := 2) (v := ?_) rfl (by kernel_rfl) (.inl ⟨by kernel_rfl, ?_⟩) hS ?_
 rotate_left
 · (intro w' hw; obtain ⟨y0, y1, y2⟩ := (K7Y.out.below' hw).c3; have c0 := (K11.out.below' hw).cell 0; have p6 := (HMY.out.below hw).box.cell 6; go_simp; try with_reducible rfl)
 try simp only [put_laws]
 refine tkA (i := 3) (v := ?_) rfl (by kernel_rfl) (.inl ⟨by kernel_rfl, ?_⟩) hS ?_
 rotate_left
 · (intro w' hw; obtain ⟨y0, y1, y2⟩ := (K7Y.out.below' hw).c3; have c0 := (K11.out.below' hw).cell 0; have p6 := (HMY.out.below hw).box.cell 6; go_simp; try with_reducible rfl)
 try simp only [put_laws]
 refine tkA (i := 4) (v := ?_) rfl (by kernel_rfl) (.inl ⟨by kernel_rfl, ?_⟩) hS ?_
 rotate_left
 · (intro w' hw; obtain ⟨y0, y1, y2⟩ := (K7Y.out.below' hw).c3; have c0 := (K11.out.below' hw).cell 0; have p6 := (HMY.out.below hw).box.cell 6; go_simp; try with_reducible rfl)
 try simp only [put_laws]
 refine tkA (i := 5) (v := ?_) rfl (by kernel_rfl) (.inl ⟨by kernel_rfl, ?_⟩) hS ?_
 rotate_left
 · (intro w' hw; obtain ⟨y0, y1, y2⟩ := (K7Y.out.below' hw).c3; have c0 := (K11.out.below' hw).cell 0; have p6 := (HMY.out.below hw).box.cell 6; go_simp; try with_reducible rfl)
 try simp only [put_laws]
 refine tkA (i := 6) (v := ?_) rfl (by kernel_rfl) (.inl ⟨by kernel_rfl, ?_⟩) hS ?_
 rotate_left
 · (intro w' hw; obtain ⟨y0, y1, y2⟩ := (K7Y.out.below' hw).c3; have c0 := (K11.out.below' hw).cell 0; have p6 := (HMY.out.below hw).box.cell 6; go_simp; try with_reducible rfl)
 try simp only [put_laws]
 refine tkA (i := 7) (v := ?_) rfl (by kernel_rfl) (.inl ⟨by kernel_rfl, ?_⟩) hS ?_
 rotate_left
 · (intro w' hw; obtain ⟨y0, y1, y2⟩ := (K7Y.out.below' hw).c3; have c0 := (K11.out.below' hw).cell 0; have p6 := (HMY.out.below hw).box.cell 6; go_simp; try with_reducible rfl)
 try simp only [put_laws]
 refine tkA (i := 8) (v := ?_) rfl (by kernel_rfl) (.inl ⟨by kernel_rfl, ?_⟩) hS ?_
 rotate_left
 · (intro w' hw; obtain ⟨y0, y1, y2⟩ := (K7Y.out.below' hw).c3; have c0 := (K11.out.below' hw).cell 0; have p6 := (HMY.out.below hw).box.cell 6; go_simp; try with_reducible rfl)
 try simp only [put_laws]
 refine tkA (i := 9) (v := ?_) rfl (by kernel_rfl) (.inl ⟨by kernel_rfl, ?_⟩) hS ?_
 rotate_left
 · (intro w' hw; obtain ⟨y0, y1, y2⟩ := (K7Y.out.below' hw).c3; have c0 := (K11.out.below' hw).cell 0; have p6 := (HMY.out.below hw).box.cell 6; go_simp; try with_reducible rfl)
 try simp only [put_laws]
 refine tkA (i := 10) (v := ?_) rfl (by kernel_rfl) (.inl ⟨by kernel_rfl, ?_⟩) hS ?_
 rotate_left
 · (intro w' hw; obtain ⟨y0, y1, y2⟩ := (K7Y.out.below' hw).c3; have c0 := (K11.out.below' hw).cell 0; have p6 := (HMY.out.below hw).box.cell 6; go_simp; try with_reducible rfl)
 try simp only [put_laws]
 refine tkA (i := 11) (v := ?_) rfl (by kernel_rfl) (.inl ⟨by kernel_rfl, ?_⟩) hS ?_
 rotate_left
 · (intro w' hw; obtain ⟨y0, y1, y2⟩ := (K7Y.out.below' hw).c3; have c0 := (K11.out.below' hw).cell 0; have p6 := (HMY.out.below hw).box.cell 6; go_simp; try with_reducible rfl)
 try simp only [put_laws]
 refine tkA (i := 12) (v := ?_) rfl (by kernel_rfl) (.inl ⟨by kernel_rfl, ?_⟩) hS ?_
 rotate_left
 · (intro w' hw; obtain ⟨y0, y1, y2⟩ := (K7Y.out.below' hw).c3; have c0 := (K11.out.below' hw).cell 0; have p6 := (HMY.out.below hw).box.cell 6; go_simp; try with_reducible rfl)
 try simp only [put_laws]
 refine tkA (i := 13) (v := ?_) rfl (by kernel_rfl) (.inl ⟨by kernel_rfl, ?_⟩) hS ?_
 rotate_left
 · (intro w' hw; obtain ⟨y0, y1, y2⟩ := (K7Y.out.below' hw).c3; have c0 := (K11.out.below' hw).cell 0; have p6 := (HMY.out.below hw).box.cell 6; go_simp; try with_reducible rfl)
 try simp only [put_laws]
 refine tkA (i := 14) (v := ?_) rfl (by kernel_rfl) (.inl ⟨by kernel_rfl, ?_⟩) hS ?_
 rotate_left
 · (intro w' hw; obtain ⟨y0, y1, y2⟩ := (K7Y.out.below' hw).c3; have c0 := (K11.out.below' hw).cell 0; have p6 := (HMY.out.below hw).box.cell 6; go_simp; try with_reducible rfl)
 try simp only [put_laws]
 refine tkA (i := 15) (v := ?_) rfl (by kernel_rfl) (.inl ⟨by kernel_rfl, ?_⟩) hS ?_
 rotate_left
 · (intro w' hw; obtain ⟨y0, y1, y2⟩ := (K7Y.out.below' hw).c3; have c0 := (K11.out.below' hw).cell 0; have p6 := (HMY.out.below hw).box.cell 6; go_simp; try with_reducible rfl)
 try simp only [put_laws]
 refine wpAnyT_one (i := 16) (by kernel_rfl) rfl ?_
 intro K' hK'
 go_simp
 refine (dallspan_any bA d.nz bc B cs Y.drew hbm (HBD.out _ (HBY.out.trans (hS.mono HBY.out.size))) (Nat.le_trans hB (Nat.le_trans HBY.out.size hS.size))).mono ?_
 rintro e w6 ⟨rfl, hb6⟩
 rw [HBA.out]
 have HB6 := Lib.hid (hS.trans (hb6.mono hS.size))
 clear hb6 hS
 have hS := HB6.out
 refine hK'.out _ _ (.inr hS) ?_
 clear hK' K'
 try simp only [put_laws]
 refine tkA (i := 17) (v := ?_) rfl (by kernel_rfl) (.inl ⟨by kernel_rfl, ?_⟩) hS ?_
 rotate_left
 · (intro w' hw; obtain ⟨y0, y1, y2⟩ := (K7Y.out.below' hw).c3; have c0 := (K11.out.below' hw).cell 0; have p6 := (HMY.out.below hw).box.cell 6; go_simp; try with_reducible rfl)
 try simp only [put_laws]
 refine tkA (i := 18) (v := ?_) rfl (by kernel_rfl) (.inl ⟨by kernel_rfl, ?_⟩) hS ?_
 rotate_left
 · (intro w' hw; obtain ⟨y0, y1, y2⟩ := (K7Y.out.below' hw).c3; have c0 := (K11.out.below' hw).cell 0; have p6 := (HMY.out.below hw).box.cell 6; go_simp; try with_reducible rfl)
 try simp only [put_laws]
 refine tkA (i := 19) (v := ?_) rfl (by kernel_rfl) (.inl ⟨by kernel_rfl, ?_⟩) hS ?_
 rotate_left
 · (intro w' hw; obtain ⟨y0, y1, y2⟩ := (K7Y.out.below' hw).c3; have c0 := (K11.out.below' hw).cell 0; have p6 := (HMY.out.below hw).box.cell 6; go_simp; try with_reducible rfl)
 try simp only [put_laws]
 refine tkA (i := 20) (v := ?_) rfl (by kernel_rfl) (.inl ⟨by kernel_rfl, ?_⟩) hS ?_
 rotate_left
 · (intro w' hw; obtain ⟨y0, y1, y2⟩ := (K7Y.out.below' hw).c3; have c0 := (K11.out.below' hw).cell 0; have p6 := (HMY.out.below hw).box.cell 6; go_simp; try with_reducible rfl)
 try simp only [put_laws]
 refine tkA (i := 21) (v := ?_) rfl (by kernel_rfl) (.inl ⟨by kernel_rfl, ?_⟩) hS ?_
 rotate_left
 · (intro w' hw; obtain ⟨y0, y1, y2⟩ := (K7Y.out.below' hw).c3; have c0 := (K11.out.below' hw).cell 0; have p6 := (HMY.out.below hw).box.cell 6; go_simp; try with_reducible rfl)
 try simp only [put_laws]
 refine tkA (i := 22) (v := ?_) rfl (by kernel_rfl) (.inl ⟨by kernel_rfl, ?_⟩) hS ?_
 rotate_left
 · (intro w' hw; obtain ⟨y0, y1, y2⟩ := (K7Y.out.below' hw).c3; have c0 := (K11.out.below' hw).cell 0; have p6 := (HMY.out.below hw).box.cell 6; go_simp; try with_reducible rfl)
 try simp only [put_laws]
 refine wpAnyT_one (i := 23) (by kernel_rfl) rfl ?_
 intro K' hK'
 go_simp
 refine (dhas_any 0 100000 s0 s1 w6).mono ?_
 rintro e w7 ⟨rfl, hb7⟩
 rw [HBS.out]
 have HB7 := Lib.hid (HB6.out.trans (hb7.mono HB6.out.size))
 clear hb7 hS
 have hS := HB7.out
 refine hK'.out _ _ (.inr hS) ?_
 clear hK' K'
 try simp only [put_laws]
 refine tkA (i := 24) (v := ?_) rfl (by kernel_rfl) (.inl ⟨by kernel_rfl, ?_⟩) hS ?_
 rotate_left
 · (intro w' hw; obtain ⟨y0, y1, y2⟩ := (K7Y.out.below' hw).c3; have c0 := (K11.out.below' hw).cell 0; have p6 := (HMY.out.below hw).box.cell 6; go_simp; try with_reducible rfl)
 try simp only [put_laws]
 refine wpAnyT_one (i := 25) (by kernel_rfl) rfl ?_
 intro K' hK'
 go_simp
 refine hK'.out _ _ (.inl rfl) ?_
 clear hK' K'
 try simp only [put_laws]
 refine wpAnyT_done (by kernel_rfl) ?_ _
 refine ⟨fun x e => (by cases e), ?_⟩
 have HMZ := Lib.hid (HMY.out.below HB7.out)
 have HBZ := Lib.hid (HBY.out.trans (HB7.out.mono HBY.out.size))
 have K7Z := Lib.hid (K7Y.out.below' HB7.out)
 have K11Z := Lib.hid (K11.out.below' HB7.out)
 have HSZ := Lib.hid (show S < w7.heap.size from by have := HB7.out.size; have := HSY.out; omega)
 clear hS HMY HBY K7Y K11 HB6 HB7 HSY
 clear w6 Y
 have HL6 := Lib.hid (fun (V : World) (hv : Below w7.heap.size w7 V) => dlast_any P d.s.nt tc tA V ((HMZ.out.below hv).box.cell 3) (by unfold maxLen; omega))
 go_upto_region 6 with fail
 refine wp_nopanic ?_
 refine wp_region_T 8 (fun Z2 => Below w7.heap.size w7 Z2) (by kernel_rfl) (Below.refl _ _).drew ?_
 intro hS
 refine tkA (i := 0) (v := ?_) rfl (by kernel_rfl) (.inl ⟨by kernel_rfl, ?_⟩) hS ?_
 rotate_left
 · (intro w' hw; obtain ⟨c0, c1⟩ := (K11Z.out.below' hw).c2; go_simp; try with_reducible rfl)
 try simp only [put_laws]
 refine tkA (i := 1) (v := ?_) rfl (by kernel_rfl) (.inl ⟨by kernel_rfl, ?_⟩) hS ?_
 rotate_left
 · (intro w' hw; obtain ⟨c0, c1⟩ := (K11Z.out.below' hw).c2; go_simp; try with_reducible rfl)
 try simp only [put_laws]
 refine tkA (i := 3) (v := ?_) rfl (by kernel_rfl) (.inl ⟨by kernel_rfl, ?_⟩) hS ?_
 rotate_left
 · (intro w' hw; obtain ⟨c0, c1⟩ := (K11Z.out.below' hw).c2; go_simp; try with_reducible rfl)
 try simp only [put_laws]
 refine tkA (i := 4) (v := ?_) rfl (by kernel_rfl) (.inl ⟨by kernel_rfl, ?_⟩) hS ?_
 rotate_left
 · (intro w' hw; obtain ⟨c0, c1⟩ := (K11Z.out.below' hw).c2; go_simp; try with_reducible rfl)
 try simp only [put_laws]
 refine tkA (i := 5) (v := ?_) rfl (by kernel_rfl) (.inl ⟨by kernel_rfl, ?_⟩) hS ?_
 rotate_left
 · (intro w' hw; obtain ⟨c0, c1⟩ := (K11Z.out.below' hw).c2; go_simp; try with_reducible rfl)
 try simp only [put_laws]
 refine wpAnyT_one (i := 2) (by kernel_rfl) rfl ?_
 intro K' hK'
 go_simp
 refine (HL6.out w7.drew hS).mono ?_
 rintro e w8 ⟨rfl, hw8⟩
 rw [hw8]
 clear hw8 w8
 refine hK'.out _ _ (.inr hS) ?_
 clear hK' K'
 try simp only [put_laws]
 refine tkA (i := 6) (v := ?_) rfl (by kernel_rfl) (.inl ⟨by kernel_rfl, ?_⟩) hS ?_
 rotate_left
 · (intro w' hw; obtain ⟨c0, c1⟩ := (K11Z.out.below' hw).c2; go_simp; try with_reducible rfl)
 try simp only [put_laws]
 refine tkA (i := 7) (v := ?_) rfl (by kernel_rfl) (.inl ⟨by kernel_rfl, ?_⟩) hS ?_
 rotate_left
 · (intro w' hw; obtain ⟨c0, c1⟩ := (K11Z.out.below' hw).c2; go_simp; try with_reducible rfl)
 try simp only [put_laws]
 refine wpAnyT_one (i := 8) (by kernel_rfl) rfl ?_
 intro K' hK'
 go_simp
 refine hK'.out _ _ (.inl rfl) ?_
 clear hK' K'
 try simp only [put_laws]
 refine wpAnyT_done (by kernel_rfl) ?_ _
 refine ⟨fun x e => (by cases e), ?_⟩
 have HWM := Lib.hid (show IntKind.i64.wrap (IntKind.i64.wrap ((d.s.nt : Int) - 1 - (ta : Int)) + 1) = (m : Int) from by have := HM1.out; rw [IntKind.wrap_i64, IntKind.wrap_i64]; omega)
 rw [HWM.out]
 clear HWM
 have hdr : Below w7.heap.size w7 w7.drew := (Below.refl _ _).drew
 have HMX := Lib.hid (HMZ.out.below hdr)
 have HBX := Lib.hid (HBZ.out.trans (hdr.mono HBZ.out.size))
 have K7X := Lib.hid (K7Z.out.below' hdr)
 have K11X := Lib.hid (K11Z.out.below' hdr)
 have HSX := Lib.hid (show S < w7.drew.heap.size from HSZ.out)
 clear hS hdr HMZ HBZ K7Z K11Z HSZ HL6
 generalize w7.drew = X at HMX HBX K7X K11X HSX ⊢
 simp only [Exit.then]
 obtain ⟨g1, g2, g3, g4, g5, g6, g7, g8, g9, g10⟩ := HTL.out
 apply_assumption
 exact alive_tail HD.out g1 g2 g3 g4 HM1.out g5 g6 g7 g8 hB g10 HCS.out HX3.out HRS.out g9 HMX.out HBX.out K7X.out K11X.out HSX.out HB2.out HSB.out
end
end Go.Proofs.YtnbeembnnjdmdaaGreatDoor
