/- drift.Alive: the body of its range over the leeways. -/
import Derived.Test.YtnbeembnnjdmdaaGreatDoorA2
import Derived.Test.YtnbeembnnjdmdaaGreatDoorD21
namespace Go.Proofs.YtnbeembnnjdmdaaGreatDoor
open Go.RowKit Go.Maps Go.Shelf

def rfO : Code → Option Code
 | .rangeFunc _ _ _ b => some b
 | .block _ c => rfO c
 | .seq a b => match rfO a with
  | some c => some c
  | none => rfO b
 | _ => none
def rfBody (f : Func) : Code :=
 match f.body with
 | some b => (rfO b).getD .skip
 | none => .skip
theorem nodup_len : ∀ {l r : List Int}, l.Nodup → (∀ x, x ∈ l → x ∈ r) → l.length ≤ r.length
 | [], _, _, _ => Nat.zero_le _
 | a :: l, r, h, hs => by
  obtain ⟨h1, h2⟩ := List.nodup_cons.1 h
  have h3 := hs a List.mem_cons_self
  have h4 := nodup_len (r := r.erase a) h2 fun x hx => (List.mem_erase_of_ne (fun e => h1 (by rw [← e]; exact hx))).2 (hs x (List.mem_cons_of_mem _ hx))
  rw [List.length_erase_of_mem h3] at h4
  have := List.length_pos_of_mem h3
  simp only [List.length_cons]
  omega
theorem putF_step {f F : Nat → Int} {k : Nat} {nv : Int} (h : F k = nv) (i : Nat) : putF (fun i => if i < k then F i else f i) k nv i = (fun i => if i < k + 1 then F i else f i) i := by
 unfold putF
 by_cases e : i = k
 ·
  rw [if_pos e, e]
  show nv = if k < k + 1 then F k else f k
  rw [if_pos (Nat.lt_succ_self k), h]
 ·
  rw [if_neg e]
  show (if i < k then F i else f i) = if i < k + 1 then F i else f i
  by_cases e2 : i < k
  · rw [if_pos e2, if_pos (by omega)]
  · rw [if_neg e2, if_neg (by omega)]
theorem nodup_snoc {l : List Int} {c : Int} (h : l.Nodup) (hc : c ∉ l) : (l ++ [c]).Nodup := List.nodup_append.2 ⟨h, by simp, fun a ha b hb e => hc (by rw [← List.mem_singleton.1 hb, ← e]; exact ha)⟩
theorem keepsV {Zs : Nat} {V A A' : World} {row : Option Nat} (h : KeepsFrom Zs V A) (hg : A.grownBy A' row) (hr : ∀ r, row = some r → V.heap.size ≤ r) : KeepsFrom Zs V A' :=
 ⟨Nat.le_trans h.size hg.size, fun k o hB hk ho => (hg.block k (Array.getElem?_eq_some_iff.1 (h.same k o hB hk ho)).1 (fun e => by have := hr k e.symm; have := (Array.getElem?_eq_some_iff.1 hk).1; omega)).trans (h.same k o hB hk ho)⟩
theorem SpM.note {W : World} {b n : Nat} {v : Int → Option (Int × Int)} (h : SpM W b n v) : ∃ o, W.heap[b]? = some o ∧ o.isCells = false := by
 obtain ⟨es, clock, hb⟩ := h.map
 exact ⟨_, hb, rfl⟩
theorem RgM.note {W : World} {b r n : Nat} {v : Int → Option (Int × Int)} {vis : List Int} (h : RgM W b r n v vis) : ∃ o, W.heap[r]? = some o ∧ o.isCells = false := by
 obtain ⟨_, _, _, _, hb⟩ := h.iter
 exact ⟨_, hb, rfl⟩
theorem wpListIn_look {F : Fence} {n : Nat} (w : World) {ops : Array Oper} {rest : List Oper} {o : Oper} {a : Act} {Q : Exit → Act → World → Prop} (hg : o.guard = none) (m k : Operand) (t : TypeId) (hop : o.op = Op.lookup t m k true) (b : Nat) (key v : Value) (hm : a.eval m = .map (some b)) (hk : a.eval k = key)
  (hrun : (Instr.lookup t (.map (some b)) key true).run Tryz.prog w = .ok v w) (hK : wpListIn F n Tryz.prog ops Q rest (a.put o.dst v) w) : wpListIn F n Tryz.prog ops Q (o :: rest) a w := by
 refine wpListIn_plain hg fun K hK' => ?_
 unfold Oper.wpIn
 refine ⟨?_, ?_⟩
 · simp [Oper.about, hop]
 ·
  rw [Oper.semAt_plain F _ _ (by rw [hop]; intro c hc'; cases hc')]
  simp [execOp, hop, hm, hk, hrun, Result.andThen]
  exact hK' _ _ hK
section
variable {d : M.Dr} {zA cA wA dA tA sA : Option Addr} {cl : Nat → Nat} {B P m1 m2 dc tc sc zc cc wc : Nat} {cb fb B' ta xc hn hc : Nat} {xL : List Int} {lo hi fc ft fl : Int} {xA hA : Option Addr} {Xs : Nat → SgV} {bA : Option Addr} {bn bc : Nat} {s0 s1 : Int} {w : World} {b11 b7 b13 b14 b15 lb mb base m : Nat} {bB base2 ln gr lq : Nat} {Ur : Nat → Value} {RW : Nat → List Int} {cs : Nat → Nat → Int} {X : Int → Bool} {fit : Nat → Int → Bool} {q : Bool} {f g : Nat → Int} {V : World} {Zs : Nat}
attribute [local go_sem] Oper.semAt_some
set_option maxRecDepth 100000 in
set_option maxHeartbeats 25600000 in
theorem alive_body {v0 v1 v2 v3 v4 v5 v6 v8 v9 v10 v12 v18 v19 v20 v21 v22 v23 v24 v25 v26 v27 v28 v29 v30 v31 v32 v33 v34 v35 v36 v37 v38 v39 v40 v41 v42 v43 v44 v45 v46 v47 v48 v49 v50 v51 v52 v53 v54 v55 v56 v57 v58 v59 v60 v61 v62 v63 v64 v65 v66 v67 v68 v69 v70 v71 v72 v73 v74 v75 v76 v77 v78 v79 v80 v81 v82 v83 v84 v85 v86 v87 v88 v89 v90 v91 v92 v93 v94 v95 v96 v97 v98 v99 v100 v101 v102 v103 v104 v105 v106 v107 v108 v109 v110 v111 v112 v113 v114 v115 v116 v117 v118 v119 v120 v121 v122 v123 v124 v125 v126 v127 v128 v129 v130 v131 v132 v133 v134 v135 v136 v137 v138 v139 v140 v141 v142 v143 v144 v145 v146 v147 v148 v149 v150 v151 v152 v153 v154 v155 v156 v157 v158 v159 v160 v161 v162 v163 v164 v165 v166 v167 v168 v169 v170 v171 v172 v173 v174 v175 v176 v177 v178 v179 v180 v181 v182 v183 v184 v185 v186 v187 v188 v189 v190 v191 v192 v193 v194 v195 v196 v197 v198 v199 v200 v201 v202 v203 v204 v205 v206 v207 v208 v209 v210 v211 v212 v213 v214 v215 v216 v217 v218 v219 v220 v221 v222 v223 v224 v225 v226 v227 v228 v229 v230 v231 v232 v233 v234 : Value} (hd : d.Ok) (htm : ta + m = d.s.nt) (hm1 : 1 ≤ m) (hln : ln ≤ 8) (hb : Rd w bB bA 2 bn cs) (hbB : bB ≤ w.heap.size) (hbn : bn = d.nz) (hcs : ∀ i, i < bn → 0 ≤ cs i 0 ∧ cs i 0 ≤ cs i 1 ∧ cs i 1 ≤ 100)
  (hRW : RW = fun i => M.rwL d ta (ln : Int) X fit (m - 1) i) (hne : RW 0 ≠ []) (hal : AlC B B' w.heap.size b15 base) (hw1 : w.heap.size ≤ m1) (hw2 : w.heap.size ≤ m2)
  (hAl : AlB d zA cA wA dA tA sA cl B P m1 m2 dc tc sc zc cc wc cb fb B' ta xc hn hc xL lo hi fc ft fl xA hA Xs bA bn bc s0 s1 w b11 b7 b13 b14 b15 lb mb base m (q) (f) (g) V) (hR : RwO P m1 m2 base2 gr m Ur RW V) (hm1Z : m1 < Zs) (hm2Z : m2 < Zs) (hbs : b15 < Zs ∧ lb < Zs ∧ mb < Zs) (hVZ : Zs ≤ V.heap.size) (hbz : base ≤ Zs) (hb2 : Zs ≤ base2) :
  Code.wpIn (Fence.wide.inRound lq) 2 Tryz.prog (rfBody Tryz.f38) (roundPostB Zs (fun (_ : List Unit) W' => AlB d zA cA wA dA tA sA cl B P m1 m2 dc tc sc zc cc wc cb fb B' ta xc hn hc xL lo hi fc ft fl xA hA Xs bA bn bc s0 s1 w b11 b7 b13 b14 b15 lb mb base m (true) (fun i => if q then min (f i) (M.lowR d ta (ln : Int) X fit (m - 1) (M.costN d.s.nd d.z cs) i) else M.lowR d ta (ln : Int) X fit (m - 1) (M.costN d.s.nd d.z cs) i) (fun i => max (g i) (M.highR d ta (ln : Int) X fit (m - 1) (M.costN d.s.nd d.z cs) i)) W') (fun _ _ _ => False) [] V) { tmps := List.toArray (v0 :: v1 :: v2 :: v3 :: v4 :: v5 :: v6 :: .pointer (some ⟨b7, 0, none⟩) :: v8 :: v9 :: v10 :: .pointer (some ⟨b11, 0, none⟩) :: v12 :: .pointer (some ⟨b13, 0, none⟩) :: .pointer (some ⟨b14, 0, none⟩) :: .pointer (some ⟨b15, 0, none⟩) :: .int .i64 (ln : Int) :: .slice (some ⟨gr, 0, none⟩) m m :: v18 :: v19 :: v20 :: v21 :: v22 :: v23 :: v24 :: v25 :: v26 :: v27 :: v28 :: v29 :: v30 :: v31 :: v32 :: v33 :: v34 :: v35 :: v36 :: v37 :: v38 :: v39 :: v40 :: v41 :: v42 :: v43 :: v44 :: v45 :: v46 :: v47 :: v48 :: v49 :: v50 :: v51 :: v52 :: v53 :: v54 :: v55 :: v56 :: v57 :: v58 :: v59 :: v60 :: v61 :: v62 :: v63 :: v64 :: v65 :: v66 :: v67 :: v68 :: v69 :: v70 :: v71 :: v72 :: v73 :: v74 :: v75 :: v76 :: v77 :: v78 :: v79 :: v80 :: v81 :: v82 :: v83 :: v84 :: v85 :: v86 :: v87 :: v88 :: v89 :: v90 :: v91 :: v92 :: v93 :: v94 :: v95 :: v96 :: v97 :: v98 :: v99 :: v100 :: v101 :: v102 :: v103 :: v104 :: v105 :: v106 :: v107 :: v108 :: v109 :: v110 :: v111 :: v112 :: v113 :: v114 :: v115 :: v116 :: v117 :: v118 :: v119 :: v120 :: v121 :: v122 :: v123 :: v124 :: v125 :: v126 :: v127 :: v128 :: v129 :: v130 :: v131 :: v132 :: v133 :: v134 :: v135 :: v136 :: v137 :: v138 :: v139 :: v140 :: v141 :: v142 :: v143 :: v144 :: v145 :: v146 :: v147 :: v148 :: v149 :: v150 :: v151 :: v152 :: v153 :: v154 :: v155 :: v156 :: v157 :: v158 :: v159 :: v160 :: v161 :: v162 :: v163 :: v164 :: v165 :: v166 :: v167 :: v168 :: v169 :: v170 :: v171 :: v172 :: v173 :: v174 :: v175 :: v176 :: v177 :: v178 :: v179 :: v180 :: v181 :: v182 :: v183 :: v184 :: v185 :: v186 :: v187 :: v188 :: v189 :: v190 :: v191 :: v192 :: v193 :: v194 :: v195 :: v196 :: v197 :: v198 :: v199 :: v200 :: v201 :: v202 :: v203 :: v204 :: v205 :: v206 :: v207 :: v208 :: v209 :: v210 :: v211 :: v212 :: v213 :: v214 :: v215 :: v216 :: v217 :: v218 :: v219 :: v220 :: v221 :: v222 :: v223 :: v224 :: v225 :: v226 :: v227 :: v228 :: v229 :: v230 :: v231 :: v232 :: v233 :: v234 :: []), defers := [] } V := by
 have h60 := hd.s.t2
 have hnd := hd.s.nd1
 have hnz := hd.z4
 have hm60 : m ≤ 60 := by omega
 obtain ⟨co, hco⟩ : ∃ f, f = M.costN d.s.nd d.z cs := ⟨_, rfl⟩
 have HCO := Lib.hid (show ∀ p, 0 ≤ co p 0 ∧ co p 0 ≤ co p 1 ∧ co p 1 ≤ 100 from fun p => by
  rw [hco]; unfold M.costN
  by_cases h : p < 0 ∨ (d.s.nd : Int) ≤ p
  · rw [if_pos h]; simp [h]
  ·
   rw [if_neg h, if_neg h]
   have hz := hd.z p.toNat (by omega)
   exact hcs _ (by omega))
 have HCF := Lib.hid (show ∀ c j, c < (d.s.nd : Int) → M.costF d.z cs c j = co c j from fun c j h => by rw [hco]; exact M.costN_in h)
 rw [← hco]
 clear hco hcs
 have HRB := Lib.hid (show ∀ i c, c ∈ RW i → -1 ≤ c ∧ c < d.s.nd from fun i c h => by rw [hRW] at h; exact (M.mem_listB.1 h).1)
 have HRL := Lib.hid (show ∀ i, (RW i).length ≤ 145 from fun i => by rw [hRW]; have := M.listB_len d.s.nd (M.rowB d ta (ln : Int) X fit (m - 1) i); show (M.listB _ _).length ≤ 145; omega)
 have HRN := Lib.hid (show ∀ i, i < m → RW i ≠ [] from fun i hi => by rw [hRW] at hne ⊢; exact M.row_some (show 0 ≤ m - 1 by omega) (show i ≤ m - 1 by omega) hne)
 obtain ⟨LO, hLO⟩ : ∃ f, f = M.loC d ta (ln : Int) X fit (m - 1) co := ⟨_, rfl⟩
 obtain ⟨HI, hHI⟩ : ∃ f, f = M.hiC d ta (ln : Int) X fit (m - 1) co := ⟨_, rfl⟩
 obtain ⟨LR, hLR⟩ : ∃ f, f = M.lowR d ta (ln : Int) X fit (m - 1) co := ⟨_, rfl⟩
 obtain ⟨HR, hHR⟩ : ∃ f, f = M.highR d ta (ln : Int) X fit (m - 1) co := ⟨_, rfl⟩
 obtain ⟨LV, hLV⟩ : ∃ f, f = M.lvF d ta (ln : Int) X fit (m - 1) co := ⟨_, rfl⟩
 obtain ⟨BH, hBH⟩ : ∃ f, f = M.bhV d ta (ln : Int) X fit (m - 1) co := ⟨_, rfl⟩
 obtain ⟨BJ, hBJ⟩ : ∃ f, f = M.bhJ d ta (ln : Int) X fit (m - 1) co := ⟨_, rfl⟩
 obtain ⟨ST, hST⟩ : ∃ f : Nat → Int → List Int, f = fun i p => M.stepL d (ta + i) (ln : Int) p := ⟨_, rfl⟩
 rw [← hLR, ← hHR]
 have HSL := Lib.hid (show ∀ i p, (ST i p).length ≤ 145 from fun i p => by rw [hST]; have := M.listB_len d.s.nd (M.stepB d (ta + i) (ln : Int) p); show (M.listB _ _).length ≤ 145; omega)
 have HSB := Lib.hid (show ∀ i p j, j < (ST i p).length → -1 ≤ (ST i p).getD j 0 ∧ (ST i p).getD j 0 < d.s.nd from fun i p j h => by
  rw [List.getD_eq_getElem?_getD, List.getElem?_eq_getElem h, Option.getD_some]
  have h2 := List.getElem_mem h
  generalize (ST i p)[j] = y at h2
  rw [hST] at h2
  exact (M.mem_listB.1 h2).1)
 have HLB := Lib.hid (show ∀ i c, i < m → c ∈ RW i → 0 ≤ LO i c ∧ LO i c ≤ 6000 ∧ 0 ≤ HI i c ∧ HI i c ≤ 6000 from fun i c hi h => by
  rw [hRW] at h
  have h1 := M.loC_bd (co := co) (K := 100) (fun p => by have := HCO.out p; omega) i (show i ≤ m - 1 by omega) h
  have h2 := M.hiC_bd (d := d) (at_ := ta) (l := (ln : Int)) (X := X) (fit := fit) (n := m - 1) (co := co) (K := 100) (by omega) (fun p => by have := HCO.out p; omega) i c
  have h3 := M.hiC_nn (d := d) (at_ := ta) (l := (ln : Int)) (X := X) (fit := fit) (n := m - 1) (co := co) i c
  rw [← hLO] at h1
  rw [← hHI] at h2 h3
  omega)
 have HVN := Lib.hid (show ∀ i c, BH i [] c = none from fun i c => by rw [hBH]; exact M.bhV_nil)
 have HJ0 := Lib.hid (show ∀ i vis p c, BJ i vis p 0 c = BH i vis c from fun i vis p c => by rw [hBH, hBJ]; exact M.bhJ_zero)
 have HJE := Lib.hid (show ∀ i vis p c, p < (d.s.nd : Int) → BJ i vis p (ST i p).length c = BH i (vis ++ [p]) c from fun i vis p c h => by rw [hBH, hBJ, hST]; exact M.bhJ_done hd h)
 have HJO := Lib.hid (show ∀ i vis p j, j < (ST i p).length → BJ i vis p j ((ST i p).getD j 0) = BH i vis ((ST i p).getD j 0) from fun i vis p j h => by rw [hST] at h; rw [hBH, hBJ, hST]; exact M.bhJ_old h)
 have HJS := Lib.hid (show ∀ i vis p j, j < (ST i p).length → (ST i p).getD j 0 ∉ RW (i + 1) → ∀ c, BJ i vis p (j + 1) c = BJ i vis p j c from fun i vis p j h h2 c => by rw [hST] at h h2; rw [hRW] at h2; rw [hBJ]; exact M.bhJ_skip h h2 c)
 have HJN := Lib.hid (show ∀ i vis p j, p < (d.s.nd : Int) → j < (ST i p).length → (ST i p).getD j 0 ∈ RW (i + 1) → BH i vis ((ST i p).getD j 0) = none → ∀ c, BJ i vis p (j + 1) c = if c = (ST i p).getD j 0 then some (LO i p + co p 0, HI i p + co p 1) else BJ i vis p j c from fun i vis p j hp h h2 hv c => by
  have h3 := M.hiC_nn (d := d) (at_ := ta) (l := (ln : Int)) (X := X) (fit := fit) (n := m - 1) (co := co) i p
  have h4 := HCO.out p
  rw [hST] at h h2 hv ⊢; rw [hRW] at h2; rw [hBH] at hv; rw [hBJ, hLO, hHI]
  exact M.bhJ_new hd hp h h2 (by omega) hv c)
 have HJM := Lib.hid (show ∀ i vis p j a b, p < (d.s.nd : Int) → j < (ST i p).length → (ST i p).getD j 0 ∈ RW (i + 1) → BH i vis ((ST i p).getD j 0) = some (a, b) → ∀ c, BJ i vis p (j + 1) c = if c = (ST i p).getD j 0 then some (min a (LO i p + co p 0), max b (HI i p + co p 1)) else BJ i vis p j c from fun i vis p j a b hp h h2 hv c => by
  rw [hST] at h h2 hv ⊢; rw [hRW] at h2; rw [hBH] at hv; rw [hBJ, hLO, hHI]
  exact M.bhJ_more hd hp h h2 hv c)
 have HVD := Lib.hid (show ∀ i vis, i + 1 < m → (∀ x, x ∈ vis ↔ x ∈ RW i) → ∀ c, BH i vis c = LV (i + 1) c from fun i vis hi h c => by rw [hRW] at h; rw [hBH, hLV]; exact M.bhV_done (by omega) h c)
 have HV0 := Lib.hid (show ∀ c, LV 0 c = if c ∈ RW 0 then some (0, 0) else none from fun c => by rw [hLV, hRW]; rfl)
 have HVA := Lib.hid (show ∀ i c, LV i c = if c ∈ RW i then some (LO i c, HI i c) else none from fun i c => by rw [hLV, hRW, hLO, hHI]; rfl)
 have HLD := Lib.hid (show ∀ i (vis : List Int), (∀ x, x ∈ vis ↔ x ∈ RW i) → M.mnL (vis.map (LO i)) = LR i from fun i vis h => by rw [hRW] at h; rw [hLO, hLR]; exact M.low_done h)
 have HHD := Lib.hid (show ∀ i (vis : List Int), (∀ x, x ∈ vis ↔ x ∈ RW i) → M.mxL (vis.map (HI i)) = HR i from fun i vis h => by rw [hRW] at h; rw [hHI, hHR]; exact M.high_done h)
 have HRE := Lib.hid hRW
 have HSE := Lib.hid hST
 have HD := Lib.hid hd
 obtain ⟨NF, hNF⟩ : ∃ F : Nat → Int, F = fun i => if q = true then min (f i) (LR i) else LR i := ⟨_, rfl⟩
 obtain ⟨NG, hNG⟩ : ∃ F : Nat → Int, F = fun i => max (g i) (HR i) := ⟨_, rfl⟩
 have HNF := Lib.hid hNF
 have HNG := Lib.hid hNG
 rw [← hNF, ← hNG]
 clear hNF hNG
 have HBN := Lib.hid hbn
 have HBD := Lib.hid (fun (W' : World) (h : Below w.heap.size w W') => hb.below (h.mono hbB))
 have A0 := Lib.hid hAl
 have R0 := Lib.hid hR
 have HAL := Lib.hid hal
 have HTM := Lib.hid htm
 clear hbn hLO hHI hLR hHR hLV hBH hBJ hST hRW hd hb hAl hR hal hne htm
 conv in rfBody _ => whnf
 have hmm := @run_makeMap0 Tryz.prog
 gi_upto_region 13 with fail
 obtain ⟨lm, hlm⟩ : ∃ n, n = V.heap.size := ⟨_, rfl⟩
 have A1 := Lib.hid (A0.out.below (belowAlloc V (.map #[] 0)))
 have R1 := Lib.hid (show RwO P m1 m2 base2 gr m Ur RW (V.alloc (.map #[] 0)) from R0.out.grown (below_grown (belowAlloc V (.map #[] 0)) none) (SeaT.grown A0.out.ch.sm (below_grown (belowAlloc V (.map #[] 0)) none) fun _ e => by cases e).2 fun r e => by cases e)
 have S1 := Lib.hid (SpM.made V)
 have KV := Lib.hid (KeepsFrom.of_grownBy (B := Zs) (below_grown (belowAlloc V (.map #[] 0)) none) fun _ e => by cases e)
 have HSV := Lib.hid (show V.heap.size ≤ (V.alloc (.map #[] 0)).heap.size by simp)
 rw [← hlm] at S1 HSV ⊢
 have HLM := Lib.hid (show V.heap.size ≤ lm by omega)
 clear hlm A0 R0
 generalize V.alloc (.map #[] 0) = w1 at A1 R1 S1 KV HSV ⊢
 obtain ⟨uA, uc, hu⟩ := Own.form (R1.out.r 0 (by omega))
 have c0 : w1.cell? ⟨gr, 0, none⟩ = some (.slice uA (RW 0).length uc) := by rw [← hu]; exact Own.cell1 R1.out.o (show 0 < m by omega)
 have HU := Lib.hid hu
 clear hu
 have hrl0 := HRL.out 0
 gi_wp2_with fail
 gi_loopw [92] (fun i wr => ∃ k : Nat, k ≤ (RW 0).length ∧ i = .int .i64 (k : Int) ∧ Hid (AlB d zA cA wA dA tA sA cl B P m1 m2 dc tc sc zc cc wc cb fb B' ta xc hn hc xL lo hi fc ft fl xA hA Xs bA bn bc s0 s1 w b11 b7 b13 b14 b15 lb mb base m (q) (f) (g) wr ∧ RwO P m1 m2 base2 gr m Ur RW wr ∧ SpM wr lm k (fun c => if c ∈ (RW 0).take k then some (0, 0) else none) ∧ KeepsFrom Zs V wr ∧ lm < wr.heap.size)) (fun i _ => (RW 0).length - (intOf i).toNat)
 case atStart => exact ⟨0, Nat.zero_le _, rfl, Lib.hid ⟨A1.out, R1.out, S1.out.congr fun c => by simp, KV.out, S1.out.lt⟩⟩
 case round =>
  obtain ⟨k, hk, rfl, HI⟩ := hrel
  clear A1 R1 S1 KV c0
  by_cases hlt : k < (RW 0).length
  ·
   have g1 : decide (k < (RW 0).length) = true := decide_eq_true hlt
   have hrd := IL.rd (show IL wr base2 (.slice uA (RW 0).length uc) (RW 0) from by rw [← HU.out]; exact HI.out.2.1.r 0 (by omega))
   obtain ⟨yb, yo, rfl, hyb, c1⟩ := hrd.at_ hlt
   obtain ⟨y, hy⟩ : ∃ y, y = (RW 0).getD k 0 := ⟨_, rfl⟩
   have HY := Lib.hid hy
   rw [← hy] at c1
   have hyB : -1 ≤ y ∧ y < d.s.nd := HRB.out 0 y (by rw [hy, List.getD_eq_getElem?_getD, List.getElem?_eq_getElem hlt, Option.getD_some]; exact List.getElem_mem hlt)
   have hys : small y := ⟨hyB.1, by omega⟩
   obtain ⟨W2, hrun, hS2, hG2⟩ := HI.out.2.2.1.store (by unfold maxLen; omega) hys (0, 0)
   have hrun : (Instr.mapUpdate 134 (.map (some lm)) (.int .i64 y) (.agg #[.int .i64 0, .int .i64 0])).run Tryz.prog wr = .ok () W2 := hrun
   have HS2 := Lib.hid hS2
   have HG2 := Lib.hid hG2
   have HTK := Lib.hid (show (RW 0).take (k + 1) = (RW 0).take k ++ [y] from by rw [List.take_add_one, List.getElem?_eq_getElem hlt, hy, List.getD_eq_getElem?_getD, List.getElem?_eq_getElem hlt]; rfl)
   clear hrd hy hS2 hG2
   gi_wp2_with fail
   have HNO := Lib.hid (show ∀ r, some lm = some r → Zs ≤ r ∧ ∃ o, wr.heap[r]? = some o ∧ o.isCells = false from fun r e => by cases e; exact ⟨by have := HLM.out; omega, HI.out.2.2.1.note⟩)
   go_roundw
   case rel => exact ⟨k + 1, by omega, by go_num, Lib.hid ⟨HI.out.1.notes HAL.out hbz hm1Z hm2Z HG2.out HNO.out, HI.out.2.1.notes HG2.out (SeaT.grown HI.out.1.ch.sm HG2.out fun r e => ⟨by have := (HNO.out r e).1; have := HAL.out.b; omega, by
    obtain ⟨h1, o, h2, h3⟩ := HNO.out r e
    exact ts_notes HI.out.1.ch.sm h1 h2 h3 hm1Z hm2Z⟩).2 HNO.out, HS2.out.congr fun c => by
    rw [HTK.out]
    by_cases e : c = y
    · rw [if_pos e, if_pos (by rw [e]; simp)]
    ·
     rw [if_neg e]
     by_cases e2 : c ∈ (RW 0).take k
     · rw [if_pos e2, if_pos (List.mem_append_left _ e2)]
     · rw [if_neg e2, if_neg (fun h => (List.mem_append.1 h).elim e2 fun h => e (List.mem_singleton.1 h))], keepsV HI.out.2.2.2.1 HG2.out fun r e => by cases e; exact HLM.out, Nat.lt_of_lt_of_le HI.out.2.2.2.2 HG2.out.size⟩⟩
   case measure => simp [intOf]; omega
  ·
   have hke : k = (RW 0).length := by omega
   have S2 := Lib.hid (show SpM wr lm k (LV 0) from HI.out.2.2.1.congr fun c => by rw [HV0.out c, hke, List.take_length])
   have A2 := Lib.hid HI.out.1
   have R2 := Lib.hid HI.out.2.1
   have K2 := Lib.hid HI.out.2.2.2.1
   have g1 : decide (k < (RW 0).length) = false := decide_eq_false hlt
   have hk2 : k ≤ 145 := by omega
   clear HI hke
   obtain ⟨kr, hkr⟩ : ∃ n, n = (RW 0).length := ⟨_, rfl⟩
   obtain ⟨w2, hw2⟩ : ∃ W', W' = wr := ⟨_, rfl⟩
   rw [← hw2] at S2 A2 R2 K2 ⊢
   clear hw2 hkr
   have S3 := Lib.hid (show Hid (AlB d zA cA wA dA tA sA cl B P m1 m2 dc tc sc zc cc wc cb fb B' ta xc hn hc xL lo hi fc ft fl xA hA Xs bA bn bc s0 s1 w b11 b7 b13 b14 b15 lb mb base m (q) (fun i => if i < 0 then (if q then min (f i) (LR i) else LR i) else f i) (fun i => if i < 0 then max (g i) (HR i) else g i) w2 ∧ RwO P m1 m2 base2 gr m Ur RW w2 ∧ (0 < m → SpM w2 lm k (LV 0)) ∧ k ≤ 21025 ∧ V.heap.size ≤ lm ∧ KeepsFrom Zs V w2) from Lib.hid ⟨A2.out.congr (fun i _ => (if_neg (Nat.not_lt_zero i)).symm) (fun i _ => (if_neg (Nat.not_lt_zero i)).symm), R2.out, fun _ => S2.out, by omega, HLM.out, K2.out⟩)
   clear S2 A2 R2 K2
   gi_wp2_with fail
   gi_loopw [18, 102] (fun v18 i wr => ∃ (k lmk nk : Nat), k ≤ m ∧ v18 = .map (some lmk) ∧ i = .int .i64 (k : Int) ∧ Hid (AlB d zA cA wA dA tA sA cl B P m1 m2 dc tc sc zc cc wc cb fb B' ta xc hn hc xL lo hi fc ft fl xA hA Xs bA bn bc s0 s1 w b11 b7 b13 b14 b15 lb mb base m (q) (fun i => if i < k then (if q then min (f i) (LR i) else LR i) else f i) (fun i => if i < k then max (g i) (HR i) else g i) wr ∧ RwO P m1 m2 base2 gr m Ur RW wr ∧ (k < m → SpM wr lmk nk (LV k)) ∧ nk ≤ 21025 ∧ V.heap.size ≤ lmk ∧ KeepsFrom Zs V wr)) (fun _ i _ => m - (intOf i).toNat)
   case atStart => exact ⟨0, lm, k, Nat.zero_le _, rfl, rfl, S3.out⟩
   case round =>
    clear S3
    obtain ⟨k, lmk, nk, hk, rfl, rfl, HI⟩ := hrel
    by_cases hlt : k < m
    ·
     have g2 : decide (k < m) = true := decide_eq_true hlt
     obtain ⟨wi, hwi⟩ : ∃ W', W' = wr := ⟨_, rfl⟩
     rw [← hwi] at HI ⊢
     clear hwi
     have A3 := Lib.hid HI.out.1
     have R3 := Lib.hid HI.out.2.1
     have S3 := Lib.hid (HI.out.2.2.1 hlt)
     have hnk := HI.out.2.2.2.1
     have HLK := Lib.hid HI.out.2.2.2.2.1
     have K3 := Lib.hid HI.out.2.2.2.2.2
     clear HI
     gi_upto_region 23 with fail
     obtain ⟨bm, hbm⟩ : ∃ n, n = wi.heap.size := ⟨_, rfl⟩
     have hbl := belowAlloc wi (.map #[] 0)
     have SB := Lib.hid (SpM.made wi)
     have S4 := Lib.hid (S3.out.kept (below_grown hbl none) (by simp))
     have AB4 := Lib.hid (AbT.below (d := d) (zA := zA) (cA := cA) (wA := wA) (dA := dA) (tA := tA) (sA := sA) (cl := cl) (B := B) (P := P) (m1 := m1) (m2 := m2) (dc := dc) (tc := tc) (sc := sc) (zc := zc) (cc := cc) (wc := wc) hbl)
     rw [← hbm] at SB ⊢
     have HBM := Lib.hid (show wi.heap.size ≤ bm by omega)
     have hlkm : lmk < bm := by have := S3.out.lt; omega
     clear hbl hbm
     generalize wi.alloc (.map #[] 0) = w4 at SB S4 AB4 ⊢
     gi_wp2_with (gi_at_range; go_must (refine wpListIn_range_sp _ rfl (.tmp 106) rfl lmk nk (LV k) rfl S4.out ?_); intro w5 hrg5 hg5 hs5; have RG5 := Lib.hid hrg5; have SB5 := Lib.hid (SB.out.kept hg5 (by simp)); have AB5 := Lib.hid (AB4.out.grown (AB4.out.2 A3.out.ch.sm).1 hg5 fun r e => by cases e); have HRN5 := Lib.hid (show wi.heap.size ≤ w4.heap.size from AB4.out.1.size); clear hrg5 hg5 hs5)
     go_frame
     obtain ⟨rg, hrg⟩ : ∃ n, n = w4.heap.size := ⟨_, rfl⟩
     have HBR := Lib.hid (show bm < rg by have := SB.out.lt; rw [hrg]; exact this)
     rw [← hrg] at RG5 HRN5 ⊢
     clear hrg S4 SB AB4
     have hkm : k + 1 ≤ m := by omega
     have C5 := Lib.hid (show Hid (AbT d zA cA wA dA tA sA cl B P m1 m2 dc tc sc zc cc wc wi w5 ∧ RgM w5 lmk rg nk (LV k) ([] : List Int) ∧ SpM w5 bm 0 (fun c => if k + 1 < m then BH k ([] : List Int) c else none) ∧ 0 ≤ 145 * (([] : List Int)).length ∧ (([] : List Int)).Nodup ∧ ∀ x, x ∈ ([] : List Int) → x ∈ RW k) from Lib.hid ⟨AB5.out, RG5.out, SB5.out.congr fun c => by rw [HVN.out k c]; simp, Nat.zero_le _, List.nodup_nil, fun x hx => by cases hx⟩)
     clear AB5 RG5 SB5
     gi_loopw [22, 23] (fun a22 a23 wr => ∃ (vis : List Int) (qn : Nat), a22 = .int .i64 (M.mnL (vis.map (LO k))) ∧ a23 = .int .i64 (M.mxL (vis.map (HI k))) ∧ Hid (AbT d zA cA wA dA tA sA cl B P m1 m2 dc tc sc zc cc wc wi wr ∧ RgM wr lmk rg nk (LV k) vis ∧ SpM wr bm qn (fun c => if k + 1 < m then BH k vis c else none) ∧ qn ≤ 145 * (vis).length ∧ (vis).Nodup ∧ ∀ x, x ∈ vis → x ∈ RW k)) (fun _ _ wr => wr.rangeLeft lmk rg)
     case atStart => exact ⟨[], 0, rfl, rfl, C5.out⟩
     case round =>
      clear C5
      obtain ⟨vis, qn, rfl, rfl, HC⟩ := hrel
      obtain ⟨lw, hlw⟩ : ∃ x, x = M.mnL (vis.map (LO k)) := ⟨_, rfl⟩
      obtain ⟨hg, hhg⟩ : ∃ x, x = M.mxL (vis.map (HI k)) := ⟨_, rfl⟩
      rw [← hlw, ← hhg]
      have HLW := Lib.hid hlw
      have HHG := Lib.hid hhg
      clear hlw hhg
      have hvl : vis.length ≤ 145 := Nat.le_trans (nodup_len HC.out.2.2.2.2.1 HC.out.2.2.2.2.2) (HRL.out k)
      gi_wp2_with (gi_at_next; go_must (refine wpListIn_next_sp _ rfl (.tmp 107) rfl lmk rg nk (LV k) vis rfl HC.out.2.1 ?_ ?_))
      ·
       intro hdn
       have HDN := Lib.hid (show ∀ x, x ∈ vis ↔ x ∈ RW k from fun x => by rw [hdn x, HVA.out k x]; by_cases h : x ∈ RW k <;> simp [h])
       clear hdn
       have HLR := Lib.hid (show lw = LR k from by rw [HLW.out]; exact HLD.out k vis HDN.out)
       have HHR := Lib.hid (show hg = HR k from by rw [HHG.out]; exact HHD.out k vis HDN.out)
       have hgb : 0 ≤ hg ∧ hg ≤ 6000 := by
        refine ⟨by rw [HHG.out]; exact M.mxL_nn, ?_⟩
        rw [HHG.out]
        refine M.mxL_le_iff.2 ⟨by omega, fun x hx => ?_⟩
        obtain ⟨z, hz, rfl⟩ := List.mem_map.1 hx
        exact (HLB.out k z hlt ((HDN.out z).1 hz)).2.2.2
       have A8 := Lib.hid (A3.out.ab HC.out.1 hw1 hw2)
       have R8 := Lib.hid (show RwO P m1 m2 base2 gr m Ur RW wr from R3.out.mv HC.out.1.1 A3.out.ch.sm.map1 A3.out.ch.sm.map2 (HC.out.1.2 A3.out.ch.sm).2)
       have K8 := Lib.hid (K3.out.trans (HC.out.1.1.keeps hm1Z hm2Z))
       have SN := Lib.hid (show k + 1 < m → SpM wr bm qn (LV (k + 1)) from fun h => HC.out.2.2.1.congr fun x => by rw [if_pos h]; exact HVD.out k vis h HDN.out x)
       have hqn2 : qn ≤ 21025 := by have := HC.out.2.2.2.1; omega
       have hbV : V.heap.size ≤ bm := by have := K3.out.size; have := HBM.out; omega
       clear HC HLW HHG HDN
       have x15 := A8.out.k15.cell 0
       have x13 := A8.out.k13.cell 0
       have xl := Own.cell1 A8.out.l hlt
       simp only [ints, if_neg (Nat.lt_irrefl k)] at xl
       have xf := Own.frz A8.out.l k
       have hll := (Own.block (g := lb) A8.out.l rfl).2
       obtain ⟨fk, hfk⟩ : ∃ x, x = f k := ⟨_, rfl⟩
       rw [← hfk] at xl
       have HFK := Lib.hid hfk
       clear hfk
       cases q
       ·
        gi_upto_region 43 with fail
        clear x15 x13 xl xf hll
        have A9 := Lib.hid (A8.out.setL HAL.out k (lw))
        have hgs := grown_set wr lb k (.int .i64 (lw))
        have R9 := Lib.hid (show RwO P m1 m2 base2 gr m Ur RW (wr.setCell ⟨lb, k, none⟩ (.int .i64 (lw))) from R8.out.grown hgs (SeaT.grown A8.out.ch.sm hgs fun r e => by cases e; exact ⟨by have := (Own.block (g := lb) A8.out.l rfl).1; have := HAL.out.b; omega, A8.out.nl⟩).2 fun r e => by cases e; exact ⟨fun e => by subst e; exact Own.ne_blk A8.out.l (Own.blk R8.out.o).choose_spec (by decide) rfl, fun q hq e => by have := (Own.block (R8.out.r q hq) e).1; omega⟩)
        have K9 := Lib.hid (K8.out.trans ((Own.blk A8.out.l).choose_spec.keepsSet k (.int .i64 (lw)) Zs))
        have S9 := Lib.hid (show k + 1 < m → SpM (wr.setCell ⟨lb, k, none⟩ (.int .i64 (lw))) bm qn (LV (k + 1)) from fun h => (SN.out h).kept hgs (fun e => by obtain ⟨o, h1, h2⟩ := (SN.out h).note; obtain ⟨cs, hb⟩ := Own.blk A8.out.l; injection e with e; subst e; rw [show wr.heap[bm]? = _ from hb] at h1; cases h1; cases h2))
        clear hgs A8 R8 K8 SN
        generalize wr.setCell ⟨lb, k, none⟩ (.int .i64 (lw)) = w9 at A9 R9 K9 S9 ⊢
        have n14 : w9.cell? ⟨b14, 0, none⟩ = some (.slice (some ⟨mb, 0, none⟩) m m) := A9.out.k14.cell 0
        have nm := Own.cell1 A9.out.mm hlt
        simp only [ints, if_neg (Nat.lt_irrefl k)] at nm
        obtain ⟨gk, hgk⟩ : ∃ x, x = g k := ⟨_, rfl⟩
        rw [← hgk] at nm
        have HGK := Lib.hid hgk
        clear hgk
        gi_upto_region 43 with fail
        have NC := Lib.hid (And.intro n14 nm)
        refine wpIn_region_TI 9 (fun Z2 => Z2.cell? ⟨b14, 0, none⟩ = some (.slice (some ⟨mb, 0, none⟩) m m) ∧ Z2.cell? ⟨mb, k, none⟩ = some (.int .i64 gk)) (by kernel_rfl) NC.out ?_
        clear n14 nm
        intro hS
        refine tkI (i := 0) (v := ?_) (PlainOps.of_nd (by kernel_rfl)) rfl (by kernel_rfl) (fun _ _ _ h => h) (.inl ⟨by kernel_rfl, ?_⟩) (fun _ => rfl) hS ?_
        rotate_left
        · (intro w' hw; obtain ⟨h1, h2⟩ := hw; go_simp; try with_reducible rfl)
        try simp only [put_laws]
        refine tkI (i := 1) (v := ?_) (PlainOps.of_nd (by kernel_rfl)) rfl (by kernel_rfl) (fun _ _ _ h => h) (.inl ⟨by kernel_rfl, ?_⟩) (fun _ => rfl) hS ?_
        rotate_left
        · (intro w' hw; obtain ⟨h1, h2⟩ := hw; go_simp; try with_reducible rfl)
        try simp only [put_laws]
        refine tkI (i := 2) (v := ?_) (PlainOps.of_nd (by kernel_rfl)) rfl (by kernel_rfl) (fun _ _ _ h => h) (.inl ⟨by kernel_rfl, ?_⟩) (fun _ => rfl) hS ?_
        rotate_left
        · (intro w' hw; obtain ⟨h1, h2⟩ := hw; go_simp; try with_reducible rfl)
        try simp only [put_laws]
        refine tkI (i := 3) (v := ?_) (PlainOps.of_nd (by kernel_rfl)) rfl (by kernel_rfl) (fun _ _ _ h => h) (.inl ⟨by kernel_rfl, ?_⟩) (fun _ => rfl) hS ?_
        rotate_left
        · (intro w' hw; obtain ⟨h1, h2⟩ := hw; go_simp; try with_reducible rfl)
        try simp only [put_laws]
        refine tkI (i := 4) (v := ?_) (PlainOps.of_nd (by kernel_rfl)) rfl (by kernel_rfl) (fun _ _ _ h => h) (.inl ⟨by kernel_rfl, ?_⟩) (fun _ => rfl) hS ?_
        rotate_left
        · (intro w' hw; obtain ⟨h1, h2⟩ := hw; go_simp; try with_reducible rfl)
        try simp only [put_laws]
        refine tkI (i := 5) (v := ?_) (PlainOps.of_nd (by kernel_rfl)) rfl (by kernel_rfl) (fun _ _ _ h => h) (.inl ⟨by kernel_rfl, ?_⟩) (fun _ => rfl) hS ?_
        rotate_left
        · (intro w' hw; obtain ⟨h1, h2⟩ := hw; go_simp; try with_reducible rfl)
        try simp only [put_laws]
        refine tkI (i := 6) (v := ?_) (PlainOps.of_nd (by kernel_rfl)) rfl (by kernel_rfl) (fun _ _ _ h => h) (.inl ⟨by kernel_rfl, ?_⟩) (fun _ => rfl) hS ?_
        rotate_left
        · (intro w' hw; obtain ⟨h1, h2⟩ := hw; go_simp; try with_reducible rfl)
        try simp only [put_laws]
        refine tkI (i := 7) (v := ?_) (PlainOps.of_nd (by kernel_rfl)) rfl (by kernel_rfl) (fun _ _ _ h => h) (.inl ⟨by kernel_rfl, ?_⟩) (fun _ => rfl) hS ?_
        rotate_left
        · (intro w' hw; obtain ⟨h1, h2⟩ := hw; go_simp; try with_reducible rfl)
        try simp only [put_laws]
        refine tkI (i := 8) (v := ?_) (PlainOps.of_nd (by kernel_rfl)) rfl (by kernel_rfl) (fun _ _ _ h => h) (.inl ⟨by kernel_rfl, ?_⟩) (fun _ => rfl) hS ?_
        rotate_left
        · (intro w' hw; obtain ⟨h1, h2⟩ := hw; go_simp; try with_reducible rfl)
        try simp only [put_laws]
        have hdr : Below w9.heap.size w9 w9.drew := (Below.refl _ _).drew
        have MD := Lib.hid (A9.out.below hdr)
        have nf := Own.frz MD.out.mm k
        have nl := (Own.block (g := mb) MD.out.mm rfl).2
        have n9 := hS.2
        clear hS
        refine wpAnyTI_one (i := 9) (by kernel_rfl) rfl ?_
        intro K' hK'
        go_simp
        refine hK'.out _ _ (.inl rfl) ?_
        clear hK' K'
        try simp only [put_laws]
        refine wpAnyTI_done (by kernel_rfl) ?_ _
        clear nf nl n9 hdr
        have AM := Lib.hid (show AlB d zA cA wA dA tA sA cl B P m1 m2 dc tc sc zc cc wc cb fb B' ta xc hn hc xL lo hi fc ft fl xA hA Xs bA bn bc s0 s1 w b11 b7 b13 b14 b15 lb mb base m (false) (putF (fun i => if i < k then (if false = true then min (f i) (LR i) else LR i) else f i) k (lw)) (putF (fun i => if i < k then max (g i) (HR i) else g i) k (max gk hg)) (w9.setCell ⟨mb, k, none⟩ (.int .i64 (max gk hg))) from A9.out.setM HAL.out k (max gk hg))
        have A11 := Lib.hid (AM.out.below (Below.refl _ _).drew)
        have hgs := grown_set w9 mb k (.int .i64 (max gk hg))
        have R11 := Lib.hid (show RwO P m1 m2 base2 gr m Ur RW (w9.setCell ⟨mb, k, none⟩ (.int .i64 (max gk hg))).drew from (R9.out.grown hgs (SeaT.grown A9.out.ch.sm hgs fun r e => by cases e; exact ⟨by have := (Own.block (g := mb) A9.out.mm rfl).1; have := HAL.out.b; omega, A9.out.nm⟩).2 fun r e => by cases e; exact ⟨fun e => by subst e; exact Own.ne_blk A9.out.mm (Own.blk R9.out.o).choose_spec (by decide) rfl, fun q hq e => by have := (Own.block (R9.out.r q hq) e).1; omega⟩).grown (below_grown (Below.refl _ _).drew none) (SeaT.grown AM.out.ch.sm (below_grown (Below.refl _ _).drew none) fun _ e => by cases e).2 fun r e => by cases e)
        have K11 := Lib.hid (show KeepsFrom Zs V (w9.setCell ⟨mb, k, none⟩ (.int .i64 (max gk hg))).drew from (K9.out.trans ((Own.blk A9.out.mm).choose_spec.keepsSet k _ Zs)).trans (KeepsFrom.of_grownBy (below_grown (Below.refl _ _).drew none) fun _ e => by cases e))
        have S11 := Lib.hid (show k + 1 < m → SpM (w9.setCell ⟨mb, k, none⟩ (.int .i64 (max gk hg))).drew bm qn (LV (k + 1)) from fun h => ((S9.out h).kept hgs (fun e => by obtain ⟨o, h1, h2⟩ := (S9.out h).note; obtain ⟨cs, hb⟩ := Own.blk A9.out.mm; injection e with e; subst e; rw [show w9.heap[bm]? = _ from hb] at h1; cases h1; cases h2)).kept (below_grown (Below.refl _ _).drew none) (by simp))
        clear hgs R9 K9 S9 MD AM A9
        generalize (w9.setCell ⟨mb, k, none⟩ (.int .i64 (max gk hg))).drew = wz at A11 R11 K11 S11 ⊢
        gi_wp2_with fail
        go_roundw
        case rel => exact ⟨k + 1, bm, qn, by omega, rfl, by go_num, Lib.hid ⟨A11.out.congr (fun i _ => putF_step (F := fun i => if false = true then min (f i) (LR i) else LR i) (f := f) (by show (if false = true then min (f k) (LR k) else LR k) = lw; rw [if_neg (by simp), HLR.out]) i) (fun i _ => putF_step (F := fun i => max (g i) (HR i)) (f := g) (by show max (g k) (HR k) = max gk hg; rw [HGK.out, HHR.out]) i), R11.out, S11.out, hqn2, hbV, K11.out⟩⟩
        case measure => simp [intOf]; omega
       ·
        by_cases hlf : lw < fk
        ·
         have g6 : decide (lw < fk) = true := decide_eq_true hlf
         have HMI := Lib.hid (show min (f k) (LR k) = lw from by rw [← HFK.out, ← HLR.out]; omega)
         gi_upto_region 43 with fail
         clear x15 x13 xl xf hll
         have A9 := Lib.hid (A8.out.setL HAL.out k (lw))
         have hgs := grown_set wr lb k (.int .i64 (lw))
         have R9 := Lib.hid (show RwO P m1 m2 base2 gr m Ur RW (wr.setCell ⟨lb, k, none⟩ (.int .i64 (lw))) from R8.out.grown hgs (SeaT.grown A8.out.ch.sm hgs fun r e => by cases e; exact ⟨by have := (Own.block (g := lb) A8.out.l rfl).1; have := HAL.out.b; omega, A8.out.nl⟩).2 fun r e => by cases e; exact ⟨fun e => by subst e; exact Own.ne_blk A8.out.l (Own.blk R8.out.o).choose_spec (by decide) rfl, fun q hq e => by have := (Own.block (R8.out.r q hq) e).1; omega⟩)
         have K9 := Lib.hid (K8.out.trans ((Own.blk A8.out.l).choose_spec.keepsSet k (.int .i64 (lw)) Zs))
         have S9 := Lib.hid (show k + 1 < m → SpM (wr.setCell ⟨lb, k, none⟩ (.int .i64 (lw))) bm qn (LV (k + 1)) from fun h => (SN.out h).kept hgs (fun e => by obtain ⟨o, h1, h2⟩ := (SN.out h).note; obtain ⟨cs, hb⟩ := Own.blk A8.out.l; injection e with e; subst e; rw [show wr.heap[bm]? = _ from hb] at h1; cases h1; cases h2))
         clear hgs A8 R8 K8 SN
         generalize wr.setCell ⟨lb, k, none⟩ (.int .i64 (lw)) = w9 at A9 R9 K9 S9 ⊢
         have n14 : w9.cell? ⟨b14, 0, none⟩ = some (.slice (some ⟨mb, 0, none⟩) m m) := A9.out.k14.cell 0
         have nm := Own.cell1 A9.out.mm hlt
         simp only [ints, if_neg (Nat.lt_irrefl k)] at nm
         obtain ⟨gk, hgk⟩ : ∃ x, x = g k := ⟨_, rfl⟩
         rw [← hgk] at nm
         have HGK := Lib.hid hgk
         clear hgk
         gi_upto_region 43 with fail
         have NC := Lib.hid (And.intro n14 nm)
         refine wpIn_region_TI 9 (fun Z2 => Z2.cell? ⟨b14, 0, none⟩ = some (.slice (some ⟨mb, 0, none⟩) m m) ∧ Z2.cell? ⟨mb, k, none⟩ = some (.int .i64 gk)) (by kernel_rfl) NC.out ?_
         clear n14 nm
         intro hS
         refine tkI (i := 0) (v := ?_) (PlainOps.of_nd (by kernel_rfl)) rfl (by kernel_rfl) (fun _ _ _ h => h) (.inl ⟨by kernel_rfl, ?_⟩) (fun _ => rfl) hS ?_
         rotate_left
         · (intro w' hw; obtain ⟨h1, h2⟩ := hw; go_simp; try with_reducible rfl)
         try simp only [put_laws]
         refine tkI (i := 1) (v := ?_) (PlainOps.of_nd (by kernel_rfl)) rfl (by kernel_rfl) (fun _ _ _ h => h) (.inl ⟨by kernel_rfl, ?_⟩) (fun _ => rfl) hS ?_
         rotate_left
         · (intro w' hw; obtain ⟨h1, h2⟩ := hw; go_simp; try with_reducible rfl)
         try simp only [put_laws]
         refine tkI (i := 2) (v := ?_) (PlainOps.of_nd (by kernel_rfl)) rfl (by kernel_rfl) (fun _ _ _ h => h) (.inl ⟨by kernel_rfl, ?_⟩) (fun _ => rfl) hS ?_
         rotate_left
         · (intro w' hw; obtain ⟨h1, h2⟩ := hw; go_simp; try with_reducible rfl)
         try simp only [put_laws]
         refine tkI (i := 3) (v := ?_) (PlainOps.of_nd (by kernel_rfl)) rfl (by kernel_rfl) (fun _ _ _ h => h) (.inl ⟨by kernel_rfl, ?_⟩) (fun _ => rfl) hS ?_
         rotate_left
         · (intro w' hw; obtain ⟨h1, h2⟩ := hw; go_simp; try with_reducible rfl)
         try simp only [put_laws]
         refine tkI (i := 4) (v := ?_) (PlainOps.of_nd (by kernel_rfl)) rfl (by kernel_rfl) (fun _ _ _ h => h) (.inl ⟨by kernel_rfl, ?_⟩) (fun _ => rfl) hS ?_
         rotate_left
         · (intro w' hw; obtain ⟨h1, h2⟩ := hw; go_simp; try with_reducible rfl)
         try simp only [put_laws]
         refine tkI (i := 5) (v := ?_) (PlainOps.of_nd (by kernel_rfl)) rfl (by kernel_rfl) (fun _ _ _ h => h) (.inl ⟨by kernel_rfl, ?_⟩) (fun _ => rfl) hS ?_
         rotate_left
         · (intro w' hw; obtain ⟨h1, h2⟩ := hw; go_simp; try with_reducible rfl)
         try simp only [put_laws]
         refine tkI (i := 6) (v := ?_) (PlainOps.of_nd (by kernel_rfl)) rfl (by kernel_rfl) (fun _ _ _ h => h) (.inl ⟨by kernel_rfl, ?_⟩) (fun _ => rfl) hS ?_
         rotate_left
         · (intro w' hw; obtain ⟨h1, h2⟩ := hw; go_simp; try with_reducible rfl)
         try simp only [put_laws]
         refine tkI (i := 7) (v := ?_) (PlainOps.of_nd (by kernel_rfl)) rfl (by kernel_rfl) (fun _ _ _ h => h) (.inl ⟨by kernel_rfl, ?_⟩) (fun _ => rfl) hS ?_
         rotate_left
         · (intro w' hw; obtain ⟨h1, h2⟩ := hw; go_simp; try with_reducible rfl)
         try simp only [put_laws]
         refine tkI (i := 8) (v := ?_) (PlainOps.of_nd (by kernel_rfl)) rfl (by kernel_rfl) (fun _ _ _ h => h) (.inl ⟨by kernel_rfl, ?_⟩) (fun _ => rfl) hS ?_
         rotate_left
         · (intro w' hw; obtain ⟨h1, h2⟩ := hw; go_simp; try with_reducible rfl)
         try simp only [put_laws]
         have hdr : Below w9.heap.size w9 w9.drew := (Below.refl _ _).drew
         have MD := Lib.hid (A9.out.below hdr)
         have nf := Own.frz MD.out.mm k
         have nl := (Own.block (g := mb) MD.out.mm rfl).2
         have n9 := hS.2
         clear hS
         refine wpAnyTI_one (i := 9) (by kernel_rfl) rfl ?_
         intro K' hK'
         go_simp
         refine hK'.out _ _ (.inl rfl) ?_
         clear hK' K'
         try simp only [put_laws]
         refine wpAnyTI_done (by kernel_rfl) ?_ _
         clear nf nl n9 hdr
         have AM := Lib.hid (show AlB d zA cA wA dA tA sA cl B P m1 m2 dc tc sc zc cc wc cb fb B' ta xc hn hc xL lo hi fc ft fl xA hA Xs bA bn bc s0 s1 w b11 b7 b13 b14 b15 lb mb base m (true) (putF (fun i => if i < k then (if true = true then min (f i) (LR i) else LR i) else f i) k (lw)) (putF (fun i => if i < k then max (g i) (HR i) else g i) k (max gk hg)) (w9.setCell ⟨mb, k, none⟩ (.int .i64 (max gk hg))) from A9.out.setM HAL.out k (max gk hg))
         have A11 := Lib.hid (AM.out.below (Below.refl _ _).drew)
         have hgs := grown_set w9 mb k (.int .i64 (max gk hg))
         have R11 := Lib.hid (show RwO P m1 m2 base2 gr m Ur RW (w9.setCell ⟨mb, k, none⟩ (.int .i64 (max gk hg))).drew from (R9.out.grown hgs (SeaT.grown A9.out.ch.sm hgs fun r e => by cases e; exact ⟨by have := (Own.block (g := mb) A9.out.mm rfl).1; have := HAL.out.b; omega, A9.out.nm⟩).2 fun r e => by cases e; exact ⟨fun e => by subst e; exact Own.ne_blk A9.out.mm (Own.blk R9.out.o).choose_spec (by decide) rfl, fun q hq e => by have := (Own.block (R9.out.r q hq) e).1; omega⟩).grown (below_grown (Below.refl _ _).drew none) (SeaT.grown AM.out.ch.sm (below_grown (Below.refl _ _).drew none) fun _ e => by cases e).2 fun r e => by cases e)
         have K11 := Lib.hid (show KeepsFrom Zs V (w9.setCell ⟨mb, k, none⟩ (.int .i64 (max gk hg))).drew from (K9.out.trans ((Own.blk A9.out.mm).choose_spec.keepsSet k _ Zs)).trans (KeepsFrom.of_grownBy (below_grown (Below.refl _ _).drew none) fun _ e => by cases e))
         have S11 := Lib.hid (show k + 1 < m → SpM (w9.setCell ⟨mb, k, none⟩ (.int .i64 (max gk hg))).drew bm qn (LV (k + 1)) from fun h => ((S9.out h).kept hgs (fun e => by obtain ⟨o, h1, h2⟩ := (S9.out h).note; obtain ⟨cs, hb⟩ := Own.blk A9.out.mm; injection e with e; subst e; rw [show w9.heap[bm]? = _ from hb] at h1; cases h1; cases h2)).kept (below_grown (Below.refl _ _).drew none) (by simp))
         clear hgs R9 K9 S9 MD AM A9
         generalize (w9.setCell ⟨mb, k, none⟩ (.int .i64 (max gk hg))).drew = wz at A11 R11 K11 S11 ⊢
         gi_wp2_with fail
         go_roundw
         case rel => exact ⟨k + 1, bm, qn, by omega, rfl, by go_num, Lib.hid ⟨A11.out.congr (fun i _ => putF_step (F := fun i => if true = true then min (f i) (LR i) else LR i) (f := f) (by show (if true = true then min (f k) (LR k) else LR k) = lw; rw [if_pos rfl, HMI.out]) i) (fun i _ => putF_step (F := fun i => max (g i) (HR i)) (f := g) (by show max (g k) (HR k) = max gk hg; rw [HGK.out, HHR.out]) i), R11.out, S11.out, hqn2, hbV, K11.out⟩⟩
         case measure => simp [intOf]; omega
        ·
         have g6 : decide (lw < fk) = false := decide_eq_false hlf
         have HMI := Lib.hid (show min (f k) (LR k) = fk from by rw [← HFK.out, ← HLR.out]; omega)
         gi_upto_region 43 with fail
         clear x15 x13 xl xf hll
         have A9 := Lib.hid (show AlB d zA cA wA dA tA sA cl B P m1 m2 dc tc sc zc cc wc cb fb B' ta xc hn hc xL lo hi fc ft fl xA hA Xs bA bn bc s0 s1 w b11 b7 b13 b14 b15 lb mb base m (true) (putF (fun i => if i < k then (if true = true then min (f i) (LR i) else LR i) else f i) k (fk)) (fun i => if i < k then max (g i) (HR i) else g i) wr from A8.out.congr (fun i _ => by
          unfold putF
          by_cases e : i = k
          · rw [if_pos e, e, if_neg (Nat.lt_irrefl k), HFK.out]
          · rw [if_neg e]) (fun _ _ => rfl))
         have R9 := Lib.hid R8.out
         have K9 := Lib.hid K8.out
         have S9 := Lib.hid SN.out
         clear A8 R8 K8 SN
         generalize wr = w9 at A9 R9 K9 S9 ⊢
         have n14 : w9.cell? ⟨b14, 0, none⟩ = some (.slice (some ⟨mb, 0, none⟩) m m) := A9.out.k14.cell 0
         have nm := Own.cell1 A9.out.mm hlt
         simp only [ints, if_neg (Nat.lt_irrefl k)] at nm
         obtain ⟨gk, hgk⟩ : ∃ x, x = g k := ⟨_, rfl⟩
         rw [← hgk] at nm
         have HGK := Lib.hid hgk
         clear hgk
         gi_upto_region 43 with fail
         have NC := Lib.hid (And.intro n14 nm)
         refine wpIn_region_TI 9 (fun Z2 => Z2.cell? ⟨b14, 0, none⟩ = some (.slice (some ⟨mb, 0, none⟩) m m) ∧ Z2.cell? ⟨mb, k, none⟩ = some (.int .i64 gk)) (by kernel_rfl) NC.out ?_
         clear n14 nm
         intro hS
         refine tkI (i := 0) (v := ?_) (PlainOps.of_nd (by kernel_rfl)) rfl (by kernel_rfl) (fun _ _ _ h => h) (.inl ⟨by kernel_rfl, ?_⟩) (fun _ => rfl) hS ?_
         rotate_left
         · (intro w' hw; obtain ⟨h1, h2⟩ := hw; go_simp; try with_reducible rfl)
         try simp only [put_laws]
         refine tkI (i := 1) (v := ?_) (PlainOps.of_nd (by kernel_rfl)) rfl (by kernel_rfl) (fun _ _ _ h => h) (.inl ⟨by kernel_rfl, ?_⟩) (fun _ => rfl) hS ?_
         rotate_left
         · (intro w' hw; obtain ⟨h1, h2⟩ := hw; go_simp; try with_reducible rfl)
         try simp only [put_laws]
         refine tkI (i := 2) (v := ?_) (PlainOps.of_nd (by kernel_rfl)) rfl (by kernel_rfl) (fun _ _ _ h => h) (.inl ⟨by kernel_rfl, ?_⟩) (fun _ => rfl) hS ?_
         rotate_left
         · (intro w' hw; obtain ⟨h1, h2⟩ := hw; go_simp; try with_reducible rfl)
         try simp only [put_laws]
         refine tkI (i := 3) (v := ?_) (PlainOps.of_nd (by kernel_rfl)) rfl (by kernel_rfl) (fun _ _ _ h => h) (.inl ⟨by kernel_rfl, ?_⟩) (fun _ => rfl) hS ?_
         rotate_left
         · (intro w' hw; obtain ⟨h1, h2⟩ := hw; go_simp; try with_reducible rfl)
         try simp only [put_laws]
         refine tkI (i := 4) (v := ?_) (PlainOps.of_nd (by kernel_rfl)) rfl (by kernel_rfl) (fun _ _ _ h => h) (.inl ⟨by kernel_rfl, ?_⟩) (fun _ => rfl) hS ?_
         rotate_left
         · (intro w' hw; obtain ⟨h1, h2⟩ := hw; go_simp; try with_reducible rfl)
         try simp only [put_laws]
         refine tkI (i := 5) (v := ?_) (PlainOps.of_nd (by kernel_rfl)) rfl (by kernel_rfl) (fun _ _ _ h => h) (.inl ⟨by kernel_rfl, ?_⟩) (fun _ => rfl) hS ?_
         rotate_left
         · (intro w' hw; obtain ⟨h1, h2⟩ := hw; go_simp; try with_reducible rfl)
         try simp only [put_laws]
         refine tkI (i := 6) (v := ?_) (PlainOps.of_nd (by kernel_rfl)) rfl (by kernel_rfl) (fun _ _ _ h => h) (.inl ⟨by kernel_rfl, ?_⟩) (fun _ => rfl) hS ?_
         rotate_left
         · (intro w' hw; obtain ⟨h1, h2⟩ := hw; go_simp; try with_reducible rfl)
         try simp only [put_laws]
         refine tkI (i := 7) (v := ?_) (PlainOps.of_nd (by kernel_rfl)) rfl (by kernel_rfl) (fun _ _ _ h => h) (.inl ⟨by kernel_rfl, ?_⟩) (fun _ => rfl) hS ?_
         rotate_left
         · (intro w' hw; obtain ⟨h1, h2⟩ := hw; go_simp; try with_reducible rfl)
         try simp only [put_laws]
         refine tkI (i := 8) (v := ?_) (PlainOps.of_nd (by kernel_rfl)) rfl (by kernel_rfl) (fun _ _ _ h => h) (.inl ⟨by kernel_rfl, ?_⟩) (fun _ => rfl) hS ?_
         rotate_left
         · (intro w' hw; obtain ⟨h1, h2⟩ := hw; go_simp; try with_reducible rfl)
         try simp only [put_laws]
         have hdr : Below w9.heap.size w9 w9.drew := (Below.refl _ _).drew
         have MD := Lib.hid (A9.out.below hdr)
         have nf := Own.frz MD.out.mm k
         have nl := (Own.block (g := mb) MD.out.mm rfl).2
         have n9 := hS.2
         clear hS
         refine wpAnyTI_one (i := 9) (by kernel_rfl) rfl ?_
         intro K' hK'
         go_simp
         refine hK'.out _ _ (.inl rfl) ?_
         clear hK' K'
         try simp only [put_laws]
         refine wpAnyTI_done (by kernel_rfl) ?_ _
         clear nf nl n9 hdr
         have AM := Lib.hid (show AlB d zA cA wA dA tA sA cl B P m1 m2 dc tc sc zc cc wc cb fb B' ta xc hn hc xL lo hi fc ft fl xA hA Xs bA bn bc s0 s1 w b11 b7 b13 b14 b15 lb mb base m (true) (putF (fun i => if i < k then (if true = true then min (f i) (LR i) else LR i) else f i) k (fk)) (putF (fun i => if i < k then max (g i) (HR i) else g i) k (max gk hg)) (w9.setCell ⟨mb, k, none⟩ (.int .i64 (max gk hg))) from A9.out.setM HAL.out k (max gk hg))
         have A11 := Lib.hid (AM.out.below (Below.refl _ _).drew)
         have hgs := grown_set w9 mb k (.int .i64 (max gk hg))
         have R11 := Lib.hid (show RwO P m1 m2 base2 gr m Ur RW (w9.setCell ⟨mb, k, none⟩ (.int .i64 (max gk hg))).drew from (R9.out.grown hgs (SeaT.grown A9.out.ch.sm hgs fun r e => by cases e; exact ⟨by have := (Own.block (g := mb) A9.out.mm rfl).1; have := HAL.out.b; omega, A9.out.nm⟩).2 fun r e => by cases e; exact ⟨fun e => by subst e; exact Own.ne_blk A9.out.mm (Own.blk R9.out.o).choose_spec (by decide) rfl, fun q hq e => by have := (Own.block (R9.out.r q hq) e).1; omega⟩).grown (below_grown (Below.refl _ _).drew none) (SeaT.grown AM.out.ch.sm (below_grown (Below.refl _ _).drew none) fun _ e => by cases e).2 fun r e => by cases e)
         have K11 := Lib.hid (show KeepsFrom Zs V (w9.setCell ⟨mb, k, none⟩ (.int .i64 (max gk hg))).drew from (K9.out.trans ((Own.blk A9.out.mm).choose_spec.keepsSet k _ Zs)).trans (KeepsFrom.of_grownBy (below_grown (Below.refl _ _).drew none) fun _ e => by cases e))
         have S11 := Lib.hid (show k + 1 < m → SpM (w9.setCell ⟨mb, k, none⟩ (.int .i64 (max gk hg))).drew bm qn (LV (k + 1)) from fun h => ((S9.out h).kept hgs (fun e => by obtain ⟨o, h1, h2⟩ := (S9.out h).note; obtain ⟨cs, hb⟩ := Own.blk A9.out.mm; injection e with e; subst e; rw [show w9.heap[bm]? = _ from hb] at h1; cases h1; cases h2)).kept (below_grown (Below.refl _ _).drew none) (by simp))
         clear hgs R9 K9 S9 MD AM A9
         generalize (w9.setCell ⟨mb, k, none⟩ (.int .i64 (max gk hg))).drew = wz at A11 R11 K11 S11 ⊢
         gi_wp2_with fail
         go_roundw
         case rel => exact ⟨k + 1, bm, qn, by omega, rfl, by go_num, Lib.hid ⟨A11.out.congr (fun i _ => putF_step (F := fun i => if true = true then min (f i) (LR i) else LR i) (f := f) (by show (if true = true then min (f k) (LR k) else LR k) = fk; rw [if_pos rfl, HMI.out]) i) (fun i _ => putF_step (F := fun i => max (g i) (HR i)) (f := g) (by show max (g k) (HR k) = max gk hg; rw [HGK.out, HHR.out]) i), R11.out, S11.out, hqn2, hbV, K11.out⟩⟩
         case measure => simp [intOf]; omega
      ·
       intro c a b w6 hsc hnv hvc hrg6 hlt6 hg6 hs6 hen
       have hcR : c ∈ RW k ∧ a = LO k c ∧ b = HI k c := by
        rw [HVA.out k c] at hvc
        by_cases h : c ∈ RW k
        ·
         rw [if_pos h] at hvc
         have e := Option.some.inj hvc
         exact ⟨h, (congrArg Prod.fst e).symm, (congrArg Prod.snd e).symm⟩
        · rw [if_neg h] at hvc; cases hvc
       obtain ⟨hcR, ha, hb⟩ := hcR
       have hab := HLB.out k c hlt hcR
       rw [← ha, ← hb] at hab
       have HA := Lib.hid ha
       have HBb := Lib.hid hb
       have hcB := HRB.out k c hcR
       have HNV := Lib.hid hnv
       have HCR := Lib.hid hcR
       have HNO := Lib.hid (show wi.heap.size ≤ rg ∧ ∃ o, wr.heap[rg]? = some o ∧ o.isCells = false from ⟨HRN5.out, HC.out.2.1.note⟩)
       have AB6 := Lib.hid (show AbT d zA cA wA dA tA sA cl B P m1 m2 dc tc sc zc cc wc wi w6 from HC.out.1.grown (HC.out.1.2 A3.out.ch.sm).1 hg6 fun r e => by
        cases e
        obtain ⟨h1, o, h2, h3⟩ := HNO.out
        exact ⟨h1, by have := A3.out.ch.sm.b.2.2.2.2; omega, ts_notes (HC.out.1.2 A3.out.ch.sm).1 (lo' := rg) (Nat.le_refl _) h2 h3 (by have := (A3.out.ch.sm.t.2.2.2 m1 A3.out.ch.sm.t.2.1).2; omega) (by have := (A3.out.ch.sm.t.2.2.2 m2 A3.out.ch.sm.t.2.2.1).2; omega)⟩)
       have RG6 := Lib.hid hrg6
       have SB6 := Lib.hid (show SpM w6 bm qn (fun c => if k + 1 < m then BH k vis c else none) from HC.out.2.2.1.kept hg6 (by intro e; injection e with e; have := HBR.out; omega))
       have HQN := Lib.hid HC.out.2.2.2.1
       have HND := Lib.hid HC.out.2.2.2.2
       have HLT := Lib.hid hlt6
       clear HC hrg6 hlt6 hg6 hs6 hvc ha hb hnv hcR HNO
       gi_upto_region 26 with fail
       obtain ⟨b26, h26⟩ : ∃ n, n = w6.heap.size := ⟨_, rfl⟩
       have hbl := belowAlloc w6 (.cells #[.int .i64 a, .int .i64 b] 42)
       have K26 := Lib.hid (Blk.new w6 42 #[.int .i64 a, .int .i64 b])
       have AB7 := Lib.hid (AB6.out.trans (AbT.below hbl))
       have RG7 := Lib.hid (RgN.grown (show RgN w6 lmk rg nk (LV k) (vis ++ [c]) (w6.rangeLeft lmk rg) from ⟨RG6.out, rfl⟩) (below_grown hbl none) (by simp) (by simp))
       have SB7 := Lib.hid (SB6.out.kept (below_grown hbl none) (by simp))
       have H26 := Lib.hid (show wi.heap.size ≤ b26 from by rw [h26]; exact AB6.out.1.size)
       rw [← h26] at K26 ⊢
       obtain ⟨N6, hN6⟩ : ∃ n, n = w6.rangeLeft lmk rg := ⟨_, rfl⟩
       rw [← hN6] at RG7 HLT
       clear h26 hbl hN6 AB6 RG6 SB6
       generalize w6.alloc (.cells #[.int .i64 a, .int .i64 b] 42) = w7 at K26 AB7 RG7 SB7 ⊢
       have HNH := Lib.hid (show M.mxL ((vis ++ [c]).map (HI k)) = max hg b from by rw [List.map_append, HHG.out, HBb.out]; exact M.mxL_app)
       have HNL := Lib.hid (show M.mnL ((vis ++ [c]).map (LO k)) = if vis = [] then a else min lw a from by
        rw [List.map_append, HLW.out, HA.out]
        show M.mnL (_ ++ [_]) = _
        rw [M.mnL_app]
        by_cases h : vis = []
        · rw [if_pos h, if_pos (by rw [h]; rfl)]
        · rw [if_neg h, if_neg (by simpa using h)])
       have HLZ := Lib.hid (show (vis = [] → lw = -1) ∧ (vis ≠ [] → 0 ≤ lw ∧ lw ≤ 6000) from ⟨fun h => by rw [HLW.out, h]; rfl, fun h => by
        have h1 := M.mnL_mem (l := vis.map (LO k)) (by simpa using h)
        rw [← HLW.out] at h1
        obtain ⟨x, hx, e⟩ := List.mem_map.1 h1
        have := HLB.out k x hlt (HND.out.2 x hx)
        omega⟩)
       obtain ⟨k0, k1⟩ := K26.out.c2
       by_cases hvn : vis = []
       ·
        have hlz : lw = -1 := HLZ.out.1 hvn
        subst hlz
        gi_upto_region 29 with fail
        have HNL2 := Lib.hid (show M.mnL ((vis ++ [c]).map (LO k)) = a from by rw [HNL.out, if_pos hvn])
        clear k0 k1 HLZ HNL hvn
        by_cases hlast : k + 1 = m
        ·
         have gq : ((k : Int) == (m : Int) - 1) = true := by simp; omega
         gi_wp2_with fail
         go_roundw
         case rel => exact ⟨vis ++ [c], qn, by rw [HNL2.out], by rw [HNH.out], Lib.hid ⟨AB7.out, RG7.out.1, SB7.out.congr fun x => by rw [if_neg (by omega), if_neg (by omega)], by have := HQN.out; simp only [List.length_append, List.length_cons, List.length_nil]; omega, nodup_snoc HND.out.1 HNV.out, fun x hx => (List.mem_append.1 hx).elim (HND.out.2 x) fun h => by rw [List.mem_singleton.1 h]; exact HCR.out⟩⟩
         case measure => rw [RG7.out.2]; exact HLT.out
        ·
         have gq : ((k : Int) == (m : Int) - 1) = false := by simp; omega
         have hk1 : k + 1 < m := by omega
         have SB8 := Lib.hid (show SpM w7 bm qn (BH k vis) from SB7.out.congr fun x => if_pos hk1)
         clear SB7
         have A7 := Lib.hid (A3.out.ab AB7.out hw1 hw2)
         have HLS := Lib.hid (show Calls Tryz.prog 77 #[.agg #[.pointer (some ⟨P, 0, none⟩), .int .i64 (ta : Int), .slice xA xL.length xc, .int .i64 lo, .int .i64 hi, .slice hA hn hc], .agg #[.slice bA bn bc, .int .i64 s0, .int .i64 s1], .int .i64 c] w7 fun e w' => e = .returned (.agg #[.int .i64 (co c 0), .int .i64 (co c 1)]) ∧ Below w7.heap.size w7 w' from by
          rw [← HCF.out c 0 hcB.2, ← HCF.out c 1 hcB.2]
          exact dlosses_any (bc := bc) (s0 := s0) (s1 := s1) w7 (A7.out.ch.sm.box.cell 5) A7.out.ch.sm.rd.z A7.out.ch.sm.b.2.2.2.2 (HBD.out w7 A7.out.bw) (Nat.le_trans hbB A7.out.bw.size) A7.out.ch.sm.box.lt (by omega) (by have := HBN.out; omega) hcB (fun i hi => by have := HD.out.z i hi; have := HBN.out; omega))
         obtain ⟨l0, hl0⟩ : ∃ x, x = co c 0 := ⟨_, rfl⟩
         obtain ⟨h0, hh0⟩ : ∃ x, x = co c 1 := ⟨_, rfl⟩
         rw [← hl0, ← hh0] at HLS
         have hlb := HCO.out c
         rw [← hl0, ← hh0] at hlb
         have HL0 := Lib.hid hl0
         have HH0 := Lib.hid hh0
         clear hl0 hh0
         obtain ⟨x0, x1, x2, x3⟩ := A7.out.k11.c4
         have x4 := A7.out.k11.cell 4
         have x5 := A7.out.k11.cell 5
         obtain ⟨y0, y1, y2⟩ := A7.out.k7.c3
         gi_wp2_with fail
         refine ⟨trivial, (CallsIn.inRound _ (callsIn_wide.2 HLS.out)).mono ?_⟩
         rintro e w8 ⟨rfl, hb8⟩
         clear x0 x1 x2 x3 x4 x5 y0 y1 y2
         obtain ⟨b27, h27⟩ : ∃ n, n = w8.heap.size := ⟨_, rfl⟩
         have hbl := belowAlloc w8 (.cells #[.int .i64 l0, .int .i64 h0] 42)
         have hbb := hb8.trans (hbl.mono hb8.size)
         have K27 := Lib.hid (Blk.new w8 42 #[.int .i64 l0, .int .i64 h0])
         have K29 := Lib.hid (K26.out.below' hbb)
         have AB9 := Lib.hid (AB7.out.trans (AbT.below hbb))
         have RG9 := Lib.hid (RG7.out.grown (below_grown hbb none) (by simp) (by simp))
         have SB9 := Lib.hid (SB8.out.kept (below_grown hbb none) (by simp))
         gi_upto_region 31 with fail
         rw [← h27] at K27 ⊢
         clear h27 hbl hbb hb8 AB7 RG7 SB8 K26 A7 HLS
         generalize w8.alloc (.cells #[.int .i64 l0, .int .i64 h0] 42) = w9 at K27 K29 AB9 RG9 SB9 ⊢
         obtain ⟨z0, z1⟩ := K29.out.c2
         obtain ⟨j0, j1⟩ := K27.out.c2
         gi_upto_region 32 with fail
         clear z0 z1 j0 j1
         obtain ⟨b28, h28⟩ : ∃ n, n = w9.heap.size := ⟨_, rfl⟩
         have hbl := belowAlloc w9 (.cells #[.int .i64 (a + l0), .int .i64 (b + h0)] 42)
         have K28 := Lib.hid (Blk.new w9 42 #[.int .i64 (a + l0), .int .i64 (b + h0)])
         have ABx := Lib.hid (AB9.out.trans (AbT.below hbl))
         have RGx := Lib.hid (RG9.out.grown (below_grown hbl none) (by simp) (by simp))
         have SBx := Lib.hid (SB9.out.kept (below_grown hbl none) (by simp))
         have H28 := Lib.hid (show wi.heap.size ≤ b28 from by rw [h28]; exact AB9.out.1.size)
         rw [← h28] at K28 ⊢
         clear h28 hbl AB9 RG9 SB9 K27 K29
         generalize w9.alloc (.cells #[.int .i64 (a + l0), .int .i64 (b + h0)] 42) = wx at K28 ABx RGx SBx ⊢
         have Ax := Lib.hid (A3.out.ab ABx.out hw1 hw2)
         have htk : ta + k + 1 < d.s.nt := by have := HTM.out; omega
         have HSX := Lib.hid (show Calls Tryz.prog 48 #[.pointer (some ⟨P, 0, none⟩), .agg #[.int .i64 c, .int .i64 ((ta : Int) + (k : Int)), .int .i64 (ln : Int)]] wx (StepR d zA cA wA dA tA sA cl B P m1 m2 dc tc sc zc cc wc (TS P m1 m2 wx) wx (ta + k) (ln : Int) c) from by
          have h := dstep_any HD.out Ax.out.ch.sm c (ta + k) ln hcB htk hln
          rw [show ((ta + k : Nat) : Int) = (ta : Int) + (k : Int) by omega] at h
          exact h)
         obtain ⟨x0, x1⟩ := Ax.out.k11.c2
         have hta : ta ≤ 60 := by omega
         gi_wp2_with fail
         refine ⟨trivial, (CallsIn.inRound _ (callsIn_wide.2 HSX.out)).mono ?_⟩
         rintro e w5' ⟨T3, g3, c3, hT1, hT2, hTg, rfl, hM3, hI3, hmv⟩
         clear x0 x1
         have HE3 := Lib.hid (show M.stepL d (ta + k) (ln : Int) c = ST k c from by rw [HSE.out])
         rw [HE3.out] at hI3
         simp only [HE3.out]
         have hgV := K3.out.size
         have hlk := HLK.out
         have hrn := HRN5.out
         have hbmx := HBM.out
         have ABy := Lib.hid (ABx.out.trans (AbT.of_sea hmv hM3 hT2))
         have RGy := Lib.hid (RGx.out.mv hmv (by omega) (by omega) (by omega) (by omega))
         have SBy := Lib.hid (SBx.out.mv hmv (by omega) (by omega))
         have K28y := Lib.hid (K28.out.mv hmv Ax.out.ch.sm.map1 Ax.out.ch.sm.map2)
         have ILy := Lib.hid hI3
         clear ABx RGx SBx K28 Ax HSX hT1 hT2 hTg hM3 hI3 hmv
         have hsl := HSL.out k c
         obtain ⟨sl, hsl2⟩ : ∃ l, l = ST k c := ⟨_, rfl⟩
         rw [← hsl2] at ILy hsl
         simp only [← hsl2]
         have HSX2 := Lib.hid hsl2
         clear hsl2
         have D0 := Lib.hid (show Hid (AbT d zA cA wA dA tA sA cl B P m1 m2 dc tc sc zc cc wc wi w5' ∧ RgN w5' lmk rg nk (LV k) (vis ++ [c]) N6 ∧ SpM w5' bm qn (BJ k vis c 0) ∧ qn ≤ 145 * vis.length + 0 ∧ IL w5' B (.slice (some ⟨g3, 0, none⟩) sl.length c3) sl ∧ Blk w5' b28 42 #[.int .i64 (a + l0), .int .i64 (b + h0)]) from Lib.hid ⟨ABy.out, RGy.out, SBy.out.congr fun x => (HJ0.out k vis c x).symm, by have := HQN.out; omega, ILy.out, K28y.out⟩)
         clear ABy RGy SBy ILy K28y
         gi_wp2_with fail
         gi_loopw [159] (fun i wr => ∃ (j qj : Nat), j ≤ sl.length ∧ i = .int .i64 (j : Int) ∧ Hid (AbT d zA cA wA dA tA sA cl B P m1 m2 dc tc sc zc cc wc wi wr ∧ RgN wr lmk rg nk (LV k) (vis ++ [c]) N6 ∧ SpM wr bm qj (BJ k vis c j) ∧ qj ≤ 145 * vis.length + j ∧ IL wr B (.slice (some ⟨g3, 0, none⟩) sl.length c3) sl ∧ Blk wr b28 42 #[.int .i64 (a + l0), .int .i64 (b + h0)])) (fun i _ => sl.length - (intOf i).toNat)
         case atStart => exact ⟨0, qn, Nat.zero_le _, rfl, D0.out⟩
         case round =>
          clear D0
          obtain ⟨j, qj, hj, rfl, HD5⟩ := hrel
          by_cases hjl : j < sl.length
          ·
           have g5 : decide (j < sl.length) = true := decide_eq_true hjl
           have ABr := Lib.hid HD5.out.1
           have RGr := Lib.hid HD5.out.2.1
           have SBr := Lib.hid HD5.out.2.2.1
           have HQJ := Lib.hid HD5.out.2.2.2.1
           have ILr := Lib.hid HD5.out.2.2.2.2.1
           have K28r := Lib.hid HD5.out.2.2.2.2.2
           clear HD5
           obtain ⟨y, hy⟩ : ∃ y, y = sl.getD j 0 := ⟨_, rfl⟩
           have HY := Lib.hid (show y = (ST k c).getD j 0 from by rw [hy, HSX2.out])
           have c1 : wr.cell? ⟨g3, j, none⟩ = some (.int .i64 y) := by rw [hy]; exact Own.cell1 (show Own wr B 3 1 (.slice (some ⟨g3, 0, none⟩) sl.length c3) sl.length (ints fun q => sl.getD q 0) from ILr.out) hjl
           clear hy
           have hyB : -1 ≤ y ∧ y < d.s.nd := by rw [HY.out]; exact HSB.out k c j (by rw [← HSX2.out]; exact hjl)
           have hys : small y := ⟨hyB.1, by omega⟩
           have Rr := Lib.hid (show RwO P m1 m2 base2 gr m Ur RW wr from R3.out.mv ABr.out.1 A3.out.ch.sm.map1 A3.out.ch.sm.map2 (ABr.out.2 A3.out.ch.sm).2)
           obtain ⟨uA, uc, hu⟩ := Own.form (Rr.out.r (k + 1) hk1)
           have c2 : wr.cell? ⟨gr, k + 1, none⟩ = some (.slice uA (RW (k + 1)).length uc) := by rw [← hu]; exact Own.cell1 Rr.out.o hk1
           have HCN := Lib.hid (contains_any uA (RW (k + 1)) uc wr.heap.size y wr (by have := HRL.out (k + 1); omega) (IL.rd (show IL wr base2 (.slice uA (RW (k + 1)).length uc) (RW (k + 1)) from by rw [← hu]; exact Rr.out.r (k + 1) hk1)))
           obtain ⟨cb2, hcb⟩ : ∃ q, q = (RW (k + 1)).contains y := ⟨_, rfl⟩
           rw [← hcb] at HCN
           have HCB := Lib.hid hcb
           have hrl1 := HRL.out (k + 1)
           have hkm1 : (k : Int) + 1 < (m : Int) := by omega
           clear hcb hu Rr
           gi_wp2_with fail
           refine ⟨trivial, (CallsIn.inRound _ (callsIn_wide.2 HCN.out)).mono ?_⟩
           rintro e w9' ⟨rfl, hw9⟩
           rw [hw9]
           clear hw9 w9' HCN c1 c2
           cases cb2
           ·
            have HNM := Lib.hid (show (ST k c).getD j 0 ∉ RW (k + 1) from fun h => by have h2 := HCB.out; rw [HY.out, List.contains_iff_mem.2 h] at h2; cases h2)
            gi_wp2_with fail
            go_roundw
            case rel => exact ⟨j + 1, qj, by omega, by go_num, Lib.hid ⟨ABr.out, RGr.out, SBr.out.congr fun x => (HJS.out k vis c j (by rw [← HSX2.out]; exact hjl) HNM.out x).symm, by have := HQJ.out; omega, ILr.out, K28r.out⟩⟩
            case measure => simp [intOf]; omega
           ·
            have HMM := Lib.hid (show (ST k c).getD j 0 ∈ RW (k + 1) from by rw [← HY.out]; exact List.contains_iff_mem.1 HCB.out.symm)
            have hlk := SBr.out.look hys
            cases hv : BJ k vis c j y with
            | none =>
             have HV := Lib.hid (show BH k vis ((ST k c).getD j 0) = none from by rw [← HJO.out k vis c j (by rw [← HSX2.out]; exact hjl), ← HY.out]; exact hv)
             rw [hv] at hlk
             have hlk : (Instr.lookup 134 (.map (some bm)) (.int .i64 y) true).run Tryz.prog wr = .ok (.tuple #[.agg #[.int .i64 0, .int .i64 0], .bool false]) wr := hlk
             clear hv
             gi_upto_region 37 with (gi_at_lookup; go_must (refine wpListIn_look _ rfl (.tmp 172) (.tmp 173) 134 rfl bm _ _ rfl rfl hlk ?_))
             clear hlk
             have hbl := belowAlloc wr (.cells #[.int .i64 0, .int .i64 0] 42)
             have ABz := Lib.hid (ABr.out.trans (AbT.below hbl))
             have RGz := Lib.hid (RGr.out.grown (below_grown hbl none) (by simp) (by simp))
             have SBz := Lib.hid (SBr.out.kept (below_grown hbl none) (by simp))
             have ILz := Lib.hid (show IL (wr.alloc (.cells #[.int .i64 0, .int .i64 0] 42)) B (.slice (some ⟨g3, 0, none⟩) sl.length c3) sl from Own.below ILr.out hbl)
             have K28z := Lib.hid (K28r.out.below' hbl)
             clear ABr RGr SBr ILr K28r hbl
             generalize wr.alloc (.cells #[.int .i64 0, .int .i64 0] 42) = wz at ABz RGz SBz ILz K28z ⊢
             obtain ⟨W2, hrun, hS2, hG2⟩ := SBz.out.store (by have := HQJ.out; unfold maxLen; omega) hys (a + l0, b + h0)
             have hrun : (Instr.mapUpdate 134 (.map (some bm)) (.int .i64 y) (.agg #[.int .i64 (a + l0), .int .i64 (b + h0)])).run Tryz.prog wz = .ok () W2 := hrun
             have HS2 := Lib.hid hS2
             have HG2 := Lib.hid hG2
             clear hS2 hG2
             obtain ⟨z0, z1⟩ := K28z.out.c2
             gi_wp2_with fail
             have HNB := Lib.hid SBz.out.note
             have htz := (ABz.out.2 A3.out.ch.sm).1
             have hmb1 := (A3.out.ch.sm.t.2.2.2 m1 A3.out.ch.sm.t.2.1).2
             have hmb2 := (A3.out.ch.sm.t.2.2.2 m2 A3.out.ch.sm.t.2.2.1).2
             have hBs := A3.out.ch.sm.b.2.2.2.2
             have HTZ := Lib.hid htz
             clear htz
             go_roundw
             case rel =>
              obtain ⟨o9, ho9, hn9⟩ := HNB.out
              refine ⟨j + 1, qj + 1, by omega, by go_num, Lib.hid ⟨ABz.out.grown HTZ.out HG2.out fun q e => by cases e; exact ⟨by omega, by omega, ts_notes HTZ.out (lo' := bm) (Nat.le_refl _) ho9 hn9 (by omega) (by omega)⟩, RGz.out.grown HG2.out (by intro e; injection e with e; omega) (by intro e; injection e with e; have := HBR.out; omega), HS2.out.congr fun x => ?_, by have := HQJ.out; omega, Own.grown ILz.out HG2.out (.inr (Own.cells_ne ILz.out ho9 hn9)), K28z.out.grown HG2.out fun e => by injection e with e; subst e; rw [show wz.heap[b28]? = _ from K28z.out] at ho9; cases ho9; cases hn9⟩⟩
              have e := HJN.out k vis c j hcB.2 (by rw [← HSX2.out]; exact hjl) HMM.out HV.out x
              rw [← HY.out, ← HA.out, ← HBb.out, ← HL0.out, ← HH0.out] at e
              exact e.symm
             case measure => simp [intOf]; omega
            | some pr =>
             obtain ⟨p, r⟩ := pr
             have HV := Lib.hid (show BH k vis ((ST k c).getD j 0) = some (p, r) from by rw [← HJO.out k vis c j (by rw [← HSX2.out]; exact hjl), ← HY.out]; exact hv)
             rw [hv] at hlk
             have hlk : (Instr.lookup 134 (.map (some bm)) (.int .i64 y) true).run Tryz.prog wr = .ok (.tuple #[.agg #[.int .i64 p, .int .i64 r], .bool true]) wr := hlk
             clear hv
             gi_upto_region 37 with (gi_at_lookup; go_must (refine wpListIn_look _ rfl (.tmp 172) (.tmp 173) 134 rfl bm _ _ rfl rfl hlk ?_))
             clear hlk
             have hbl := belowAlloc wr (.cells #[.int .i64 p, .int .i64 r] 42)
             have ABz := Lib.hid (ABr.out.trans (AbT.below hbl))
             have RGz := Lib.hid (RGr.out.grown (below_grown hbl none) (by simp) (by simp))
             have SBz := Lib.hid (SBr.out.kept (below_grown hbl none) (by simp))
             have ILz := Lib.hid (show IL (wr.alloc (.cells #[.int .i64 p, .int .i64 r] 42)) B (.slice (some ⟨g3, 0, none⟩) sl.length c3) sl from Own.below ILr.out hbl)
             have K28z := Lib.hid (K28r.out.below' hbl)
             obtain ⟨b31, h31⟩ : ∃ n, n = wr.heap.size := ⟨_, rfl⟩
             have K31 := Lib.hid (Blk.new wr 42 #[.int .i64 p, .int .i64 r])
             rw [← h31] at K31 ⊢
             clear h31
             clear ABr RGr SBr ILr K28r hbl
             generalize wr.alloc (.cells #[.int .i64 p, .int .i64 r] 42) = wz at ABz RGz SBz ILz K28z K31 ⊢
             obtain ⟨W2, hrun, hS2, hG2⟩ := SBz.out.store (by have := HQJ.out; unfold maxLen; omega) hys (min p (a + l0), max r (b + h0))
             have hrun : (Instr.mapUpdate 134 (.map (some bm)) (.int .i64 y) (.agg #[.int .i64 (min p (a + l0)), .int .i64 (max r (b + h0))])).run Tryz.prog wz = .ok () W2 := hrun
             have HS2 := Lib.hid hS2
             have HG2 := Lib.hid hG2
             clear hS2 hG2
             obtain ⟨z0, z1⟩ := K28z.out.c2
             obtain ⟨t0, t1⟩ := K31.out.c2
             gi_wp2_with fail
             have HNB := Lib.hid SBz.out.note
             have htz := (ABz.out.2 A3.out.ch.sm).1
             have hmb1 := (A3.out.ch.sm.t.2.2.2 m1 A3.out.ch.sm.t.2.1).2
             have hmb2 := (A3.out.ch.sm.t.2.2.2 m2 A3.out.ch.sm.t.2.2.1).2
             have hBs := A3.out.ch.sm.b.2.2.2.2
             have HTZ := Lib.hid htz
             clear htz
             go_roundw
             case rel =>
              obtain ⟨o9, ho9, hn9⟩ := HNB.out
              refine ⟨j + 1, qj + 1, by omega, by go_num, Lib.hid ⟨ABz.out.grown HTZ.out HG2.out fun q e => by cases e; exact ⟨by omega, by omega, ts_notes HTZ.out (lo' := bm) (Nat.le_refl _) ho9 hn9 (by omega) (by omega)⟩, RGz.out.grown HG2.out (by intro e; injection e with e; omega) (by intro e; injection e with e; have := HBR.out; omega), HS2.out.congr fun x => ?_, by have := HQJ.out; omega, Own.grown ILz.out HG2.out (.inr (Own.cells_ne ILz.out ho9 hn9)), K28z.out.grown HG2.out fun e => by injection e with e; subst e; rw [show wz.heap[b28]? = _ from K28z.out] at ho9; cases ho9; cases hn9⟩⟩
              have e := HJM.out k vis c j p r hcB.2 (by rw [← HSX2.out]; exact hjl) HMM.out HV.out x
              rw [← HY.out, ← HA.out, ← HBb.out, ← HL0.out, ← HH0.out] at e
              exact e.symm
             case measure => simp [intOf]; omega
          ·
           obtain rfl : j = sl.length := by omega
           have g5 : decide (sl.length < sl.length) = false := decide_eq_false (Nat.lt_irrefl _)
           gi_wp2_with fail
           go_roundw
           case rel => exact ⟨vis ++ [c], qj, by rw [HNL2.out], by rw [HNH.out], Lib.hid ⟨HD5.out.1, HD5.out.2.1.1, HD5.out.2.2.1.congr fun x => by rw [if_pos hk1, HSX2.out]; exact HJE.out k vis c x hcB.2, by have := HD5.out.2.2.2.1; simp only [List.length_append, List.length_cons, List.length_nil]; omega, nodup_snoc HND.out.1 HNV.out, fun x hx => (List.mem_append.1 hx).elim (HND.out.2 x) fun h => by rw [List.mem_singleton.1 h]; exact HCR.out⟩⟩
           case measure => rw [HD5.out.2.1.2]; exact HLT.out
       ·
        obtain ⟨hz1, hz2⟩ := HLZ.out.2 hvn
        have g3 : decide (lw < 0) = false := decide_eq_false (by omega)
        have HNL3 := Lib.hid (show M.mnL ((vis ++ [c]).map (LO k)) = min lw a from by rw [HNL.out, if_neg hvn])
        clear HLZ HNL hvn
        by_cases hal2 : a < lw
        ·
         have g4 : decide (a < lw) = true := decide_eq_true hal2
         gi_upto_region 29 with fail
         have HNL2 := Lib.hid (show M.mnL ((vis ++ [c]).map (LO k)) = a from by rw [HNL3.out]; omega)
         clear k0 k1 HNL3 g3 g4 hal2 hz1 hz2
         by_cases hlast : k + 1 = m
         ·
          have gq : ((k : Int) == (m : Int) - 1) = true := by simp; omega
          gi_wp2_with fail
          go_roundw
          case rel => exact ⟨vis ++ [c], qn, by rw [HNL2.out], by rw [HNH.out], Lib.hid ⟨AB7.out, RG7.out.1, SB7.out.congr fun x => by rw [if_neg (by omega), if_neg (by omega)], by have := HQN.out; simp only [List.length_append, List.length_cons, List.length_nil]; omega, nodup_snoc HND.out.1 HNV.out, fun x hx => (List.mem_append.1 hx).elim (HND.out.2 x) fun h => by rw [List.mem_singleton.1 h]; exact HCR.out⟩⟩
          case measure => rw [RG7.out.2]; exact HLT.out
         ·
          have gq : ((k : Int) == (m : Int) - 1) = false := by simp; omega
          have hk1 : k + 1 < m := by omega
          have SB8 := Lib.hid (show SpM w7 bm qn (BH k vis) from SB7.out.congr fun x => if_pos hk1)
          clear SB7
          have A7 := Lib.hid (A3.out.ab AB7.out hw1 hw2)
          have HLS := Lib.hid (show Calls Tryz.prog 77 #[.agg #[.pointer (some ⟨P, 0, none⟩), .int .i64 (ta : Int), .slice xA xL.length xc, .int .i64 lo, .int .i64 hi, .slice hA hn hc], .agg #[.slice bA bn bc, .int .i64 s0, .int .i64 s1], .int .i64 c] w7 fun e w' => e = .returned (.agg #[.int .i64 (co c 0), .int .i64 (co c 1)]) ∧ Below w7.heap.size w7 w' from by
           rw [← HCF.out c 0 hcB.2, ← HCF.out c 1 hcB.2]
           exact dlosses_any (bc := bc) (s0 := s0) (s1 := s1) w7 (A7.out.ch.sm.box.cell 5) A7.out.ch.sm.rd.z A7.out.ch.sm.b.2.2.2.2 (HBD.out w7 A7.out.bw) (Nat.le_trans hbB A7.out.bw.size) A7.out.ch.sm.box.lt (by omega) (by have := HBN.out; omega) hcB (fun i hi => by have := HD.out.z i hi; have := HBN.out; omega))
          obtain ⟨l0, hl0⟩ : ∃ x, x = co c 0 := ⟨_, rfl⟩
          obtain ⟨h0, hh0⟩ : ∃ x, x = co c 1 := ⟨_, rfl⟩
          rw [← hl0, ← hh0] at HLS
          have hlb := HCO.out c
          rw [← hl0, ← hh0] at hlb
          have HL0 := Lib.hid hl0
          have HH0 := Lib.hid hh0
          clear hl0 hh0
          obtain ⟨x0, x1, x2, x3⟩ := A7.out.k11.c4
          have x4 := A7.out.k11.cell 4
          have x5 := A7.out.k11.cell 5
          obtain ⟨y0, y1, y2⟩ := A7.out.k7.c3
          gi_wp2_with fail
          refine ⟨trivial, (CallsIn.inRound _ (callsIn_wide.2 HLS.out)).mono ?_⟩
          rintro e w8 ⟨rfl, hb8⟩
          clear x0 x1 x2 x3 x4 x5 y0 y1 y2
          obtain ⟨b27, h27⟩ : ∃ n, n = w8.heap.size := ⟨_, rfl⟩
          have hbl := belowAlloc w8 (.cells #[.int .i64 l0, .int .i64 h0] 42)
          have hbb := hb8.trans (hbl.mono hb8.size)
          have K27 := Lib.hid (Blk.new w8 42 #[.int .i64 l0, .int .i64 h0])
          have K29 := Lib.hid (K26.out.below' hbb)
          have AB9 := Lib.hid (AB7.out.trans (AbT.below hbb))
          have RG9 := Lib.hid (RG7.out.grown (below_grown hbb none) (by simp) (by simp))
          have SB9 := Lib.hid (SB8.out.kept (below_grown hbb none) (by simp))
          gi_upto_region 31 with fail
          rw [← h27] at K27 ⊢
          clear h27 hbl hbb hb8 AB7 RG7 SB8 K26 A7 HLS
          generalize w8.alloc (.cells #[.int .i64 l0, .int .i64 h0] 42) = w9 at K27 K29 AB9 RG9 SB9 ⊢
          obtain ⟨z0, z1⟩ := K29.out.c2
          obtain ⟨j0, j1⟩ := K27.out.c2
          gi_upto_region 32 with fail
          clear z0 z1 j0 j1
          obtain ⟨b28, h28⟩ : ∃ n, n = w9.heap.size := ⟨_, rfl⟩
          have hbl := belowAlloc w9 (.cells #[.int .i64 (a + l0), .int .i64 (b + h0)] 42)
          have K28 := Lib.hid (Blk.new w9 42 #[.int .i64 (a + l0), .int .i64 (b + h0)])
          have ABx := Lib.hid (AB9.out.trans (AbT.below hbl))
          have RGx := Lib.hid (RG9.out.grown (below_grown hbl none) (by simp) (by simp))
          have SBx := Lib.hid (SB9.out.kept (below_grown hbl none) (by simp))
          have H28 := Lib.hid (show wi.heap.size ≤ b28 from by rw [h28]; exact AB9.out.1.size)
          rw [← h28] at K28 ⊢
          clear h28 hbl AB9 RG9 SB9 K27 K29
          generalize w9.alloc (.cells #[.int .i64 (a + l0), .int .i64 (b + h0)] 42) = wx at K28 ABx RGx SBx ⊢
          have Ax := Lib.hid (A3.out.ab ABx.out hw1 hw2)
          have htk : ta + k + 1 < d.s.nt := by have := HTM.out; omega
          have HSX := Lib.hid (show Calls Tryz.prog 48 #[.pointer (some ⟨P, 0, none⟩), .agg #[.int .i64 c, .int .i64 ((ta : Int) + (k : Int)), .int .i64 (ln : Int)]] wx (StepR d zA cA wA dA tA sA cl B P m1 m2 dc tc sc zc cc wc (TS P m1 m2 wx) wx (ta + k) (ln : Int) c) from by
           have h := dstep_any HD.out Ax.out.ch.sm c (ta + k) ln hcB htk hln
           rw [show ((ta + k : Nat) : Int) = (ta : Int) + (k : Int) by omega] at h
           exact h)
          obtain ⟨x0, x1⟩ := Ax.out.k11.c2
          have hta : ta ≤ 60 := by omega
          gi_wp2_with fail
          refine ⟨trivial, (CallsIn.inRound _ (callsIn_wide.2 HSX.out)).mono ?_⟩
          rintro e w5' ⟨T3, g3, c3, hT1, hT2, hTg, rfl, hM3, hI3, hmv⟩
          clear x0 x1
          have HE3 := Lib.hid (show M.stepL d (ta + k) (ln : Int) c = ST k c from by rw [HSE.out])
          rw [HE3.out] at hI3
          simp only [HE3.out]
          have hgV := K3.out.size
          have hlk := HLK.out
          have hrn := HRN5.out
          have hbmx := HBM.out
          have ABy := Lib.hid (ABx.out.trans (AbT.of_sea hmv hM3 hT2))
          have RGy := Lib.hid (RGx.out.mv hmv (by omega) (by omega) (by omega) (by omega))
          have SBy := Lib.hid (SBx.out.mv hmv (by omega) (by omega))
          have K28y := Lib.hid (K28.out.mv hmv Ax.out.ch.sm.map1 Ax.out.ch.sm.map2)
          have ILy := Lib.hid hI3
          clear ABx RGx SBx K28 Ax HSX hT1 hT2 hTg hM3 hI3 hmv
          have hsl := HSL.out k c
          obtain ⟨sl, hsl2⟩ : ∃ l, l = ST k c := ⟨_, rfl⟩
          rw [← hsl2] at ILy hsl
          simp only [← hsl2]
          have HSX2 := Lib.hid hsl2
          clear hsl2
          have D0 := Lib.hid (show Hid (AbT d zA cA wA dA tA sA cl B P m1 m2 dc tc sc zc cc wc wi w5' ∧ RgN w5' lmk rg nk (LV k) (vis ++ [c]) N6 ∧ SpM w5' bm qn (BJ k vis c 0) ∧ qn ≤ 145 * vis.length + 0 ∧ IL w5' B (.slice (some ⟨g3, 0, none⟩) sl.length c3) sl ∧ Blk w5' b28 42 #[.int .i64 (a + l0), .int .i64 (b + h0)]) from Lib.hid ⟨ABy.out, RGy.out, SBy.out.congr fun x => (HJ0.out k vis c x).symm, by have := HQN.out; omega, ILy.out, K28y.out⟩)
          clear ABy RGy SBy ILy K28y
          gi_wp2_with fail
          gi_loopw [159] (fun i wr => ∃ (j qj : Nat), j ≤ sl.length ∧ i = .int .i64 (j : Int) ∧ Hid (AbT d zA cA wA dA tA sA cl B P m1 m2 dc tc sc zc cc wc wi wr ∧ RgN wr lmk rg nk (LV k) (vis ++ [c]) N6 ∧ SpM wr bm qj (BJ k vis c j) ∧ qj ≤ 145 * vis.length + j ∧ IL wr B (.slice (some ⟨g3, 0, none⟩) sl.length c3) sl ∧ Blk wr b28 42 #[.int .i64 (a + l0), .int .i64 (b + h0)])) (fun i _ => sl.length - (intOf i).toNat)
          case atStart => exact ⟨0, qn, Nat.zero_le _, rfl, D0.out⟩
          case round =>
           clear D0
           obtain ⟨j, qj, hj, rfl, HD5⟩ := hrel
           by_cases hjl : j < sl.length
           ·
            have g5 : decide (j < sl.length) = true := decide_eq_true hjl
            have ABr := Lib.hid HD5.out.1
            have RGr := Lib.hid HD5.out.2.1
            have SBr := Lib.hid HD5.out.2.2.1
            have HQJ := Lib.hid HD5.out.2.2.2.1
            have ILr := Lib.hid HD5.out.2.2.2.2.1
            have K28r := Lib.hid HD5.out.2.2.2.2.2
            clear HD5
            obtain ⟨y, hy⟩ : ∃ y, y = sl.getD j 0 := ⟨_, rfl⟩
            have HY := Lib.hid (show y = (ST k c).getD j 0 from by rw [hy, HSX2.out])
            have c1 : wr.cell? ⟨g3, j, none⟩ = some (.int .i64 y) := by rw [hy]; exact Own.cell1 (show Own wr B 3 1 (.slice (some ⟨g3, 0, none⟩) sl.length c3) sl.length (ints fun q => sl.getD q 0) from ILr.out) hjl
            clear hy
            have hyB : -1 ≤ y ∧ y < d.s.nd := by rw [HY.out]; exact HSB.out k c j (by rw [← HSX2.out]; exact hjl)
            have hys : small y := ⟨hyB.1, by omega⟩
            have Rr := Lib.hid (show RwO P m1 m2 base2 gr m Ur RW wr from R3.out.mv ABr.out.1 A3.out.ch.sm.map1 A3.out.ch.sm.map2 (ABr.out.2 A3.out.ch.sm).2)
            obtain ⟨uA, uc, hu⟩ := Own.form (Rr.out.r (k + 1) hk1)
            have c2 : wr.cell? ⟨gr, k + 1, none⟩ = some (.slice uA (RW (k + 1)).length uc) := by rw [← hu]; exact Own.cell1 Rr.out.o hk1
            have HCN := Lib.hid (contains_any uA (RW (k + 1)) uc wr.heap.size y wr (by have := HRL.out (k + 1); omega) (IL.rd (show IL wr base2 (.slice uA (RW (k + 1)).length uc) (RW (k + 1)) from by rw [← hu]; exact Rr.out.r (k + 1) hk1)))
            obtain ⟨cb2, hcb⟩ : ∃ q, q = (RW (k + 1)).contains y := ⟨_, rfl⟩
            rw [← hcb] at HCN
            have HCB := Lib.hid hcb
            have hrl1 := HRL.out (k + 1)
            have hkm1 : (k : Int) + 1 < (m : Int) := by omega
            clear hcb hu Rr
            gi_wp2_with fail
            refine ⟨trivial, (CallsIn.inRound _ (callsIn_wide.2 HCN.out)).mono ?_⟩
            rintro e w9' ⟨rfl, hw9⟩
            rw [hw9]
            clear hw9 w9' HCN c1 c2
            cases cb2
            ·
             have HNM := Lib.hid (show (ST k c).getD j 0 ∉ RW (k + 1) from fun h => by have h2 := HCB.out; rw [HY.out, List.contains_iff_mem.2 h] at h2; cases h2)
             gi_wp2_with fail
             go_roundw
             case rel => exact ⟨j + 1, qj, by omega, by go_num, Lib.hid ⟨ABr.out, RGr.out, SBr.out.congr fun x => (HJS.out k vis c j (by rw [← HSX2.out]; exact hjl) HNM.out x).symm, by have := HQJ.out; omega, ILr.out, K28r.out⟩⟩
             case measure => simp [intOf]; omega
            ·
             have HMM := Lib.hid (show (ST k c).getD j 0 ∈ RW (k + 1) from by rw [← HY.out]; exact List.contains_iff_mem.1 HCB.out.symm)
             have hlk := SBr.out.look hys
             cases hv : BJ k vis c j y with
             | none =>
              have HV := Lib.hid (show BH k vis ((ST k c).getD j 0) = none from by rw [← HJO.out k vis c j (by rw [← HSX2.out]; exact hjl), ← HY.out]; exact hv)
              rw [hv] at hlk
              have hlk : (Instr.lookup 134 (.map (some bm)) (.int .i64 y) true).run Tryz.prog wr = .ok (.tuple #[.agg #[.int .i64 0, .int .i64 0], .bool false]) wr := hlk
              clear hv
              gi_upto_region 37 with (gi_at_lookup; go_must (refine wpListIn_look _ rfl (.tmp 172) (.tmp 173) 134 rfl bm _ _ rfl rfl hlk ?_))
              clear hlk
              have hbl := belowAlloc wr (.cells #[.int .i64 0, .int .i64 0] 42)
              have ABz := Lib.hid (ABr.out.trans (AbT.below hbl))
              have RGz := Lib.hid (RGr.out.grown (below_grown hbl none) (by simp) (by simp))
              have SBz := Lib.hid (SBr.out.kept (below_grown hbl none) (by simp))
              have ILz := Lib.hid (show IL (wr.alloc (.cells #[.int .i64 0, .int .i64 0] 42)) B (.slice (some ⟨g3, 0, none⟩) sl.length c3) sl from Own.below ILr.out hbl)
              have K28z := Lib.hid (K28r.out.below' hbl)
              clear ABr RGr SBr ILr K28r hbl
              generalize wr.alloc (.cells #[.int .i64 0, .int .i64 0] 42) = wz at ABz RGz SBz ILz K28z ⊢
              obtain ⟨W2, hrun, hS2, hG2⟩ := SBz.out.store (by have := HQJ.out; unfold maxLen; omega) hys (a + l0, b + h0)
              have hrun : (Instr.mapUpdate 134 (.map (some bm)) (.int .i64 y) (.agg #[.int .i64 (a + l0), .int .i64 (b + h0)])).run Tryz.prog wz = .ok () W2 := hrun
              have HS2 := Lib.hid hS2
              have HG2 := Lib.hid hG2
              clear hS2 hG2
              obtain ⟨z0, z1⟩ := K28z.out.c2
              gi_wp2_with fail
              have HNB := Lib.hid SBz.out.note
              have htz := (ABz.out.2 A3.out.ch.sm).1
              have hmb1 := (A3.out.ch.sm.t.2.2.2 m1 A3.out.ch.sm.t.2.1).2
              have hmb2 := (A3.out.ch.sm.t.2.2.2 m2 A3.out.ch.sm.t.2.2.1).2
              have hBs := A3.out.ch.sm.b.2.2.2.2
              have HTZ := Lib.hid htz
              clear htz
              go_roundw
              case rel =>
               obtain ⟨o9, ho9, hn9⟩ := HNB.out
               refine ⟨j + 1, qj + 1, by omega, by go_num, Lib.hid ⟨ABz.out.grown HTZ.out HG2.out fun q e => by cases e; exact ⟨by omega, by omega, ts_notes HTZ.out (lo' := bm) (Nat.le_refl _) ho9 hn9 (by omega) (by omega)⟩, RGz.out.grown HG2.out (by intro e; injection e with e; omega) (by intro e; injection e with e; have := HBR.out; omega), HS2.out.congr fun x => ?_, by have := HQJ.out; omega, Own.grown ILz.out HG2.out (.inr (Own.cells_ne ILz.out ho9 hn9)), K28z.out.grown HG2.out fun e => by injection e with e; subst e; rw [show wz.heap[b28]? = _ from K28z.out] at ho9; cases ho9; cases hn9⟩⟩
               have e := HJN.out k vis c j hcB.2 (by rw [← HSX2.out]; exact hjl) HMM.out HV.out x
               rw [← HY.out, ← HA.out, ← HBb.out, ← HL0.out, ← HH0.out] at e
               exact e.symm
              case measure => simp [intOf]; omega
             | some pr =>
              obtain ⟨p, r⟩ := pr
              have HV := Lib.hid (show BH k vis ((ST k c).getD j 0) = some (p, r) from by rw [← HJO.out k vis c j (by rw [← HSX2.out]; exact hjl), ← HY.out]; exact hv)
              rw [hv] at hlk
              have hlk : (Instr.lookup 134 (.map (some bm)) (.int .i64 y) true).run Tryz.prog wr = .ok (.tuple #[.agg #[.int .i64 p, .int .i64 r], .bool true]) wr := hlk
              clear hv
              gi_upto_region 37 with (gi_at_lookup; go_must (refine wpListIn_look _ rfl (.tmp 172) (.tmp 173) 134 rfl bm _ _ rfl rfl hlk ?_))
              clear hlk
              have hbl := belowAlloc wr (.cells #[.int .i64 p, .int .i64 r] 42)
              have ABz := Lib.hid (ABr.out.trans (AbT.below hbl))
              have RGz := Lib.hid (RGr.out.grown (below_grown hbl none) (by simp) (by simp))
              have SBz := Lib.hid (SBr.out.kept (below_grown hbl none) (by simp))
              have ILz := Lib.hid (show IL (wr.alloc (.cells #[.int .i64 p, .int .i64 r] 42)) B (.slice (some ⟨g3, 0, none⟩) sl.length c3) sl from Own.below ILr.out hbl)
              have K28z := Lib.hid (K28r.out.below' hbl)
              obtain ⟨b31, h31⟩ : ∃ n, n = wr.heap.size := ⟨_, rfl⟩
              have K31 := Lib.hid (Blk.new wr 42 #[.int .i64 p, .int .i64 r])
              rw [← h31] at K31 ⊢
              clear h31
              clear ABr RGr SBr ILr K28r hbl
              generalize wr.alloc (.cells #[.int .i64 p, .int .i64 r] 42) = wz at ABz RGz SBz ILz K28z K31 ⊢
              obtain ⟨W2, hrun, hS2, hG2⟩ := SBz.out.store (by have := HQJ.out; unfold maxLen; omega) hys (min p (a + l0), max r (b + h0))
              have hrun : (Instr.mapUpdate 134 (.map (some bm)) (.int .i64 y) (.agg #[.int .i64 (min p (a + l0)), .int .i64 (max r (b + h0))])).run Tryz.prog wz = .ok () W2 := hrun
              have HS2 := Lib.hid hS2
              have HG2 := Lib.hid hG2
              clear hS2 hG2
              obtain ⟨z0, z1⟩ := K28z.out.c2
              obtain ⟨t0, t1⟩ := K31.out.c2
              gi_wp2_with fail
              have HNB := Lib.hid SBz.out.note
              have htz := (ABz.out.2 A3.out.ch.sm).1
              have hmb1 := (A3.out.ch.sm.t.2.2.2 m1 A3.out.ch.sm.t.2.1).2
              have hmb2 := (A3.out.ch.sm.t.2.2.2 m2 A3.out.ch.sm.t.2.2.1).2
              have hBs := A3.out.ch.sm.b.2.2.2.2
              have HTZ := Lib.hid htz
              clear htz
              go_roundw
              case rel =>
               obtain ⟨o9, ho9, hn9⟩ := HNB.out
               refine ⟨j + 1, qj + 1, by omega, by go_num, Lib.hid ⟨ABz.out.grown HTZ.out HG2.out fun q e => by cases e; exact ⟨by omega, by omega, ts_notes HTZ.out (lo' := bm) (Nat.le_refl _) ho9 hn9 (by omega) (by omega)⟩, RGz.out.grown HG2.out (by intro e; injection e with e; omega) (by intro e; injection e with e; have := HBR.out; omega), HS2.out.congr fun x => ?_, by have := HQJ.out; omega, Own.grown ILz.out HG2.out (.inr (Own.cells_ne ILz.out ho9 hn9)), K28z.out.grown HG2.out fun e => by injection e with e; subst e; rw [show wz.heap[b28]? = _ from K28z.out] at ho9; cases ho9; cases hn9⟩⟩
               have e := HJM.out k vis c j p r hcB.2 (by rw [← HSX2.out]; exact hjl) HMM.out HV.out x
               rw [← HY.out, ← HA.out, ← HBb.out, ← HL0.out, ← HH0.out] at e
               exact e.symm
              case measure => simp [intOf]; omega
           ·
            obtain rfl : j = sl.length := by omega
            have g5 : decide (sl.length < sl.length) = false := decide_eq_false (Nat.lt_irrefl _)
            gi_wp2_with fail
            go_roundw
            case rel => exact ⟨vis ++ [c], qj, by rw [HNL2.out], by rw [HNH.out], Lib.hid ⟨HD5.out.1, HD5.out.2.1.1, HD5.out.2.2.1.congr fun x => by rw [if_pos hk1, HSX2.out]; exact HJE.out k vis c x hcB.2, by have := HD5.out.2.2.2.1; simp only [List.length_append, List.length_cons, List.length_nil]; omega, nodup_snoc HND.out.1 HNV.out, fun x hx => (List.mem_append.1 hx).elim (HND.out.2 x) fun h => by rw [List.mem_singleton.1 h]; exact HCR.out⟩⟩
            case measure => rw [HD5.out.2.1.2]; exact HLT.out
        ·
         have g4 : decide (a < lw) = false := decide_eq_false hal2
         gi_upto_region 29 with fail
         have HNL2 := Lib.hid (show M.mnL ((vis ++ [c]).map (LO k)) = lw from by rw [HNL3.out]; omega)
         clear k0 k1 HNL3 g3 g4 hal2
         by_cases hlast : k + 1 = m
         ·
          have gq : ((k : Int) == (m : Int) - 1) = true := by simp; omega
          gi_wp2_with fail
          go_roundw
          case rel => exact ⟨vis ++ [c], qn, by rw [HNL2.out], by rw [HNH.out], Lib.hid ⟨AB7.out, RG7.out.1, SB7.out.congr fun x => by rw [if_neg (by omega), if_neg (by omega)], by have := HQN.out; simp only [List.length_append, List.length_cons, List.length_nil]; omega, nodup_snoc HND.out.1 HNV.out, fun x hx => (List.mem_append.1 hx).elim (HND.out.2 x) fun h => by rw [List.mem_singleton.1 h]; exact HCR.out⟩⟩
          case measure => rw [RG7.out.2]; exact HLT.out
         ·
          have gq : ((k : Int) == (m : Int) - 1) = false := by simp; omega
          have hk1 : k + 1 < m := by omega
          have SB8 := Lib.hid (show SpM w7 bm qn (BH k vis) from SB7.out.congr fun x => if_pos hk1)
          clear SB7
          have A7 := Lib.hid (A3.out.ab AB7.out hw1 hw2)
          have HLS := Lib.hid (show Calls Tryz.prog 77 #[.agg #[.pointer (some ⟨P, 0, none⟩), .int .i64 (ta : Int), .slice xA xL.length xc, .int .i64 lo, .int .i64 hi, .slice hA hn hc], .agg #[.slice bA bn bc, .int .i64 s0, .int .i64 s1], .int .i64 c] w7 fun e w' => e = .returned (.agg #[.int .i64 (co c 0), .int .i64 (co c 1)]) ∧ Below w7.heap.size w7 w' from by
           rw [← HCF.out c 0 hcB.2, ← HCF.out c 1 hcB.2]
           exact dlosses_any (bc := bc) (s0 := s0) (s1 := s1) w7 (A7.out.ch.sm.box.cell 5) A7.out.ch.sm.rd.z A7.out.ch.sm.b.2.2.2.2 (HBD.out w7 A7.out.bw) (Nat.le_trans hbB A7.out.bw.size) A7.out.ch.sm.box.lt (by omega) (by have := HBN.out; omega) hcB (fun i hi => by have := HD.out.z i hi; have := HBN.out; omega))
          obtain ⟨l0, hl0⟩ : ∃ x, x = co c 0 := ⟨_, rfl⟩
          obtain ⟨h0, hh0⟩ : ∃ x, x = co c 1 := ⟨_, rfl⟩
          rw [← hl0, ← hh0] at HLS
          have hlb := HCO.out c
          rw [← hl0, ← hh0] at hlb
          have HL0 := Lib.hid hl0
          have HH0 := Lib.hid hh0
          clear hl0 hh0
          obtain ⟨x0, x1, x2, x3⟩ := A7.out.k11.c4
          have x4 := A7.out.k11.cell 4
          have x5 := A7.out.k11.cell 5
          obtain ⟨y0, y1, y2⟩ := A7.out.k7.c3
          gi_wp2_with fail
          refine ⟨trivial, (CallsIn.inRound _ (callsIn_wide.2 HLS.out)).mono ?_⟩
          rintro e w8 ⟨rfl, hb8⟩
          clear x0 x1 x2 x3 x4 x5 y0 y1 y2
          obtain ⟨b27, h27⟩ : ∃ n, n = w8.heap.size := ⟨_, rfl⟩
          have hbl := belowAlloc w8 (.cells #[.int .i64 l0, .int .i64 h0] 42)
          have hbb := hb8.trans (hbl.mono hb8.size)
          have K27 := Lib.hid (Blk.new w8 42 #[.int .i64 l0, .int .i64 h0])
          have K29 := Lib.hid (K26.out.below' hbb)
          have AB9 := Lib.hid (AB7.out.trans (AbT.below hbb))
          have RG9 := Lib.hid (RG7.out.grown (below_grown hbb none) (by simp) (by simp))
          have SB9 := Lib.hid (SB8.out.kept (below_grown hbb none) (by simp))
          gi_upto_region 31 with fail
          rw [← h27] at K27 ⊢
          clear h27 hbl hbb hb8 AB7 RG7 SB8 K26 A7 HLS
          generalize w8.alloc (.cells #[.int .i64 l0, .int .i64 h0] 42) = w9 at K27 K29 AB9 RG9 SB9 ⊢
          obtain ⟨z0, z1⟩ := K29.out.c2
          obtain ⟨j0, j1⟩ := K27.out.c2
          gi_upto_region 32 with fail
          clear z0 z1 j0 j1
          obtain ⟨b28, h28⟩ : ∃ n, n = w9.heap.size := ⟨_, rfl⟩
          have hbl := belowAlloc w9 (.cells #[.int .i64 (a + l0), .int .i64 (b + h0)] 42)
          have K28 := Lib.hid (Blk.new w9 42 #[.int .i64 (a + l0), .int .i64 (b + h0)])
          have ABx := Lib.hid (AB9.out.trans (AbT.below hbl))
          have RGx := Lib.hid (RG9.out.grown (below_grown hbl none) (by simp) (by simp))
          have SBx := Lib.hid (SB9.out.kept (below_grown hbl none) (by simp))
          have H28 := Lib.hid (show wi.heap.size ≤ b28 from by rw [h28]; exact AB9.out.1.size)
          rw [← h28] at K28 ⊢
          clear h28 hbl AB9 RG9 SB9 K27 K29
          generalize w9.alloc (.cells #[.int .i64 (a + l0), .int .i64 (b + h0)] 42) = wx at K28 ABx RGx SBx ⊢
          have Ax := Lib.hid (A3.out.ab ABx.out hw1 hw2)
          have htk : ta + k + 1 < d.s.nt := by have := HTM.out; omega
          have HSX := Lib.hid (show Calls Tryz.prog 48 #[.pointer (some ⟨P, 0, none⟩), .agg #[.int .i64 c, .int .i64 ((ta : Int) + (k : Int)), .int .i64 (ln : Int)]] wx (StepR d zA cA wA dA tA sA cl B P m1 m2 dc tc sc zc cc wc (TS P m1 m2 wx) wx (ta + k) (ln : Int) c) from by
           have h := dstep_any HD.out Ax.out.ch.sm c (ta + k) ln hcB htk hln
           rw [show ((ta + k : Nat) : Int) = (ta : Int) + (k : Int) by omega] at h
           exact h)
          obtain ⟨x0, x1⟩ := Ax.out.k11.c2
          have hta : ta ≤ 60 := by omega
          gi_wp2_with fail
          refine ⟨trivial, (CallsIn.inRound _ (callsIn_wide.2 HSX.out)).mono ?_⟩
          rintro e w5' ⟨T3, g3, c3, hT1, hT2, hTg, rfl, hM3, hI3, hmv⟩
          clear x0 x1
          have HE3 := Lib.hid (show M.stepL d (ta + k) (ln : Int) c = ST k c from by rw [HSE.out])
          rw [HE3.out] at hI3
          simp only [HE3.out]
          have hgV := K3.out.size
          have hlk := HLK.out
          have hrn := HRN5.out
          have hbmx := HBM.out
          have ABy := Lib.hid (ABx.out.trans (AbT.of_sea hmv hM3 hT2))
          have RGy := Lib.hid (RGx.out.mv hmv (by omega) (by omega) (by omega) (by omega))
          have SBy := Lib.hid (SBx.out.mv hmv (by omega) (by omega))
          have K28y := Lib.hid (K28.out.mv hmv Ax.out.ch.sm.map1 Ax.out.ch.sm.map2)
          have ILy := Lib.hid hI3
          clear ABx RGx SBx K28 Ax HSX hT1 hT2 hTg hM3 hI3 hmv
          have hsl := HSL.out k c
          obtain ⟨sl, hsl2⟩ : ∃ l, l = ST k c := ⟨_, rfl⟩
          rw [← hsl2] at ILy hsl
          simp only [← hsl2]
          have HSX2 := Lib.hid hsl2
          clear hsl2
          have D0 := Lib.hid (show Hid (AbT d zA cA wA dA tA sA cl B P m1 m2 dc tc sc zc cc wc wi w5' ∧ RgN w5' lmk rg nk (LV k) (vis ++ [c]) N6 ∧ SpM w5' bm qn (BJ k vis c 0) ∧ qn ≤ 145 * vis.length + 0 ∧ IL w5' B (.slice (some ⟨g3, 0, none⟩) sl.length c3) sl ∧ Blk w5' b28 42 #[.int .i64 (a + l0), .int .i64 (b + h0)]) from Lib.hid ⟨ABy.out, RGy.out, SBy.out.congr fun x => (HJ0.out k vis c x).symm, by have := HQN.out; omega, ILy.out, K28y.out⟩)
          clear ABy RGy SBy ILy K28y
          gi_wp2_with fail
          gi_loopw [159] (fun i wr => ∃ (j qj : Nat), j ≤ sl.length ∧ i = .int .i64 (j : Int) ∧ Hid (AbT d zA cA wA dA tA sA cl B P m1 m2 dc tc sc zc cc wc wi wr ∧ RgN wr lmk rg nk (LV k) (vis ++ [c]) N6 ∧ SpM wr bm qj (BJ k vis c j) ∧ qj ≤ 145 * vis.length + j ∧ IL wr B (.slice (some ⟨g3, 0, none⟩) sl.length c3) sl ∧ Blk wr b28 42 #[.int .i64 (a + l0), .int .i64 (b + h0)])) (fun i _ => sl.length - (intOf i).toNat)
          case atStart => exact ⟨0, qn, Nat.zero_le _, rfl, D0.out⟩
          case round =>
           clear D0
           obtain ⟨j, qj, hj, rfl, HD5⟩ := hrel
           by_cases hjl : j < sl.length
           ·
            have g5 : decide (j < sl.length) = true := decide_eq_true hjl
            have ABr := Lib.hid HD5.out.1
            have RGr := Lib.hid HD5.out.2.1
            have SBr := Lib.hid HD5.out.2.2.1
            have HQJ := Lib.hid HD5.out.2.2.2.1
            have ILr := Lib.hid HD5.out.2.2.2.2.1
            have K28r := Lib.hid HD5.out.2.2.2.2.2
            clear HD5
            obtain ⟨y, hy⟩ : ∃ y, y = sl.getD j 0 := ⟨_, rfl⟩
            have HY := Lib.hid (show y = (ST k c).getD j 0 from by rw [hy, HSX2.out])
            have c1 : wr.cell? ⟨g3, j, none⟩ = some (.int .i64 y) := by rw [hy]; exact Own.cell1 (show Own wr B 3 1 (.slice (some ⟨g3, 0, none⟩) sl.length c3) sl.length (ints fun q => sl.getD q 0) from ILr.out) hjl
            clear hy
            have hyB : -1 ≤ y ∧ y < d.s.nd := by rw [HY.out]; exact HSB.out k c j (by rw [← HSX2.out]; exact hjl)
            have hys : small y := ⟨hyB.1, by omega⟩
            have Rr := Lib.hid (show RwO P m1 m2 base2 gr m Ur RW wr from R3.out.mv ABr.out.1 A3.out.ch.sm.map1 A3.out.ch.sm.map2 (ABr.out.2 A3.out.ch.sm).2)
            obtain ⟨uA, uc, hu⟩ := Own.form (Rr.out.r (k + 1) hk1)
            have c2 : wr.cell? ⟨gr, k + 1, none⟩ = some (.slice uA (RW (k + 1)).length uc) := by rw [← hu]; exact Own.cell1 Rr.out.o hk1
            have HCN := Lib.hid (contains_any uA (RW (k + 1)) uc wr.heap.size y wr (by have := HRL.out (k + 1); omega) (IL.rd (show IL wr base2 (.slice uA (RW (k + 1)).length uc) (RW (k + 1)) from by rw [← hu]; exact Rr.out.r (k + 1) hk1)))
            obtain ⟨cb2, hcb⟩ : ∃ q, q = (RW (k + 1)).contains y := ⟨_, rfl⟩
            rw [← hcb] at HCN
            have HCB := Lib.hid hcb
            have hrl1 := HRL.out (k + 1)
            have hkm1 : (k : Int) + 1 < (m : Int) := by omega
            clear hcb hu Rr
            gi_wp2_with fail
            refine ⟨trivial, (CallsIn.inRound _ (callsIn_wide.2 HCN.out)).mono ?_⟩
            rintro e w9' ⟨rfl, hw9⟩
            rw [hw9]
            clear hw9 w9' HCN c1 c2
            cases cb2
            ·
             have HNM := Lib.hid (show (ST k c).getD j 0 ∉ RW (k + 1) from fun h => by have h2 := HCB.out; rw [HY.out, List.contains_iff_mem.2 h] at h2; cases h2)
             gi_wp2_with fail
             go_roundw
             case rel => exact ⟨j + 1, qj, by omega, by go_num, Lib.hid ⟨ABr.out, RGr.out, SBr.out.congr fun x => (HJS.out k vis c j (by rw [← HSX2.out]; exact hjl) HNM.out x).symm, by have := HQJ.out; omega, ILr.out, K28r.out⟩⟩
             case measure => simp [intOf]; omega
            ·
             have HMM := Lib.hid (show (ST k c).getD j 0 ∈ RW (k + 1) from by rw [← HY.out]; exact List.contains_iff_mem.1 HCB.out.symm)
             have hlk := SBr.out.look hys
             cases hv : BJ k vis c j y with
             | none =>
              have HV := Lib.hid (show BH k vis ((ST k c).getD j 0) = none from by rw [← HJO.out k vis c j (by rw [← HSX2.out]; exact hjl), ← HY.out]; exact hv)
              rw [hv] at hlk
              have hlk : (Instr.lookup 134 (.map (some bm)) (.int .i64 y) true).run Tryz.prog wr = .ok (.tuple #[.agg #[.int .i64 0, .int .i64 0], .bool false]) wr := hlk
              clear hv
              gi_upto_region 37 with (gi_at_lookup; go_must (refine wpListIn_look _ rfl (.tmp 172) (.tmp 173) 134 rfl bm _ _ rfl rfl hlk ?_))
              clear hlk
              have hbl := belowAlloc wr (.cells #[.int .i64 0, .int .i64 0] 42)
              have ABz := Lib.hid (ABr.out.trans (AbT.below hbl))
              have RGz := Lib.hid (RGr.out.grown (below_grown hbl none) (by simp) (by simp))
              have SBz := Lib.hid (SBr.out.kept (below_grown hbl none) (by simp))
              have ILz := Lib.hid (show IL (wr.alloc (.cells #[.int .i64 0, .int .i64 0] 42)) B (.slice (some ⟨g3, 0, none⟩) sl.length c3) sl from Own.below ILr.out hbl)
              have K28z := Lib.hid (K28r.out.below' hbl)
              clear ABr RGr SBr ILr K28r hbl
              generalize wr.alloc (.cells #[.int .i64 0, .int .i64 0] 42) = wz at ABz RGz SBz ILz K28z ⊢
              obtain ⟨W2, hrun, hS2, hG2⟩ := SBz.out.store (by have := HQJ.out; unfold maxLen; omega) hys (a + l0, b + h0)
              have hrun : (Instr.mapUpdate 134 (.map (some bm)) (.int .i64 y) (.agg #[.int .i64 (a + l0), .int .i64 (b + h0)])).run Tryz.prog wz = .ok () W2 := hrun
              have HS2 := Lib.hid hS2
              have HG2 := Lib.hid hG2
              clear hS2 hG2
              obtain ⟨z0, z1⟩ := K28z.out.c2
              gi_wp2_with fail
              have HNB := Lib.hid SBz.out.note
              have htz := (ABz.out.2 A3.out.ch.sm).1
              have hmb1 := (A3.out.ch.sm.t.2.2.2 m1 A3.out.ch.sm.t.2.1).2
              have hmb2 := (A3.out.ch.sm.t.2.2.2 m2 A3.out.ch.sm.t.2.2.1).2
              have hBs := A3.out.ch.sm.b.2.2.2.2
              have HTZ := Lib.hid htz
              clear htz
              go_roundw
              case rel =>
               obtain ⟨o9, ho9, hn9⟩ := HNB.out
               refine ⟨j + 1, qj + 1, by omega, by go_num, Lib.hid ⟨ABz.out.grown HTZ.out HG2.out fun q e => by cases e; exact ⟨by omega, by omega, ts_notes HTZ.out (lo' := bm) (Nat.le_refl _) ho9 hn9 (by omega) (by omega)⟩, RGz.out.grown HG2.out (by intro e; injection e with e; omega) (by intro e; injection e with e; have := HBR.out; omega), HS2.out.congr fun x => ?_, by have := HQJ.out; omega, Own.grown ILz.out HG2.out (.inr (Own.cells_ne ILz.out ho9 hn9)), K28z.out.grown HG2.out fun e => by injection e with e; subst e; rw [show wz.heap[b28]? = _ from K28z.out] at ho9; cases ho9; cases hn9⟩⟩
               have e := HJN.out k vis c j hcB.2 (by rw [← HSX2.out]; exact hjl) HMM.out HV.out x
               rw [← HY.out, ← HA.out, ← HBb.out, ← HL0.out, ← HH0.out] at e
               exact e.symm
              case measure => simp [intOf]; omega
             | some pr =>
              obtain ⟨p, r⟩ := pr
              have HV := Lib.hid (show BH k vis ((ST k c).getD j 0) = some (p, r) from by rw [← HJO.out k vis c j (by rw [← HSX2.out]; exact hjl), ← HY.out]; exact hv)
              rw [hv] at hlk
              have hlk : (Instr.lookup 134 (.map (some bm)) (.int .i64 y) true).run Tryz.prog wr = .ok (.tuple #[.agg #[.int .i64 p, .int .i64 r], .bool true]) wr := hlk
              clear hv
              gi_upto_region 37 with (gi_at_lookup; go_must (refine wpListIn_look _ rfl (.tmp 172) (.tmp 173) 134 rfl bm _ _ rfl rfl hlk ?_))
              clear hlk
              have hbl := belowAlloc wr (.cells #[.int .i64 p, .int .i64 r] 42)
              have ABz := Lib.hid (ABr.out.trans (AbT.below hbl))
              have RGz := Lib.hid (RGr.out.grown (below_grown hbl none) (by simp) (by simp))
              have SBz := Lib.hid (SBr.out.kept (below_grown hbl none) (by simp))
              have ILz := Lib.hid (show IL (wr.alloc (.cells #[.int .i64 p, .int .i64 r] 42)) B (.slice (some ⟨g3, 0, none⟩) sl.length c3) sl from Own.below ILr.out hbl)
              have K28z := Lib.hid (K28r.out.below' hbl)
              obtain ⟨b31, h31⟩ : ∃ n, n = wr.heap.size := ⟨_, rfl⟩
              have K31 := Lib.hid (Blk.new wr 42 #[.int .i64 p, .int .i64 r])
              rw [← h31] at K31 ⊢
              clear h31
              clear ABr RGr SBr ILr K28r hbl
              generalize wr.alloc (.cells #[.int .i64 p, .int .i64 r] 42) = wz at ABz RGz SBz ILz K28z K31 ⊢
              obtain ⟨W2, hrun, hS2, hG2⟩ := SBz.out.store (by have := HQJ.out; unfold maxLen; omega) hys (min p (a + l0), max r (b + h0))
              have hrun : (Instr.mapUpdate 134 (.map (some bm)) (.int .i64 y) (.agg #[.int .i64 (min p (a + l0)), .int .i64 (max r (b + h0))])).run Tryz.prog wz = .ok () W2 := hrun
              have HS2 := Lib.hid hS2
              have HG2 := Lib.hid hG2
              clear hS2 hG2
              obtain ⟨z0, z1⟩ := K28z.out.c2
              obtain ⟨t0, t1⟩ := K31.out.c2
              gi_wp2_with fail
              have HNB := Lib.hid SBz.out.note
              have htz := (ABz.out.2 A3.out.ch.sm).1
              have hmb1 := (A3.out.ch.sm.t.2.2.2 m1 A3.out.ch.sm.t.2.1).2
              have hmb2 := (A3.out.ch.sm.t.2.2.2 m2 A3.out.ch.sm.t.2.2.1).2
              have hBs := A3.out.ch.sm.b.2.2.2.2
              have HTZ := Lib.hid htz
              clear htz
              go_roundw
              case rel =>
               obtain ⟨o9, ho9, hn9⟩ := HNB.out
               refine ⟨j + 1, qj + 1, by omega, by go_num, Lib.hid ⟨ABz.out.grown HTZ.out HG2.out fun q e => by cases e; exact ⟨by omega, by omega, ts_notes HTZ.out (lo' := bm) (Nat.le_refl _) ho9 hn9 (by omega) (by omega)⟩, RGz.out.grown HG2.out (by intro e; injection e with e; omega) (by intro e; injection e with e; have := HBR.out; omega), HS2.out.congr fun x => ?_, by have := HQJ.out; omega, Own.grown ILz.out HG2.out (.inr (Own.cells_ne ILz.out ho9 hn9)), K28z.out.grown HG2.out fun e => by injection e with e; subst e; rw [show wz.heap[b28]? = _ from K28z.out] at ho9; cases ho9; cases hn9⟩⟩
               have e := HJM.out k vis c j p r hcB.2 (by rw [← HSX2.out]; exact hjl) HMM.out HV.out x
               rw [← HY.out, ← HA.out, ← HBb.out, ← HL0.out, ← HH0.out] at e
               exact e.symm
              case measure => simp [intOf]; omega
           ·
            obtain rfl : j = sl.length := by omega
            have g5 : decide (sl.length < sl.length) = false := decide_eq_false (Nat.lt_irrefl _)
            gi_wp2_with fail
            go_roundw
            case rel => exact ⟨vis ++ [c], qj, by rw [HNL2.out], by rw [HNH.out], Lib.hid ⟨HD5.out.1, HD5.out.2.1.1, HD5.out.2.2.1.congr fun x => by rw [if_pos hk1, HSX2.out]; exact HJE.out k vis c x hcB.2, by have := HD5.out.2.2.2.1; simp only [List.length_append, List.length_cons, List.length_nil]; omega, nodup_snoc HND.out.1 HNV.out, fun x hx => (List.mem_append.1 hx).elim (HND.out.2 x) fun h => by rw [List.mem_singleton.1 h]; exact HCR.out⟩⟩
            case measure => rw [HD5.out.2.1.2]; exact HLT.out
    ·
     obtain rfl : k = m := by omega
     have g2 : decide (k < k) = false := decide_eq_false (Nat.lt_irrefl _)
     have x15 := HI.out.1.k15.cell 0
     have f15 := HI.out.1.k15.frz 0
     have hl15 := HI.out.1.k15.lt
     gi_wp2_with fail
     exact ⟨HI.out.2.2.2.2.2.trans (Blk.keepsSet HI.out.1.k15 0 _ _), (HI.out.1.setS HAL.out).congr (fun i hi => by rw [if_pos hi, HNF.out]) (fun i hi => by rw [if_pos hi, HNG.out])⟩
end
end Go.Proofs.YtnbeembnnjdmdaaGreatDoor
