/- relay.Settle: the body of its range over next. -/
import Derived.Test.YtfnfjmjejffjiaaDoorU4
import Derived.Sort.CutIn
import Derived.Test.YtfnfjmjejffjiaaDoorT8
namespace Go.Proofs.YtfnfjmjejffjiaaDoor
open Go.RowKit Go.Maps

/-- the body of a function's range over a function -/
def rfO : Code → Option Code
  | .rangeFunc _ _ _ b => some b
  | .block _ c => rfO c
  | .loop c => rfO c
  | .seq a b => match rfO a with
    | some c => some c
    | none => rfO b
  | _ => none
def rfBody (f : Func) : Code :=
  match f.body with
  | some b => (rfO b).getD .skip
  | none => .skip
theorem M.nodup_len {α : Type} {l r : List α} (h : l.Nodup) (hs : ∀ x, x ∈ l → x ∈ r) : l.length ≤ r.length := by
  have : DecidableEq α := fun a b => Classical.propDecidable (a = b)
  exact M.sub_len h hs
theorem ok_inj {α : Type} {a b : α} {w w' : World} (h : (Result.ok a w : Result α) = .ok b w') : a = b := by injection h
theorem WayM.look_stay {W Z : World} {n B m : Nat} {L : List M.St} {V : List (M.St × List (Int × Nat))} {x : M.St × List (Int × Nat)} {u : Value} (h : WayM W n L B m V) (hn : n ≤ 4) (hL : ∀ t, t ∈ L → M.Okk n t) (hx : x ∈ V) (hV : (V.map Prod.fst).Nodup)
    (hu : (Instr.lookup 60 (.map (some m)) (.agg (stV n x.1)) false).run Tryd.prog W = .ok u W) (hZ : Below W.heap.size W Z) : (Instr.lookup 60 (.map (some m)) (.agg (stV n x.1)) false).run Tryd.prog Z = .ok u Z := by
  obtain ⟨v, h1, h2, h3⟩ := h
  obtain ⟨i, hi, hs⟩ := h3 _ hx
  have hlt := (List.getElem?_eq_some_iff.1 hi).1
  obtain ⟨y, hy⟩ := Option.isSome_iff_exists.1 hs
  have hk : ∃ l, keyOf Tryd.prog 57 ((fun i => Value.agg (stV n (L.getD i zeroS))) i) = some l := by
    show ∃ l, keyOf Tryd.prog 57 (.agg (stV n (L.getD i zeroS))) = some l
    rw [getD_of hi]; exact stV_key hn (hL _ (List.mem_of_getElem? hi))
  obtain ⟨a, ps, r1, r2⟩ := h1.look1 stateK mapT (mapZ W) (zd := .agg []) (zp := []) rfl hlt hk hy
  obtain ⟨b, qs, r3, r4⟩ := (h1.kept (below_grown hZ none) (by simp)).look1 stateK mapT (mapZ Z) (zd := .agg []) (zp := []) rfl hlt hk hy
  simp only [getD_of hi] at r1 r3
  rw [r3, sliceR_inj r4 r2, ok_inj (hu.symm.trans r1)]
theorem cat_evS (l : List (Int × Nat)) (e : Int × Nat) (i j : Nat) (hi : i < l.length + 1) : catF l.length (ints2 (evF l)) (ints2 (evF [e])) i j = ints2 (evF (l ++ [e])) i j := by
  unfold catF
  by_cases h : i < l.length
  · rw [if_pos h]
    unfold ints2 evF
    rw [List.getD_eq_getElem?_getD, List.getD_eq_getElem?_getD, List.getElem?_append_left h]
  · obtain rfl : i = l.length := by omega
    rw [if_neg h, Nat.sub_self]
    unfold ints2 evF
    rw [List.getD_eq_getElem?_getD (l := l ++ [e]), List.getElem?_append_right (Nat.le_refl _), Nat.sub_self]
    rfl
/-- append of an event to an own list -/
theorem app_e {Z : World} {B c c2 g : Nat} {A : Option Addr} {p : List (Int × Nat)} {e : Int × Nat} (ty : TypeId) (ho : Own Z B 38 3 (.slice A p.length c) p.length (ints2 (evF p))) (hb : Blk Z g 38 #[.int .i64 e.1, .int .i64 (e.2 : Int), .int .i64 0]) (hp : p.length ≤ 1000) (hB : B ≤ Z.heap.size) :
    ∃ v' Z', (Builtin.append_ #[22, 22] ty #[.slice A p.length c, .slice (some ⟨g, 0, none⟩) 1 c2]).run Tryd.prog Z = .ok v' Z' ∧ Own Z' B 38 3 v' (p.length + 1) (ints2 (evF (p ++ [e]))) ∧ Z.grownBy Z' (Value.ownBlock (.slice A p.length c)) ∧ (v'.ownBlock = Value.ownBlock (.slice A p.length c) ∨ v'.ownBlock = some Z.heap.size) := by
  obtain ⟨si, hi, hz0, hz1, hz2⟩ := info_parts evt_info
  have hR : RdV Z Z.heap.size (some ⟨g, 0, none⟩) 3 1 (ints2 (evF [e])) := rdV_blk hb fun i j hi hj => by
    obtain rfl : i = 0 := by omega
    rcases (show j = 0 ∨ j = 1 ∨ j = 2 by omega) with rfl | rfl | rfl <;> rfl
  obtain ⟨v', Z', h1, h2, h3, h4⟩ := run_cat (P := Tryd.prog) Z 22 ty 38 si _ 3 24 Tryd.underlying22 hi hz0 hz1 hz2 rfl (by decide) (by decide) ho (by omega) hB (c := c2) (G := ints2 (evF [e])) (fun _ _ => rfl) hR (by decide)
  exact ⟨v', Z', h1, h2.congr fun i j hi _ => cat_evS p e i j hi, h3, h4⟩
/-- what is known in the region that keeps a new way -/
structure ClI (X : World) (n : Nat) (L : List M.St) (B m : Nat) (V : List (M.St × List (Int × Nat))) (t : M.St) (p : List (Int × Nat)) (e : Int × Nat) (b5 b7 b8 b9 : Bool) (v63 v65 v66 : Value) (Z : World) : Prop where
  b : b9 = false → Below X.heap.size X Z
  h5 : b5 = true → b8 = false → ∃ A c, v63 = .slice A p.length c ∧ Own Z X.heap.size 38 3 (.slice A p.length c) p.length (ints2 (evF p))
  h7 : b7 = true → b8 = false → ∃ g, v65 = .slice (some ⟨g, 0, none⟩) 1 1 ∧ Blk Z g 38 #[.int .i64 e.1, .int .i64 (e.2 : Int), .int .i64 0]
  h8 : b8 = true → b9 = false → Own Z X.heap.size 38 3 v66 (p.length + 1) (ints2 (evF (p ++ [e])))
  h9 : b9 = true → WayM Z n L B m (V ++ [(t, p ++ [e])]) ∧ X.grownBy Z (some m)
  c8 : b8 = true → b5 = true ∧ b7 = true
  c9 : b9 = true → b8 = true
section
variable {X Z Z' : World} {n B m : Nat} {L : List M.St} {V : List (M.St × List (Int × Nat))} {t : M.St} {p : List (Int × Nat)} {e : Int × Nat} {b5 b7 b8 b9 : Bool} {v63 v65 v66 v8 : Value} {A : Option Addr} {c : Nat}
theorem ClI.no8 (h : ClI X n L B m V t p e b5 b7 false b9 v63 v65 v66 Z) : b9 = false := by
  cases hb : b9
  · rfl
  · exact absurd (h.c9 hb) (by simp)
theorem ClI.no5 (h : ClI X n L B m V t p e false b7 b8 b9 v63 v65 v66 Z) : b8 = false ∧ b9 = false := by
  have h8 : b8 = false := by
    cases hb : b8
    · rfl
    · exact absurd (h.c8 hb).1 (by simp)
  subst h8
  exact ⟨rfl, h.no8⟩
theorem ClI.no7 (h : ClI X n L B m V t p e b5 false b8 b9 v63 v65 v66 Z) : b8 = false ∧ b9 = false := by
  have h8 : b8 = false := by
    cases hb : b8
    · rfl
    · exact absurd (h.c8 hb).2 (by simp)
  subst h8
  exact ⟨rfl, h.no8⟩
theorem ClI.call5 (h : ClI X n L B m V t p e false b7 false false v63 v65 v66 Z) (ho : Own Z' Z.heap.size 38 3 (.slice A p.length c) p.length (ints2 (evF p))) (hb : Below Z.heap.size Z Z') : ClI X n L B m V t p e true b7 false false (.slice A p.length c) v65 v66 Z' := by
  have h1 := h.b rfl
  refine ⟨fun _ => h1.trans (hb.mono h1.size), fun _ _ => ⟨_, _, rfl, ho.less h1.size⟩, fun e7 e8 => ?_, fun e8 => (by cases e8), fun e9 => (by cases e9), fun e8 => (by cases e8), fun e9 => (by cases e9)⟩
  obtain ⟨g, k1, k2⟩ := h.h7 e7 e8
  exact ⟨g, k1, k2.below' hb⟩
theorem ClI.alloc7 (h : ClI X n L B m V t p e b5 false false false v63 v65 v66 Z) : ClI X n L B m V t p e b5 true false false v63 (.slice (some ⟨Z.heap.size, 0, none⟩) 1 1) v66 (Z.alloc (.cells #[.int .i64 e.1, .int .i64 (e.2 : Int), .int .i64 0] 38)) := by
  have h1 := h.b rfl
  have hb := belowAlloc Z (.cells #[.int .i64 e.1, .int .i64 (e.2 : Int), .int .i64 0] 38)
  refine ⟨fun _ => h1.trans (hb.mono h1.size), fun e5 e8 => ?_, fun _ _ => ⟨_, rfl, Blk.new Z _ _⟩, fun e8 => (by cases e8), fun e9 => (by cases e9), fun e8 => (by cases e8), fun e9 => (by cases e9)⟩
  obtain ⟨A, c, k1, k2⟩ := h.h5 e5 e8
  exact ⟨A, c, k1, k2.below hb⟩
theorem ClI.app8 (h : ClI X n L B m V t p e true true false false v63 v65 v66 Z) (ho : Own Z' X.heap.size 38 3 v8 (p.length + 1) (ints2 (evF (p ++ [e])))) (hg : Z.grownBy Z' (Value.ownBlock (.slice A p.length c))) (hA : Own Z X.heap.size 38 3 (.slice A p.length c) p.length (ints2 (evF p))) : ClI X n L B m V t p e true true true false v63 v65 v8 Z' := by
  have h1 := h.b rfl
  refine ⟨fun _ => h1.grown hg h1.size fun r er => (hA.block er).1, fun _ e8 => (by cases e8), fun _ e8 => (by cases e8), fun _ _ => ho, fun e9 => (by cases e9), fun _ => ⟨rfl, rfl⟩, fun e9 => (by cases e9)⟩
theorem ClI.upd9 (h : ClI X n L B m V t p e b5 b7 true false v63 v65 v66 Z) (hw : WayM Z' n L B m (V ++ [(t, p ++ [e])])) (hg : Z.grownBy Z' (some m)) : ClI X n L B m V t p e b5 b7 true true v63 v65 v66 Z' :=
  ⟨fun e9 => (by cases e9), fun _ e8 => (by cases e8), fun _ e8 => (by cases e8), fun _ e9 => (by cases e9), fun _ => ⟨hw, (below_grown (h.b rfl) (some m)).trans hg⟩, h.c8, fun _ => rfl⟩
end

attribute [local go_sem] Oper.semAt_some
set_option maxRecDepth 100000 in
set_option maxHeartbeats 25600000 in
theorem settle_body {v0 v1 v2 v3 v4 v5 v6 v7 v8 v9 v10 v16 v17 v18 v19 v20 v21 v22 v23 v24 v25 v26 v27 v28 v29 v30 v31 v32 v33 v34 v35 v36 v37 v38 v39 v40 v41 v42 v43 v44 v45 v46 v47 v48 v49 v50 v51 v52 v53 v54 v55 v56 v57 v58 v59 v60 v61 v62 v63 v64 v65 v66 v67 v68 v69 v70 v71 : Value} {n i q b11 m p12 qb e13 e14 e15 lo lq : Nat} {L : List M.St} {w0 W : World} {qv : Value} {V0 V : List (M.St × List (Int × Nat))} {s t : M.St} {x : M.St × List (Int × Nat)} {e : Int × Nat} {ds : List Nat} (hn4 : n ≤ 4) (hL : ∀ t, t ∈ L → M.Okk n t) (hd : L.Nodup) (hlen : L.length ≤ 100000000) (hMid : M.Mid (M.nxt n) (M.Setd n) s V0 V i q x) (hq : (M.nxt n x.1)[q]? = some (e, t)) (htL : t ∈ L) (hx6 : x.2.length ≤ 6) (hlw : w0.heap.size ≤ lo) (H : SeI n L w0 b11 m p12 qb qv V ((V.drop i).map Prod.fst) ds W)
  (k13 : Blk W e13 57 (stV n x.1)) (k14 : Blk W e14 38 #[.int .i64 e.1, .int .i64 (e.2 : Int), .int .i64 0]) (k15 : Blk W e15 57 (stV n t)) (hmlo : m < lo) (hplo : p12 < lo) :
    Code.wpIn (Fence.wide.inRound lq) 2 Tryd.prog (rfBody Tryd.f6) (roundPostB lo (fun (_ : List Unit) W' => ∃ V' qb' qv', M.Mid (M.nxt n) (M.Setd n) s V0 V' i (q + 1) x ∧ SeI n L w0 b11 m p12 qb' qv' V' ((V'.drop i).map Prod.fst) ds W' ∧ (∀ k, k < W.heap.size → k ≠ m → k ≠ qb → k ≠ p12 → W'.heap[k]? = W.heap[k]?) ∧ (qb' = qb ∨ W.heap.size ≤ qb') ∧ W.heap.size ≤ W'.heap.size) (fun _ _ _ => False) [] W) { tmps := List.toArray (v0 :: v1 :: v2 :: v3 :: v4 :: v5 :: v6 :: v7 :: v8 :: v9 :: v10 :: .pointer (some ⟨b11, 0, none⟩) :: .pointer (some ⟨p12, 0, none⟩) :: .pointer (some ⟨e13, 0, none⟩) :: .pointer (some ⟨e14, 0, none⟩) :: .pointer (some ⟨e15, 0, none⟩) :: v16 :: v17 :: v18 :: v19 :: v20 :: v21 :: v22 :: v23 :: v24 :: v25 :: v26 :: v27 :: v28 :: v29 :: v30 :: v31 :: v32 :: v33 :: v34 :: v35 :: v36 :: v37 :: v38 :: v39 :: v40 :: v41 :: v42 :: v43 :: v44 :: v45 :: v46 :: v47 :: v48 :: v49 :: v50 :: v51 :: v52 :: v53 :: v54 :: v55 :: v56 :: v57 :: v58 :: v59 :: v60 :: v61 :: v62 :: v63 :: v64 :: v65 :: v66 :: v67 :: v68 :: v69 :: v70 :: v71 :: []), defers := [] } W := by
  have HS := Lib.hid H
  have HM := Lib.hid hMid
  have K13 := Lib.hid k13
  have K14 := Lib.hid k14
  have K15 := Lib.hid k15
  have HQ := Lib.hid hq
  have HX6 := Lib.hid hx6
  have HLO := Lib.hid (And.intro hmlo hplo)
  have HL := Lib.hid hL
  have HD := Lib.hid hd
  have HLE := Lib.hid hlen
  have HTL := Lib.hid htL
  have HLW := Lib.hid hlw
  clear hMid k13 k14 k15 hq hx6 hL hd hlen htL hlw hmlo hplo
  have c11 := H.hb.cell 0
  clear H
  conv in rfBody _ => whnf
  by_cases hseen : ∃ p, (t, p) ∈ V
  · obtain ⟨p, hp⟩ := hseen
    obtain ⟨u, hu, hlk, _⟩ := HS.out.ways.look_yes hn4 HL.out hp HM.out.nodup
    obtain ⟨A, cc, hA⟩ := hu.form
    have HLK := Lib.hid hlk
    rw [hA] at HLK
    clear hu hlk hA
    gi_wp2_with (first | (refine wpListIn_ldS rfl (.tmp 15) rfl rfl K15.out stV_size ?_) | (refine wpListIn_look rfl (.tmp 51) (.tmp 52) rfl rfl rfl HLK.out ?_))
    exact ⟨KeepsFrom.refl _ _, V, qb, qv, HM.out.old HQ.out ⟨_, hp, rfl⟩, HS.out, fun _ _ _ _ _ => rfl, .inl rfl, Nat.le_refl _⟩
  have hno : ∀ z, z ∈ V → z.1 ≠ t := fun z hz e => hseen ⟨z.2, by rw [← e]; exact hz⟩
  have HNO := Lib.hid hno
  clear hseen hno
  have HLK := Lib.hid (HS.out.ways.look_no hn4 HL.out HTL.out HNO.out)
  gi_wp2_with (first | (refine wpListIn_ldS rfl (.tmp 15) rfl rfl K15.out stV_size ?_) | (refine wpListIn_look rfl (.tmp 51) (.tmp 52) rfl rfl rfl HLK.out ?_))
  have hxV : x ∈ V := by obtain ⟨W1, e1, _⟩ := HM.out.pre; rw [e1]; exact List.mem_append_left _ (List.mem_of_getElem? HM.out.hx)
  obtain ⟨u, hu, _, hlk⟩ := HS.out.ways.look_yes (t := x.1) (p := x.2) hn4 HL.out hxV HM.out.nodup
  have HU := Lib.hid hu
  have HLK2 := Lib.hid (fun (Z : World) (hZ : Below W.heap.size W Z) => (show (Instr.lookup 60 (.map (some m)) (.agg (stV n x.1)) false).run Tryd.prog Z = .ok u Z from WayM.look_stay HS.out.ways hn4 HL.out hxV HM.out.nodup hlk hZ))
  clear hu hlk
  refine wpIn_region_TI 9 (fun Z => Below W.heap.size W Z) (by kernel_rfl) (Below.refl _ _).drew ?_
  intro hS
  refine wpAnyTI_takeP (i := 0) (v := ?_) (PlainOps.of_nd (by kernel_rfl)) rfl (by kernel_rfl) (by kernel_rfl) (by kernel_rfl) (by kernel_rfl) (by kernel_rfl) (fun _ _ _ h => h) (.inl ⟨by kernel_rfl, ?_⟩) (fun _ => rfl) hS ?_
  rotate_left
  · (intro w' hw; have c1 := (HS.out.hb.below' hw).cell 0; go_simp; try with_reducible rfl)
  try simp only [put_laws]
  refine wpAnyTI_takeP (i := 1) (v := ?_) (PlainOps.of_nd (by kernel_rfl)) rfl (by kernel_rfl) (by kernel_rfl) (by kernel_rfl) (by kernel_rfl) (by kernel_rfl) (fun _ _ _ h => h) (.inl ⟨by kernel_rfl, ?_⟩) (fun _ => rfl) hS ?_
  rotate_left
  · (intro w' hw; refine ex_ldS (.tmp 15) ?_ ?_ rfl (K15.out.below' hw) stV_size <;> rfl)
  try simp only [put_laws]
  refine wpAnyTI_takeP (i := 2) (v := ?_) (PlainOps.of_nd (by kernel_rfl)) rfl (by kernel_rfl) (by kernel_rfl) (by kernel_rfl) (by kernel_rfl) (by kernel_rfl) (fun _ _ _ h => h) (.inl ⟨by kernel_rfl, ?_⟩) (fun _ => rfl) hS ?_
  rotate_left
  · (intro w' hw; have c1 := (HS.out.hb.below' hw).cell 0; go_simp; try with_reducible rfl)
  try simp only [put_laws]
  refine wpAnyTI_takeP (i := 3) (v := ?_) (PlainOps.of_nd (by kernel_rfl)) rfl (by kernel_rfl) (by kernel_rfl) (by kernel_rfl) (by kernel_rfl) (by kernel_rfl) (fun _ _ _ h => h) (.inl ⟨by kernel_rfl, ?_⟩) (fun _ => rfl) hS ?_
  rotate_left
  · (intro w' hw; refine ex_ldS (.tmp 13) ?_ ?_ rfl (K13.out.below' hw) stV_size <;> rfl)
  try simp only [put_laws]
  refine wpAnyTI_takeP (i := 4) (v := u) (PlainOps.of_nd (by kernel_rfl)) rfl (by kernel_rfl) (by kernel_rfl) (by kernel_rfl) (by kernel_rfl) (by kernel_rfl) (fun _ _ _ h => h) (.inl ⟨by kernel_rfl, ?_⟩) (fun _ => rfl) hS ?_
  · (intro w' hw; refine ex_look (vm := .map (some m)) (vk := .agg (stV n x.1)) (t := 60) (b := false) (.tmp 60) (.tmp 61) ?_ ?_ ?_ (HLK2.out w' hw) <;> rfl)
  try simp only [put_laws]
  refine wpAnyTI_takeP (i := 6) (v := ?_) (PlainOps.of_nd (by kernel_rfl)) rfl (by kernel_rfl) (by kernel_rfl) (by kernel_rfl) (by kernel_rfl) (by kernel_rfl) (fun _ _ _ h => h) (.inl ⟨by kernel_rfl, ?_⟩) (fun _ => rfl) hS ?_
  rotate_left
  · (intro w' hw; have k0 := (K14.out.below' hw).cell 0; have k1 := (K14.out.below' hw).cell 1; have k2 := (K14.out.below' hw).cell 2; go_simp; try with_reducible rfl)
  try simp only [put_laws]
  refine wpAnyTI_inv (fun listed aa Z => ∃ (b5 b7 b8 b9 : Bool) (x63 x65 x66 : Value), listed = #[true, true, true, true, true, b5, true, b7, b8, b9] ∧ aa = { tmps := List.toArray (v0 :: v1 :: v2 :: v3 :: v4 :: v5 :: v6 :: v7 :: v8 :: v9 :: v10 :: .pointer (some ⟨b11, 0, none⟩) :: .pointer (some ⟨p12, 0, none⟩) :: .pointer (some ⟨e13, 0, none⟩) :: .pointer (some ⟨e14, 0, none⟩) :: .pointer (some ⟨e15, 0, none⟩) :: .slice none 0 0 :: .bool false :: v18 :: v19 :: v20 :: v21 :: v22 :: v23 :: v24 :: v25 :: v26 :: v27 :: v28 :: v29 :: v30 :: v31 :: v32 :: v33 :: v34 :: v35 :: v36 :: v37 :: v38 :: v39 :: v40 :: v41 :: v42 :: v43 :: v44 :: v45 :: v46 :: v47 :: v48 :: v49 :: .tuple #[.slice none 0 0, .bool false] :: .map (some m) :: .agg (stV n t) :: .tuple #[.slice none 0 0, .bool false] :: .slice none 0 0 :: .bool false :: .bool false :: .bool true :: .map (some m) :: .agg (stV n t) :: .map (some m) :: .agg (stV n x.1) :: u :: x63 :: .agg #[.int .i64 e.1, .int .i64 (e.2 : Int), .int .i64 0] :: x65 :: x66 :: v67 :: v68 :: v69 :: v70 :: v71 :: []), defers := [] } ∧ ClI W n L w0.heap.size m V t x.2 e b5 b7 b8 b9 x63 x65 x66 Z) ?_ ?_ _ _ _ _ (of_decide_eq_true (by kernel_rfl)) ?_
  rotate_left 2
  · exact ⟨false, false, false, false, v63, v65, v66, rfl, rfl, ⟨fun _ => hS, fun h => (by cases h), fun h => (by cases h), fun h => (by cases h), fun h => (by cases h), fun h => (by cases h), fun h => (by cases h)⟩⟩
  rotate_left
  · skip
    rintro listed aa Z j o hlt2 hun hall ho ⟨b5, b7, b8, b9, x63, x65, x66, rfl, rfl, hI⟩ K' hK'
    have hi : j = 0 ∨ j = 1 ∨ j = 2 ∨ j = 3 ∨ j = 4 ∨ j = 5 ∨ j = 6 ∨ j = 7 ∨ j = 8 ∨ j = 9 := by have hlt' : j < 10 := hlt2; omega
    rcases hi with rfl | rfl | rfl | rfl | rfl | rfl | rfl | rfl | rfl | rfl
    · exact absurd hun (by simp)
    · exact absurd hun (by simp)
    · exact absurd hun (by simp)
    · exact absurd hun (by simp)
    · exact absurd hun (by simp)
    · skip
      obtain rfl : b5 = false := hun
      have ho' := Option.some.inj ho
      subst ho'
      obtain ⟨rfl, rfl⟩ := hI.no5
      have hb := hI.b rfl
      have HUZ := Lib.hid (HU.out.below hb)
      have HB := Lib.hid hb
      have HCL := Lib.hid (clone_e (u := u) (n := x.2.length) (F := evF x.2) (w := Z) (by have := HX6.out; omega) HUZ.out)
      go_simp
      refine ⟨trivial, (CallsIn.inRound _ (callsIn_wide.2 HCL.out)).mono ?_⟩
      rintro e5 Z1 ⟨A1, c1, rfl, ho1, hb1⟩
      try simp only [put_laws]
      exact hK'.out _ _ (.inr (HB.out.trans (hb1.mono HB.out.size))) ⟨true, b7, false, false, _, _, _, rfl, rfl, hI.call5 ho1 hb1⟩
    · exact absurd hun (by simp)
    · skip
      obtain rfl : b7 = false := hun
      have ho' := Option.some.inj ho
      subst ho'
      obtain ⟨rfl, rfl⟩ := hI.no7
      have HB := Lib.hid (hI.b rfl)
      go_simp
      try simp only [put_laws]
      exact hK'.out _ _ (.inr (HB.out.trans ((belowAlloc Z _).mono HB.out.size))) ⟨b5, true, false, false, _, _, _, rfl, rfl, hI.alloc7⟩
    · skip
      obtain rfl : b8 = false := hun
      have ho' := Option.some.inj ho
      subst ho'
      obtain rfl := hI.no8
      have hc5 : b5 = true := hall _ (Array.mem_of_getElem? (i := 0) rfl) rfl
      have hc7 : b7 = true := hall _ (Array.mem_of_getElem? (i := 1) rfl) rfl
      subst hc5
      subst hc7
      obtain ⟨A1, c1, rfl, ho1⟩ := hI.h5 rfl rfl
      obtain ⟨g7, rfl, hb7⟩ := hI.h7 rfl rfl
      obtain ⟨v8, Z1, hrun, k1, k2, k3⟩ := app_e 22 ho1 hb7 (by have := HX6.out; omega) (hI.b rfl).size
      refine ite_tt rfl ?_
      refine opIn_app (.tmp 63) (.tmp 65) 22 rfl rfl rfl hrun ?_
      simp only [put_laws, List.getElem_toArray, List.getElem_cons_succ, List.getElem_cons_zero]
      exact hK'.out _ _ (.inr ((hI.app8 k1 k2 ho1).b rfl)) ⟨true, true, true, false, _, _, _, rfl, rfl, hI.app8 k1 k2 ho1⟩
    · skip
      obtain rfl : b9 = false := hun
      have ho' := Option.some.inj ho
      subst ho'
      have hc8 : b8 = true := hall _ (Array.mem_of_getElem? (i := 2) rfl) rfl
      subst hc8
      obtain ⟨Z1, hrun, k1, k2⟩ := (HS.out.below (hI.b rfl)).ways.store hn4 HL.out HD.out (by have := HLE.out; unfold maxLen; omega) HTL.out HNO.out (p := x.2 ++ [e]) (u := x66) (by rw [List.length_append]; exact (hI.h8 rfl rfl).less HS.out.bl.size)
      refine ite_tt rfl ?_
      refine opIn_upd (.tmp 58) (.tmp 59) (.tmp 66) 60 rfl rfl rfl rfl hrun ?_
      simp only [put_laws, List.getElem_toArray, List.getElem_cons_succ, List.getElem_cons_zero]
      exact hK'.out _ _ (.inl rfl) ⟨b5, b7, true, true, _, _, _, rfl, rfl, hI.upd9 k1 k2⟩
  rintro listed aa Z hr ⟨b5, b7, b8, b9, x63, x65, x66, rfl, rfl, hI⟩
  have hall2 : b5 = true ∧ b7 = true ∧ b8 = true ∧ b9 = true := by
    clear hI
    cases b5 <;> cases b7 <;> cases b8 <;> cases b9 <;> first | exact ⟨rfl, rfl, rfl, rfl⟩ | exact absurd hr (of_decide_eq_false (by kernel_rfl))
  obtain ⟨rfl, rfl, rfl, rfl⟩ := hall2
  obtain ⟨hw9, hg9⟩ := hI.h9 rfl
  clear hI hr hS
  have H9 := Lib.hid (HS.out.stored hw9 hg9)
  have K15Z := Lib.hid (K15.out.grown hg9 fun h => by injection h with h; exact HS.out.ways.ne K15.out h)
  have HG9 := Lib.hid hg9
  clear hw9 hg9
  have B10 := Lib.hid (belowAlloc Z (.cells (stV n t) 57))
  have H10 := Lib.hid (H9.out.below B10.out)
  have hlq : ((V.drop i).map Prod.fst).length ≤ 100000000 := by
    have h1 := M.nodup_len HM.out.nodup (r := L) fun y hy => by
      obtain ⟨z, hz, rfl⟩ := List.mem_map.1 hy
      exact HS.out.seen_in hz
    have h2 := HLE.out
    rw [List.length_map] at h1 ⊢
    rw [List.length_drop]
    omega
  obtain ⟨qv', Z1, qb', hrun, hq1, hq2, hq3⟩ := H10.out.q.push (t := t) (b1 := Z.heap.size) (c := 1) 61 (Blk.new Z _ _) hlq H10.out.bl.size
  have HP := Lib.hid (H10.out.pushed hq1 hq3 hq2)
  have HR := Lib.hid hrun
  have HQ2 := Lib.hid hq2
  have HQ3 := Lib.hid hq3
  have hqv := hq1
  obtain ⟨qo', cap', cs', hqv', _⟩ := hqv
  have hqo := HS.out.q
  obtain ⟨qo, cap, cs, hqe, _⟩ := hqo
  have HP1 := Lib.hid (H10.out.hp.grown hq3 (fun h => by injection h with h; obtain ⟨cs2, hb2⟩ := H10.out.q.blk; exact Blk.ne_type H10.out.hp hb2 (by decide) h))
  have p12c := H9.out.hp.cell 0
  generalize ((V.drop i).map Prod.fst ++ [t]).length = nq1 at hqv'
  generalize ((V.drop i).map Prod.fst).length = nq at hqe hlq
  subst hqv'
  subst hqe
  have p12d := HP1.out.cell 0
  have p12f := HP1.out.frz 0
  clear hq1 hq2 hq3 hrun
  gi_upto_region 17 with fail
  gi_wp2_with (first | (refine wpListIn_ldS rfl (.tmp 15) rfl rfl K15Z.out stV_size ?_) | (refine wpListIn_bsS rfl (.tmp 68) rfl rfl stV_size ?_) | (gi_at_builtin; refine wpListIn_app rfl (.tmp 67) (.tmp 69) 61 rfl rfl rfl HR.out ?_))
  obtain ⟨hs1, hs2⟩ := HP.out
  have hle : i ≤ V.length := by obtain ⟨W1, e1, _⟩ := HM.out.pre; have := (List.getElem?_eq_some_iff.1 HM.out.hx).1; rw [e1, List.length_append]; omega
  have hbk : ∀ k, k < W.heap.size → k ≠ m → k ≠ qb → k ≠ p12 → (Z1.setCell ⟨p12, 0, none⟩ (.slice (some ⟨qb', qo', none⟩) nq1 cap')).heap[k]? = W.heap[k]? := fun k hk h1 h2 h3 => by
    have hz := HG9.out.size
    rw [hs2 k (by rw [World.size_alloc]; omega) h2 h3, Below.heap_alloc _ _ _ (by omega)]
    exact HG9.out.block k hk fun h => by injection h with h; exact h1 h
  have hsz : W.heap.size ≤ (Z1.setCell ⟨p12, 0, none⟩ (.slice (some ⟨qb', qo', none⟩) nq1 cap')).heap.size := by
    have h1 := HG9.out.size
    have h2 := HQ3.out.size
    have h3 := (grownBy_setCellQ Z1 ⟨p12, 0, none⟩ (.slice (some ⟨qb', qo', none⟩) nq1 cap')).size
    rw [World.size_alloc] at h2
    omega
  have hkf : KeepsFrom lo W (Z1.setCell ⟨p12, 0, none⟩ (.slice (some ⟨qb', qo', none⟩) nq1 cap')) := ⟨hsz, fun k o hk ho hc => by
    obtain ⟨cs2, hqb⟩ := HS.out.q.blk
    have h1 := HLO.out
    rw [hbk k (Array.getElem?_eq_some_iff.1 ho).1 (by omega) (fun h => by subst h; rw [show W.heap[_]? = _ from hqb] at ho; cases ho; cases hc) (by omega)]; exact ho⟩
  refine ⟨hkf, V ++ [(t, x.2 ++ [e])], qb', .slice (some ⟨qb', qo', none⟩) nq1 cap', HM.out.new HQ.out HNO.out, ?_, hbk, ?_, hsz⟩
  · rw [List.drop_append_of_le_length hle, List.map_append]; exact hs1
  · rcases HQ2.out with h | h
    · exact .inl h
    · have h1 := HG9.out.size
      rw [World.size_alloc] at h
      exact .inr (by omega)
end Go.Proofs.YtfnfjmjejffjiaaDoor
/- relay.Settle: more laws of its operations; its loops. -/
namespace Go.Proofs.YtfnfjmjejffjiaaDoor
open Go.RowKit Go.Maps

/-- a state's cells, loaded from a place in a row -/
theorem run_ldSo {W : World} {g off : Nat} {cs : Array Value} (hs : cs.size = 38) (hc : ∀ j, j < 38 → W.cell? ⟨g, off + j, none⟩ = cs[j]?) : (Instr.loadAt 57 (.pointer (some ⟨g, off, none⟩))).run Tryd.prog W = .ok (.agg cs) W := by
  have hl : (loadCells ⟨g, off, none⟩ cs.toList.length).run Tryd.prog W = .ok cs.toList.toArray W :=
    run_loadCells_list (P := Tryd.prog) W ⟨g, off, none⟩ cs.toList (fun j v hv => by
      have hj : j < 38 := by
        have := (List.getElem?_eq_some_iff.1 hv).1
        rw [Array.length_toList, hs] at this; exact this
      rw [Addr.add_lit, hc j hj]
      simpa using hv)
  have hv : (loadVar 57 ⟨g, off, none⟩).run Tryd.prog W = .ok (.agg cs) W := by
    have hi : (Tryd.prog.info? 57).map (·.size) = some cs.size := by rw [hs]; exact state_size
    cases hq : Tryd.prog.info? 57 with
    | none => rw [hq] at hi; cases hi
    | some i =>
      have hs2 : i.size = cs.size := by simpa [hq] using hi
      have hagg : (isAgg 57).run Tryd.prog W = .ok true W := by
        unfold isAgg
        rw [Sem.run_bind, run_underlying Tryd.underlying57 W]
        rfl
      simp only [Array.length_toList, Array.toArray_toList] at hl
      simp [loadVar, Sem.run_bind, hagg, sizeOf, typeInfo, hq, hs2, hl]
  simp only [Instr.loadAt, Instr.sureAddr, Sem.run_bind, Sem.run_pure, Result.andThen_ok, hv]
/-- the rest of a queue -/
theorem QuS.rest {W : World} {B n qb nq qo cap : Nat} {t : M.St} {l : List M.St} (h : QuS W B n qb (.slice (some ⟨qb, qo, none⟩) nq cap) (t :: l)) :
    ∃ qo' nl, (∀ W', (Instr.sliceAt 61 (.slice (some ⟨qb, qo, none⟩) nq cap) (some (.int .i64 1)) none none).run Tryd.prog W' = .ok (.slice (some ⟨qb, qo', none⟩) nl (cap - 1)) W') ∧ QuS W B n qb (.slice (some ⟨qb, qo', none⟩) nl (cap - 1)) l := by
  have h0 := h
  obtain ⟨qo1, cap1, cs, h1, h2, h3, h4, h5, h6⟩ := h0
  injection h1 with e1 e2 e3
  injection e1 with e1
  injection e1 with _ e1
  subst e1; subst e2; subst e3
  have h5 : l.length + 1 ≤ cap := h5
  have hel : Tryd.prog.elem 61 = 57 := by kernel_rfl
  have hu : Tryd.prog.underlying 61 = some (.slice (Tryd.prog.elem 61)) := by rw [hel]; exact Tryd.underlying61
  have hrun : ∀ W', (Instr.sliceAt 61 (.slice (some ⟨qb, qo, none⟩) (t :: l).length cap) (some (.int .i64 1)) none none).run Tryd.prog W' = .ok (sliced (some ⟨qb, qo, none⟩) 1 (t :: l).length cap 38) W' := fun W' => by
    rw [run_sliceAt_slice _ _ _ _ _ _ hu, run_slice_l _ _ _ _ _ hu .i64 1 (by decide) (by simp only [List.length_cons]; omega), hel, Tryd.sizeOf57]
    rfl
  by_cases hc : cap = 1
  · refine ⟨qo, l.length, fun W' => ?_, qo, cap - 1, cs, rfl, h2, h3, by omega, by omega, fun i u hi => ?_⟩
    · rw [hrun W']
      unfold sliced
      subst hc
      rfl
    · have := (List.getElem?_eq_some_iff.1 hi).1; omega
  · refine ⟨qo + 38, l.length, fun W' => ?_, (QuS.tail (l := l) h).2⟩
    rw [hrun W']
    unfold sliced
    simp only [Option.map_some, Addr.add_lit]
    rw [if_neg hc]
    rfl
section
variable {F : Fence} {n : Nat} {P : Program} {ops : Array Oper} {Q : Exit → Act → World → Prop} {b : Act} {rest : List Oper} {o : Oper} {W W' : World}
theorem wpListIn_ldSo {g off : Nat} {cs : Array Value} (hw : Region.wanted o (yielded ops b.tmps) = true) (x : Operand) (ho : o.op = .load 57 x) (hx : b.eval x = .pointer (some ⟨g, off, none⟩)) (hs : cs.size = 38) (hc : ∀ j, j < 38 → W.cell? ⟨g, off + j, none⟩ = cs[j]?)
    (hK : wpListIn F n Tryd.prog ops Q rest (b.put o.dst (.agg cs)) W) : wpListIn F n Tryd.prog ops Q (o :: rest) b W :=
  wpListIn_step fun K hK' => by
    rw [if_pos hw]
    unfold Oper.wpIn
    refine ⟨by simp [Oper.about, ho], ?_⟩
    rw [Oper.semAt_plain F _ _ (by rw [ho]; intro c hc'; cases hc')]
    simp only [execOp, ho, hx, Sem.run_bind, run_ldSo hs hc, Result.andThen_ok, Sem.run_pure]
    exact hK' _ _ hK
theorem wpListIn_slc (hg : o.guard = none) {v u : Value} {t : TypeId} (x lo : Operand) (ho : o.op = .slice t x (some lo) none none) (hx : b.eval x = v) (hl : b.eval lo = .int .i64 1) (hr : (Instr.sliceAt t v (some (.int .i64 1)) none none).run P W = .ok u W) (h : wpListIn F n P ops Q rest (b.put o.dst u) W) : wpListIn F n P ops Q (o :: rest) b W :=
  wpListIn_plain hg fun K hK => by
    unfold Oper.wpIn
    refine ⟨by simp [Oper.about, ho], ?_⟩
    rw [Oper.semAt_plain F _ _ (by rw [ho]; intro c hc'; cases hc')]
    simp only [execOp, ho, hx, hl, Option.map_some, Option.map_none, Sem.run_bind, hr, Result.andThen_ok, Sem.run_pure]
    exact hK _ _ h
theorem wpListIn_ins (hg : o.guard = none) {vm vk v : Value} (m k x : Operand) (t : TypeId) (ho : o.op = .insert t m k x) (hm : b.eval m = vm) (hk : b.eval k = vk) (hx : b.eval x = v) (hr : (Instr.mapUpdate t vm vk v).run P W = .ok () W') (h : wpListIn F n P ops Q rest (b.put o.dst undef) W') : wpListIn F n P ops Q (o :: rest) b W :=
  wpListIn_plain hg fun K hK => by
    unfold Oper.wpIn
    refine ⟨by simp [Oper.about, ho], ?_⟩
    rw [Oper.semAt_plain F _ _ (by rw [ho]; intro c hc'; cases hc')]
    simp only [execOp, ho, hm, hk, hx, Sem.run_bind, hr, Result.andThen_ok, Sem.run_pure]
    exact hK _ _ h
end
end Go.Proofs.YtfnfjmjejffjiaaDoor
