/- A map from cells to spans, as memory; a range over it. -/
import Derived.Test.YtnbeembnnjdmdaaGreatDoorD0
import Derived.Sort.MapsRangeIn
namespace Go.Proofs.YtnbeembnnjdmdaaGreatDoor
open Go.RowKit Go.Maps

def encP (y : Int × Int) : DataW Unit := .agg [.lit (.int .i64 y.1), .lit (.int .i64 y.2)]
def spanR (x : Value) : Option (DataW Unit × List MemPlace) :=
  match x with
  | .agg cs => match cs.toList with
    | [.int .i64 a, .int .i64 b] => some (.agg [.lit (.int .i64 a), .lit (.int .i64 b)], [])
    | _ => none
  | _ => none
def spV (y : Int × Int) : Value := .agg #[.int .i64 y.1, .int .i64 y.2]
theorem spanR_mk (y : Int × Int) : spanR (spV y) = some (encP y, []) := rfl
theorem spanR_inv {x : Value} {y : DataW Unit × List MemPlace} (h : spanR x = some y) : ∃ p, x = spV p ∧ y = (encP p, []) := by
  unfold spanR at h
  split at h
  · rename_i cs
    split at h
    · rename_i a b e
      refine ⟨(a, b), ?_, (Option.some.inj h).symm⟩
      have e2 : cs = #[.int .i64 a, .int .i64 b] := Array.ext' e
      rw [e2]; rfl
    · cases h
  · cases h
theorem encP_inj {p q : Int × Int} (h : encP p = encP q) : p = q := by
  unfold encP at h
  simp only [DataW.agg.injEq, List.cons.injEq, DataW.lit.injEq, Lit.int.injEq, true_and, and_true] at h
  exact Prod.ext h.1 h.2
theorem int_law : Keyed Tryz.prog 3 := int_keyed Tryz.underlying3
theorem spanZ (w : World) : (zeroValue 42).run Tryz.prog w = .ok (spV (0, 0)) w := by kernel_rfl
def small (c : Int) : Prop := -1 ≤ c ∧ c < 1000
theorem small_wf {c : Int} (h : small c) : (Lit.int .i64 c).wf = true := WalkArith.wf_i64 (by unfold small at h; omega)
theorem key_int {c : Int} (h : small c) : keyOf Tryz.prog 3 (.int .i64 c) = some (.int .i64 c) := keyOf_int_mk Tryz.underlying3 (small_wf h)
/-- what a map's datum holds at the cells -/
structure SpD (D : DataW Unit) (v : Int → Option (Int × Int)) : Prop where
  at_ : ∀ c, small c → Maps.has D (.int .i64 c) = (v c).isSome ∧ ∀ y, v c = some y → ∀ zd, D.atKey (.int .i64 c) zd = encP y
  sm : ∀ c y, v c = some y → small c
  key : ∀ kl, Maps.has D kl = true → ∃ c, small c ∧ kl = .int .i64 c
/-- block b is a map from cells to spans, of at most n entries -/
def SpM (W : World) (b n : Nat) (v : Int → Option (Int × Int)) : Prop := ∃ D, W.ownsMap Tryz.prog 3 spanR b n D ∧ SpD D v
section
variable {W W' : World} {b n : Nat} {v v' : Int → Option (Int × Int)}
theorem SpM.congr (h : SpM W b n v) (hv : ∀ c, v c = v' c) : SpM W b n v' := by rw [← show v = v' from funext hv]; exact h
theorem SpM.made (W : World) : SpM (W.alloc (.map #[] 0)) W.heap.size 0 (fun _ => none) := ⟨.map [], World.ownsMap_made W Tryz.prog 3 spanR, ⟨fun c _ => ⟨rfl, fun y h => (by cases h)⟩, fun c y h => (by cases h), fun kl h => (by cases h)⟩⟩
theorem SpM.kept {row : Option Nat} (h : SpM W b n v) (hg : W.grownBy W' row) (hne : some b ≠ row) : SpM W' b n v := by
  obtain ⟨D, h1, h2⟩ := h
  exact ⟨D, h1.kept hg hne, h2⟩
theorem SpM.same (h : SpM W b n v) (he : W'.heap[b]? = W.heap[b]?) : SpM W' b n v := by
  obtain ⟨D, ⟨es, clock, h1, h2⟩, h3⟩ := h
  exact ⟨D, ⟨es, clock, he.trans h1, h2⟩, h3⟩
theorem SpM.lt (h : SpM W b n v) : b < W.heap.size := by
  obtain ⟨D, h1, _⟩ := h
  exact h1.lt
theorem SpM.map (h : SpM W b n v) : ∃ es clock, W.heap[b]? = some (.map es clock) := by
  obtain ⟨D, ⟨es, clock, hb, _⟩, _⟩ := h
  exact ⟨es, clock, hb⟩
/-- 'o, known := m[c]' -/
theorem SpM.look (h : SpM W b n v) {c : Int} (hc : small c) : (Instr.lookup 134 (.map (some b)) (.int .i64 c) true).run Tryz.prog W = .ok (.tuple #[spV ((v c).getD (0, 0)), .bool (v c).isSome]) W := by
  obtain ⟨D, h1, h2⟩ := h
  obtain ⟨x, ps, hrun, hx⟩ := h1.look_ok int_law Tryz.underlying134 (spanZ W) (spanR_mk (0, 0)) (key_int hc)
  obtain ⟨h4, h5⟩ := h2.at_ c hc
  rw [h4] at hrun
  obtain ⟨p, rfl, e⟩ := spanR_inv hx
  have e1 := congrArg Prod.fst e
  simp only at e1
  rw [hrun]
  cases hv : v c with
  | some y =>
    rw [h5 y hv] at e1
    rw [← encP_inj e1]; rfl
  | none =>
    rw [hv] at h4
    rw [Maps.atKey_of_not_has h4] at e1
    rw [← encP_inj e1]; rfl
/-- 'm[c] = y' -/
theorem SpM.store (h : SpM W b n v) (hn : n < maxLen) {c : Int} (hc : small c) (y : Int × Int) :
    ∃ W', (Instr.mapUpdate 134 (.map (some b)) (.int .i64 c) (spV y)).run Tryz.prog W = .ok () W' ∧ SpM W' b (n + 1) (fun x => if x = c then some y else v x) ∧ W.grownBy W' (some b) := by
  obtain ⟨D, h1, h2⟩ := h
  obtain ⟨W', hrun, h4, h5⟩ := h1.update int_law Tryz.underlying134 hn (key_int hc) (spanR_mk y)
  refine ⟨W', hrun, ⟨_, h4, fun x hx => ?_, fun x y' hy' => ?_, fun kl hk => ?_⟩, h5⟩
  rotate_left
  · by_cases e : x = c
    · rw [e]; exact hc
    · simp only [if_neg e] at hy'; exact h2.sm x y' hy'
  · by_cases e : kl = .int .i64 c
    · exact ⟨c, hc, e⟩
    · rw [Maps.has_put_other e] at hk; exact h2.key kl hk
  by_cases e : x = c
  · subst e
    simp only [if_true, Option.isSome_some]
    refine ⟨Maps.has_put_same h1.isMap (int_law.key (key_int hc)) _, fun y' hy' zd => ?_⟩
    cases hy'
    exact Maps.atKey_put_same h1.isMap (int_law.key (key_int hc)) _ zd
  · simp only [if_neg e]
    have hne : (Lit.int .i64 x) ≠ Lit.int .i64 c := fun e2 => e (by injection e2)
    obtain ⟨h6, h7⟩ := h2.at_ x hx
    refine ⟨by rw [Maps.has_put_other hne]; exact h6, fun y' hy' zd => ?_⟩
    rw [Maps.atKey_put_other hne]; exact h7 y' hy' zd
end
theorem left_has {P : Program} {k : TypeId} {R : Value → Option (DataW Unit × List MemPlace)} {w : World} {b r n : Nat} {D : DataW Unit} {left : Lit → Bool} {cnt : Nat} (h : w.ranges P k R b r n D left cnt) (K : Keyed P k) {kl : Lit} (hl : left kl = true) : Maps.has D kl = true := by
  obtain ⟨es, clock, since, seen, c0, _, F, _, hD, _, _, _, _, h2, _⟩ := h
  obtain ⟨x, hx, rfl⟩ := h2 kl hl
  obtain ⟨y, hy⟩ := F.reads x hx
  rw [hD]
  exact List.any_eq_true.2 ⟨WideElems.rg P k R x, mem_sorted.2 (List.mem_map.2 ⟨x, hx, rfl⟩), WideAt.sameKey_self (by rw [WideElems.rg_of hy]; exact K.key (WideElems.rd_key hy))⟩
/-- a range over such a map: vis: the cells that have come -/
def RgM (W : World) (b r n : Nat) (v : Int → Option (Int × Int)) (vis : List Int) : Prop :=
  ∃ D left cnt, W.ranges Tryz.prog 3 spanR b r n D left cnt ∧ SpD D v ∧ (∀ c, small c → (left (.int .i64 c) = true ↔ (v c).isSome = true ∧ c ∉ vis)) ∧ ∀ c, c ∈ vis → (v c).isSome = true
section
variable {W W' : World} {b r n : Nat} {v : Int → Option (Int × Int)} {vis : List Int}
theorem RgM.owns (h : RgM W b r n v vis) : SpM W b n v := by
  obtain ⟨D, left, cnt, h1, h2, _⟩ := h
  exact ⟨D, h1.owns, h2⟩
theorem RgM.ne (h : RgM W b r n v vis) : r ≠ b := by
  obtain ⟨D, left, cnt, h1, _⟩ := h
  exact h1.ne
theorem RgM.lt (h : RgM W b r n v vis) : r < W.heap.size := by
  obtain ⟨D, left, cnt, h1, _⟩ := h
  exact h1.lt
theorem RgM.iter (h : RgM W b r n v vis) : ∃ m s q c, W.heap[r]? = some (.mapIter m s q c) := by
  obtain ⟨D, left, cnt, ⟨es, clock, since, seen, c0, _, _, _, _, hr, _⟩, _⟩ := h
  exact ⟨_, _, _, _, hr⟩
theorem RgM.same (h : RgM W b r n v vis) (he : W'.heap[b]? = W.heap[b]?) (hr : W'.heap[r]? = W.heap[r]?) : RgM W' b r n v vis := by
  obtain ⟨D, left, cnt, ⟨es, clock, since, seen, c0, h1, h2, h3, h4, h5, h6⟩, h7⟩ := h
  exact ⟨D, left, cnt, ⟨es, clock, since, seen, c0, he.trans h1, h2, h3, h4, hr.trans h5, h6⟩, h7⟩
theorem RgM.left_same (he : W'.heap[b]? = W.heap[b]?) (hr : W'.heap[r]? = W.heap[r]?) : W'.rangeLeft b r = W.rangeLeft b r := by
  unfold World.rangeLeft
  rw [he, hr]
end
section
variable {F : Fence} {n : Nat} (w : World) {ops : Array Oper} {rest : List Oper} {o : Oper} {a : Act} {Q : Exit → Act → World → Prop}
/-- 'range m' -/
theorem wpListIn_range_sp (hg : o.guard = none) (m : Operand) (hop : o.op = Op.range 134 m) (b nn : Nat) (v : Int → Option (Int × Int)) (hm : a.eval m = .map (some b)) (hown : SpM w b nn v)
    (hK : ∀ w', RgM w' b w.heap.size nn v [] → w.grownBy w' none → w'.heap.size = w.heap.size + 1 → wpListIn F n Tryz.prog ops Q rest (a.put o.dst (.pointer (some ⟨w.heap.size, 0, none⟩))) w') :
    wpListIn F n Tryz.prog ops Q (o :: rest) a w := by
  obtain ⟨D, h1, h2⟩ := hown
  refine wpListIn_range_own w hg m 134 hop 3 42 int_law Tryz.underlying134 spanR b nn D hm h1 fun w' r1 r2 r3 => hK w' ⟨D, _, _, r1, h2, fun c hc => ?_, fun c hc => by cases hc⟩ r2 r3
  rw [(h2.at_ c hc).1]
  simp
/-- the step: nothing is left, or a cell that has not come yet -/
theorem wpListIn_next_sp (hg : o.guard = none) (it : Operand) (hop : o.op = Op.next it false) (b r nn : Nat) (v : Int → Option (Int × Int)) (vis : List Int) (hit : a.eval it = .pointer (some ⟨r, 0, none⟩)) (h : RgM w b r nn v vis)
    (hDone : (∀ c, c ∈ vis ↔ (v c).isSome = true) → wpListIn F n Tryz.prog ops Q rest (a.put o.dst (.tuple #[.bool false])) w)
    (hMore : ∀ (c x y : Int) (w' : World), small c → c ∉ vis → v c = some (x, y) → RgM w' b r nn v (vis ++ [c]) → w'.rangeLeft b r < w.rangeLeft b r → w.grownBy w' (some r) → w'.heap.size = w.heap.size → (Instr.entry (.pointer (some ⟨r, 0, none⟩))).run Tryz.prog w' = .ok (.tuple #[.int .i64 c, .agg #[.int .i64 x, .int .i64 y]]) w' → wpListIn F n Tryz.prog ops Q rest (a.put o.dst (.tuple #[.bool true, .int .i64 c, .agg #[.int .i64 x, .int .i64 y]])) w') :
    wpListIn F n Tryz.prog ops Q (o :: rest) a w := by
  obtain ⟨D, left, cnt, h1, h2, h3, hv⟩ := h
  refine wpListIn_next_ranges w hg it hop 3 int_law spanR (fun c : Int => .int .i64 c) spV (fun key kl hk => ?_) (fun u y hu => ?_) b r nn D left cnt hit h1 (fun _ hl => ?_) (fun x c kl y w' cnt' hk hl hR hat hrg hlt hgr hsz hen => ?_)
  · obtain ⟨x, rfl, _⟩ := Maps.keyOf_int_inv Tryz.underlying3 hk
    exact ⟨x, rfl⟩
  · obtain ⟨p, rfl, _⟩ := spanR_inv hu
    exact ⟨p, rfl⟩
  · refine hDone fun c => ⟨hv c, fun hs => ?_⟩
    obtain ⟨y, hy⟩ := Option.isSome_iff_exists.1 hs
    by_cases hm : c ∈ vis
    · exact hm
    · have := (h3 c (h2.sm c y hy)).2 ⟨hs, hm⟩
      rw [hl] at this; cases this
  · obtain ⟨c2, hc2, e⟩ := h2.key kl (left_has h1 int_law hl)
    obtain ⟨x', ex, ek, hw⟩ := Maps.keyOf_int_inv Tryz.underlying3 hk
    have ex' : x = x' := by injection ex
    subst ex'
    have e3 : x = c2 := by rw [ek] at e; injection e
    subst e3
    obtain ⟨hs, hm⟩ := (h3 x hc2).1 (by rw [← ek]; exact hl)
    obtain ⟨y0, hy0⟩ := Option.isSome_iff_exists.1 hs
    obtain ⟨p, ep, eq⟩ := spanR_inv hR
    have e5 : c = p := by
      unfold spV at ep
      simp only [Value.agg.injEq, Array.mk.injEq, List.cons.injEq, Value.int.injEq, true_and, and_true] at ep
      exact Prod.ext ep.1 ep.2
    have e4 : y0 = c := by
      have h5 := (h2.at_ x hc2).2 y0 hy0 .nil
      rw [← ek, hat .nil, eq] at h5
      rw [e5]
      exact (encP_inj h5).symm
    subst e4
    refine hMore x y0.1 y0.2 w' hc2 hm hy0 ⟨D, _, cnt', hrg, h2, fun c hc => ?_, fun c hc => ?_⟩ (by rw [hrg.left_eq, h1.left_eq]; exact hlt) hgr hsz hen
    rotate_left
    · rcases List.mem_append.1 hc with hc | hc
      · exact hv c hc
      · rw [List.mem_singleton.1 hc, hy0]; rfl
    simp only [Bool.and_eq_true, Bool.not_eq_true', h3 c hc, List.mem_append, List.mem_singleton, not_or, ek]
    constructor
    · rintro ⟨⟨g1, g2⟩, g3⟩
      refine ⟨g1, g2, fun e => ?_⟩
      subst e
      rw [WideAt.sameKey_self (by exact int_law.key (key_int hc))] at g3
      cases g3
    · rintro ⟨g1, g2, g3⟩
      exact ⟨⟨g1, g2⟩, Maps.sameKey_ne fun e => g3 (by injection e)⟩
end
end Go.Proofs.YtnbeembnnjdmdaaGreatDoor
