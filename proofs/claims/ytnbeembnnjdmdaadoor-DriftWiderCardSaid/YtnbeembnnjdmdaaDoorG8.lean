/- Appends of many: bounded by the bytes alone. -/
import Derived.Test.YtnbeembnnjdmdaaDoorCp
import Derived.Test.YtnbeembnnjdmdaaDoorG3
import Derived.Test.YtnbeembnnjdmdaaDoorD27
import Derived.Test.YtnbeembnnjdmdaaDoorE9
namespace Go.Proofs.YtnbeembnnjdmdaaDoor
open Go.RowKit

section
variable {P : Program} {ops : Array Oper} {rest : List Oper} {o : Oper} {a : Act} {Q : Exit → Act → World → Prop}
theorem wpList_appB {W : World} (hgd : o.guard = none) (s x : Operand) (t : TypeId) (ho : o.op = .call { callee := .builtin .append, args := #[s, x], argTypes := #[t, t] })
    (base e m bytes : Nat) {i : TypeInfo} {z : Value} (ht : P.underlying t = some (.slice e)) (hi : P.info? e = some i) (hz : i.zero = some z) (hsize : i.size = m) (hby : i.bytes = bytes) (hzs : z.cells.size = m) (hsz : 0 < m) 
    {v : Value} {n : Nat} {F : Nat → Nat → Value} (hown : Own W base e m v n F) (hs : a.eval s = v) (hn : n ≤ 35184372088832) (hnb : (n + 1) * bytes ≤ 140737488355328) (hbase : base ≤ W.heap.size)
    (g c : Nat) (X : Nat → Value) (hx : a.eval x = .slice (some ⟨g, 0, none⟩) 1 c) (hX : ∀ j, j < m → W.cell? ⟨g, j, none⟩ = some (X j)) (h1 : ∀ j, j < m → (X j).oneCell' = true)
    (h : ∀ v' w', Own w' base e m v' (n + 1) (upd F n X) → W.grownBy w' v.ownBlock → (v'.ownBlock = v.ownBlock ∨ v'.ownBlock = some W.heap.size) → wpList P ops Q rest (a.put o.dst v') w') :
    wpList P ops Q (o :: rest) a W := by
  refine wpList_append_own_at W hgd s x t ho base e i z m bytes ht hi hz hsize hby hzs hsz v n (cellsOf n m F) hs hown ⟨g, 0, none⟩ 1 c ((List.range m).map X) hx (by simp) ?_ ?_ (by unfold maxLen; omega) (by omega) hbase ?_
  · intro j u hj
    by_cases hjm : j < m
    · simp [hjm] at hj
      subst hj
      have := hX j hjm
      unfold Addr.add
      split
      · subst_vars; exact this
      · simpa using this
    · simp [hjm] at hj
  · intro u hu
    simp at hu
    obtain ⟨j, hj, rfl⟩ := hu
    exact h1 j hj
  · intro v' w' h2 h3 _ h5
    exact h v' w' (by unfold Own; rw [← cellsOf_succ]; exact h2) h3 h5
end
section
variable {P : Program}
theorem run_copyB (w : World) (t ty e : TypeId) (i : TypeInfo) (z : Value) (m bytes : Nat) (ht : P.underlying t = some (.slice e)) (hi : P.info? e = some i) (hz : i.zero = some z)
    (hsize : i.size = m) (hby : i.bytes = bytes) (hzs : z.cells.size = m) (hsz : 0 < m) 
    {g : Nat} (hblk : Blk w g e #[]) {A : Option Addr} {n c B : Nat} {F : Nat → Nat → Value} (hF : ∀ i j, (F i j).oneCell' = true) (hR : RdV w B A m n F) (hn : n ≤ 35184372088832) (hnb : n * bytes ≤ 140737488355328) :
    ∃ v' w', (Builtin.append_ #[t, t] ty #[.slice (some ⟨g, 0, none⟩) 0 0, .slice A n c]).run P w = .ok v' w' ∧ Own w' g e m v' n (F) ∧ Below w.heap.size w w' := by
  have hg := hblk.lt
  have ho := own_empty (m := m) hblk (F)
  rcases Nat.eq_zero_or_pos n with rfl | hpos
  · exact ⟨_, _, run_append_none w t ty e i ht hi g c A, ho, Below.refl _ _⟩
  · rcases hR with h0 | ⟨b, off, rfl, hb, hc⟩
    · omega
    · have hl : (cellsOf n m (F)).length = n * m := length_cellsOf _ _ _
      have hnews : ∀ j u, (cellsOf n m (F))[j]? = some u → w.cell? ((⟨b, off, none⟩ : Addr).add j) = some u := by
        intro j u hj
        have hjl : j < n * m := by
          have := (List.getElem?_eq_some_iff.1 hj).1
          rwa [hl] at this
        have hd : j / m < n := Nat.div_lt_of_lt_mul (by rw [Nat.mul_comm]; exact hjl)
        have hmod := Nat.mod_lt j hsz
        have hq := hc (j / m) (j % m) hd hmod
        have hjj : j / m * m + j % m = j := by rw [Nat.mul_comm]; exact Nat.div_add_mod j m
        rw [hjj] at hq
        have hv := get_cellsOf (F := F) hd hmod
        rw [hjj, hj] at hv
        have hadd : (⟨b, off, none⟩ : Addr).add j = ⟨b, off + j, none⟩ := by unfold Addr.add; split <;> simp_all
        rw [hadd, hq, hv]
      have h1 : ∀ u ∈ cellsOf n m (F), u.oneCell' = true := by
        intro u hu
        simp [cellsOf] at hu
        obtain ⟨q, _, rfl⟩ := hu
        exact hF _ _
      have hbb : (0 + n) * bytes ≤ 140737488355328 := by rw [Nat.zero_add]; exact hnb
      obtain ⟨v', w', e1, e2, e3, _, e5⟩ := run_append_own_at (P := P) w g t ty e i z m bytes ht hi hz hsize hby hzs hsz _ 0 _ ho ⟨b, off, none⟩ n c _ hl hnews h1 (by unfold maxLen; omega) (by omega) (by omega)
      have er := run_append_grow (P := P) w t ty e i z ht hi hz ⟨g, 0, none⟩ 0 0 [] (by simp) (by simp) ⟨b, off, none⟩ n c (cellsOf n m (F)) (by rw [hsize]; exact hl) hnews (by omega) (by omega) (growslice_fits (by omega) (by rw [hby]; omega))
      rw [er] at e1
      injection e1 with e1 e6
      refine ⟨v', w', by rw [er, e1, e6], ?_, ?_⟩
      · have : cellsOf 0 m (F) ++ cellsOf n m (F) = cellsOf n m (F) := by simp [cellsOf]
        rw [this, Nat.zero_add] at e2
        exact e2
      · rw [← e6]
        exact (Below.refl _ _).drew.alloc (by simp) _

theorem run_catB (w : World) (t ty e : TypeId) (i : TypeInfo) (z : Value) (m bytes : Nat) (ht : P.underlying t = some (.slice e)) (hi : P.info? e = some i) (hz : i.zero = some z)
    (hsize : i.size = m) (hby : i.bytes = bytes) (hzs : z.cells.size = m) (hsz : 0 < m) 
    {base : Nat} {v : Value} {n : Nat} {F : Nat → Nat → Value} (hown : Own w base e m v n F) (hn : n ≤ 35184372088832) (hbase : base ≤ w.heap.size) {A : Option Addr} {k c B : Nat} {G : Nat → Nat → Value} (hG : ∀ i j, (G i j).oneCell' = true) (hR : RdV w B A m k G) (hk : k ≤ 35184372088832) (hnb : (n + k) * bytes ≤ 140737488355328) :
    ∃ v' w', (Builtin.append_ #[t, t] ty #[v, .slice A k c]).run P w = .ok v' w' ∧ Own w' base e m v' (n + k) (catF n F G) ∧ w.grownBy w' v.ownBlock ∧ (v'.ownBlock = v.ownBlock ∨ v'.ownBlock = some w.heap.size) := by
  rcases Nat.eq_zero_or_pos k with rfl | hpos
  · obtain ⟨A', c', rfl⟩ := hown.form
    refine ⟨_, w, run_append_zero w t ty e i ht hi A' A n c' c hown.room, hown.congr fun i j hi _ => by unfold catF; rw [if_pos hi], ⟨rfl, rfl, rfl, Nat.le_refl _, fun _ _ _ => rfl⟩, .inl rfl⟩
  · obtain ⟨ad, rfl, hnews, h1⟩ := news_of_rd hG hR hpos hsz
    obtain ⟨v', w', e1, e2, e3, _, e5⟩ := run_append_own_at (P := P) w base t ty e i z m bytes ht hi hz hsize hby hzs hsz v n _ hown ad k c _ (length_cellsOf _ _ _) hnews h1 (by unfold maxLen; omega) (by omega) hbase
    rw [cellsOf_cat] at e2
    exact ⟨v', w', e1, e2, e3, e5⟩
end
theorem wpList_copyB {P : Program} {ops : Array Oper} {rest : List Oper} {o : Oper} {a : Act} {Q : Exit → Act → World → Prop} {W : World} (hgd : o.guard = none) (s x : Operand) (t : TypeId) (ho : o.op = .call { callee := .builtin .append, args := #[s, x], argTypes := #[t, t] })
    (e : TypeId) (i : TypeInfo) (z : Value) (m bytes : Nat) (ht : P.underlying t = some (.slice e)) (hi : P.info? e = some i) (hz : i.zero = some z)
    (hsize : i.size = m) (hby : i.bytes = bytes) (hzs : z.cells.size = m) (hsz : 0 < m) 
    {g : Nat} (hs : a.eval s = .slice (some ⟨g, 0, none⟩) 0 0) (hblk : Blk W g e #[]) {A : Option Addr} {n c B : Nat} {F : Nat → Nat → Value} (hF : ∀ i j, (F i j).oneCell' = true) (hx : a.eval x = .slice A n c) (hR : RdV W B A m n F) (hn : n ≤ 35184372088832) (hnb : n * bytes ≤ 140737488355328)
    (h : ∀ A' c' w', Own w' g e m (.slice A' n c') n F → Below W.heap.size W w' → wpList P ops Q rest (a.put o.dst (.slice A' n c')) w') : wpList P ops Q (o :: rest) a W := by
  refine wpList_plain hgd fun K hK => ?_
  obtain ⟨v', w', hr, h2, h3⟩ := run_copyB (P := P) W t o.type e i z m bytes ht hi hz hsize hby hzs hsz hblk (c := c) hF hR hn hnb
  unfold Oper.wp execOp
  simp only [ho, resolve, invoke, builtin, Sem.run_bind, Sem.run_pure, Result.andThen_ok, List.map_toArray, List.map_cons, List.map_nil, hs, hx, hr]
  obtain ⟨A', c', rfl⟩ := h2.form
  exact hK _ _ (h A' c' w' h2 h3)
section
variable {P : Program}
theorem step_catB {w : World} {ops : Array Oper} {o : Oper} {a : Act} {K : Act → World → Prop} {Q : Exit → Act → World → Prop} {E : Prop} (hgd : o.guard = none) (s x : Operand) (t : TypeId)
    (ho : o.op = .call { callee := .builtin .append, args := #[s, x], argTypes := #[t, t] })
    (e : TypeId) (i : TypeInfo) (z : Value) (m bytes : Nat) (ht : P.underlying t = some (.slice e)) (hi : P.info? e = some i) (hz : i.zero = some z)
    (hsize : i.size = m) (hby : i.bytes = bytes) (hzs : z.cells.size = m) (hsz : 0 < m) 
    {base : Nat} {v : Value} {n : Nat} {F : Nat → Nat → Value} (hs : a.eval s = v) (hown : Own w base e m v n F) (hn : n ≤ 35184372088832) (hbase : base ≤ w.heap.size) {A : Option Addr} {k c B : Nat} {G : Nat → Nat → Value} (hG : ∀ i j, (G i j).oneCell' = true) (hx : a.eval x = .slice A k c) (hR : RdV w B A m k G) (hk : k ≤ 35184372088832) (hnb : (n + k) * bytes ≤ 140737488355328)
    (h : ∀ v' w', Own w' base e m v' (n + k) (catF n F G) → w.grownBy w' v.ownBlock → (v'.ownBlock = v.ownBlock ∨ v'.ownBlock = some w.heap.size) → K (a.put o.dst v') w') :
    if Region.wanted o (yielded ops a.tmps) = true then Oper.wp P o a w K Q else E := by
  have hw : Region.wanted o (yielded ops a.tmps) = true := by simp [Region.wanted, hgd]
  rw [if_pos hw]
  obtain ⟨v', w', hr, h2, h3, h4⟩ := run_catB (P := P) w t o.type e i z m bytes ht hi hz hsize hby hzs hsz hown hn hbase (c := c) hG hR hk hnb
  unfold Oper.wp execOp
  simp only [ho, resolve, invoke, builtin, Sem.run_bind, Sem.run_pure, Result.andThen_ok, List.map_toArray, List.map_cons, List.map_nil, hs, hx, hr]
  exact h v' w' h2 h3 h4
end
end Go.Proofs.YtnbeembnnjdmdaaDoor
/- The reference's copy of sightings. -/
namespace Go.Proofs.YtnbeembnnjdmdaaDoor
open Go.RowKit

/-- a sighting, its cells given -/
def sgRow (x : SgV) (u : Value) : Nat → Value := fun j => if j = 0 then .int .i64 x.tk else if j = 1 then u else .bool x.seen
def sgVV (X : Nat → SgV) (V : Nat → Value) : Nat → Nat → Value := fun i => sgRow (X i) (V i)
theorem sgRow_one (x : SgV) (A : Option Addr) (n c j : Nat) : (sgRow x (.slice A n c) j).oneCell' = true := by
  unfold sgRow
  split
  · rfl
  · split <;> rfl
theorem sgVV_upd (X : Nat → SgV) (V : Nat → Value) (n : Nat) (x : SgV) (u : Value) : upd (sgVV X V) n (sgRow x u) = sgVV (fun i => if i = n then x else X i) (fun i => if i = n then u else V i) := by
  funext i
  unfold upd sgVV
  by_cases e : i = n
  · simp only [e, if_true]
  · simp only [if_neg e]
/-- the same sighting, its cells elsewhere -/
def SgV.at_ (x : SgV) (u : Value) : SgV := match u with
  | .slice A _ c => ⟨x.tk, A, c, x.L, x.seen⟩
  | _ => x
theorem SgV.at_sg (x : SgV) (u : Value) : (x.at_ u).sg = x.sg := by unfold SgV.at_; split <;> rfl
theorem SgV.at_tk (x : SgV) (u : Value) : (x.at_ u).tk = x.tk := by unfold SgV.at_; split <;> rfl
theorem SgV.at_L (x : SgV) (u : Value) : (x.at_ u).L = x.L := by unfold SgV.at_; split <;> rfl
theorem SgV.at_seen (x : SgV) (u : Value) : (x.at_ u).seen = x.seen := by unfold SgV.at_; split <;> rfl
/-- sightings that a call has made, each with cells that it has made -/
def CS (W : World) (base : Nat) (v : Value) (n : Nat) (X : Nat → SgV) : Prop := ∃ V, Own W base 75 3 v n (sgVV X V) ∧ ∀ i, i < n → IL W base (V i) (X i).L
section
variable {W W' : World} {base n : Nat} {v : Value} {X : Nat → SgV}
theorem CS.below (h : CS W base v n X) (hb : Below W.heap.size W W') : CS W' base v n X := by
  obtain ⟨V, h1, h2⟩ := h
  exact ⟨V, h1.below hb, fun i hi => Own.below (h2 i hi) hb⟩
theorem CS.nil_ : CS W base (.slice none 0 0) 0 X := ⟨fun _ => .slice none 0 0, Own.nil_, fun i hi => absurd hi (by omega)⟩
theorem CS.form (h : CS W base v n X) : ∃ A c, v = .slice A n c := by
  obtain ⟨V, h1, _⟩ := h
  exact h1.form
theorem CS.less {base' : Nat} (h : CS W base v n X) (hb : base' ≤ base) : CS W base' v n X := by
  obtain ⟨V, h1, h2⟩ := h
  exact ⟨V, h1.less hb, fun i hi => Own.less (h2 i hi) hb⟩
theorem CS.congr {X' : Nat → SgV} (h : CS W base v n X) (hX : ∀ i, i < n → X i = X' i) : CS W base v n X' := by
  obtain ⟨V, h1, h2⟩ := h
  refine ⟨V, h1.congr fun i j hi _ => ?_, fun i hi => ?_⟩
  · unfold sgVV; rw [hX i hi]
  · rw [← hX i hi]; exact h2 i hi
theorem CS.rd {A : Option Addr} {c : Nat} (h : CS W base (.slice A n c) n X) (hl : ∀ i, i < n → (X i).L.length ≤ maxLen) : ∃ V : Nat → Value, RdS W W.heap.size A n fun i => (X i).at_ (V i) := by
  obtain ⟨V, h1, h2⟩ := h
  refine ⟨V, ?_⟩
  rcases Nat.eq_zero_or_pos n with h0 | h0
  · exact .inl h0
  · obtain ⟨g, c', e⟩ := Own.nz h1 h0
    cases e
    refine .inr ⟨g, 0, rfl, (Own.block h1 rfl).2, fun i hi => ?_⟩
    have c0 := Own.cell h1 hi (show 0 < 3 by omega)
    have c1 := Own.cell h1 hi (show 1 < 3 by omega)
    have c2 := Own.cell h1 hi (show 2 < 3 by omega)
    have hi2 := h2 i hi
    obtain ⟨A', c', e⟩ := Own.form hi2
    dsimp only
    rw [SgV.at_tk, SgV.at_L, SgV.at_seen]
    have e' : (X i).at_ (V i) = ⟨(X i).tk, A', c', (X i).L, (X i).seen⟩ := by rw [e]; rfl
    rw [e']
    have hrd := Own.rd1' (show Own W base 3 1 (.slice A' (X i).L.length c') (X i).L.length (ints fun j => (X i).L.getD j 0) from by rw [← e]; exact hi2)
    refine ⟨⟨?_, ?_, ?_⟩, hrd, hl i hi⟩
    · rw [Nat.zero_add]; exact c0
    · rw [Nat.zero_add, ← e]; exact c1
    · rw [Nat.zero_add]; exact c2
/-- behind the append of one more -/
theorem CS.app {v' u : Value} {x : SgV} {V : Nat → Value} (h1 : Own W base 75 3 v n (sgVV X V)) (h2 : ∀ i, i < n → IL W base (V i) (X i).L) (hu : IL W base u x.L) (hg : W.grownBy W' v.ownBlock)
    (ho : Own W' base 75 3 v' (n + 1) (upd (sgVV X V) n (sgRow x u))) : CS W' base v' (n + 1) (fun i => if i = n then x else X i) := by
  refine ⟨fun i => if i = n then u else V i, by rw [← sgVV_upd]; exact ho, fun i hi => ?_⟩
  by_cases e : i = n
  · subst e
    simp only [if_true]
    exact Own.apart_grown hu (h1.apart_type hu (by decide)) hg
  · simp only [if_neg e]
    have h3 := h2 i (by omega)
    exact Own.apart_grown h3 (h1.apart_type h3 (by decide)) hg
end
theorem sg_tmp (W : World) (x : SgV) (u : Value) : ∀ j, j < 3 → (W.alloc (.cells #[.int .i64 x.tk, u, .bool x.seen] 75)).cell? ⟨W.heap.size, j, none⟩ = some (sgRow x u j) := by
  intro j hj
  refine ((Blk.new W 75 #[.int .i64 x.tk, u, .bool x.seen]).cell j).trans ?_
  obtain rfl | rfl | rfl : j = 0 ∨ j = 1 ∨ j = 2 := by omega
  all_goals rfl
theorem rd_v {w : World} {B : Nat} {A : Option Addr} {L : List Int} (h : Rd1 w B A L.length (fun k => L.getD k 0)) : RdV w B A 1 L.length (ints fun k => L.getD k 0) := by
  rcases h with h | ⟨b, off, e, hb, hc⟩
  · exact .inl h
  · refine .inr ⟨b, off, e, hb, fun i j hi hj => ?_⟩
    obtain rfl : j = 0 := by omega
    rw [Nat.mul_one, Nat.add_zero]
    exact hc i hi
theorem sgc_tmp (W : World) (x : SgV) : ∀ j, j < 3 → (W.alloc (.cells #[.int .i64 x.tk, .slice x.A x.L.length x.c, .bool x.seen] 75)).cell? ⟨W.heap.size, j, none⟩ = some (x.cs.getD j (.int .i64 0)) := by
  intro j hj
  refine ((Blk.new W 75 x.cs).cell j).trans ?_
  obtain rfl | rfl | rfl : j = 0 ∨ j = 1 ∨ j = 2 := by omega
  all_goals rfl
theorem sgc_one (x : SgV) (j : Nat) (hj : j < 3) : (x.cs.getD j (.int .i64 0)).oneCell' = true := by
  obtain rfl | rfl | rfl : j = 0 ∨ j = 1 ∨ j = 2 := by omega
  all_goals rfl
end Go.Proofs.YtnbeembnnjdmdaaDoor
