/- append of whole slices; elements of m cells. -/
import Derived.Test.YtnbeembnnjdmdaaGreatDoorBase
import Derived.Deep.RegionHeld3
import Derived.Deep.AppendLies
import Derived.Deep.DrawnRows
import Derived.Deep.DeepCutAuto
import Derived.Deep.CutBlock
import Derived.Laws.StructEq
import Derived.Laws.RangeAny
import Derived.Lib.SliceRun
import Derived.Lib.SmallJoins
import Derived.Maps.OwnSet
import Derived.Maps.OwnIn
import Derived.RangeFuncNested
import Derived.RangeFuncCalls
import Derived.RangeFuncLeaves
import Derived.RangeFuncFrom
namespace Go.Proofs.YtnbeembnnjdmdaaGreatDoor
open Go.RowKit

abbrev ints (f : Nat → Int) : Nat → Nat → Value := fun i _ => .int .i64 (f i)
theorem int_info : (Tryz.prog.info? 3).map (fun i => (i.zero, i.size, i.bytes)) = some (some (.int .i64 0), 1, 8) := by kernel_rfl
theorem info_parts {t : TypeId} {z : Value} {m b : Nat} (h : (Tryz.prog.info? t).map (fun i => (i.zero, i.size, i.bytes)) = some (some z, m, b)) : ∃ i, Tryz.prog.info? t = some i ∧ i.zero = some z ∧ i.size = m ∧ i.bytes = b := by
 cases hi : Tryz.prog.info? t with
 | none => rw [hi] at h; cases h
 | some i =>
  rw [hi] at h
  simp only [Option.map_some, Option.some.injEq, Prod.mk.injEq] at h
  exact ⟨i, rfl, h.1, h.2.1, h.2.2⟩
def RdV (w : World) (B : Nat) (A : Option Addr) (m n : Nat) (F : Nat → Nat → Value) : Prop :=
 n = 0 ∨ ∃ b off, A = some ⟨b, off, none⟩ ∧ b < B ∧ ∀ i j, i < n → j < m → w.cell? ⟨b, off + (i * m + j), none⟩ = some (F i j)
section
variable {P : Program}
theorem run_append_none (w : World) (t ty e : TypeId) (i : TypeInfo) (ht : P.underlying t = some (.slice e)) (hi : P.info? e = some i) (g c : Nat) (A : Option Addr) :
  (Builtin.append_ #[t, t] ty #[.slice (some ⟨g, 0, none⟩) 0 0, .slice A 0 c]).run P w = .ok (.slice (some ⟨g, 0, none⟩) 0 0) w := by
 cases A <;> simp [Builtin.append_, run_underlying ht, sizeOf, typeInfo, hi, Builtin.lenOf, Builtin.firstCells, loadCells, loadCellsFrom, storeCells]

theorem own_empty {w : World} {g : Nat} {t m : Nat} (h : Blk w g t #[]) (F : Nat → Nat → Value) : Own w g t m (.slice (some ⟨g, 0, none⟩) 0 0) 0 F := by
 refine ⟨by simp [cellsOf], .inr ⟨g, 0, #[], rfl, Nat.le_refl _, h, Nat.le_refl _, by simp, by simp, by simp [cellsOf]⟩⟩

theorem run_copy (w : World) (t ty e : TypeId) (i : TypeInfo) (z : Value) (m bytes : Nat) (ht : P.underlying t = some (.slice e)) (hi : P.info? e = some i) (hz : i.zero = some z)
  (hsize : i.size = m) (hby : i.bytes = bytes) (hzs : z.cells.size = m) (hsz : 0 < m) (hbm : bytes ≤ 4096)
  {g : Nat} (hblk : Blk w g e #[]) {A : Option Addr} {n c B : Nat} {F : Nat → Nat → Value} (hF : ∀ i j, (F i j).oneCell' = true) (hR : RdV w B A m n F) (hn : n ≤ 1048576) :
  ∃ v' w', (Builtin.append_ #[t, t] ty #[.slice (some ⟨g, 0, none⟩) 0 0, .slice A n c]).run P w = .ok v' w' ∧ Own w' g e m v' n (F) ∧ Below w.heap.size w w' := by
 have hg := hblk.lt
 have ho := own_empty (m := m) hblk (F)
 rcases Nat.eq_zero_or_pos n with rfl | hpos
 · exact ⟨_, _, run_append_none w t ty e i ht hi g c A, ho, Below.refl _ _⟩
 ·
  rcases hR with h0 | ⟨b, off, rfl, hb, hc⟩
  · omega
  ·
   have hl : (cellsOf n m (F)).length = n * m := length_cellsOf _ _ _
   have hnews : ∀ j u, (cellsOf n m (F))[j]? = some u → w.cell? ((⟨b, off, none⟩ : Addr).add j) = some u := by
    intro j u hj
    have hjl : j < n * m := by
     have := (List.getElem?_eq_some_iff.1 hj).1
     rwa [hl] at this
    have hd : j / m < n := Nat.div_lt_of_lt_mul (by rw [Nat.mul_comm]; exact hjl)
    have hmod := Nat.mod_lt j hsz
    have hq := hc (j / m) (j % m) hd hmod
    have hjj : j / m * m + j % m = j := by rw [Nat.mul_comm]; exact Nat.div_add_mod j m
    rw [hjj] at hq
    have hv := get_cellsOf (F := F) hd hmod
    rw [hjj, hj] at hv
    have hadd : (⟨b, off, none⟩ : Addr).add j = ⟨b, off + j, none⟩ := by unfold Addr.add; split <;> simp_all
    rw [hadd, hq, hv]
   have h1 : ∀ u ∈ cellsOf n m (F), u.oneCell' = true := by
    intro u hu
    simp [cellsOf] at hu
    obtain ⟨q, _, rfl⟩ := hu
    exact hF _ _
   have hbb : (0 + n) * bytes ≤ 1048576 * 4096 := Nat.mul_le_mul (by omega) hbm
   obtain ⟨v', w', e1, e2, e3, _, e5⟩ := run_append_own_at (P := P) w g t ty e i z m bytes ht hi hz hsize hby hzs hsz _ 0 _ ho ⟨b, off, none⟩ n c _ hl hnews h1 (by unfold maxLen; omega) (by omega) (by omega)
   have er := run_append_grow (P := P) w t ty e i z ht hi hz ⟨g, 0, none⟩ 0 0 [] (by simp) (by simp) ⟨b, off, none⟩ n c (cellsOf n m (F)) (by rw [hsize]; exact hl) hnews (by omega) (by omega) (growslice_fits (by omega) (by rw [hby]; omega))
   rw [er] at e1
   injection e1 with e1 e6
   refine ⟨v', w', by rw [er, e1, e6], ?_, ?_⟩
   ·
    have : cellsOf 0 m (F) ++ cellsOf n m (F) = cellsOf n m (F) := by simp [cellsOf]
    rw [this, Nat.zero_add] at e2
    exact e2
   ·
    rw [← e6]
    exact (Below.refl _ _).drew.alloc (by simp) _

theorem step_copy {w : World} {ops : Array Oper} {o : Oper} {a : Act} {K : Act → World → Prop} {Q : Exit → Act → World → Prop} {E : Prop} (hgd : o.guard = none) (s x : Operand) (t : TypeId)
  (ho : o.op = .call { callee := .builtin .append, args := #[s, x], argTypes := #[t, t] })
  (e : TypeId) (i : TypeInfo) (z : Value) (m bytes : Nat) (ht : P.underlying t = some (.slice e)) (hi : P.info? e = some i) (hz : i.zero = some z)
  (hsize : i.size = m) (hby : i.bytes = bytes) (hzs : z.cells.size = m) (hsz : 0 < m) (hbm : bytes ≤ 4096)
  {g : Nat} (hs : a.eval s = .slice (some ⟨g, 0, none⟩) 0 0) (hblk : Blk w g e #[]) {A : Option Addr} {n c B : Nat} {F : Nat → Nat → Value} (hF : ∀ i j, (F i j).oneCell' = true) (hx : a.eval x = .slice A n c) (hR : RdV w B A m n F) (hn : n ≤ 1048576)
  (h : ∀ A' c' w', Own w' g e m (.slice A' n c') n (F) → Below w.heap.size w w' → K (a.put o.dst (.slice A' n c')) w') :
  if Region.wanted o (yielded ops a.tmps) = true then Oper.wp P o a w K Q else E := by
 have hw : Region.wanted o (yielded ops a.tmps) = true := by simp [Region.wanted, hgd]
 rw [if_pos hw]
 obtain ⟨v', w', hr, h2, h3⟩ := run_copy (P := P) w t o.type e i z m bytes ht hi hz hsize hby hzs hsz hbm hblk (c := c) hF hR hn
 unfold Oper.wp execOp
 simp only [ho, resolve, invoke, builtin, Sem.run_bind, Sem.run_pure, Result.andThen_ok, List.map_toArray, List.map_cons, List.map_nil, hs, hx, hr]
 obtain ⟨A', c', rfl⟩ := h2.form
 exact h A' c' w' h2 h3
end


def catF (n : Nat) (F G : Nat → Nat → Value) : Nat → Nat → Value := fun i => if i < n then F i else G (i - n)
theorem cellsOf_cat (n k m : Nat) (F G : Nat → Nat → Value) : cellsOf n m F ++ cellsOf k m G = cellsOf (n + k) m (catF n F G) := by
 apply List.ext_getElem?
 intro q
 have hs : (n + k) * m = n * m + k * m := Nat.add_mul _ _ _
 rcases Nat.eq_zero_or_pos m with rfl | hm
 · simp [cellsOf]
 by_cases h1 : q < n * m
 ·
  rw [List.getElem?_append_left (by rw [length_cellsOf]; exact h1)]
  have hd : q / m < n := Nat.div_lt_of_lt_mul (by rw [Nat.mul_comm]; exact h1)
  simp [cellsOf, h1, hs, show q < n * m + k * m by omega, catF, hd]
 ·
  rw [List.getElem?_append_right (by rw [length_cellsOf]; omega), length_cellsOf]
  have hd : ¬ q / m < n := fun h => h1 ((Nat.div_lt_iff_lt_mul hm).1 h)
  have e1 : (q - n * m) / m = q / m - n := by rw [Nat.mul_comm]; exact Nat.sub_mul_div_of_le q m n (by rw [Nat.mul_comm]; omega)
  have e2 : (q - n * m) % m = q % m := by
   have h3 := Nat.mod_add_div q m
   have h4 := Nat.mod_add_div (q - n * m) m
   rw [e1, Nat.mul_sub, Nat.mul_comm m n] at h4
   have h5 : n * m ≤ m * (q / m) := by rw [Nat.mul_comm m]; exact Nat.mul_le_mul_right m (by omega)
   omega
  by_cases h2 : q < n * m + k * m
  · simp [cellsOf, hs, h2, catF, hd, e1, e2, show q - n * m < k * m by omega]
  · simp [cellsOf, hs, h2, show ¬ q - n * m < k * m by omega]

section
variable {P : Program}
theorem run_append_zero (w : World) (t ty e : TypeId) (i : TypeInfo) (ht : P.underlying t = some (.slice e)) (hi : P.info? e = some i) (A' A : Option Addr) (n c' c : Nat) (hn : n ≤ c') :
  (Builtin.append_ #[t, t] ty #[.slice A' n c', .slice A 0 c]).run P w = .ok (.slice A' n c') w := by
 cases A' <;> cases A <;> simp [Builtin.append_, run_underlying ht, sizeOf, typeInfo, hi, Builtin.lenOf, Builtin.firstCells, loadCells, loadCellsFrom, storeCells, hn]
theorem Own.room {w : World} {base t m n c : Nat} {A : Option Addr} {F : Nat → Nat → Value} (h : Own w base t m (.slice A n c) n F) : n ≤ c := by
 rcases h.2 with ⟨h1, h2⟩ | ⟨g, cap, cur, h1, _, _, h4, _⟩
 ·
  injection h1 with _ _ h3
  omega
 ·
  injection h1 with _ _ h3
  omega
theorem news_of_rd {w : World} {B m n : Nat} {A : Option Addr} {F : Nat → Nat → Value} (hF : ∀ i j, (F i j).oneCell' = true) (hR : RdV w B A m n F) (hn : 0 < n) (hm : 0 < m) :
  ∃ ad, A = some ad ∧ (∀ j u, (cellsOf n m F)[j]? = some u → w.cell? (ad.add j) = some u) ∧ ∀ u ∈ cellsOf n m F, u.oneCell' = true := by
 rcases hR with h0 | ⟨b, off, rfl, hb, hc⟩
 · omega
 ·
  refine ⟨_, rfl, ?_, ?_⟩
  ·
   intro j u hj
   have hl : (cellsOf n m F).length = n * m := length_cellsOf _ _ _
   have hjl : j < n * m := by
    have := (List.getElem?_eq_some_iff.1 hj).1
    rwa [hl] at this
   have hd : j / m < n := Nat.div_lt_of_lt_mul (by rw [Nat.mul_comm]; exact hjl)
   have hmod := Nat.mod_lt j hm
   have hq := hc (j / m) (j % m) hd hmod
   have hjj : j / m * m + j % m = j := by rw [Nat.mul_comm]; exact Nat.div_add_mod j m
   rw [hjj] at hq
   have hv := get_cellsOf (F := F) hd hmod
   rw [hjj, hj] at hv
   have hadd : (⟨b, off, none⟩ : Addr).add j = ⟨b, off + j, none⟩ := by unfold Addr.add; split <;> simp_all
   rw [hadd, hq, hv]
  ·
   intro u hu
   simp [cellsOf] at hu
   obtain ⟨q, _, rfl⟩ := hu
   exact hF _ _
theorem run_cat (w : World) (t ty e : TypeId) (i : TypeInfo) (z : Value) (m bytes : Nat) (ht : P.underlying t = some (.slice e)) (hi : P.info? e = some i) (hz : i.zero = some z)
  (hsize : i.size = m) (hby : i.bytes = bytes) (hzs : z.cells.size = m) (hsz : 0 < m) (hbm : bytes ≤ 4096)
  {base : Nat} {v : Value} {n : Nat} {F : Nat → Nat → Value} (hown : Own w base e m v n F) (hn : n ≤ 1048576) (hbase : base ≤ w.heap.size) {A : Option Addr} {k c B : Nat} {G : Nat → Nat → Value} (hG : ∀ i j, (G i j).oneCell' = true) (hR : RdV w B A m k G) (hk : k ≤ 1048576) :
  ∃ v' w', (Builtin.append_ #[t, t] ty #[v, .slice A k c]).run P w = .ok v' w' ∧ Own w' base e m v' (n + k) (catF n F G) ∧ w.grownBy w' v.ownBlock ∧ (v'.ownBlock = v.ownBlock ∨ v'.ownBlock = some w.heap.size) := by
 rcases Nat.eq_zero_or_pos k with rfl | hpos
 ·
  obtain ⟨A', c', rfl⟩ := hown.form
  refine ⟨_, w, run_append_zero w t ty e i ht hi A' A n c' c hown.room, hown.congr fun i j hi _ => by unfold catF; rw [if_pos hi], ⟨rfl, rfl, rfl, Nat.le_refl _, fun _ _ _ => rfl⟩, .inl rfl⟩
 ·
  obtain ⟨ad, rfl, hnews, h1⟩ := news_of_rd hG hR hpos hsz
  have hbb : (n + k) * bytes ≤ 2097152 * 4096 := Nat.mul_le_mul (by omega) hbm
  obtain ⟨v', w', e1, e2, e3, _, e5⟩ := run_append_own_at (P := P) w base t ty e i z m bytes ht hi hz hsize hby hzs hsz v n _ hown ad k c _ (length_cellsOf _ _ _) hnews h1 (by unfold maxLen; omega) (by omega) hbase
  rw [cellsOf_cat] at e2
  exact ⟨v', w', e1, e2, e3, e5⟩
theorem step_cat {w : World} {ops : Array Oper} {o : Oper} {a : Act} {K : Act → World → Prop} {Q : Exit → Act → World → Prop} {E : Prop} (hgd : o.guard = none) (s x : Operand) (t : TypeId)
  (ho : o.op = .call { callee := .builtin .append, args := #[s, x], argTypes := #[t, t] })
  (e : TypeId) (i : TypeInfo) (z : Value) (m bytes : Nat) (ht : P.underlying t = some (.slice e)) (hi : P.info? e = some i) (hz : i.zero = some z)
  (hsize : i.size = m) (hby : i.bytes = bytes) (hzs : z.cells.size = m) (hsz : 0 < m) (hbm : bytes ≤ 4096)
  {base : Nat} {v : Value} {n : Nat} {F : Nat → Nat → Value} (hs : a.eval s = v) (hown : Own w base e m v n F) (hn : n ≤ 1048576) (hbase : base ≤ w.heap.size) {A : Option Addr} {k c B : Nat} {G : Nat → Nat → Value} (hG : ∀ i j, (G i j).oneCell' = true) (hx : a.eval x = .slice A k c) (hR : RdV w B A m k G) (hk : k ≤ 1048576)
  (h : ∀ v' w', Own w' base e m v' (n + k) (catF n F G) → w.grownBy w' v.ownBlock → (v'.ownBlock = v.ownBlock ∨ v'.ownBlock = some w.heap.size) → K (a.put o.dst v') w') :
  if Region.wanted o (yielded ops a.tmps) = true then Oper.wp P o a w K Q else E := by
 have hw : Region.wanted o (yielded ops a.tmps) = true := by simp [Region.wanted, hgd]
 rw [if_pos hw]
 obtain ⟨v', w', hr, h2, h3, h4⟩ := run_cat (P := P) w t o.type e i z m bytes ht hi hz hsize hby hzs hsz hbm hown hn hbase (c := c) hG hR hk
 unfold Oper.wp execOp
 simp only [ho, resolve, invoke, builtin, Sem.run_bind, Sem.run_pure, Result.andThen_ok, List.map_toArray, List.map_cons, List.map_nil, hs, hx, hr]
 exact h v' w' h2 h3 h4
theorem wpList_cat {ops : Array Oper} {rest : List Oper} {o : Oper} {a : Act} {Q : Exit → Act → World → Prop} {w : World} (hgd : o.guard = none) (s x : Operand) (t : TypeId)
  (ho : o.op = .call { callee := .builtin .append, args := #[s, x], argTypes := #[t, t] })
  (e : TypeId) (i : TypeInfo) (z : Value) (m bytes : Nat) (ht : P.underlying t = some (.slice e)) (hi : P.info? e = some i) (hz : i.zero = some z)
  (hsize : i.size = m) (hby : i.bytes = bytes) (hzs : z.cells.size = m) (hsz : 0 < m) (hbm : bytes ≤ 4096)
  {base : Nat} {v : Value} {n : Nat} {F : Nat → Nat → Value} (hs : a.eval s = v) (hown : Own w base e m v n F) (hn : n ≤ 1048576) (hbase : base ≤ w.heap.size) {A : Option Addr} {k c B : Nat} {G : Nat → Nat → Value} (hG : ∀ i j, (G i j).oneCell' = true) (hx : a.eval x = .slice A k c) (hR : RdV w B A m k G) (hk : k ≤ 1048576)
  (h : ∀ v' w', Own w' base e m v' (n + k) (catF n F G) → w.grownBy w' v.ownBlock → (v'.ownBlock = v.ownBlock ∨ v'.ownBlock = some w.heap.size) → wpList P ops Q rest (a.put o.dst v') w') :
  wpList P ops Q (o :: rest) a w := by
 refine wpList_plain hgd fun K hK => ?_
 obtain ⟨v', w', hr, h2, h3, h4⟩ := run_cat (P := P) w t o.type e i z m bytes ht hi hz hsize hby hzs hsz hbm hown hn hbase (c := c) hG hR hk
 unfold Oper.wp execOp
 simp only [ho, resolve, invoke, builtin, Sem.run_bind, Sem.run_pure, Result.andThen_ok, List.map_toArray, List.map_cons, List.map_nil, hs, hx, hr]
 exact hK _ _ (h v' w' h2 h3 h4)
end
abbrev ints2 (F : Nat → Nat → Int) : Nat → Nat → Value := fun i j => .int .i64 (F i j)
theorem Rd.v {w : World} {B m n : Nat} {A : Option Addr} {f : Nat → Nat → Int} (h : Rd w B A m n f) : RdV w B A m n (ints2 f) := h
theorem RdV.below {w w' : World} {B m n : Nat} {A : Option Addr} {f : Nat → Nat → Value} (h : RdV w B A m n f) (hb : Below B w w') : RdV w' B A m n f := by
 rcases h with h | ⟨b, off, hA, hb', hc⟩
 · exact .inl h
 · exact .inr ⟨b, off, hA, hb', fun i j hi hj => (hb.cell (p := ⟨b, off + (i * m + j), none⟩) hb').trans (hc i j hi hj)⟩
theorem Own.rdV {w : World} {b t m n c : Nat} {A : Option Addr} {F : Nat → Nat → Value} (h : Own w b t m (.slice A n c) n F) : RdV w w.heap.size A m n F := by
 rcases Nat.eq_zero_or_pos n with h0 | h0
 · exact .inl h0
 ·
  obtain ⟨g, c', he⟩ := h.nz h0
  injection he with e1 _ e3
  subst e1; subst e3
  exact .inr ⟨g, 0, rfl, (h.block rfl).2, fun i j hi hj => by rw [Nat.zero_add]; exact h.cell hi hj⟩
theorem rdV_blk {w : World} {g t m n : Nat} {cs : Array Value} {F : Nat → Nat → Value} (h : Blk w g t cs) (hc : ∀ i j, i < n → j < m → cs[i * m + j]? = some (F i j)) : RdV w w.heap.size (some ⟨g, 0, none⟩) m n F :=
 .inr ⟨g, 0, rfl, h.lt, fun i j hi hj => by rw [Nat.zero_add]; exact (h.cell _).trans (hc i j hi hj)⟩
theorem wpList_copy {P : Program} {ops : Array Oper} {rest : List Oper} {o : Oper} {a : Act} {Q : Exit → Act → World → Prop} {W : World} (hgd : o.guard = none) (s x : Operand) (t : TypeId) (ho : o.op = .call { callee := .builtin .append, args := #[s, x], argTypes := #[t, t] })
  (e : TypeId) (i : TypeInfo) (z : Value) (m bytes : Nat) (ht : P.underlying t = some (.slice e)) (hi : P.info? e = some i) (hz : i.zero = some z)
  (hsize : i.size = m) (hby : i.bytes = bytes) (hzs : z.cells.size = m) (hsz : 0 < m) (hbm : bytes ≤ 4096)
  {g : Nat} (hs : a.eval s = .slice (some ⟨g, 0, none⟩) 0 0) (hblk : Blk W g e #[]) {A : Option Addr} {n c B : Nat} {F : Nat → Nat → Value} (hF : ∀ i j, (F i j).oneCell' = true) (hx : a.eval x = .slice A n c) (hR : RdV W B A m n F) (hn : n ≤ 1048576)
  (h : ∀ A' c' w', Own w' g e m (.slice A' n c') n F → Below W.heap.size W w' → wpList P ops Q rest (a.put o.dst (.slice A' n c')) w') : wpList P ops Q (o :: rest) a W := by
 refine wpList_plain hgd fun K hK => ?_
 obtain ⟨v', w', hr, h2, h3⟩ := run_copy (P := P) W t o.type e i z m bytes ht hi hz hsize hby hzs hsz hbm hblk (c := c) hF hR hn
 unfold Oper.wp execOp
 simp only [ho, resolve, invoke, builtin, Sem.run_bind, Sem.run_pure, Result.andThen_ok, List.map_toArray, List.map_cons, List.map_nil, hs, hx, hr]
 obtain ⟨A', c', rfl⟩ := h2.form
 exact hK _ _ (h A' c' w' h2 h3)
theorem Own.rdI {w : World} {b t m n c : Nat} {A : Option Addr} {F : Nat → Nat → Int} (h : Own w b t m (.slice A n c) n (ints2 F)) : Rd w w.heap.size A m n F := h.rdV
theorem Rd.c3 {w : World} {B n b off : Nat} {f : Nat → Nat → Int} (h : Rd w B (some ⟨b, off, none⟩) 3 n f) {k : Nat} (hk : k < n) : w.cell? ⟨b, off + k * 3, none⟩ = some (.int .i64 (f k 0)) ∧ w.cell? ⟨b, off + k * 3 + 1, none⟩ = some (.int .i64 (f k 1)) ∧ w.cell? ⟨b, off + k * 3 + 2, none⟩ = some (.int .i64 (f k 2)) := by
 obtain ⟨b', o', ee, -, c0, c1, c2⟩ := h.at3 hk
 injection ee with ee
 injection ee with e1 e2 _
 subst e1; subst e2
 exact ⟨c0, c1, c2⟩
section
variable {Y W W' : World} {p q r : Addr} {x y z : Value}
end
theorem Own.ne_blk {w : World} {b t m n g t' : Nat} {v : Value} {F : Nat → Nat → Value} {cs : Array Value} (h : Own w b t m v n F) (h' : Blk w g t' cs) (ht : t ≠ t') : v.ownBlock ≠ some g := by
 intro e
 rcases h.2 with ⟨rfl, _⟩ | ⟨g1, cap, cur, rfl, _, hh, _⟩
 · simp [Value.ownBlock] at e
 ·
  simp [Value.ownBlock] at e
  subst e
  unfold Blk at h'
  rw [hh] at h'
  injection h' with e
  injection e with _ e
  exact ht e
theorem Blk.grown_own {W W' : World} {g t t' b m n : Nat} {cs : Array Value} {v : Value} {F : Nat → Nat → Value} (h : Blk W g t cs) (ho : Own W b t' m v n F) (ht : t' ≠ t) (hg : W.grownBy W' v.ownBlock) : Blk W' g t cs := h.grown hg fun e => ho.ne_blk h ht e.symm
theorem Blk.below' {W W' : World} {g t : Nat} {cs : Array Value} (h : Blk W g t cs) (hb : Below W.heap.size W W') : Blk W' g t cs := h.below hb h.lt
theorem blk_dr {W : World} {g t : Nat} {cs : Array Value} : Blk W.drew g t cs ↔ Blk W g t cs := Iff.rfl
theorem results_cell_row2 {P : Program} {fn : Func} {p u v : Tmp} {ty : TypeId} (h : fn.results = #[.cell p ty, .tmp u, .tmp v]) (tmps : Array Value) (w : World) (g : Nat) (t : TypeId) (cs : Array Value) (fr : Nat × Nat) (d : TypeDesc)
  (hp : tmps.getD p undef = .pointer (some ⟨g, 0, none⟩)) (hg : w.heap[g]? = some (.cells cs t fr))
  (hu : P.underlying ty = some d) (hd : (match d with | .struct _ | .array _ _ => true | _ => false) = true) (hi : (P.info? ty).map (·.size) = some cs.size) :
  (results fn tmps).run P w = .ok (.tuple #[.agg cs, tmps.getD u undef, tmps.getD v undef]) w := by
 have hp' : tmps[p]?.getD undef = .pointer (some ⟨g, 0, none⟩) := by simpa using hp
 simp [results, h, hp', asAddr, run_loadVar_row w g t ty cs fr d hg hu hd hi]
theorem bool_info : (Tryz.prog.info? 4).map (fun i => (i.zero, i.size, i.bytes)) = some (some (.bool false), 1, 1) := by kernel_rfl
abbrev bools (f : Nat → Bool) : Nat → Nat → Value := fun i _ => .bool (f i)
theorem results_cell_row1 {P : Program} {fn : Func} {p u : Tmp} {ty : TypeId} (h : fn.results = #[.cell p ty, .tmp u]) (tmps : Array Value) (w : World) (g : Nat) (t : TypeId) (cs : Array Value) (fr : Nat × Nat) (d : TypeDesc)
  (hp : tmps.getD p undef = .pointer (some ⟨g, 0, none⟩)) (hg : w.heap[g]? = some (.cells cs t fr))
  (hu : P.underlying ty = some d) (hd : (match d with | .struct _ | .array _ _ => true | _ => false) = true) (hi : (P.info? ty).map (·.size) = some cs.size) :
  (results fn tmps).run P w = .ok (.tuple #[.agg cs, tmps.getD u undef]) w := by
 have hp' : tmps[p]?.getD undef = .pointer (some ⟨g, 0, none⟩) := by simpa using hp
 simp [results, h, hp', asAddr, run_loadVar_row w g t ty cs fr d hg hu hd hi]
end Go.Proofs.YtnbeembnnjdmdaaGreatDoor
/- A map that a call keeps as a memory of what it has reckoned. -/
namespace Go.Proofs.YtnbeembnnjdmdaaGreatDoor
open Go.RowKit Go.Maps

def cntS {α : Type} (v : Nat → Option α) : Nat → Nat
 | 0 => 0
 | n + 1 => cntS v n + (if (v n).isSome then 1 else 0)
theorem cntS_le {α : Type} (v : Nat → Option α) : ∀ n, cntS v n ≤ n
 | 0 => Nat.le_refl _
 | n + 1 => by have := cntS_le v n; unfold cntS; split <;> omega
theorem cntS_upd {α : Type} {v : Nat → Option α} {c : Nat} {x : α} (h : v c = none) : ∀ n, cntS (fun i => if i = c then some x else v i) n = cntS v n + if c < n then 1 else 0
 | 0 => rfl
 | n + 1 => by
  unfold cntS
  rw [cntS_upd h n]
  by_cases hc : n = c
  ·
   subst hc
   rw [if_pos rfl, if_neg (by omega : ¬ n < n), if_pos (by omega : n < n + 1), h]
   simp
  ·
   rw [if_neg hc]
   by_cases h2 : c < n
   · rw [if_pos h2, if_pos (by omega : c < n + 1)]; omega
   · rw [if_neg h2, if_neg (by omega : ¬ c < n + 1)]; omega
def keyL (P : Program) (k : TypeId) (kv : Nat → Value) (i : Nat) : Lit := (keyOf P k (kv i)).getD .nil
def MemoM {H : Type} (W : World) (P : Program) (k : TypeId) (R : Value → Option (DataW H × List MemPlace)) (b N : Nat) (kv : Nat → Value) (v : Nat → Option (DataW H)) : Prop :=
 ∃ n D, W.ownsMap P k R b n D ∧ n ≤ cntS v N ∧ ∀ i, i < N → Maps.has D (keyL P k kv i) = (v i).isSome ∧ ∀ y, v i = some y → ∀ zd, D.atKey (keyL P k kv i) zd = y
section
variable {H : Type} {W W' : World} {P : Program} {k t e : TypeId} {R : Value → Option (DataW H × List MemPlace)} {b N : Nat} {kv : Nat → Value} {v : Nat → Option (DataW H)}
theorem MemoM.made (W : World) (P : Program) (k : TypeId) (R : Value → Option (DataW H × List MemPlace)) (N : Nat) (kv : Nat → Value) : MemoM (W.alloc (.map #[] 0)) P k R W.heap.size N kv (fun _ => none) :=
 ⟨0, .map [], World.ownsMap_made W P k R, Nat.zero_le _, fun i _ => ⟨rfl, fun y h => by cases h⟩⟩
theorem MemoM.kept {row : Option Nat} (h : MemoM W P k R b N kv v) (hg : W.grownBy W' row) (hne : some b ≠ row) : MemoM W' P k R b N kv v := by
 obtain ⟨n, D, h1, h2, h3⟩ := h
 exact ⟨n, D, h1.kept hg hne, h2, h3⟩
theorem MemoM.lt (h : MemoM W P k R b N kv v) : b < W.heap.size := by
 obtain ⟨n, D, h1, h2, h3⟩ := h
 exact h1.lt
theorem MemoM.map (h : MemoM W P k R b N kv v) : ∃ es clock, W.heap[b]? = some (.map es clock) := by
 obtain ⟨n, D, ⟨es, clock, hb, _⟩, _⟩ := h
 exact ⟨es, clock, hb⟩
theorem keyL_eq {i : Nat} {l : Lit} (h : keyOf P k (kv i) = some l) : keyL P k kv i = l := by unfold keyL; rw [h]; rfl
theorem MemoM.look (h : MemoM W P k R b N kv v) (K : Keyed P k) (ht : P.underlying t = some (.map k e)) {z : Value} (hz : (zeroValue e).run P W = .ok z W) {zd : DataW H} {zp : List MemPlace} (hzd : R z = some (zd, zp)) {i : Nat} (hi : i < N) (hk : ∃ l, keyOf P k (kv i) = some l) :
  ∃ x ps, (Instr.lookup t (.map (some b)) (kv i) true).run P W = .ok (.tuple #[x, .bool (v i).isSome]) W ∧ R x = some ((v i).getD zd, ps) := by
 obtain ⟨n, D, h1, h2, h3⟩ := h
 obtain ⟨l, hl⟩ := hk
 obtain ⟨x, ps, hrun, hx⟩ := h1.look_ok K ht hz hzd hl
 obtain ⟨h4, h5⟩ := h3 i hi
 rw [keyL_eq hl] at h4 h5
 rw [h4] at hrun
 refine ⟨x, ps, hrun, ?_⟩
 rw [hx]
 cases hv : v i with
 | some y => rw [h5 y hv]; rfl
 | none =>
  rw [hv] at h4
  rw [Maps.atKey_of_not_has h4]; rfl
theorem MemoM.look1 (h : MemoM W P k R b N kv v) (K : Keyed P k) (ht : P.underlying t = some (.map k e)) {z : Value} (hz : (zeroValue e).run P W = .ok z W) {zd : DataW H} {zp : List MemPlace} (hzd : R z = some (zd, zp)) {i : Nat} (hi : i < N) (hk : ∃ l, keyOf P k (kv i) = some l) {y : DataW H} (hy : v i = some y) :
  ∃ x ps, (Instr.lookup t (.map (some b)) (kv i) false).run P W = .ok x W ∧ R x = some (y, ps) := by
 obtain ⟨n, D, h1, h2, h3⟩ := h
 obtain ⟨l, hl⟩ := hk
 obtain ⟨x, ps, hrun, hx⟩ := h1.lookup K ht hz hzd hl
 obtain ⟨_, h5⟩ := h3 i hi
 rw [keyL_eq hl] at h5
 rw [h5 y hy] at hx
 exact ⟨x, ps, hrun, hx⟩
theorem MemoM.store (h : MemoM W P k R b N kv v) (K : Keyed P k) (ht : P.underlying t = some (.map k e)) (hN : N < maxLen) {i : Nat} (hi : i < N) (hks : ∀ j, j < N → ∃ l, keyOf P k (kv j) = some l) (hinj : ∀ j, j < N → kv j = kv i → j = i) (hv : v i = none) {x : Value} {y : DataW H} {ps : List MemPlace} (hx : R x = some (y, ps)) :
  ∃ W', (Instr.mapUpdate t (.map (some b)) (kv i) x).run P W = .ok () W' ∧ MemoM W' P k R b N kv (fun j => if j = i then some y else v j) ∧ W.grownBy W' (some b) := by
 obtain ⟨n, D, h1, h2, h3⟩ := h
 obtain ⟨l, hl⟩ := hks i hi
 have hn : n < maxLen := Nat.lt_of_le_of_lt (Nat.le_trans h2 (cntS_le _ _)) hN
 obtain ⟨W', hrun, h4, h5⟩ := h1.update K ht hn hl hx
 refine ⟨W', hrun, ⟨n + 1, _, h4, ?_, fun j hj => ?_⟩, h5⟩
 · rw [cntS_upd hv, if_pos hi]; omega
 ·
  by_cases e1 : j = i
  ·
   subst e1
   rw [keyL_eq hl]
   simp only [if_true, Option.isSome_some]
   refine ⟨Maps.has_put_same h1.isMap (K.key hl) y, fun y' hy' zd => ?_⟩
   simp only [Option.some.injEq] at hy'
   subst hy'
   exact Maps.atKey_put_same h1.isMap (K.key hl) _ zd
  ·
   simp only [if_neg e1]
   obtain ⟨lj, hlj⟩ := hks j hj
   have hne : lj ≠ l := fun e2 => e1 (hinj j hj (K.inj (by rw [hlj, e2]) hl))
   obtain ⟨h6, h7⟩ := h3 j hj
   rw [keyL_eq hlj] at h6 h7 ⊢
   refine ⟨by rw [Maps.has_put_other hne]; exact h6, fun y' hy' zd => ?_⟩
   rw [Maps.atKey_put_other hne]; exact h7 y' hy' zd
end
end Go.Proofs.YtnbeembnnjdmdaaGreatDoor
/- A range over a function whose iterator writes too (it keeps a map of what it has reckoned). -/
namespace Go.Proofs.YtnbeembnnjdmdaaGreatDoor
open Go.RowKit

def SeqB {α : Type} (F : Fence) (n : Nat) (P : Program) (g : Nat) (lb : Array Value) (encs : α → Array Value) (Ab : World → World → Prop) (Iv : World → Prop) (S Sp : List α → Prop) (N : Nat) : Prop :=
 ∀ (l : Nat) (J Jx : List α → World → Prop) (W : World), (∀ s A, J s A → Iv A) → (∀ s A B, J s A → Ab A B → J s B) → (∀ s A B, Jx s A → Ab A B → Jx s B) →
  (∀ pre x W1, J pre W1 → pre.length < N → YieldAt F (n - 1) P l (encs x) W1 fun e W' => (e = .returned (.bool true) ∧ J (pre ++ [x]) W') ∨ (e = .returned (.bool false) ∧ Jx (pre ++ [x]) W')) →
  J [] W →
  CallsIn F n P g (#[.func (.yield l) #[] #[]] ++ lb) W fun e W' => (∃ v, e = .returned v) ∧ ((∃ xs, S xs ∧ J xs W') ∨ ∃ pre, Sp pre ∧ Jx pre W')
def roundPostB {α : Type} (B : Nat) (I : List α → World → Prop) (Ix : Code → List α → World → Prop) (xs : List α) (W : World) : Exit → Act → World → Prop
 | .normal, _, W' => KeepsFrom B W W' ∧ I xs W'
 | .ret, _, W' => KeepsFrom B W W' ∧ Ix .ret xs W'
 | .exit id, _, W' => KeepsFrom B W W' ∧ Ix (.exit id) xs W'
 | .goto t, _, W' => KeepsFrom B W W' ∧ Ix (.goto t) xs W'
 | .panic _, _, _ => False
 | .outgrown, _, _ => False
section
variable {F : Fence} {n : Nat} {P : Program}
theorem wpIn_rangeFunc_B {α : Type} {g : Operand} {ps : Array Tmp} {assign body : Code} {Q : Exit → Act → World → Prop} {a : Act} {w : World}
  (hro : F.round = none) (h1 : 1 ≤ n) {gf : Nat} {lb : Array Value} (hg : a.eval g = .func (.func gf) #[] lb) (hFg : F.fn gf) (eg : ∀ args w, (callFunc gf args).run P w = .ok (.enter gf args) w)
  {encs : α → Array Value} {Ab : World → World → Prop} {Iv : World → Prop} {S Sp : List α → Prop} {N : Nat} (hseq : SeqB F (n - 1) P gf lb encs Ab Iv S Sp N) (hps : ∀ x, (encs x).size = ps.size)
  (I : List α → World → Prop) (Ix : Code → List α → World → Prop) (hI : OwnFrom w.heap.size I) (hIx : ∀ c, OwnFrom w.heap.size (Ix c)) (hAK : ∀ A B, Ab A B → KeepsFrom w.heap.size A B) (hAI : ∀ s A B, I s A → Ab A B → I s B) (hAIx : ∀ c s A B, Ix c s A → Ab A B → Ix c s B) (hIv : ∀ s A, I s A → Iv A)
  (h0 : I [] w) (Ax : α → Act → World → Prop) (hAx : ∀ x a', OwnFrom w.heap.size (fun (_ : Unit) W => Ax x a' W))
  (hassign : ∀ (l : Nat) (pre : List α) (x : α) (W : World) (K : Act → World → Prop), I pre W → (∀ a' W', KeepsFrom w.heap.size W W' → I pre W' → Ax x a' W' → K a' W') →
   assign.wpIn (F.inRound l) (n - 1 - 1) P (Exit.then K (fun _ _ _ => False)) { tmps := (ps.zip (encs x)).foldl (fun t (p, v) => t.setIfInBounds p v) a.tmps, defers := [] } W)
  (hbody : ∀ (l : Nat) (pre : List α) (x : α) (a' : Act) (W : World), w.heap.size ≤ l → (∃ r, W.heap[l]? = some (.loop r)) → I pre W → Ax x a' W → pre.length < N → body.wpIn (F.inRound l) (n - 1 - 1) P (roundPostB w.heap.size I Ix (pre ++ [x]) W) a' W)
  (hdone : ∀ (D : Nat) (xs : List α) (W : World), w.heap.size ≤ D → S xs → I xs W → W.heap[D]? = some (.deferred (some [])) → Q .normal { a with defers := { target := .collected D, args := #[] } :: a.defers } W)
  (hstop : ∀ (D : Nat) (c : Code) (pre : List α) (W : World), w.heap.size ≤ D → Sp pre → Ix c pre W → W.heap[D]? = some (.deferred (some [])) → c.wpIn F n P Q { a with defers := { target := .collected D, args := #[] } :: a.defers } W) :
  (Code.rangeFunc g ps assign body).wpIn F n P Q a w := by
 refine wpIn_rangeFunc ?_
 intro fn hfn
 rw [hro]
 obtain ⟨rec, hrec⟩ : ∃ rec : LoopState → Option Code → Loop, rec = fun st pe => { state := st, pending := pe, fn, tmps := a.tmps, params := ps, assign, body, defers := w.heap.size } := ⟨_, rfl⟩
 obtain ⟨M, hM⟩ : ∃ M, M = w.heap.size + 1 := ⟨_, rfl⟩
 obtain ⟨W1, hW1⟩ : ∃ W1, (w.alloc (.deferred (some []))).alloc (.loop (rec .ready none)) = W1 := ⟨_, rfl⟩
 have hL1 : W1.heap[M]? = some (.loop (rec .ready none)) := by
  have := World.alloc_heap_new (w.alloc (.deferred (some []))) (.loop (rec .ready none))
  rw [World.size_alloc] at this
  rw [← hW1, hM]; exact this
 have hK1 : W1.heap[w.heap.size]? = some (.deferred (some [])) := by
  rw [← hW1]; exact (Below.heap_alloc _ _ _ (by simp)).trans (World.alloc_heap_new w _)
 have hI1 : I [] W1 := by rw [← hW1]; exact hI.alloc _ (hI.alloc _ h0)
 -- the book-keeping: the loop's record in state st with pending jump pe, and the block for the rounds' deferred calls
 obtain ⟨Bk, hBk⟩ : ∃ Bk : LoopState → Option Code → World → Prop, Bk = fun st pe W => W.heap[M]? = some (.loop (rec st pe)) ∧ W.heap[w.heap.size]? = some (.deferred (some [])) := ⟨_, rfl⟩
 have keep : ∀ {st : LoopState} {pe : Option Code} {A B : World}, Bk st pe A → KeepsFrom w.heap.size A B → Bk st pe B := by
  intro st pe A B h hk
  rw [hBk] at h ⊢
  exact ⟨hk.same _ _ (by omega) h.1 rfl, hk.same _ _ (Nat.le_refl _) h.2 rfl⟩
 have turn : ∀ {st : LoopState} {pe : Option Code} (st' : LoopState) (pe' : Option Code) {A : World}, Bk st pe A → Bk st' pe' (A.putObj M (.loop (rec st' pe'))) := by
  intro st pe st' pe' A h
  rw [hBk] at h ⊢
  exact ⟨World.putObj_heap_same (Array.getElem?_eq_some_iff.1 h.1).1, (World.putObj_heap_other (by omega)).trans h.2⟩
 have bk1 : Bk .ready none W1 := by rw [hBk]; exact ⟨hL1, hK1⟩
 have lp : ∀ {st : LoopState} {pe : Option Code} {A : World}, Bk st pe A → A.heap[M]? = some (.loop (rec st pe)) := by intro st pe A h; rw [hBk] at h; exact h.1
 have df : ∀ {st : LoopState} {pe : Option Code} {A : World}, Bk st pe A → A.heap[w.heap.size]? = some (.deferred (some [])) := by intro st pe A h; rw [hBk] at h; exact h.2
 have hMw : w.heap.size ≤ M := by omega
 refine ⟨M, [{ target := .collected w.heap.size, args := #[] }], W1, { target := .fn (.func gf) lb, args := #[.func (.yield M) #[] #[]] }, W1, gf, #[.func (.yield M) #[] #[]] ++ lb, W1, ?_, ?_, ?_, ?_, fun _ => h1, ?_⟩
 · rw [← hW1, hrec, hM]; exact run_enterLoop_outer _ _ _ _ _
 ·
  simp only [resolve, hg]
  simp [go_sem]
 · intro f' hf'; simp [Target.leads] at hf'; subst hf'; exact hFg
 · simp [invoke, go_sem, eg]
 ·
  refine (hseq M (fun pre W => I pre W ∧ Bk .ready none W) (fun pre W => ∃ c, Ix c pre W ∧ Bk .done (some c) W) W1 (fun s A h => hIv s A h.1) (fun s A B h hab => ⟨hAI s A B h.1 hab, keep h.2 (hAK A B hab)⟩)
   (fun s A B h hab => by obtain ⟨c, h2, h3⟩ := h; exact ⟨c, hAIx c s A B h2 hab, keep h3 (hAK A B hab)⟩) ?_ ⟨hI1, bk1⟩).mono ?_
  ·
   rintro pre x W ⟨hi, hb⟩ hlen
   have hy := run_yield (P := P) (args := encs x) (lp hb) (by rw [hrec]; exact hps x)
   rw [hrec] at hy
   refine ⟨fn, _, assign, body, hy, roundIn_of_wpIn hfn (hassign _ pre x W _ hi ?_)⟩
   clear hy
   intro a' V hkv hiv hax
   have hbv := keep hb hkv
   refine ⟨_, run_beginRound (lp hbv) (by rw [hrec]), ?_⟩
   have hb2 := turn .busy none hbv
   have hloop := lp hbv
   rw [hrec] at hb2 hloop
   rw [hrec]
   refine wpIn_mono (hbody _ pre x a' _ hMw ⟨_, by have := lp hb2; rw [hrec] at this; exact this⟩ (hI.putObj _ hiv hMw hloop rfl) ((hAx x a').putObj (s := ()) _ hax hMw hloop rfl) hlen) ?_
   have fin : ∀ (jump : Option Code) (W3 : World), Bk .busy none W3 → (Instr.endRound M jump).run P W3 = .ok (.bool jump.isNone) (W3.putObj M (.loop (rec (if jump.isNone then .ready else .done) jump))) ∧ Bk (if jump.isNone then .ready else .done) jump (W3.putObj M (.loop (rec (if jump.isNone then .ready else .done) jump))) := fun jump W3 h3 => by
    have h4 := run_endRound (P := P) jump (lp h3)
    refine ⟨?_, turn _ _ h3⟩
    rw [hrec] at h4 ⊢
    exact h4
   have back : ∀ {W3 : World}, KeepsFrom w.heap.size (V.putObj M (.loop (rec .busy none))) W3 → Bk .busy none W3 := fun h3 => keep (turn .busy none hbv) h3
   rw [hrec] at back
   rintro e a3 W3 hp
   cases e with
   | normal =>
    obtain ⟨hk3, hi3⟩ := hp
    have h3 := back hk3
    obtain ⟨hr, h4⟩ := fin none W3 h3
    exact ⟨_, _, hr, .inl ⟨rfl, hI.putObj _ hi3 hMw (lp h3) rfl, h4⟩⟩
   | ret =>
    obtain ⟨hk3, hi3⟩ := hp
    have h3 := back hk3
    obtain ⟨hr, h4⟩ := fin (some .ret) W3 h3
    exact ⟨_, _, hr, .inr ⟨rfl, .ret, (hIx _).putObj _ hi3 hMw (lp h3) rfl, h4⟩⟩
   | exit id =>
    obtain ⟨hk3, hi3⟩ := hp
    have h3 := back hk3
    obtain ⟨hr, h4⟩ := fin (some (.exit id)) W3 h3
    exact ⟨_, _, hr, .inr ⟨rfl, .exit id, (hIx _).putObj _ hi3 hMw (lp h3) rfl, h4⟩⟩
   | goto t =>
    obtain ⟨hk3, hi3⟩ := hp
    have h3 := back hk3
    obtain ⟨hr, h4⟩ := fin (some (.goto t)) W3 h3
    exact ⟨_, _, hr, .inr ⟨rfl, .goto t, (hIx _).putObj _ hi3 hMw (lp h3) rfl, h4⟩⟩
   | panic ch => exact hp.elim
   | outgrown => exact hp.elim
  ·
   rintro e W2 ⟨⟨v, rfl⟩, (⟨xs, hS, hi, hb⟩ | ⟨pre, hSp, c, hi, hb⟩)⟩
   ·
    have h5 := run_endLoop (P := P) (lp hb) (by rw [hrec]; simp)
    have h6 := turn .ready none hb
    rw [hrec] at h5
    exact ⟨none, _, h5, hdone _ xs _ (Nat.le_refl _) hS (hI.putObj _ hi hMw (lp hb) rfl) ((World.putObj_heap_other (by omega)).trans (df hb))⟩
   ·
    have h5 := run_endLoop (P := P) (lp hb) (by rw [hrec]; simp)
    rw [hrec] at h5
    exact ⟨some c, _, h5, hstop _ c pre _ (Nat.le_refl _) hSp ((hIx c).putObj _ hi hMw (lp hb) rfl) ((World.putObj_heap_other (by omega)).trans (df hb))⟩
end
end Go.Proofs.YtnbeembnnjdmdaaGreatDoor
/- As Rf, with what the iterator says of what it yields. -/
namespace Go.Proofs.YtnbeembnnjdmdaaGreatDoor
open Go.RowKit

def SeqY {α : Type} (F : Fence) (n : Nat) (P : Program) (g : Nat) (lb : Array Value) (encs : α → Array Value) (Ab : World → World → Prop) (Iv : World → Prop) (Yd : World → α → World → Prop) (S Sp : List α → Prop) (N : Nat) : Prop :=
 ∀ (l : Nat) (J Jx : List α → World → Prop) (W : World), (∀ s A, J s A → Iv A) → (∀ s A B, J s A → Ab A B → J s B) → (∀ s A B, Jx s A → Ab A B → Jx s B) →
  (∀ pre x W0 W1, J pre W0 → Ab W0 W1 → Yd W0 x W1 → pre.length < N → YieldAt F (n - 1) P l (encs x) W1 fun e W' => (e = .returned (.bool true) ∧ J (pre ++ [x]) W') ∨ (e = .returned (.bool false) ∧ Jx (pre ++ [x]) W')) →
  J [] W →
  CallsIn F n P g (#[.func (.yield l) #[] #[]] ++ lb) W fun e W' => (∃ v, e = .returned v) ∧ ((∃ xs, S xs ∧ J xs W') ∨ ∃ pre, Sp pre ∧ Jx pre W')
section
variable {F : Fence} {n : Nat} {P : Program}
theorem wpIn_rangeFunc_Y {α : Type} {g : Operand} {ps : Array Tmp} {assign body : Code} {Q : Exit → Act → World → Prop} {a : Act} {w : World}
  (hro : F.round = none) (h1 : 1 ≤ n) {gf : Nat} {lb : Array Value} (hg : a.eval g = .func (.func gf) #[] lb) (hFg : F.fn gf) (eg : ∀ args w, (callFunc gf args).run P w = .ok (.enter gf args) w)
  {encs : α → Array Value} {Ab : World → World → Prop} {Iv : World → Prop} {Yd : World → α → World → Prop} {S Sp : List α → Prop} {N : Nat} (hseq : SeqY F (n - 1) P gf lb encs Ab Iv Yd S Sp N) (hps : ∀ x, (encs x).size = ps.size)
  (I : List α → World → Prop) (Ix : Code → List α → World → Prop) (hI : OwnFrom w.heap.size I) (hIx : ∀ c, OwnFrom w.heap.size (Ix c)) (hAK : ∀ A B, Ab A B → KeepsFrom w.heap.size A B) (hAI : ∀ s A B, I s A → Ab A B → I s B) (hAIx : ∀ c s A B, Ix c s A → Ab A B → Ix c s B) (hIv : ∀ s A, I s A → Iv A)
  (h0 : I [] w) (Ax : World → α → Act → World → Prop) (hAx : ∀ W0 x a', OwnFrom w.heap.size (fun (_ : Unit) W => Ax W0 x a' W))
  (hassign : ∀ (l : Nat) (pre : List α) (x : α) (W0 W : World) (K : Act → World → Prop), I pre W0 → Ab W0 W → Yd W0 x W → I pre W → (∀ a' W', KeepsFrom w.heap.size W W' → I pre W' → Ax W0 x a' W' → K a' W') →
   assign.wpIn (F.inRound l) (n - 1 - 1) P (Exit.then K (fun _ _ _ => False)) { tmps := (ps.zip (encs x)).foldl (fun t (p, v) => t.setIfInBounds p v) a.tmps, defers := [] } W)
  (hbody : ∀ (l : Nat) (pre : List α) (x : α) (a' : Act) (W0 W : World), w.heap.size ≤ l → (∃ r, W.heap[l]? = some (.loop r)) → I pre W0 → I pre W → Ax W0 x a' W → pre.length < N → body.wpIn (F.inRound l) (n - 1 - 1) P (roundPostB w.heap.size I Ix (pre ++ [x]) W) a' W)
  (hdone : ∀ (D : Nat) (xs : List α) (W : World), w.heap.size ≤ D → S xs → I xs W → W.heap[D]? = some (.deferred (some [])) → Q .normal { a with defers := { target := .collected D, args := #[] } :: a.defers } W)
  (hstop : ∀ (D : Nat) (c : Code) (pre : List α) (W : World), w.heap.size ≤ D → Sp pre → Ix c pre W → W.heap[D]? = some (.deferred (some [])) → c.wpIn F n P Q { a with defers := { target := .collected D, args := #[] } :: a.defers } W) :
  (Code.rangeFunc g ps assign body).wpIn F n P Q a w := by
 refine wpIn_rangeFunc ?_
 intro fn hfn
 rw [hro]
 obtain ⟨rec, hrec⟩ : ∃ rec : LoopState → Option Code → Loop, rec = fun st pe => { state := st, pending := pe, fn, tmps := a.tmps, params := ps, assign, body, defers := w.heap.size } := ⟨_, rfl⟩
 obtain ⟨M, hM⟩ : ∃ M, M = w.heap.size + 1 := ⟨_, rfl⟩
 obtain ⟨W1, hW1⟩ : ∃ W1, (w.alloc (.deferred (some []))).alloc (.loop (rec .ready none)) = W1 := ⟨_, rfl⟩
 have hL1 : W1.heap[M]? = some (.loop (rec .ready none)) := by
  have := World.alloc_heap_new (w.alloc (.deferred (some []))) (.loop (rec .ready none))
  rw [World.size_alloc] at this
  rw [← hW1, hM]; exact this
 have hK1 : W1.heap[w.heap.size]? = some (.deferred (some [])) := by
  rw [← hW1]; exact (Below.heap_alloc _ _ _ (by simp)).trans (World.alloc_heap_new w _)
 have hI1 : I [] W1 := by rw [← hW1]; exact hI.alloc _ (hI.alloc _ h0)
 -- the book-keeping: the loop's record in state st with pending jump pe, and the block for the rounds' deferred calls
 obtain ⟨Bk, hBk⟩ : ∃ Bk : LoopState → Option Code → World → Prop, Bk = fun st pe W => W.heap[M]? = some (.loop (rec st pe)) ∧ W.heap[w.heap.size]? = some (.deferred (some [])) := ⟨_, rfl⟩
 have keep : ∀ {st : LoopState} {pe : Option Code} {A B : World}, Bk st pe A → KeepsFrom w.heap.size A B → Bk st pe B := by
  intro st pe A B h hk
  rw [hBk] at h ⊢
  exact ⟨hk.same _ _ (by omega) h.1 rfl, hk.same _ _ (Nat.le_refl _) h.2 rfl⟩
 have turn : ∀ {st : LoopState} {pe : Option Code} (st' : LoopState) (pe' : Option Code) {A : World}, Bk st pe A → Bk st' pe' (A.putObj M (.loop (rec st' pe'))) := by
  intro st pe st' pe' A h
  rw [hBk] at h ⊢
  exact ⟨World.putObj_heap_same (Array.getElem?_eq_some_iff.1 h.1).1, (World.putObj_heap_other (by omega)).trans h.2⟩
 have bk1 : Bk .ready none W1 := by rw [hBk]; exact ⟨hL1, hK1⟩
 have lp : ∀ {st : LoopState} {pe : Option Code} {A : World}, Bk st pe A → A.heap[M]? = some (.loop (rec st pe)) := by intro st pe A h; rw [hBk] at h; exact h.1
 have df : ∀ {st : LoopState} {pe : Option Code} {A : World}, Bk st pe A → A.heap[w.heap.size]? = some (.deferred (some [])) := by intro st pe A h; rw [hBk] at h; exact h.2
 have hMw : w.heap.size ≤ M := by omega
 refine ⟨M, [{ target := .collected w.heap.size, args := #[] }], W1, { target := .fn (.func gf) lb, args := #[.func (.yield M) #[] #[]] }, W1, gf, #[.func (.yield M) #[] #[]] ++ lb, W1, ?_, ?_, ?_, ?_, fun _ => h1, ?_⟩
 · rw [← hW1, hrec, hM]; exact run_enterLoop_outer _ _ _ _ _
 ·
  simp only [resolve, hg]
  simp [go_sem]
 · intro f' hf'; simp [Target.leads] at hf'; subst hf'; exact hFg
 · simp [invoke, go_sem, eg]
 ·
  refine (hseq M (fun pre W => I pre W ∧ Bk .ready none W) (fun pre W => ∃ c, Ix c pre W ∧ Bk .done (some c) W) W1 (fun s A h => hIv s A h.1) (fun s A B h hab => ⟨hAI s A B h.1 hab, keep h.2 (hAK A B hab)⟩)
   (fun s A B h hab => by obtain ⟨c, h2, h3⟩ := h; exact ⟨c, hAIx c s A B h2 hab, keep h3 (hAK A B hab)⟩) ?_ ⟨hI1, bk1⟩).mono ?_
  ·
   rintro pre x W0 W ⟨hi0, hb0⟩ hab hyd hlen
   have hi := hAI _ _ _ hi0 hab
   have hb := keep hb0 (hAK _ _ hab)
   have hy := run_yield (P := P) (args := encs x) (lp hb) (by rw [hrec]; exact hps x)
   rw [hrec] at hy
   refine ⟨fn, _, assign, body, hy, roundIn_of_wpIn hfn (hassign _ pre x W0 W _ hi0 hab hyd hi ?_)⟩
   clear hy
   intro a' V hkv hiv hax
   have hbv := keep hb hkv
   refine ⟨_, run_beginRound (lp hbv) (by rw [hrec]), ?_⟩
   have hb2 := turn .busy none hbv
   have hloop := lp hbv
   rw [hrec] at hb2 hloop
   rw [hrec]
   refine wpIn_mono (hbody _ pre x a' W0 _ hMw ⟨_, by have := lp hb2; rw [hrec] at this; exact this⟩ hi0 (hI.putObj _ hiv hMw hloop rfl) ((hAx W0 x a').putObj (s := ()) _ hax hMw hloop rfl) hlen) ?_
   have fin : ∀ (jump : Option Code) (W3 : World), Bk .busy none W3 → (Instr.endRound M jump).run P W3 = .ok (.bool jump.isNone) (W3.putObj M (.loop (rec (if jump.isNone then .ready else .done) jump))) ∧ Bk (if jump.isNone then .ready else .done) jump (W3.putObj M (.loop (rec (if jump.isNone then .ready else .done) jump))) := fun jump W3 h3 => by
    have h4 := run_endRound (P := P) jump (lp h3)
    refine ⟨?_, turn _ _ h3⟩
    rw [hrec] at h4 ⊢
    exact h4
   have back : ∀ {W3 : World}, KeepsFrom w.heap.size (V.putObj M (.loop (rec .busy none))) W3 → Bk .busy none W3 := fun h3 => keep (turn .busy none hbv) h3
   rw [hrec] at back
   rintro e a3 W3 hp
   cases e with
   | normal =>
    obtain ⟨hk3, hi3⟩ := hp
    have h3 := back hk3
    obtain ⟨hr, h4⟩ := fin none W3 h3
    exact ⟨_, _, hr, .inl ⟨rfl, hI.putObj _ hi3 hMw (lp h3) rfl, h4⟩⟩
   | ret =>
    obtain ⟨hk3, hi3⟩ := hp
    have h3 := back hk3
    obtain ⟨hr, h4⟩ := fin (some .ret) W3 h3
    exact ⟨_, _, hr, .inr ⟨rfl, .ret, (hIx _).putObj _ hi3 hMw (lp h3) rfl, h4⟩⟩
   | exit id =>
    obtain ⟨hk3, hi3⟩ := hp
    have h3 := back hk3
    obtain ⟨hr, h4⟩ := fin (some (.exit id)) W3 h3
    exact ⟨_, _, hr, .inr ⟨rfl, .exit id, (hIx _).putObj _ hi3 hMw (lp h3) rfl, h4⟩⟩
   | goto t =>
    obtain ⟨hk3, hi3⟩ := hp
    have h3 := back hk3
    obtain ⟨hr, h4⟩ := fin (some (.goto t)) W3 h3
    exact ⟨_, _, hr, .inr ⟨rfl, .goto t, (hIx _).putObj _ hi3 hMw (lp h3) rfl, h4⟩⟩
   | panic ch => exact hp.elim
   | outgrown => exact hp.elim
  ·
   rintro e W2 ⟨⟨v, rfl⟩, (⟨xs, hS, hi, hb⟩ | ⟨pre, hSp, c, hi, hb⟩)⟩
   ·
    have h5 := run_endLoop (P := P) (lp hb) (by rw [hrec]; simp)
    have h6 := turn .ready none hb
    rw [hrec] at h5
    exact ⟨none, _, h5, hdone _ xs _ (Nat.le_refl _) hS (hI.putObj _ hi hMw (lp hb) rfl) ((World.putObj_heap_other (by omega)).trans (df hb))⟩
   ·
    have h5 := run_endLoop (P := P) (lp hb) (by rw [hrec]; simp)
    rw [hrec] at h5
    exact ⟨some c, _, h5, hstop _ c pre _ (Nat.le_refl _) hSp ((hIx c).putObj _ hi hMw (lp hb) rfl) ((World.putObj_heap_other (by omega)).trans (df hb))⟩
end
end Go.Proofs.YtnbeembnnjdmdaaGreatDoor
/- A range over a function inside a plain loop: each round leaves a mark on the frame. -/
namespace Go.Proofs.YtnbeembnnjdmdaaGreatDoor
open Go.RowKit

def mark_ (D : Nat) : Deferred := { target := .collected D, args := #[] }
def Marks (lo : Nat) (w : World) : List Nat → Prop
 | [] => True
 | D :: ds => lo ≤ D ∧ w.heap[D]? = some (.deferred (some [])) ∧ (∀ x ∈ ds, x < D) ∧ Marks lo w ds
theorem Marks.lt {lo : Nat} {w : World} : ∀ {ds : List Nat}, Marks lo w ds → ∀ D ∈ ds, lo ≤ D ∧ D < w.heap.size ∧ w.heap[D]? = some (.deferred (some []))
 | [], _, _, h => by cases h
 | D :: ds, h, x, hx => by
  rcases List.mem_cons.1 hx with rfl | hx
  · exact ⟨h.1, (Array.getElem?_eq_some_iff.1 h.2.1).1, h.2.1⟩
  · exact Marks.lt h.2.2.2 x hx
theorem Marks.kept {lo : Nat} {w w' : World} : ∀ {ds : List Nat}, Marks lo w ds → (∀ D ∈ ds, w'.heap[D]? = w.heap[D]?) → Marks lo w' ds
 | [], _, _ => trivial
 | D :: _, h, hk => ⟨h.1, (hk D (List.mem_cons_self ..)).trans h.2.1, h.2.2.1, Marks.kept h.2.2.2 fun x hx => hk x (List.mem_cons_of_mem _ hx)⟩
theorem Marks.below {lo : Nat} {w w' : World} {ds : List Nat} (h : Marks lo w ds) (hb : Below w.heap.size w w') : Marks lo w' ds := h.kept fun D hD => hb.block D (h.lt D hD).2.1
theorem Marks.push {lo : Nat} {w : World} {ds : List Nat} {D : Nat} (h : Marks lo w ds) (hD : w.heap[D]? = some (.deferred (some []))) (hlo : lo ≤ D) (hlt : ∀ x ∈ ds, x < D) : Marks lo w (D :: ds) := ⟨hlo, hD, hlt, h⟩
theorem leaves_marks {F : Fence} {n : Nat} {P : Program} {fn : Func} {tmps : Array Value} {R : Ending → World → Prop} {lo : Nat} : ∀ (ds : List Nat) (w : World), Marks lo w ds →
  (∀ w', (∀ I : Unit → World → Prop, OwnFrom lo I → I () w → I () w') → ∃ v, (results fn tmps).run P w' = .ok v w' ∧ R (.returned v) w') → LeavesInM F n P fn tmps R (ds.map mark_) .returning w
 | [], w, _, h => h w fun _ _ hi => hi
 | D :: ds, w, hm, h => by
  refine ⟨by simp, .inl ⟨D, _, rfl, run_takeDeferred hm.2.1, leaves_marks ds _ (hm.2.2.2.kept fun x hx => World.putObj_heap_other (by have := hm.2.2.1 x hx; omega)) fun w' hw' => h w' fun I hI hi => hw' I hI (OwnFrom.putObj hI _ hi hm.1 hm.2.1 rfl)⟩⟩
end Go.Proofs.YtnbeembnnjdmdaaGreatDoor
/- What a call that writes two maps keeps. -/
namespace Go.Proofs.YtnbeembnnjdmdaaGreatDoor
open Go.RowKit

structure Mv (m m' : Nat) (W W' : World) : Prop where
 os : W'.os = W.os
 tape : W'.tape = W.tape
 output : W'.output = W.output
 size : W.heap.size ≤ W'.heap.size
 block : ∀ k, k < W.heap.size → k ≠ m → k ≠ m' → W'.heap[k]? = W.heap[k]?
def IsMap' (W : World) (b : Nat) : Prop := ∃ es clock, W.heap[b]? = some (.map es clock)
section
variable {m m' : Nat} {W W' W'' : World}
theorem Mv.refl (m m' : Nat) (W : World) : Mv m m' W W := ⟨rfl, rfl, rfl, Nat.le_refl _, fun _ _ _ _ => rfl⟩
theorem Mv.trans (h : Mv m m' W W') (k : Mv m m' W' W'') : Mv m m' W W'' :=
 ⟨k.os.trans h.os, k.tape.trans h.tape, k.output.trans h.output, Nat.le_trans h.size k.size, fun i hi h1 h2 => (k.block i (Nat.lt_of_lt_of_le hi h.size) h1 h2).trans (h.block i hi h1 h2)⟩
theorem Mv.of_below (h : Below W.heap.size W W') : Mv m m' W W' := ⟨h.os, h.tape, h.output, h.size, fun k hk _ _ => h.block k hk⟩
theorem Mv.grown1 (h : W.grownBy W' (some m)) : Mv m m' W W' := ⟨h.os, h.tape, h.output, h.size, fun k hk h1 _ => h.block k hk (by simpa using h1)⟩
theorem Mv.grown2 (h : W.grownBy W' (some m')) : Mv m m' W W' := ⟨h.os, h.tape, h.output, h.size, fun k hk _ h1 => h.block k hk (by simpa using h1)⟩
theorem Mv.drew (h : Mv m m' W W') : Mv m m' W W'.drew := ⟨h.os, h.tape, h.output, h.size, h.block⟩
theorem Mv.drewN (h : Mv m m' W W') (n : Nat) : Mv m m' W (W'.drewN n) := ⟨h.os, h.tape, h.output, h.size, h.block⟩
theorem Mv.alloc (h : Mv m m' W W') (o : Obj) : Mv m m' W (W'.alloc o) := h.trans (Mv.of_below (belowAlloc W' o))
theorem Mv.below (h : Mv m m' W W') {B : Nat} (h1 : B ≤ m) (h2 : B ≤ m') (h3 : B ≤ W.heap.size) : Below B W W' := ⟨h.os, h.tape, h.output, h.size, fun k hk => h.block k (by omega) (by omega) (by omega)⟩
theorem Mv.keeps (h : Mv m m' W W') {B : Nat} (h1 : m < B) (h2 : m' < B) : KeepsFrom B W W' := ⟨h.size, fun k o hB hk _ => (h.block k (Array.getElem?_eq_some_iff.1 hk).1 (by omega) (by omega)).trans hk⟩
theorem IsMap'.ne {b t : Nat} {cs : Array Value} (h : IsMap' W m) (hb : Blk W b t cs) : b ≠ m := fun e => by
 subst e
 obtain ⟨es, cl, h⟩ := h
 have := (show W.heap[b]? = _ from hb).symm.trans h
 cases this
theorem Blk.mv {b t : Nat} {cs : Array Value} (hb : Blk W b t cs) (h : Mv m m' W W') (h1 : IsMap' W m) (h2 : IsMap' W m') : Blk W' b t cs := (h.block b hb.lt (h1.ne hb) (h2.ne hb)).trans hb
theorem Own.blk {base t n c g : Nat} {k : Nat} {F : Nat → Nat → Value} (h : Own W base t k (.slice (some ⟨g, 0, none⟩) n c) n F) : ∃ cs, Blk W g t cs := by
 obtain ⟨_, ⟨h0, _⟩ | ⟨_, _, cur, h1, _, h2, _⟩⟩ := h
 · cases h0
 · cases h1; exact ⟨_, h2⟩
theorem Own.mv {base t k n : Nat} {v : Value} {F : Nat → Nat → Value} (ho : Own W base t k v n F) (h : Mv m m' W W') (h1 : IsMap' W m) (h2 : IsMap' W m') : Own W' base t k v n F := by
 obtain ⟨hl, ⟨h0, h0'⟩ | ⟨g, c, cur, e1, e2, e3, e4⟩⟩ := ho
 · exact ⟨hl, .inl ⟨h0, h0'⟩⟩
 · exact ⟨hl, .inr ⟨g, c, cur, e1, e2, Blk.mv (t := t) e3 h h1 h2, e4⟩⟩
theorem cell_mv {a : Addr} {v : Value} (hc : W.cell? a = some v) (h : Mv m m' W W') (h1 : IsMap' W m) (h2 : IsMap' W m') : W'.cell? a = some v := by
 obtain ⟨o, ho, hcc⟩ := cells_of_cell hc
 have hlt := (Array.getElem?_eq_some_iff.1 ho).1
 have hne : ∀ b, IsMap' W b → a.block ≠ b := fun b hb e => by
  obtain ⟨es, cl, hb⟩ := hb
  rw [← e, ho] at hb
  cases hb; cases hcc
 exact (World.cell?_of_block (h.block _ hlt (hne m h1) (hne m' h2))).trans hc
theorem Rd1.mv {B n : Nat} {A : Option Addr} {f : Nat → Int} (hr : Rd1 W B A n f) (h : Mv m m' W W') (h1 : IsMap' W m) (h2 : IsMap' W m') : Rd1 W' B A n f := by
 rcases hr with hr | ⟨b, off, e, hb, hc⟩
 · exact .inl hr
 · exact .inr ⟨b, off, e, hb, fun i hi => cell_mv (hc i hi) h h1 h2⟩
end
end Go.Proofs.YtnbeembnnjdmdaaGreatDoor
