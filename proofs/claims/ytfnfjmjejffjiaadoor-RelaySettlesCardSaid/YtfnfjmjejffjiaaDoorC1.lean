/- append of a whole slice to an empty one; copies of strings. -/
import Derived.Test.YtfnfjmjejffjiaaDoorS6
import Derived.Deep.RegionHeld3
import Derived.Deep.AppendLies
import Derived.Deep.DrawnRows
namespace Go.Proofs.YtfnfjmjejffjiaaDoor
open Go.RowKit

/-- n elements of m cells each, below block B -/
def RdV (w : World) (B : Nat) (A : Option Addr) (m n : Nat) (F : Nat → Nat → Value) : Prop :=
  n = 0 ∨ ∃ b off, A = some ⟨b, off, none⟩ ∧ b < B ∧ ∀ i j, i < n → j < m → w.cell? ⟨b, off + (i * m + j), none⟩ = some (F i j)
abbrev strs (f : Nat → ByteArray) : Nat → Nat → Value := fun i _ => .string (f i)
theorem RdS.v {w : World} {B n : Nat} {A : Option Addr} {f : Nat → ByteArray} (h : RdS w B A n f) : RdV w B A 1 n (strs f) := by
  rcases h with h | ⟨b, off, hA, hb, hc⟩
  · exact .inl h
  · exact .inr ⟨b, off, hA, hb, fun i j hi hj => by
      obtain rfl : j = 0 := by omega
      rw [Nat.mul_one, Nat.add_zero]; exact hc i hi⟩
theorem Own.rdS {w : World} {b t n c : Nat} {A : Option Addr} {f : Nat → ByteArray} (h : Own w b t 1 (.slice A n c) n (strs f)) : RdS w w.heap.size A n f ∧ n ≤ c ∧ c ≤ 9223372036854775807 := by
  rcases h.2 with ⟨e, h0⟩ | ⟨g', cap, cur, e, _, _, h1, h2, _⟩
  · injection e with e1 e2 e3
    exact ⟨.inl h0, by omega, by omega⟩
  · injection e with e1 e2 e3
    subst e1; subst e3
    refine ⟨?_, h1, by unfold maxLen at h2; omega⟩
    rcases Nat.eq_zero_or_pos n with h0 | h0
    · exact .inl h0
    · exact .inr ⟨g', 0, rfl, (h.block rfl).2, fun i hi => by rw [Nat.zero_add]; exact h.cell1 hi⟩
section
variable {P : Program}
theorem run_append_none (w : World) (t ty e : TypeId) (i : TypeInfo) (ht : P.underlying t = some (.slice e)) (hi : P.info? e = some i) (g c : Nat) (A : Option Addr) :
    (Builtin.append_ #[t, t] ty #[.slice (some ⟨g, 0, none⟩) 0 0, .slice A 0 c]).run P w = .ok (.slice (some ⟨g, 0, none⟩) 0 0) w := by
  cases A <;> simp [Builtin.append_, run_underlying ht, sizeOf, typeInfo, hi, Builtin.lenOf, Builtin.firstCells, loadCells, loadCellsFrom, storeCells]

theorem own_empty {w : World} {g : Nat} {t m : Nat} (h : Blk w g t #[]) (F : Nat → Nat → Value) : Own w g t m (.slice (some ⟨g, 0, none⟩) 0 0) 0 F := by
  refine ⟨by simp [cellsOf], .inr ⟨g, 0, #[], rfl, Nat.le_refl _, h, Nat.le_refl _, by simp, by simp, by simp [cellsOf]⟩⟩

/-- append of a whole slice of structs of ints to an empty slice that has no room -/
theorem run_copy (w : World) (t ty e : TypeId) (i : TypeInfo) (z : Value) (m bytes : Nat) (ht : P.underlying t = some (.slice e)) (hi : P.info? e = some i) (hz : i.zero = some z)
    (hsize : i.size = m) (hby : i.bytes = bytes) (hzs : z.cells.size = m) (hsz : 0 < m) (hbm : bytes ≤ 4096)
    {g : Nat} (hblk : Blk w g e #[]) {A : Option Addr} {n c B : Nat} {F : Nat → Nat → Value} (hF : ∀ i j, (F i j).oneCell' = true) (hR : RdV w B A m n F) (hn : n ≤ 1048576) :
    ∃ v' w', (Builtin.append_ #[t, t] ty #[.slice (some ⟨g, 0, none⟩) 0 0, .slice A n c]).run P w = .ok v' w' ∧ Own w' g e m v' n (F) ∧ Below w.heap.size w w' := by
  have hg := hblk.lt
  have ho := own_empty (m := m) hblk (F)
  rcases Nat.eq_zero_or_pos n with rfl | hpos
  · exact ⟨_, _, run_append_none w t ty e i ht hi g c A, ho, Below.refl _ _⟩
  · rcases hR with h0 | ⟨b, off, rfl, hb, hc⟩
    · omega
    · have hl : (cellsOf n m (F)).length = n * m := length_cellsOf _ _ _
      have hnews : ∀ j u, (cellsOf n m (F))[j]? = some u → w.cell? ((⟨b, off, none⟩ : Addr).add j) = some u := by
        intro j u hj
        have hjl : j < n * m := by
          have := (List.getElem?_eq_some_iff.1 hj).1
          rwa [hl] at this
        have hd : j / m < n := Nat.div_lt_of_lt_mul (by rw [Nat.mul_comm]; exact hjl)
        have hmod := Nat.mod_lt j hsz
        have hq := hc (j / m) (j % m) hd hmod
        have hjj : j / m * m + j % m = j := by rw [Nat.mul_comm]; exact Nat.div_add_mod j m
        rw [hjj] at hq
        have hv := get_cellsOf (F := F) hd hmod
        rw [hjj, hj] at hv
        have hadd : (⟨b, off, none⟩ : Addr).add j = ⟨b, off + j, none⟩ := by unfold Addr.add; split <;> simp_all
        rw [hadd, hq, hv]
      have h1 : ∀ u ∈ cellsOf n m (F), u.oneCell' = true := by
        intro u hu
        simp [cellsOf] at hu
        obtain ⟨q, _, rfl⟩ := hu
        exact hF _ _
      have hbb : (0 + n) * bytes ≤ 1048576 * 4096 := Nat.mul_le_mul (by omega) hbm
      obtain ⟨v', w', e1, e2, e3, _, e5⟩ := run_append_own_at (P := P) w g t ty e i z m bytes ht hi hz hsize hby hzs hsz _ 0 _ ho ⟨b, off, none⟩ n c _ hl hnews h1 (by unfold maxLen; omega) (by omega) (by omega)
      have er := run_append_grow (P := P) w t ty e i z ht hi hz ⟨g, 0, none⟩ 0 0 [] (by simp) (by simp) ⟨b, off, none⟩ n c (cellsOf n m (F)) (by rw [hsize]; exact hl) hnews (by omega) (by omega) (growslice_fits (by omega) (by rw [hby]; omega))
      rw [er] at e1
      injection e1 with e1 e6
      refine ⟨v', w', by rw [er, e1, e6], ?_, ?_⟩
      · have : cellsOf 0 m (F) ++ cellsOf n m (F) = cellsOf n m (F) := by simp [cellsOf]
        rw [this, Nat.zero_add] at e2
        exact e2
      · rw [← e6]
        exact (Below.refl _ _).drew.alloc (by simp) _

theorem step_copy {w : World} {ops : Array Oper} {o : Oper} {a : Act} {K : Act → World → Prop} {Q : Exit → Act → World → Prop} {E : Prop} (hgd : o.guard = none) (s x : Operand) (t : TypeId)
    (ho : o.op = .call { callee := .builtin .append, args := #[s, x], argTypes := #[t, t] })
    (e : TypeId) (i : TypeInfo) (z : Value) (m bytes : Nat) (ht : P.underlying t = some (.slice e)) (hi : P.info? e = some i) (hz : i.zero = some z)
    (hsize : i.size = m) (hby : i.bytes = bytes) (hzs : z.cells.size = m) (hsz : 0 < m) (hbm : bytes ≤ 4096)
    {g : Nat} (hs : a.eval s = .slice (some ⟨g, 0, none⟩) 0 0) (hblk : Blk w g e #[]) {A : Option Addr} {n c B : Nat} {F : Nat → Nat → Value} (hF : ∀ i j, (F i j).oneCell' = true) (hx : a.eval x = .slice A n c) (hR : RdV w B A m n F) (hn : n ≤ 1048576)
    (h : ∀ A' c' w', Own w' g e m (.slice A' n c') n (F) → Below w.heap.size w w' → K (a.put o.dst (.slice A' n c')) w') :
    if Region.wanted o (yielded ops a.tmps) = true then Oper.wp P o a w K Q else E := by
  have hw : Region.wanted o (yielded ops a.tmps) = true := by simp [Region.wanted, hgd]
  rw [if_pos hw]
  obtain ⟨v', w', hr, h2, h3⟩ := run_copy (P := P) w t o.type e i z m bytes ht hi hz hsize hby hzs hsz hbm hblk (c := c) hF hR hn
  unfold Oper.wp execOp
  simp only [ho, resolve, invoke, builtin, Sem.run_bind, Sem.run_pure, Result.andThen_ok, List.map_toArray, List.map_cons, List.map_nil, hs, hx, hr]
  obtain ⟨A', c', rfl⟩ := h2.form
  exact h A' c' w' h2 h3
end


theorem str_info : (Tryd.prog.info? 9).map (fun i => (i.zero, i.size, i.bytes)) = some (some (.string ⟨#[]⟩), 1, 16) := by kernel_rfl
end Go.Proofs.YtfnfjmjejffjiaaDoor
/- append of a whole slice to one of the call's own. -/
namespace Go.Proofs.YtfnfjmjejffjiaaDoor
open Go.RowKit

def catF (n : Nat) (F G : Nat → Nat → Value) : Nat → Nat → Value := fun i => if i < n then F i else G (i - n)
theorem cellsOf_cat (n k m : Nat) (F G : Nat → Nat → Value) : cellsOf n m F ++ cellsOf k m G = cellsOf (n + k) m (catF n F G) := by
  apply List.ext_getElem?
  intro q
  have hs : (n + k) * m = n * m + k * m := Nat.add_mul _ _ _
  rcases Nat.eq_zero_or_pos m with rfl | hm
  · simp [cellsOf]
  by_cases h1 : q < n * m
  · rw [List.getElem?_append_left (by rw [length_cellsOf]; exact h1)]
    have hd : q / m < n := Nat.div_lt_of_lt_mul (by rw [Nat.mul_comm]; exact h1)
    simp [cellsOf, h1, hs, show q < n * m + k * m by omega, catF, hd]
  · rw [List.getElem?_append_right (by rw [length_cellsOf]; omega), length_cellsOf]
    have hd : ¬ q / m < n := fun h => h1 ((Nat.div_lt_iff_lt_mul hm).1 h)
    have e1 : (q - n * m) / m = q / m - n := by rw [Nat.mul_comm]; exact Nat.sub_mul_div_of_le q m n (by rw [Nat.mul_comm]; omega)
    have e2 : (q - n * m) % m = q % m := by
      have h3 := Nat.mod_add_div q m
      have h4 := Nat.mod_add_div (q - n * m) m
      rw [e1, Nat.mul_sub, Nat.mul_comm m n] at h4
      have h5 : n * m ≤ m * (q / m) := by rw [Nat.mul_comm m]; exact Nat.mul_le_mul_right m (by omega)
      omega
    by_cases h2 : q < n * m + k * m
    · simp [cellsOf, hs, h2, catF, hd, e1, e2, show q - n * m < k * m by omega]
    · simp [cellsOf, hs, h2, show ¬ q - n * m < k * m by omega]

section
variable {P : Program}
theorem run_append_zero (w : World) (t ty e : TypeId) (i : TypeInfo) (ht : P.underlying t = some (.slice e)) (hi : P.info? e = some i) (A' A : Option Addr) (n c' c : Nat) (hn : n ≤ c') :
    (Builtin.append_ #[t, t] ty #[.slice A' n c', .slice A 0 c]).run P w = .ok (.slice A' n c') w := by
  cases A' <;> cases A <;> simp [Builtin.append_, run_underlying ht, sizeOf, typeInfo, hi, Builtin.lenOf, Builtin.firstCells, loadCells, loadCellsFrom, storeCells, hn]
theorem Own.room {w : World} {base t m n c : Nat} {A : Option Addr} {F : Nat → Nat → Value} (h : Own w base t m (.slice A n c) n F) : n ≤ c := by
  rcases h.2 with ⟨h1, h2⟩ | ⟨g, cap, cur, h1, _, _, h4, _⟩
  · injection h1 with _ _ h3
    omega
  · injection h1 with _ _ h3
    omega
theorem news_of_rd {w : World} {B m n : Nat} {A : Option Addr} {F : Nat → Nat → Value} (hF : ∀ i j, (F i j).oneCell' = true) (hR : RdV w B A m n F) (hn : 0 < n) (hm : 0 < m) :
    ∃ ad, A = some ad ∧ (∀ j u, (cellsOf n m F)[j]? = some u → w.cell? (ad.add j) = some u) ∧ ∀ u ∈ cellsOf n m F, u.oneCell' = true := by
  rcases hR with h0 | ⟨b, off, rfl, hb, hc⟩
  · omega
  · refine ⟨_, rfl, ?_, ?_⟩
    · intro j u hj
      have hl : (cellsOf n m F).length = n * m := length_cellsOf _ _ _
      have hjl : j < n * m := by
        have := (List.getElem?_eq_some_iff.1 hj).1
        rwa [hl] at this
      have hd : j / m < n := Nat.div_lt_of_lt_mul (by rw [Nat.mul_comm]; exact hjl)
      have hmod := Nat.mod_lt j hm
      have hq := hc (j / m) (j % m) hd hmod
      have hjj : j / m * m + j % m = j := by rw [Nat.mul_comm]; exact Nat.div_add_mod j m
      rw [hjj] at hq
      have hv := get_cellsOf (F := F) hd hmod
      rw [hjj, hj] at hv
      have hadd : (⟨b, off, none⟩ : Addr).add j = ⟨b, off + j, none⟩ := by unfold Addr.add; split <;> simp_all
      rw [hadd, hq, hv]
    · intro u hu
      simp [cellsOf] at hu
      obtain ⟨q, _, rfl⟩ := hu
      exact hF _ _
/-- append of a whole slice of structs of ints to one of the call's own -/
theorem run_cat (w : World) (t ty e : TypeId) (i : TypeInfo) (z : Value) (m bytes : Nat) (ht : P.underlying t = some (.slice e)) (hi : P.info? e = some i) (hz : i.zero = some z)
    (hsize : i.size = m) (hby : i.bytes = bytes) (hzs : z.cells.size = m) (hsz : 0 < m) (hbm : bytes ≤ 4096)
    {base : Nat} {v : Value} {n : Nat} {F : Nat → Nat → Value} (hown : Own w base e m v n F) (hn : n ≤ 1048576) (hbase : base ≤ w.heap.size) {A : Option Addr} {k c B : Nat} {G : Nat → Nat → Value} (hG : ∀ i j, (G i j).oneCell' = true) (hR : RdV w B A m k G) (hk : k ≤ 1048576) :
    ∃ v' w', (Builtin.append_ #[t, t] ty #[v, .slice A k c]).run P w = .ok v' w' ∧ Own w' base e m v' (n + k) (catF n F G) ∧ w.grownBy w' v.ownBlock ∧ (v'.ownBlock = v.ownBlock ∨ v'.ownBlock = some w.heap.size) := by
  rcases Nat.eq_zero_or_pos k with rfl | hpos
  · obtain ⟨A', c', rfl⟩ := hown.form
    refine ⟨_, w, run_append_zero w t ty e i ht hi A' A n c' c hown.room, hown.congr fun i j hi _ => by unfold catF; rw [if_pos hi], ⟨rfl, rfl, rfl, Nat.le_refl _, fun _ _ _ => rfl⟩, .inl rfl⟩
  · obtain ⟨ad, rfl, hnews, h1⟩ := news_of_rd hG hR hpos hsz
    have hbb : (n + k) * bytes ≤ 2097152 * 4096 := Nat.mul_le_mul (by omega) hbm
    obtain ⟨v', w', e1, e2, e3, _, e5⟩ := run_append_own_at (P := P) w base t ty e i z m bytes ht hi hz hsize hby hzs hsz v n _ hown ad k c _ (length_cellsOf _ _ _) hnews h1 (by unfold maxLen; omega) (by omega) hbase
    rw [cellsOf_cat] at e2
    exact ⟨v', w', e1, e2, e3, e5⟩
theorem step_cat {w : World} {ops : Array Oper} {o : Oper} {a : Act} {K : Act → World → Prop} {Q : Exit → Act → World → Prop} {E : Prop} (hgd : o.guard = none) (s x : Operand) (t : TypeId)
    (ho : o.op = .call { callee := .builtin .append, args := #[s, x], argTypes := #[t, t] })
    (e : TypeId) (i : TypeInfo) (z : Value) (m bytes : Nat) (ht : P.underlying t = some (.slice e)) (hi : P.info? e = some i) (hz : i.zero = some z)
    (hsize : i.size = m) (hby : i.bytes = bytes) (hzs : z.cells.size = m) (hsz : 0 < m) (hbm : bytes ≤ 4096)
    {base : Nat} {v : Value} {n : Nat} {F : Nat → Nat → Value} (hs : a.eval s = v) (hown : Own w base e m v n F) (hn : n ≤ 1048576) (hbase : base ≤ w.heap.size) {A : Option Addr} {k c B : Nat} {G : Nat → Nat → Value} (hG : ∀ i j, (G i j).oneCell' = true) (hx : a.eval x = .slice A k c) (hR : RdV w B A m k G) (hk : k ≤ 1048576)
    (h : ∀ v' w', Own w' base e m v' (n + k) (catF n F G) → w.grownBy w' v.ownBlock → (v'.ownBlock = v.ownBlock ∨ v'.ownBlock = some w.heap.size) → K (a.put o.dst v') w') :
    if Region.wanted o (yielded ops a.tmps) = true then Oper.wp P o a w K Q else E := by
  have hw : Region.wanted o (yielded ops a.tmps) = true := by simp [Region.wanted, hgd]
  rw [if_pos hw]
  obtain ⟨v', w', hr, h2, h3, h4⟩ := run_cat (P := P) w t o.type e i z m bytes ht hi hz hsize hby hzs hsz hbm hown hn hbase (c := c) hG hR hk
  unfold Oper.wp execOp
  simp only [ho, resolve, invoke, builtin, Sem.run_bind, Sem.run_pure, Result.andThen_ok, List.map_toArray, List.map_cons, List.map_nil, hs, hx, hr]
  exact h v' w' h2 h3 h4
theorem wpList_cat {ops : Array Oper} {rest : List Oper} {o : Oper} {a : Act} {Q : Exit → Act → World → Prop} {w : World} (hgd : o.guard = none) (s x : Operand) (t : TypeId)
    (ho : o.op = .call { callee := .builtin .append, args := #[s, x], argTypes := #[t, t] })
    (e : TypeId) (i : TypeInfo) (z : Value) (m bytes : Nat) (ht : P.underlying t = some (.slice e)) (hi : P.info? e = some i) (hz : i.zero = some z)
    (hsize : i.size = m) (hby : i.bytes = bytes) (hzs : z.cells.size = m) (hsz : 0 < m) (hbm : bytes ≤ 4096)
    {base : Nat} {v : Value} {n : Nat} {F : Nat → Nat → Value} (hs : a.eval s = v) (hown : Own w base e m v n F) (hn : n ≤ 1048576) (hbase : base ≤ w.heap.size) {A : Option Addr} {k c B : Nat} {G : Nat → Nat → Value} (hG : ∀ i j, (G i j).oneCell' = true) (hx : a.eval x = .slice A k c) (hR : RdV w B A m k G) (hk : k ≤ 1048576)
    (h : ∀ v' w', Own w' base e m v' (n + k) (catF n F G) → w.grownBy w' v.ownBlock → (v'.ownBlock = v.ownBlock ∨ v'.ownBlock = some w.heap.size) → wpList P ops Q rest (a.put o.dst v') w') :
    wpList P ops Q (o :: rest) a w := by
  refine wpList_plain hgd fun K hK => ?_
  obtain ⟨v', w', hr, h2, h3, h4⟩ := run_cat (P := P) w t o.type e i z m bytes ht hi hz hsize hby hzs hsz hbm hown hn hbase (c := c) hG hR hk
  unfold Oper.wp execOp
  simp only [ho, resolve, invoke, builtin, Sem.run_bind, Sem.run_pure, Result.andThen_ok, List.map_toArray, List.map_cons, List.map_nil, hs, hx, hr]
  exact hK _ _ (h v' w' h2 h3 h4)
end
abbrev ints2 (F : Nat → Nat → Int) : Nat → Nat → Value := fun i j => .int .i64 (F i j)
theorem Rd.v {w : World} {B m n : Nat} {A : Option Addr} {f : Nat → Nat → Int} (h : Rd w B A m n f) : RdV w B A m n (ints2 f) := h
theorem RdV.below {w w' : World} {B m n : Nat} {A : Option Addr} {f : Nat → Nat → Value} (h : RdV w B A m n f) (hb : Below B w w') : RdV w' B A m n f := by
  rcases h with h | ⟨b, off, hA, hb', hc⟩
  · exact .inl h
  · exact .inr ⟨b, off, hA, hb', fun i j hi hj => (hb.cell (p := ⟨b, off + (i * m + j), none⟩) hb').trans (hc i j hi hj)⟩
theorem RdV.more {w : World} {B B' m n : Nat} {A : Option Addr} {f : Nat → Nat → Value} (h : RdV w B A m n f) (hB : B ≤ B') : RdV w B' A m n f := by
  rcases h with h | ⟨b, off, hA, hb, hc⟩
  · exact .inl h
  · exact .inr ⟨b, off, hA, by omega, hc⟩
theorem RdV.congr {w : World} {B m n : Nat} {A : Option Addr} {f f' : Nat → Nat → Value} (h : RdV w B A m n f) (hf : ∀ i j, i < n → j < m → f i j = f' i j) : RdV w B A m n f' := by
  rcases h with h | ⟨b, off, hA, hb, hc⟩
  · exact .inl h
  · exact .inr ⟨b, off, hA, hb, fun i j hi hj => by rw [← hf i j hi hj]; exact hc i j hi hj⟩
theorem Own.rdV {w : World} {b t m n c : Nat} {A : Option Addr} {F : Nat → Nat → Value} (h : Own w b t m (.slice A n c) n F) : RdV w w.heap.size A m n F := by
  rcases Nat.eq_zero_or_pos n with h0 | h0
  · exact .inl h0
  · obtain ⟨g, c', he⟩ := h.nz h0
    injection he with e1 _ e3
    subst e1; subst e3
    exact .inr ⟨g, 0, rfl, (h.block rfl).2, fun i j hi hj => by rw [Nat.zero_add]; exact h.cell hi hj⟩
/-- elements in a block that was just made -/
theorem rdV_blk {w : World} {g t m n : Nat} {cs : Array Value} {F : Nat → Nat → Value} (h : Blk w g t cs) (hc : ∀ i j, i < n → j < m → cs[i * m + j]? = some (F i j)) : RdV w w.heap.size (some ⟨g, 0, none⟩) m n F :=
  .inr ⟨g, 0, rfl, h.lt, fun i j hi hj => by rw [Nat.zero_add]; exact (h.cell _).trans (hc i j hi hj)⟩
theorem wpList_copy {P : Program} {ops : Array Oper} {rest : List Oper} {o : Oper} {a : Act} {Q : Exit → Act → World → Prop} {W : World} (hgd : o.guard = none) (s x : Operand) (t : TypeId) (ho : o.op = .call { callee := .builtin .append, args := #[s, x], argTypes := #[t, t] })
    (e : TypeId) (i : TypeInfo) (z : Value) (m bytes : Nat) (ht : P.underlying t = some (.slice e)) (hi : P.info? e = some i) (hz : i.zero = some z)
    (hsize : i.size = m) (hby : i.bytes = bytes) (hzs : z.cells.size = m) (hsz : 0 < m) (hbm : bytes ≤ 4096)
    {g : Nat} (hs : a.eval s = .slice (some ⟨g, 0, none⟩) 0 0) (hblk : Blk W g e #[]) {A : Option Addr} {n c B : Nat} {F : Nat → Nat → Value} (hF : ∀ i j, (F i j).oneCell' = true) (hx : a.eval x = .slice A n c) (hR : RdV W B A m n F) (hn : n ≤ 1048576)
    (h : ∀ A' c' w', Own w' g e m (.slice A' n c') n F → Below W.heap.size W w' → wpList P ops Q rest (a.put o.dst (.slice A' n c')) w') : wpList P ops Q (o :: rest) a W := by
  refine wpList_plain hgd fun K hK => ?_
  obtain ⟨v', w', hr, h2, h3⟩ := run_copy (P := P) W t o.type e i z m bytes ht hi hz hsize hby hzs hsz hbm hblk (c := c) hF hR hn
  unfold Oper.wp execOp
  simp only [ho, resolve, invoke, builtin, Sem.run_bind, Sem.run_pure, Result.andThen_ok, List.map_toArray, List.map_cons, List.map_nil, hs, hx, hr]
  obtain ⟨A', c', rfl⟩ := h2.form
  exact hK _ _ (h A' c' w' h2 h3)
end Go.Proofs.YtfnfjmjejffjiaaDoor
