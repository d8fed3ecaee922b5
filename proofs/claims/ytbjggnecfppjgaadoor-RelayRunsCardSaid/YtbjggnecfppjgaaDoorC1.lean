/- append of a whole slice to an empty one; copies of strings. -/
import Derived.Test.YtbjggnecfppjgaaDoorS6
import Derived.Deep.RegionHeld3
import Derived.Deep.AppendLies
import Derived.Deep.DrawnRows
namespace Go.Proofs.YtbjggnecfppjgaaDoor
open Go.RowKit

/-- n elements of m cells each, below block B -/
def RdV (w : World) (B : Nat) (A : Option Addr) (m n : Nat) (F : Nat → Nat → Value) : Prop :=
  n = 0 ∨ ∃ b off, A = some ⟨b, off, none⟩ ∧ b < B ∧ ∀ i j, i < n → j < m → w.cell? ⟨b, off + (i * m + j), none⟩ = some (F i j)
abbrev strs (f : Nat → ByteArray) : Nat → Nat → Value := fun i _ => .string (f i)
theorem RdS.v {w : World} {B n : Nat} {A : Option Addr} {f : Nat → ByteArray} (h : RdS w B A n f) : RdV w B A 1 n (strs f) := by
  rcases h with h | ⟨b, off, hA, hb, hc⟩
  · exact .inl h
  · exact .inr ⟨b, off, hA, hb, fun i j hi hj => by
      obtain rfl : j = 0 := by omega
      rw [Nat.mul_one, Nat.add_zero]; exact hc i hi⟩
theorem Own.rdS {w : World} {b t n c : Nat} {A : Option Addr} {f : Nat → ByteArray} (h : Own w b t 1 (.slice A n c) n (strs f)) : RdS w w.heap.size A n f ∧ n ≤ c ∧ c ≤ 9223372036854775807 := by
  rcases h.2 with ⟨e, h0⟩ | ⟨g', cap, cur, e, _, _, h1, h2, _⟩
  · injection e with e1 e2 e3
    exact ⟨.inl h0, by omega, by omega⟩
  · injection e with e1 e2 e3
    subst e1; subst e3
    refine ⟨?_, h1, by unfold maxLen at h2; omega⟩
    rcases Nat.eq_zero_or_pos n with h0 | h0
    · exact .inl h0
    · exact .inr ⟨g', 0, rfl, (h.block rfl).2, fun i hi => by rw [Nat.zero_add]; exact h.cell1 hi⟩
section
variable {P : Program}
theorem run_append_none (w : World) (t ty e : TypeId) (i : TypeInfo) (ht : P.underlying t = some (.slice e)) (hi : P.info? e = some i) (g c : Nat) (A : Option Addr) :
    (Builtin.append_ #[t, t] ty #[.slice (some ⟨g, 0, none⟩) 0 0, .slice A 0 c]).run P w = .ok (.slice (some ⟨g, 0, none⟩) 0 0) w := by
  cases A <;> simp [Builtin.append_, run_underlying ht, sizeOf, typeInfo, hi, Builtin.lenOf, Builtin.firstCells, loadCells, loadCellsFrom, storeCells]

theorem own_empty {w : World} {g : Nat} {t m : Nat} (h : Blk w g t #[]) (F : Nat → Nat → Value) : Own w g t m (.slice (some ⟨g, 0, none⟩) 0 0) 0 F := by
  refine ⟨by simp [cellsOf], .inr ⟨g, 0, #[], rfl, Nat.le_refl _, h, Nat.le_refl _, by simp, by simp, by simp [cellsOf]⟩⟩

/-- append of a whole slice of structs of ints to an empty slice that has no room -/
theorem run_copy (w : World) (t ty e : TypeId) (i : TypeInfo) (z : Value) (m bytes : Nat) (ht : P.underlying t = some (.slice e)) (hi : P.info? e = some i) (hz : i.zero = some z)
    (hsize : i.size = m) (hby : i.bytes = bytes) (hzs : z.cells.size = m) (hsz : 0 < m) (hbm : bytes ≤ 4096)
    {g : Nat} (hblk : Blk w g e #[]) {A : Option Addr} {n c B : Nat} {F : Nat → Nat → Value} (hF : ∀ i j, (F i j).oneCell' = true) (hR : RdV w B A m n F) (hn : n ≤ 1048576) :
    ∃ v' w', (Builtin.append_ #[t, t] ty #[.slice (some ⟨g, 0, none⟩) 0 0, .slice A n c]).run P w = .ok v' w' ∧ Own w' g e m v' n (F) ∧ Below w.heap.size w w' := by
  have hg := hblk.lt
  have ho := own_empty (m := m) hblk (F)
  rcases Nat.eq_zero_or_pos n with rfl | hpos
  · exact ⟨_, _, run_append_none w t ty e i ht hi g c A, ho, Below.refl _ _⟩
  · rcases hR with h0 | ⟨b, off, rfl, hb, hc⟩
    · omega
    · have hl : (cellsOf n m (F)).length = n * m := length_cellsOf _ _ _
      have hnews : ∀ j u, (cellsOf n m (F))[j]? = some u → w.cell? ((⟨b, off, none⟩ : Addr).add j) = some u := by
        intro j u hj
        have hjl : j < n * m := by
          have := (List.getElem?_eq_some_iff.1 hj).1
          rwa [hl] at this
        have hd : j / m < n := Nat.div_lt_of_lt_mul (by rw [Nat.mul_comm]; exact hjl)
        have hmod := Nat.mod_lt j hsz
        have hq := hc (j / m) (j % m) hd hmod
        have hjj : j / m * m + j % m = j := by rw [Nat.mul_comm]; exact Nat.div_add_mod j m
        rw [hjj] at hq
        have hv := get_cellsOf (F := F) hd hmod
        rw [hjj, hj] at hv
        have hadd : (⟨b, off, none⟩ : Addr).add j = ⟨b, off + j, none⟩ := by unfold Addr.add; split <;> simp_all
        rw [hadd, hq, hv]
      have h1 : ∀ u ∈ cellsOf n m (F), u.oneCell' = true := by
        intro u hu
        simp [cellsOf] at hu
        obtain ⟨q, _, rfl⟩ := hu
        exact hF _ _
      have hbb : (0 + n) * bytes ≤ 1048576 * 4096 := Nat.mul_le_mul (by omega) hbm
      obtain ⟨v', w', e1, e2, e3, _, e5⟩ := run_append_own_at (P := P) w g t ty e i z m bytes ht hi hz hsize hby hzs hsz _ 0 _ ho ⟨b, off, none⟩ n c _ hl hnews h1 (by unfold maxLen; omega) (by omega) (by omega)
      have er := run_append_grow (P := P) w t ty e i z ht hi hz ⟨g, 0, none⟩ 0 0 [] (by simp) (by simp) ⟨b, off, none⟩ n c (cellsOf n m (F)) (by rw [hsize]; exact hl) hnews (by omega) (by omega) (growslice_fits (by omega) (by rw [hby]; omega))
      rw [er] at e1
      injection e1 with e1 e6
      refine ⟨v', w', by rw [er, e1, e6], ?_, ?_⟩
      · have : cellsOf 0 m (F) ++ cellsOf n m (F) = cellsOf n m (F) := by simp [cellsOf]
        rw [this, Nat.zero_add] at e2
        exact e2
      · rw [← e6]
        exact (Below.refl _ _).drew.alloc (by simp) _

theorem step_copy {w : World} {ops : Array Oper} {o : Oper} {a : Act} {K : Act → World → Prop} {Q : Exit → Act → World → Prop} {E : Prop} (hgd : o.guard = none) (s x : Operand) (t : TypeId)
    (ho : o.op = .call { callee := .builtin .append, args := #[s, x], argTypes := #[t, t] })
    (e : TypeId) (i : TypeInfo) (z : Value) (m bytes : Nat) (ht : P.underlying t = some (.slice e)) (hi : P.info? e = some i) (hz : i.zero = some z)
    (hsize : i.size = m) (hby : i.bytes = bytes) (hzs : z.cells.size = m) (hsz : 0 < m) (hbm : bytes ≤ 4096)
    {g : Nat} (hs : a.eval s = .slice (some ⟨g, 0, none⟩) 0 0) (hblk : Blk w g e #[]) {A : Option Addr} {n c B : Nat} {F : Nat → Nat → Value} (hF : ∀ i j, (F i j).oneCell' = true) (hx : a.eval x = .slice A n c) (hR : RdV w B A m n F) (hn : n ≤ 1048576)
    (h : ∀ A' c' w', Own w' g e m (.slice A' n c') n (F) → Below w.heap.size w w' → K (a.put o.dst (.slice A' n c')) w') :
    if Region.wanted o (yielded ops a.tmps) = true then Oper.wp P o a w K Q else E := by
  have hw : Region.wanted o (yielded ops a.tmps) = true := by simp [Region.wanted, hgd]
  rw [if_pos hw]
  obtain ⟨v', w', hr, h2, h3⟩ := run_copy (P := P) w t o.type e i z m bytes ht hi hz hsize hby hzs hsz hbm hblk (c := c) hF hR hn
  unfold Oper.wp execOp
  simp only [ho, resolve, invoke, builtin, Sem.run_bind, Sem.run_pure, Result.andThen_ok, List.map_toArray, List.map_cons, List.map_nil, hs, hx, hr]
  obtain ⟨A', c', rfl⟩ := h2.form
  exact h A' c' w' h2 h3
end


theorem str_info : (Tryd.prog.info? 9).map (fun i => (i.zero, i.size, i.bytes)) = some (some (.string ⟨#[]⟩), 1, 16) := by kernel_rfl
end Go.Proofs.YtbjggnecfppjgaaDoor
