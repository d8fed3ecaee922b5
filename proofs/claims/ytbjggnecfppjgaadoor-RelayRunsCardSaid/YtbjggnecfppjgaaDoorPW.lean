/- Words and radios, opened. -/
import Derived.Test.YtbjggnecfppjgaaDoorP0
import Derived.Test.YtbjggnecfppjgaaDoorStr
import Derived.ChangeArms
namespace Go.Proofs.YtbjggnecfppjgaaDoor
open Go.ChangeShapes Go.WideShapes Go.ChangeAt Go.RowKit Go.Deep Go.Joins

def strOfCell : Option Value → ByteArray
  | some (.string s) => s
  | _ => ⟨#[]⟩
section
variable {H : Type} {enc : TypeId × Value → H} {w : World} {base : Nat} {spare : Nat → Bool} {held : Bool}
theorem cells_str : Tryd.prog.cellsOf 9 = 1 := by kernel_rfl
/-- a slice of strings -/
theorem rdS_of_trod {fuel : Nat} {cs : List Value} {x : DataW H × List MemPlace} (h : DataW.trod enc Tryd.prog w base spare held fuel 22 cs = some x) :
    ∃ A n c f, cs = [.slice A n c] ∧ n ≤ maxLen ∧ n ≤ c ∧ c ≤ maxLen ∧ RdS w w.heap.size A n f := by
  rcases open_slice Tryd.underlying22 h with ⟨rfl, _⟩ | ⟨a, len, cap, k, n, D, Pl, rfl, _, hl, hmx, hk, _, hi⟩
  · exact ⟨none, 0, 0, fun _ => ⟨#[]⟩, rfl, by unfold maxLen; omega, Nat.le_refl _, by unfold maxLen; omega, .inl rfl⟩
  · have hlk : len ≤ k := by rw [hk]; split <;> omega
    rw [cells_str] at hi
    have hcell : ∀ i, i < len → ∃ v, w.cell? (a.add (i * 1)) = some (.string v) := by
      intro i hil
      obtain ⟨cs', hc, ht'⟩ := hi i (by omega)
      obtain ⟨_, _, hat⟩ := World.cells?_some hc
      obtain ⟨v, hv, _⟩ := DataW.trod_string Tryd.underlying9 ht'
      subst hv
      have h0 := hat 0 (by omega)
      have ha : (a.add (i * 1)).add 0 = a.add (i * 1) := by simp [Addr.add]
      rw [ha] at h0
      exact ⟨v, h0⟩
    rcases Nat.eq_zero_or_pos len with rfl | hpos
    · exact ⟨_, 0, cap, fun _ => ⟨#[]⟩, rfl, by omega, by omega, hmx, .inl rfl⟩
    · obtain ⟨b, off, spot⟩ := a
      obtain rfl : spot = none := by
        obtain ⟨v, hv⟩ := hcell 0 hpos
        have h0 := cell_spot hv
        unfold Addr.add at h0
        split at h0 <;> simp_all
      have hcell' : ∀ i, i < len → ∃ v, w.cell? ⟨b, off + i, none⟩ = some (.string v) := fun i hil => by
        obtain ⟨v, hv⟩ := hcell i hil
        rw [addr_add, Nat.mul_one] at hv
        exact ⟨v, hv⟩
      refine ⟨some ⟨b, off, none⟩, len, cap, fun i => strOfCell (w.cell? ⟨b, off + i, none⟩), rfl, by omega, hl, hmx, .inr ⟨b, off, rfl, ?_, fun i hil => ?_⟩⟩
      · obtain ⟨v, hv⟩ := hcell' 0 hpos
        exact World.block_lt_of_cell? w _ hv
      · obtain ⟨v, hv⟩ := hcell' i hil
        rw [hv]; simp [strOfCell, hv]
end
set_option maxRecDepth 100000 in
/-- words -/
theorem open_words {H : Type} {enc : TypeId × Value → H} {w : World} {r : Reach} {b0 base : Nat} {spare : Nat → Bool} {held : Bool} {v : Value} {d : DataW H} {p : List MemPlace} (hv : Value.okWide Tryd.prog w r b0 22 v) (h : DataW.Trod enc Tryd.prog w base spare held 22 v d p) :
    ∃ A n c f, v = .slice A n c ∧ n ≤ maxLen ∧ n ≤ c ∧ c ≤ maxLen ∧ RdS w w.heap.size A n f := by
  obtain ⟨a0, len, cap, rfl⟩ := okWide_slice Tryd.underlying22 hv
  obtain ⟨fuel, hf⟩ := h
  obtain ⟨A, n, c, f, e, hn, hc, hm, hf⟩ := rdS_of_trod hf
  simp [Value.cells] at e
  obtain ⟨rfl, rfl, rfl⟩ := e
  exact ⟨_, _, _, f, rfl, hn, hc, hm, hf⟩
set_option maxRecDepth 100000 in
/-- a radio by value -/
theorem open_radio {H : Type} {enc : TypeId × Value → H} {w : World} {r : Reach} {b0 base : Nat} {spare : Nat → Bool} {held : Bool} {v : Value} {d : DataW H} {p : List MemPlace} (hv : Value.okWide Tryd.prog w r b0 24 v) (h : DataW.Trod enc Tryd.prog w base spare held 24 v d p) :
    ∃ gA gn gc g e, v = .agg #[.slice gA gn gc, .int .i64 e] ∧ gn ≤ maxLen ∧ RdS w w.heap.size gA gn g := by
  obtain ⟨v0, v1, y0, y1, n, rfl, _, _, h0, h1⟩ := open_agg2 Tryd.underlying24 (by kernel_rfl) (by kernel_rfl) hv h
  obtain ⟨gA, gn, gc, g, e0, hg, _, _, hG⟩ := rdS_of_trod h0
  obtain ⟨e, e1, _⟩ := DataW.trod_int Tryd.underlying3 h1
  injection e0 with e0 _
  injection e1 with e1 _
  subst e0; subst e1
  exact ⟨gA, gn, gc, g, e, rfl, hg, hG⟩
end Go.Proofs.YtbjggnecfppjgaaDoor
