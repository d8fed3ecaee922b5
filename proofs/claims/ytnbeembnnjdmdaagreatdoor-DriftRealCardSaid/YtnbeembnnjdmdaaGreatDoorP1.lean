/- Sightings, drifters and what holds them, opened. -/
import Derived.Test.YtnbeembnnjdmdaaGreatDoorP0
import Derived.Test.YtnbeembnnjdmdaaGreatDoorD15
namespace Go.Proofs.YtnbeembnnjdmdaaGreatDoor
open Go.ChangeShapes Go.WideShapes Go.ChangeAt Go.RowKit Go.Deep Go.Joins

section
variable {H : Type} {enc : TypeId × Value → H} {w : World} {base : Nat} {spare : Nat → Bool} {held : Bool}
theorem cells_sg : Tryz.prog.cellsOf 68 = 3 := by kernel_rfl
theorem cells_sgs : Tryz.prog.cellsOf 45 = 1 := by kernel_rfl
/-- a list of ints that can be read, by a list -/
theorem rd1_list {A : Option Addr} {n : Nat} {f : Nat → Int} (h : Rd1 w w.heap.size A n f) : ∃ L : List Int, L.length = n ∧ Rd1 w w.heap.size A L.length (fun k => L.getD k 0) := by
  refine ⟨(List.range n).map f, by simp, ?_⟩
  rw [show ((List.range n).map f).length = n by simp]
  rcases h with h | ⟨b, off, hA, hb, hc⟩
  · exact .inl h
  · refine .inr ⟨b, off, hA, hb, fun i hi => ?_⟩
    rw [hc i hi]
    simp [List.getD_eq_getElem?_getD, List.getElem?_map, List.getElem?_range hi]
/-- one sighting, by its cells -/
def SgAt (w : World) (l : Nat → Option Value) (x : SgV) : Prop := (l 0 = some (.int .i64 x.tk) ∧ l 1 = some (.slice x.A x.L.length x.c) ∧ l 2 = some (.bool x.seen)) ∧ Rd1 w w.heap.size x.A x.L.length (fun k => x.L.getD k 0) ∧ x.L.length ≤ maxLen
theorem sg_cells {n : Nat} {l : List Value} {x : DataW H × List MemPlace} (h : DataW.trod enc Tryz.prog w base spare held n 68 l = some x) : ∃ s, SgAt w (fun j => l[j]?) s := by
  obtain ⟨xs, n', _, _, _, hlen, hf⟩ := DataW.trod_struct Tryz.underlying68 h
  have hl : xs.length = 3 := hlen
  obtain ⟨tk, e0⟩ := field_int (i := 0) (hf 0 _ rfl) (by omega)
  obtain ⟨A, m, c, f, e1, hm, hr⟩ := field_ints (i := 1) (hf 1 _ rfl) (by omega)
  obtain ⟨sn, e2⟩ := field_bool (i := 2) (hf 2 _ rfl) (by omega)
  obtain ⟨L, rfl, hL⟩ := rd1_list hr
  exact ⟨⟨tk, A, c, L, sn⟩, ⟨e0, e1, e2⟩, hL, hm⟩
/-- a slice of sightings -/
theorem rdS_of_trod {fuel : Nat} {cs : List Value} {x : DataW H × List MemPlace} (h : DataW.trod enc Tryz.prog w base spare held fuel 45 cs = some x) :
    ∃ A n c Xs, cs = [.slice A n c] ∧ n ≤ maxLen ∧ RdS w w.heap.size A n Xs := by
  rcases open_slice Tryz.underlying45 h with ⟨rfl, _⟩ | ⟨a, len, cap, k, n, D, Pl, rfl, _, hl, hmx, hk, _, hi⟩
  · exact ⟨none, 0, 0, fun _ => ⟨0, none, 0, [], false⟩, rfl, by unfold maxLen; omega, .inl rfl⟩
  · have hlk : len ≤ k := by rw [hk]; split <;> omega
    rw [cells_sg] at hi
    have hcell : ∀ i, i < len → ∃ s, SgAt w (fun j => w.cell? ((a.add (i * 3)).add j)) s := by
      intro i hil
      obtain ⟨cs', hc, ht'⟩ := hi i (by omega)
      obtain ⟨_, _, hat⟩ := World.cells?_some hc
      obtain ⟨s, ⟨h0, h1, h2⟩, h3⟩ := sg_cells ht'
      exact ⟨s, ⟨(hat 0 (by omega)).trans h0, (hat 1 (by omega)).trans h1, (hat 2 (by omega)).trans h2⟩, h3⟩
    rcases Nat.eq_zero_or_pos len with rfl | hpos
    · exact ⟨_, 0, cap, fun _ => ⟨0, none, 0, [], false⟩, rfl, by omega, .inl rfl⟩
    · obtain ⟨b, off, spot⟩ := a
      obtain rfl : spot = none := by
        obtain ⟨s, ⟨hv, _, _⟩, _⟩ := hcell 0 hpos
        have h0 := cell_spot hv
        unfold Addr.add at h0
        simp at h0
        exact h0
      have hcell' : ∀ i, i < len → ∃ s, SgAt w (fun j => w.cell? ⟨b, off + i * 3 + j, none⟩) s := fun i hil => by
        obtain ⟨s, hs⟩ := hcell i hil
        simp only [addr_add] at hs
        exact ⟨s, hs⟩
      obtain ⟨Xs, hXs⟩ : ∃ Xs : Nat → SgV, ∀ i, i < len → SgAt w (fun j => w.cell? ⟨b, off + i * 3 + j, none⟩) (Xs i) :=
        ⟨fun i => if h : i < len then Classical.choose (hcell' i h) else ⟨0, none, 0, [], false⟩, fun i hil => by
          dsimp only
          rw [dif_pos hil]
          exact Classical.choose_spec (hcell' i hil)⟩
      refine ⟨some ⟨b, off, none⟩, len, cap, Xs, rfl, by omega, .inr ⟨b, off, rfl, ?_, fun i hil => hXs i hil⟩⟩
      obtain ⟨s, ⟨hv, _, _⟩, _⟩ := hcell' 0 hpos
      exact World.block_lt_of_cell? w _ hv
theorem field_sgs {n i o : Nat} {l : List Value} {xs : List (DataW H × List MemPlace)} (h : DataW.trod enc Tryz.prog w base spare held n 45 ((l.drop o).take (Tryz.prog.cellsOf 45)) = xs[i]?) (hi : i < xs.length) :
    ∃ A m c Xs, l[o]? = some (.slice A m c) ∧ m ≤ maxLen ∧ RdS w w.heap.size A m Xs := by
  rw [cells_sgs, List.getElem?_eq_getElem hi] at h
  obtain ⟨A, m, c, Xs, e, hm, hr⟩ := rdS_of_trod h
  have := congrArg (fun l => l[0]?) e
  exact ⟨A, m, c, Xs, by simpa using this, hm, hr⟩
theorem field_span {n i o : Nat} {l : List Value} {xs : List (DataW H × List MemPlace)} (h : DataW.trod enc Tryz.prog w base spare held n 42 ((l.drop o).take (Tryz.prog.cellsOf 42)) = xs[i]?) (hi : i < xs.length) : ∃ a b, l[o]? = some (.int .i64 a) ∧ l[o + 1]? = some (.int .i64 b) := by
  rw [cells_span, List.getElem?_eq_getElem hi] at h
  obtain ⟨a, ha⟩ := span_ints h 0 (by omega)
  obtain ⟨b, hb⟩ := span_ints h 1 (by omega)
  exact ⟨a, b, by simpa [List.getElem?_take, List.getElem?_drop] using ha, by simpa [List.getElem?_take, List.getElem?_drop] using hb⟩
set_option maxRecDepth 100000 in
/-- a drifter by value -/
theorem open_drifter {r : Reach} {b0 : Nat} {v : Value} {d : DataW H} {p : List MemPlace} (hv : Value.okWide Tryz.prog w r b0 44 v) (h : DataW.Trod enc Tryz.prog w base spare held 44 v d p) :
    ∃ (at_ lo hi : Int) (xA : Option Addr) (xL : List Int) (xc : Nat), v = .agg #[.int .i64 at_, .slice xA xL.length xc, .int .i64 lo, .int .i64 hi] ∧ xL.length ≤ maxLen ∧ Rd1 w w.heap.size xA xL.length (fun k => xL.getD k 0) := by
  obtain ⟨cs, rfl, hsz⟩ := okWide_struct Tryz.underlying44 hv
  have hsz4 : cs.size = 4 := hsz.trans (by kernel_rfl)
  obtain ⟨fuel, hf⟩ := h
  obtain ⟨xs, n', _, _, _, hlen, hff⟩ := DataW.trod_struct Tryz.underlying44 hf
  have hl : xs.length = 3 := hlen
  obtain ⟨a, e0⟩ := field_int (i := 0) (hff 0 _ rfl) (by omega)
  obtain ⟨A, m, c, f, e1, hm, hr⟩ := field_ints (i := 1) (hff 1 _ rfl) (by omega)
  obtain ⟨lo, hi, e2, e3⟩ := field_span (i := 2) (hff 2 _ rfl) (by omega)
  obtain ⟨L, rfl, hL⟩ := rd1_list hr
  obtain ⟨l⟩ := cs
  match l, hsz4 with
  | [c0, c1, c2, c3], _ =>
    simp [Value.cells, cells_int, cells_ints] at e0 e1 e2 e3
    subst e0; subst e1; subst e2; subst e3
    exact ⟨a, lo, hi, A, L, c, rfl, hm, hL⟩
set_option maxRecDepth 100000 in
theorem open_search {r : Reach} {b0 : Nat} {v : Value} {d : DataW H} {p : List MemPlace} (hv : Value.okWide Tryz.prog w r b0 47 v) (h : DataW.Trod enc Tryz.prog w base spare held 47 v d p) :
    ∃ (hA : Option Addr) (hn hc : Nat) (Xs : Nat → SgV) (a b : Int), v = .agg #[.slice hA hn hc, .int .i64 a, .int .i64 b] ∧ hn ≤ maxLen ∧ RdS w w.heap.size hA hn Xs := by
  obtain ⟨cs, rfl, hsz⟩ := okWide_struct Tryz.underlying47 hv
  have hsz3 : cs.size = 3 := hsz.trans (by kernel_rfl)
  obtain ⟨fuel, hf⟩ := h
  obtain ⟨xs, n', _, _, _, hlen, hff⟩ := DataW.trod_struct Tryz.underlying47 hf
  have hl : xs.length = 3 := hlen
  obtain ⟨A, m, c, Xs, e0, hm, hr⟩ := field_sgs (i := 0) (hff 0 _ rfl) (by omega)
  obtain ⟨a, e1⟩ := field_int (i := 1) (hff 1 _ rfl) (by omega)
  obtain ⟨b, e2⟩ := field_int (i := 2) (hff 2 _ rfl) (by omega)
  obtain ⟨l⟩ := cs
  match l, hsz3 with
  | [c0, c1, c2], _ =>
    simp [Value.cells, cells_int, cells_sgs] at e0 e1 e2
    subst e0; subst e1; subst e2
    exact ⟨A, m, c, Xs, a, b, rfl, hm, hr⟩
end
set_option maxRecDepth 100000 in
/-- a past by value -/
theorem open_past {H : Type} {enc : TypeId × Value → H} {w : World} {base : Nat} {spare : Nat → Bool} {held : Bool} {r : Reach} {b0 : Nat} {v : Value} {d : DataW H} {p : List MemPlace} (hv : Value.okWide Tryz.prog w r b0 61 v) (h : DataW.Trod enc Tryz.prog w base spare held 61 v d p) :
    ∃ (hA : Option Addr) (hn hc : Nat) (Xs : Nat → SgV) (l : Int) (pA : Option Addr) (pn pc : Nat) (pf : Nat → Int), v = .agg #[.slice hA hn hc, .int .i64 l, .slice pA pn pc] ∧ hn ≤ maxLen ∧ RdS w w.heap.size hA hn Xs ∧ pn ≤ maxLen ∧ Rd1 w w.heap.size pA pn pf := by
  obtain ⟨cs, rfl, hsz⟩ := okWide_struct Tryz.underlying61 hv
  have hsz3 : cs.size = 3 := hsz.trans (by kernel_rfl)
  obtain ⟨fuel, hf⟩ := h
  obtain ⟨xs, n', _, _, _, hlen, hff⟩ := DataW.trod_struct Tryz.underlying61 hf
  have hl : xs.length = 3 := hlen
  obtain ⟨A, m, c, Xs, e0, hm, hr⟩ := field_sgs (i := 0) (hff 0 _ rfl) (by omega)
  obtain ⟨a, e1⟩ := field_int (i := 1) (hff 1 _ rfl) (by omega)
  obtain ⟨A2, m2, c2, f2, e2, hm2, hr2⟩ := field_ints (i := 2) (hff 2 _ rfl) (by omega)
  obtain ⟨l⟩ := cs
  match l, hsz3 with
  | [c0, c1, c2], _ =>
    simp [Value.cells] at e0 e1 e2
    subst e0; subst e1; subst e2
    exact ⟨_, _, _, Xs, _, _, _, _, f2, rfl, hm, hr, hm2, hr2⟩
end Go.Proofs.YtnbeembnnjdmdaaGreatDoor
