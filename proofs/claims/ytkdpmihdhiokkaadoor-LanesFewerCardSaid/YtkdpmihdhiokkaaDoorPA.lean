/- Charts, legs and slices of ints, opened. -/
import Derived.Test.YtkdpmihdhiokkaaDoorP0
import Derived.Test.YtkdpmihdhiokkaaDoorK12
import Derived.Test.YtkdpmihdhiokkaaDoorK28
import Derived.ChangeArms
namespace Go.Proofs.YtkdpmihdhiokkaaDoor
open Go.ChangeShapes Go.WideShapes Go.ChangeAt Go.RowKit Go.Deep Go.Joins

section
variable {P : Program} {H : Type} {enc : TypeId × Value → H} {w : World} {base : Nat} {spare : Nat → Bool} {held : Bool}
theorem array5 {α : Type} {cs : Array α} (h : cs.size = 5) : ∃ c0 c1 c2 c3 c4, cs = #[c0, c1, c2, c3, c4] := by
  obtain ⟨l⟩ := cs
  match l, h with
  | [c0, c1, c2, c3, c4], _ => exact ⟨c0, c1, c2, c3, c4, rfl⟩
theorem open_agg5 {r : Reach} {b0 : Nat} {t : TypeId} {f0 f1 f2 f3 f4 : Field} {v : Value} {d : DataW H} {p : List MemPlace} (hs : P.underlying t = some (.struct #[f0, f1, f2, f3, f4])) (hone : oneCellFields P #[f0, f1, f2, f3, f4] = true) (hC : P.cellsOf t = 5)
    (hv : Value.okWide P w r b0 t v) (h : DataW.Trod enc P w base spare held t v d p) :
    ∃ (v0 v1 v2 v3 v4 : Value) (y0 y1 y2 y3 y4 : DataW H × List MemPlace) (n : Nat), v = .agg #[v0, v1, v2, v3, v4] ∧
      DataW.trod enc P w base spare held n f0.type [v0] = some y0 ∧ DataW.trod enc P w base spare held n f1.type [v1] = some y1 ∧ DataW.trod enc P w base spare held n f2.type [v2] = some y2 ∧ DataW.trod enc P w base spare held n f3.type [v3] = some y3 ∧ DataW.trod enc P w base spare held n f4.type [v4] = some y4 := by
  obtain ⟨cs, rfl, hsz⟩ := okWide_struct hs hv
  obtain ⟨c0, c1, c2, c3, c4, rfl⟩ := array5 (hsz.trans hC)
  obtain ⟨fuel, hf⟩ := h
  obtain ⟨xs, n, _, hx, hl, hlen, hff⟩ := DataW.trod_struct hs hf
  obtain ⟨o0, k0⟩ := hone_of hone 0 f0 rfl
  obtain ⟨o1, k1⟩ := hone_of hone 1 f1 rfl
  obtain ⟨o2, k2⟩ := hone_of hone 2 f2 rfl
  obtain ⟨o3, k3⟩ := hone_of hone 3 f3 rfl
  obtain ⟨o4, k4⟩ := hone_of hone 4 f4 rfl
  match xs, hlen with
  | [y0, y1, y2, y3, y4], _ =>
    refine ⟨c0, c1, c2, c3, c4, y0, y1, y2, y3, y4, n, rfl, ?_, ?_, ?_, ?_, ?_⟩
    · simpa [Value.cells, o0, k0] using hff 0 f0 rfl
    · simpa [Value.cells, o1, k1] using hff 1 f1 rfl
    · simpa [Value.cells, o2, k2] using hff 2 f2 rfl
    · simpa [Value.cells, o3, k3] using hff 3 f3 rfl
    · simpa [Value.cells, o4, k4] using hff 4 f4 rfl
end
section
variable {H : Type} {enc : TypeId × Value → H} {w : World} {base : Nat} {spare : Nat → Bool} {held : Bool}
/-- a slice of ints -/
theorem rd1_of_trod {fuel : Nat} {cs : List Value} {x : DataW H × List MemPlace} (h : DataW.trod enc Tryd.prog w base spare held fuel 22 cs = some x) :
    ∃ A n c f, cs = [.slice A n c] ∧ n ≤ maxLen ∧ n ≤ c ∧ c ≤ maxLen ∧ Rd1 w w.heap.size A n f := by
  obtain ⟨A, n, c, f, e, hn, hc, hm, hr⟩ := rd_of_trod (t := 22) (e := 3) (m := 1) Tryd.underlying22 cells_int (by omega) (fun n l x hx j hj => by
    obtain rfl : j = 0 := by omega
    obtain ⟨v, e, _⟩ := DataW.trod_int Tryd.underlying3 hx
    exact ⟨v, by rw [e]; rfl⟩) h
  refine ⟨A, n, c, fun i => f i 0, e, hn, hc, hm, ?_⟩
  rcases hr with h | ⟨b, off, hA, hb, hc⟩
  · exact .inl h
  · exact .inr ⟨b, off, hA, hb, fun i hi => by have := hc i 0 hi (by omega); simpa using this⟩
theorem span_ints {n : Nat} {l : List Value} {x : DataW H × List MemPlace} (h : DataW.trod enc Tryd.prog w base spare held n 52 l = some x) : ∀ j, j < 2 → ∃ v, l[j]? = some (.int .i64 v) := by
  obtain ⟨xs, n', _, _, _, hlen, hf⟩ := DataW.trod_struct Tryd.underlying52 h
  have hl : xs.length = 2 := hlen
  intro j hj
  obtain rfl | rfl : j = 0 ∨ j = 1 := by omega
  · exact field_int (i := 0) (hf 0 _ rfl) (by omega)
  · exact field_int (i := 1) (hf 1 _ rfl) (by omega)
set_option maxRecDepth 100000 in
/-- a chart by value -/
theorem open_chart {r : Reach} {b0 : Nat} {v : Value} {d : DataW H} {p : List MemPlace} (hv : Value.okWide Tryd.prog w r b0 25 v) (h : DataW.Trod enc Tryd.prog w base spare held 25 v d p) :
    ∃ (W H' : Int) (dA tA sA : Option Addr) (nd dc nt tc ns sc : Nat) (dep : Nat → Int) (tide : Nat → Nat → Int) (sw : Nat → Int), v = .agg #[.int .i64 W, .int .i64 H', .slice dA nd dc, .slice tA nt tc, .slice sA ns sc] ∧ nd ≤ maxLen ∧ nt ≤ maxLen ∧ ns ≤ maxLen ∧ RdC w w.heap.size dA tA sA nd nt ns dep tide sw := by
  obtain ⟨v0, v1, v2, v3, v4, y0, y1, y2, y3, y4, n, rfl, h0, h1, h2, h3, h4⟩ := open_agg5 Tryd.underlying25 (by kernel_rfl) (by kernel_rfl) hv h
  obtain ⟨W, e0, _⟩ := DataW.trod_int Tryd.underlying3 h0
  obtain ⟨H', e1, _⟩ := DataW.trod_int Tryd.underlying3 h1
  obtain ⟨dA, nd, dc, dep, e2, hnd, _, _, hd⟩ := rd1_of_trod h2
  obtain ⟨tA, nt, tc, tide, e3, hnt, _, _, ht⟩ := rd_of_trod (t := 23) (e := 52) (m := 2) Tryd.underlying23 (by kernel_rfl) (by omega) (fun _ _ _ h => span_ints h) h3
  obtain ⟨sA, ns, sc, sw, e4, hns, _, _, hs⟩ := rd1_of_trod h4
  injection e0 with e0 _
  injection e1 with e1 _
  injection e2 with e2 _
  injection e3 with e3 _
  injection e4 with e4 _
  subst e0; subst e1; subst e2; subst e3; subst e4
  exact ⟨W, H', dA, tA, sA, nd, dc, nt, tc, ns, sc, dep, tide, sw, rfl, hnd, hnt, hns, ⟨hd, ht, hs⟩⟩
set_option maxRecDepth 100000 in
/-- a leg by value -/
theorem open_leg {r : Reach} {b0 : Nat} {v : Value} {d : DataW H} {p : List MemPlace} (hv : Value.okWide Tryd.prog w r b0 41 v) (h : DataW.Trod enc Tryd.prog w base spare held 41 v d p) :
    ∃ (l : M.Leg) (cA : Option Addr) (cc : Nat), v = .agg #[.int .i64 l.at_, .int .i64 l.lv, .int .i64 l.dr, .bool l.tail, .slice cA l.n cc] ∧ l.n ≤ maxLen ∧ Rd1 w w.heap.size cA l.n l.c := by
  obtain ⟨v0, v1, v2, v3, v4, y0, y1, y2, y3, y4, n, rfl, h0, h1, h2, h3, h4⟩ := open_agg5 Tryd.underlying41 (by kernel_rfl) (by kernel_rfl) hv h
  obtain ⟨a, e0, _⟩ := DataW.trod_int Tryd.underlying3 h0
  obtain ⟨b, e1, _⟩ := DataW.trod_int Tryd.underlying3 h1
  obtain ⟨c, e2, _⟩ := DataW.trod_int Tryd.underlying3 h2
  obtain ⟨tl, e3, _⟩ := DataW.trod_bool Tryd.underlying4 h3
  obtain ⟨cA, m, cc, f, e4, hm, _, _, hr⟩ := rd1_of_trod h4
  injection e0 with e0 _
  injection e1 with e1 _
  injection e2 with e2 _
  injection e3 with e3 _
  injection e4 with e4 _
  subst e0; subst e1; subst e2; subst e3; subst e4
  exact ⟨⟨a, b, c, tl, m, f⟩, cA, cc, rfl, hm, hr⟩
end
end Go.Proofs.YtkdpmihdhiokkaaDoor
/- Slices of legs, opened. -/
namespace Go.Proofs.YtkdpmihdhiokkaaDoor
open Go.ChangeShapes Go.WideShapes Go.ChangeAt Go.RowKit Go.Deep Go.Joins

section
variable {H : Type} {enc : TypeId × Value → H} {w : World} {base : Nat} {spare : Nat → Bool} {held : Bool}
theorem cells_leg : Tryd.prog.cellsOf 41 = 5 := by kernel_rfl
theorem cells_ints : Tryd.prog.cellsOf 22 = 1 := by kernel_rfl
theorem cells_bool : Tryd.prog.cellsOf 4 = 1 := by kernel_rfl
theorem field_bool {n i o : Nat} {l : List Value} {xs : List (DataW H × List MemPlace)} (h : DataW.trod enc Tryd.prog w base spare held n 4 ((l.drop o).take (Tryd.prog.cellsOf 4)) = xs[i]?) (hi : i < xs.length) : ∃ v, l[o]? = some (.bool v) := by
  rw [cells_bool, List.getElem?_eq_getElem hi] at h
  obtain ⟨v, e, _⟩ := DataW.trod_bool Tryd.underlying4 h
  have := congrArg (fun l => l[0]?) e
  exact ⟨v, by simpa using this⟩
theorem field_ints {n i o : Nat} {l : List Value} {xs : List (DataW H × List MemPlace)} (h : DataW.trod enc Tryd.prog w base spare held n 22 ((l.drop o).take (Tryd.prog.cellsOf 22)) = xs[i]?) (hi : i < xs.length) :
    ∃ A m c f, l[o]? = some (.slice A m c) ∧ m ≤ maxLen ∧ Rd1 w w.heap.size A m f := by
  rw [cells_ints, List.getElem?_eq_getElem hi] at h
  obtain ⟨A, m, c, f, e, hm, _, _, hr⟩ := rd1_of_trod h
  have := congrArg (fun l => l[0]?) e
  exact ⟨A, m, c, f, by simpa using this, hm, hr⟩
/-- the cells of one leg -/
def LegAt (w : World) (at_ : Nat → Option Value) (l : M.Leg) : Prop := at_ 0 = some (.int .i64 l.at_) ∧ at_ 1 = some (.int .i64 l.lv) ∧ at_ 2 = some (.int .i64 l.dr) ∧ at_ 3 = some (.bool l.tail) ∧ ∃ cA cc, at_ 4 = some (.slice cA l.n cc) ∧ Rd1 w w.heap.size cA l.n l.c ∧ l.n ≤ maxLen
theorem leg_cells {n : Nat} {l : List Value} {x : DataW H × List MemPlace} (h : DataW.trod enc Tryd.prog w base spare held n 41 l = some x) : ∃ g : M.Leg, LegAt w (fun j => l[j]?) g := by
  obtain ⟨xs, n', _, _, _, hlen, hf⟩ := DataW.trod_struct Tryd.underlying41 h
  have hl : xs.length = 5 := hlen
  obtain ⟨a, e0⟩ := field_int (i := 0) (hf 0 _ rfl) (by omega)
  obtain ⟨b, e1⟩ := field_int (i := 1) (hf 1 _ rfl) (by omega)
  obtain ⟨c, e2⟩ := field_int (i := 2) (hf 2 _ rfl) (by omega)
  obtain ⟨d, e3⟩ := field_bool (i := 3) (hf 3 _ rfl) (by omega)
  obtain ⟨A, m, cc, f, e4, hm, hr⟩ := field_ints (i := 4) (hf 4 _ rfl) (by omega)
  exact ⟨⟨a, b, c, d, m, f⟩, e0, e1, e2, e3, A, cc, e4, hr, hm⟩
/-- a slice of legs -/
theorem rdL_of_trod {fuel : Nat} {t : TypeId} {cs : List Value} {x : DataW H × List MemPlace} (ht : Tryd.prog.underlying t = some (.slice 41)) (h : DataW.trod enc Tryd.prog w base spare held fuel t cs = some x) :
    ∃ A n c L, cs = [.slice A n c] ∧ n ≤ maxLen ∧ n ≤ c ∧ c ≤ maxLen ∧ RdL w w.heap.size A n L := by
  rcases open_slice ht h with ⟨rfl, _⟩ | ⟨a, len, cap, k, n, D, Pl, rfl, _, hl, hmx, hk, _, hi⟩
  · exact ⟨none, 0, 0, fun _ => ⟨0, 0, 0, false, 0, fun _ => 0⟩, rfl, by unfold maxLen; omega, Nat.le_refl _, by unfold maxLen; omega, .inl rfl⟩
  · have hlk : len ≤ k := by rw [hk]; split <;> omega
    rw [cells_leg] at hi
    have hcell : ∀ i, i < len → ∃ g : M.Leg, LegAt w (fun j => w.cell? ((a.add (i * 5)).add j)) g := by
      intro i hil
      obtain ⟨cs', hc, ht'⟩ := hi i (by omega)
      obtain ⟨_, _, hat⟩ := World.cells?_some hc
      obtain ⟨g, h0, h1, h2, h3, cA, cc, h4, h5⟩ := leg_cells ht'
      exact ⟨g, (hat 0 (by omega)).trans h0, (hat 1 (by omega)).trans h1, (hat 2 (by omega)).trans h2, (hat 3 (by omega)).trans h3, cA, cc, (hat 4 (by omega)).trans h4, h5⟩
    rcases Nat.eq_zero_or_pos len with rfl | hpos
    · exact ⟨_, 0, cap, fun _ => ⟨0, 0, 0, false, 0, fun _ => 0⟩, rfl, by omega, by omega, hmx, .inl rfl⟩
    · obtain ⟨b, off, spot⟩ := a
      obtain rfl : spot = none := by
        obtain ⟨g, hv, _⟩ := hcell 0 hpos
        have h0 := cell_spot hv
        unfold Addr.add at h0
        simp at h0
        exact h0
      have hcell' : ∀ i, i < len → ∃ g : M.Leg, LegAt w (fun j => w.cell? ⟨b, off + i * 5 + j, none⟩) g := fun i hil => by
        obtain ⟨g, hg⟩ := hcell i hil
        refine ⟨g, ?_⟩
        have e : (fun j => w.cell? (((⟨b, off, none⟩ : Addr).add (i * 5)).add j)) = fun j => w.cell? ⟨b, off + i * 5 + j, none⟩ := by
          funext j
          rw [addr_add, addr_add]
        rw [e] at hg
        exact hg
      refine ⟨some ⟨b, off, none⟩, len, cap, fun i => if h : i < len then Classical.choose (hcell' i h) else ⟨0, 0, 0, false, 0, fun _ => 0⟩, rfl, by omega, hl, hmx, .inr ⟨b, off, rfl, ?_, fun i hil => ?_⟩⟩
      · obtain ⟨g, hv, _⟩ := hcell' 0 hpos
        exact World.block_lt_of_cell? w _ hv
      · show LegAt w (fun j => w.cell? ⟨b, off + i * 5 + j, none⟩) (if h : i < len then Classical.choose (hcell' i h) else ⟨0, 0, 0, false, 0, fun _ => 0⟩)
        rw [dif_pos hil]
        exact Classical.choose_spec (hcell' i hil)
set_option maxRecDepth 100000 in
/-- a slice of legs, by value -/
theorem open_legs {r : Reach} {b0 : Nat} {v : Value} {d : DataW H} {p : List MemPlace} (hv : Value.okWide Tryd.prog w r b0 26 v) (h : DataW.Trod enc Tryd.prog w base spare held 26 v d p) : ∃ A n c L, v = .slice A n c ∧ n ≤ maxLen ∧ n ≤ c ∧ RdL w w.heap.size A n L := by
  obtain ⟨a0, len, cap, rfl⟩ := okWide_slice Tryd.underlying26 hv
  obtain ⟨fuel, hf⟩ := h
  obtain ⟨A, n, c, L, e, hn, hc, _, hr⟩ := rdL_of_trod Tryd.underlying26 hf
  simp [Value.cells] at e
  obtain ⟨rfl, rfl, rfl⟩ := e
  exact ⟨_, _, _, L, rfl, hn, hc, hr⟩
theorem open_agg2 {P : Program} {r : Reach} {b0 : Nat} {t : TypeId} {f0 f1 : Field} {v : Value} {d : DataW H} {p : List MemPlace} (hs : P.underlying t = some (.struct #[f0, f1])) (hone : oneCellFields P #[f0, f1] = true) (hC : P.cellsOf t = 2)
    (hv : Value.okWide P w r b0 t v) (h : DataW.Trod enc P w base spare held t v d p) :
    ∃ (v0 v1 : Value) (y0 y1 : DataW H × List MemPlace) (n : Nat), v = .agg #[v0, v1] ∧ DataW.trod enc P w base spare held n f0.type [v0] = some y0 ∧ DataW.trod enc P w base spare held n f1.type [v1] = some y1 := by
  obtain ⟨cs, rfl, hsz⟩ := okWide_struct hs hv
  obtain ⟨c0, c1, rfl⟩ : ∃ c0 c1, cs = #[c0, c1] := by
    obtain ⟨l⟩ := cs
    match l, hsz.trans hC with
    | [c0, c1], _ => exact ⟨c0, c1, rfl⟩
  obtain ⟨fuel, hf⟩ := h
  obtain ⟨xs, n, _, hx, hl, hlen, hff⟩ := DataW.trod_struct hs hf
  obtain ⟨o0, k0⟩ := hone_of hone 0 f0 rfl
  obtain ⟨o1, k1⟩ := hone_of hone 1 f1 rfl
  match xs, hlen with
  | [y0, y1], _ =>
    refine ⟨c0, c1, y0, y1, n, rfl, ?_, ?_⟩
    · simpa [Value.cells, o0, k0] using hff 0 f0 rfl
    · simpa [Value.cells, o1, k1] using hff 1 f1 rfl
set_option maxRecDepth 100000 in
theorem open_spot {r : Reach} {b0 : Nat} {v : Value} {d : DataW H} {p : List MemPlace} (hv : Value.okWide Tryd.prog w r b0 48 v) (h : DataW.Trod enc Tryd.prog w base spare held 48 v d p) : ∃ a b : Int, v = .agg #[.int .i64 a, .int .i64 b] := by
  obtain ⟨v0, v1, y0, y1, n, rfl, h0, h1⟩ := open_agg2 Tryd.underlying48 (by kernel_rfl) (by kernel_rfl) hv h
  obtain ⟨a, e0, _⟩ := DataW.trod_int Tryd.underlying3 h0
  obtain ⟨b, e1, _⟩ := DataW.trod_int Tryd.underlying3 h1
  injection e0 with e0 _
  injection e1 with e1 _
  exact ⟨a, b, by rw [e0, e1]⟩
theorem trip_cells {n : Nat} {l : List Value} {x : DataW H × List MemPlace} (h : DataW.trod enc Tryd.prog w base spare held n 28 l = some x) :
    ∃ (a b c : Int) (d : Bool) (e f : Int), l[0]? = some (.int .i64 a) ∧ l[1]? = some (.int .i64 b) ∧ l[2]? = some (.int .i64 c) ∧ l[3]? = some (.bool d) ∧ l[4]? = some (.int .i64 e) ∧ l[5]? = some (.int .i64 f) := by
  obtain ⟨xs, n', _, _, _, hlen, hf⟩ := DataW.trod_struct Tryd.underlying28 h
  have hl : xs.length = 6 := hlen
  obtain ⟨a, e0⟩ := field_int (i := 0) (hf 0 _ rfl) (by omega)
  obtain ⟨b, e1⟩ := field_int (i := 1) (hf 1 _ rfl) (by omega)
  obtain ⟨c, e2⟩ := field_int (i := 2) (hf 2 _ rfl) (by omega)
  obtain ⟨d, e3⟩ := field_bool (i := 3) (hf 3 _ rfl) (by omega)
  obtain ⟨e, e4⟩ := field_int (i := 4) (hf 4 _ rfl) (by omega)
  obtain ⟨f, e5⟩ := field_int (i := 5) (hf 5 _ rfl) (by omega)
  exact ⟨a, b, c, d, e, f, e0, e1, e2, e3, e4, e5⟩
set_option maxRecDepth 100000 in
theorem open_trip {r : Reach} {b0 : Nat} {v : Value} {d : DataW H} {p : List MemPlace} (hv : Value.okWide Tryd.prog w r b0 28 v) (h : DataW.Trod enc Tryd.prog w base spare held 28 v d p) : ∃ (at_ lv dr : Int) (tl : Bool) (fr dst : Int), v = .agg #[.int .i64 at_, .int .i64 lv, .int .i64 dr, .bool tl, .int .i64 fr, .int .i64 dst] := by
  obtain ⟨cs, rfl, hsz⟩ := okWide_struct Tryd.underlying28 hv
  have hsz6 : cs.size = 6 := hsz.trans (by kernel_rfl)
  obtain ⟨fuel, hf⟩ := h
  obtain ⟨a, b, c, d, e, f, e0, e1, e2, e3, e4, e5⟩ := trip_cells hf
  obtain ⟨l⟩ := cs
  match l, hsz6 with
  | [c0, c1, c2, c3, c4, c5], _ =>
    simp [Value.cells] at e0 e1 e2 e3 e4 e5
    subst e0; subst e1; subst e2; subst e3; subst e4; subst e5
    exact ⟨a, b, c, d, e, f, rfl⟩
/-- a slice of trips -/
theorem rdT_of_trod {fuel : Nat} {t : TypeId} {cs : List Value} {x : DataW H × List MemPlace} (ht : Tryd.prog.underlying t = some (.slice 28)) (h : DataW.trod enc Tryd.prog w base spare held fuel t cs = some x) :
    ∃ A n c R, cs = [.slice A n c] ∧ n ≤ maxLen ∧ n ≤ c ∧ c ≤ maxLen ∧ RdT w w.heap.size A n R := by
  rcases open_slice ht h with ⟨rfl, _⟩ | ⟨a, len, cap, k, n, D, Pl, rfl, _, hl, hmx, hk, _, hi⟩
  · exact ⟨none, 0, 0, fun _ => ⟨0, 0, 0, false, 0, 0⟩, rfl, by unfold maxLen; omega, Nat.le_refl _, by unfold maxLen; omega, .inl rfl⟩
  · have hlk : len ≤ k := by rw [hk]; split <;> omega
    rw [show Tryd.prog.cellsOf 28 = 6 by kernel_rfl] at hi
    have hcell : ∀ i, i < len → ∃ r : M.Trip, ∀ j, j < 6 → w.cell? ((a.add (i * 6)).add j) = some (tripRow r j) := by
      intro i hil
      obtain ⟨cs', hc, ht'⟩ := hi i (by omega)
      obtain ⟨_, _, hat⟩ := World.cells?_some hc
      obtain ⟨p, q, r, d, e, f, e0, e1, e2, e3, e4, e5⟩ := trip_cells ht'
      refine ⟨⟨p, q, r, d, e, f⟩, fun j hj => ?_⟩
      obtain rfl | rfl | rfl | rfl | rfl | rfl : j = 0 ∨ j = 1 ∨ j = 2 ∨ j = 3 ∨ j = 4 ∨ j = 5 := by omega
      · exact (hat 0 (by omega)).trans e0
      · exact (hat 1 (by omega)).trans e1
      · exact (hat 2 (by omega)).trans e2
      · exact (hat 3 (by omega)).trans e3
      · exact (hat 4 (by omega)).trans e4
      · exact (hat 5 (by omega)).trans e5
    rcases Nat.eq_zero_or_pos len with rfl | hpos
    · exact ⟨_, 0, cap, fun _ => ⟨0, 0, 0, false, 0, 0⟩, rfl, by omega, by omega, hmx, .inl rfl⟩
    · obtain ⟨b, off, spot⟩ := a
      obtain rfl : spot = none := by
        obtain ⟨r, hv⟩ := hcell 0 hpos
        have h0 := cell_spot (hv 0 (by omega))
        unfold Addr.add at h0
        simp at h0
        exact h0
      have hcell' : ∀ i, i < len → ∃ r : M.Trip, ∀ j, j < 6 → w.cell? ⟨b, off + (i * 6 + j), none⟩ = some (tripRow r j) := fun i hil => by
        obtain ⟨r, hg⟩ := hcell i hil
        refine ⟨r, fun j hj => ?_⟩
        have := hg j hj
        rw [addr_add, addr_add, Nat.add_assoc] at this
        exact this
      refine ⟨some ⟨b, off, none⟩, len, cap, fun i => if h : i < len then Classical.choose (hcell' i h) else ⟨0, 0, 0, false, 0, 0⟩, rfl, by omega, hl, hmx, .inr ⟨b, off, rfl, ?_, fun i j hil hj => ?_⟩⟩
      · obtain ⟨r, hv⟩ := hcell' 0 hpos
        exact World.block_lt_of_cell? w _ (hv 0 (by omega))
      · show _ = some (tripRow (if h : i < len then Classical.choose (hcell' i h) else ⟨0, 0, 0, false, 0, 0⟩) j)
        rw [dif_pos hil]
        exact Classical.choose_spec (hcell' i hil) j hj
set_option maxRecDepth 100000 in
theorem open_trips {r : Reach} {b0 : Nat} {v : Value} {d : DataW H} {p : List MemPlace} (hv : Value.okWide Tryd.prog w r b0 64 v) (h : DataW.Trod enc Tryd.prog w base spare held 64 v d p) : ∃ A n c R, v = .slice A n c ∧ n ≤ maxLen ∧ n ≤ c ∧ RdT w w.heap.size A n R := by
  obtain ⟨a0, len, cap, rfl⟩ := okWide_slice Tryd.underlying64 hv
  obtain ⟨fuel, hf⟩ := h
  obtain ⟨A, n, c, R, e, hn, hc, _, hr⟩ := rdT_of_trod Tryd.underlying64 hf
  simp [Value.cells] at e
  obtain ⟨rfl, rfl, rfl⟩ := e
  exact ⟨_, _, _, R, rfl, hn, hc, hr⟩
theorem cells_trip : Tryd.prog.cellsOf 28 = 6 := by kernel_rfl
set_option maxRecDepth 100000 in
theorem open_way {r : Reach} {b0 : Nat} {v : Value} {d : DataW H} {p : List MemPlace} (hv : Value.okWide Tryd.prog w r b0 68 v) (h : DataW.Trod enc Tryd.prog w base spare held 68 v d p) :
    ∃ (at_ lv dr : Int) (tl : Bool) (fr dst : Int) (cA : Option Addr) (n cc : Nat) (f : Nat → Int), v = .agg #[.int .i64 at_, .int .i64 lv, .int .i64 dr, .bool tl, .int .i64 fr, .int .i64 dst, .slice cA n cc] ∧ n ≤ maxLen ∧ Rd1 w w.heap.size cA n f := by
  obtain ⟨cs, rfl, hsz⟩ := okWide_struct Tryd.underlying68 hv
  have hsz7 : cs.size = 7 := hsz.trans (by kernel_rfl)
  obtain ⟨fuel, hf⟩ := h
  obtain ⟨xs, n', _, _, _, hlen, hff⟩ := DataW.trod_struct Tryd.underlying68 hf
  have hl : xs.length = 2 := hlen
  have h0 := hff 0 _ rfl
  rw [List.getElem?_eq_getElem (show 0 < xs.length by omega)] at h0
  obtain ⟨a, b, c, d, e, f, e0, e1, e2, e3, e4, e5⟩ := trip_cells h0
  obtain ⟨A, m, cc, g, e6, hm, hr⟩ := field_ints (i := 1) (hff 1 _ rfl) (by omega)
  obtain ⟨l⟩ := cs
  match l, hsz7 with
  | [c0, c1, c2, c3, c4, c5, c6], _ =>
    simp [Value.cells, cells_trip] at e0 e1 e2 e3 e4 e5 e6
    subst e0; subst e1; subst e2; subst e3; subst e4; subst e5; subst e6
    exact ⟨a, b, c, d, e, f, A, m, cc, g, rfl, hm, hr⟩
set_option maxRecDepth 100000 in
theorem open_short {r : Reach} {b0 : Nat} {v : Value} {d : DataW H} {p : List MemPlace} (hv : Value.okWide Tryd.prog w r b0 60 v) (h : DataW.Trod enc Tryd.prog w base spare held 60 v d p) :
    ∃ (at_ lv dr : Int) (tl : Bool) (fr dst but : Int), v = .agg #[.int .i64 at_, .int .i64 lv, .int .i64 dr, .bool tl, .int .i64 fr, .int .i64 dst, .int .i64 but] := by
  obtain ⟨cs, rfl, hsz⟩ := okWide_struct Tryd.underlying60 hv
  have hsz7 : cs.size = 7 := hsz.trans (by kernel_rfl)
  obtain ⟨fuel, hf⟩ := h
  obtain ⟨xs, n', _, _, _, hlen, hff⟩ := DataW.trod_struct Tryd.underlying60 hf
  have hl : xs.length = 2 := hlen
  have h0 := hff 0 _ rfl
  rw [List.getElem?_eq_getElem (show 0 < xs.length by omega)] at h0
  obtain ⟨a, b, c, d, e, f, e0, e1, e2, e3, e4, e5⟩ := trip_cells h0
  obtain ⟨g, e6⟩ := field_int (i := 1) (hff 1 _ rfl) (by omega)
  obtain ⟨l⟩ := cs
  match l, hsz7 with
  | [c0, c1, c2, c3, c4, c5, c6], _ =>
    simp [Value.cells, cells_trip] at e0 e1 e2 e3 e4 e5 e6
    subst e0; subst e1; subst e2; subst e3; subst e4; subst e5; subst e6
    exact ⟨a, b, c, d, e, f, g, rfl⟩
end
end Go.Proofs.YtkdpmihdhiokkaaDoor
