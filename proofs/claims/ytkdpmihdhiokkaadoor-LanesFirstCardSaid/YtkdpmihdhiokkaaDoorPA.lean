/- Charts, legs and slices of ints, opened. -/
import Derived.Test.YtkdpmihdhiokkaaDoorP0
import Derived.Test.YtkdpmihdhiokkaaDoorK12
import Derived.ChangeArms
namespace Go.Proofs.YtkdpmihdhiokkaaDoor
open Go.ChangeShapes Go.WideShapes Go.ChangeAt Go.RowKit Go.Deep Go.Joins

section
variable {P : Program} {H : Type} {enc : TypeId × Value → H} {w : World} {base : Nat} {spare : Nat → Bool} {held : Bool}
theorem array5 {α : Type} {cs : Array α} (h : cs.size = 5) : ∃ c0 c1 c2 c3 c4, cs = #[c0, c1, c2, c3, c4] := by
  obtain ⟨l⟩ := cs
  match l, h with
  | [c0, c1, c2, c3, c4], _ => exact ⟨c0, c1, c2, c3, c4, rfl⟩
theorem open_agg5 {r : Reach} {b0 : Nat} {t : TypeId} {f0 f1 f2 f3 f4 : Field} {v : Value} {d : DataW H} {p : List MemPlace} (hs : P.underlying t = some (.struct #[f0, f1, f2, f3, f4])) (hone : oneCellFields P #[f0, f1, f2, f3, f4] = true) (hC : P.cellsOf t = 5)
    (hv : Value.okWide P w r b0 t v) (h : DataW.Trod enc P w base spare held t v d p) :
    ∃ (v0 v1 v2 v3 v4 : Value) (y0 y1 y2 y3 y4 : DataW H × List MemPlace) (n : Nat), v = .agg #[v0, v1, v2, v3, v4] ∧
      DataW.trod enc P w base spare held n f0.type [v0] = some y0 ∧ DataW.trod enc P w base spare held n f1.type [v1] = some y1 ∧ DataW.trod enc P w base spare held n f2.type [v2] = some y2 ∧ DataW.trod enc P w base spare held n f3.type [v3] = some y3 ∧ DataW.trod enc P w base spare held n f4.type [v4] = some y4 := by
  obtain ⟨cs, rfl, hsz⟩ := okWide_struct hs hv
  obtain ⟨c0, c1, c2, c3, c4, rfl⟩ := array5 (hsz.trans hC)
  obtain ⟨fuel, hf⟩ := h
  obtain ⟨xs, n, _, hx, hl, hlen, hff⟩ := DataW.trod_struct hs hf
  obtain ⟨o0, k0⟩ := hone_of hone 0 f0 rfl
  obtain ⟨o1, k1⟩ := hone_of hone 1 f1 rfl
  obtain ⟨o2, k2⟩ := hone_of hone 2 f2 rfl
  obtain ⟨o3, k3⟩ := hone_of hone 3 f3 rfl
  obtain ⟨o4, k4⟩ := hone_of hone 4 f4 rfl
  match xs, hlen with
  | [y0, y1, y2, y3, y4], _ =>
    refine ⟨c0, c1, c2, c3, c4, y0, y1, y2, y3, y4, n, rfl, ?_, ?_, ?_, ?_, ?_⟩
    · simpa [Value.cells, o0, k0] using hff 0 f0 rfl
    · simpa [Value.cells, o1, k1] using hff 1 f1 rfl
    · simpa [Value.cells, o2, k2] using hff 2 f2 rfl
    · simpa [Value.cells, o3, k3] using hff 3 f3 rfl
    · simpa [Value.cells, o4, k4] using hff 4 f4 rfl
end
section
variable {H : Type} {enc : TypeId × Value → H} {w : World} {base : Nat} {spare : Nat → Bool} {held : Bool}
/-- a slice of ints -/
theorem rd1_of_trod {fuel : Nat} {cs : List Value} {x : DataW H × List MemPlace} (h : DataW.trod enc Tryd.prog w base spare held fuel 22 cs = some x) :
    ∃ A n c f, cs = [.slice A n c] ∧ n ≤ maxLen ∧ n ≤ c ∧ c ≤ maxLen ∧ Rd1 w w.heap.size A n f := by
  obtain ⟨A, n, c, f, e, hn, hc, hm, hr⟩ := rd_of_trod (t := 22) (e := 3) (m := 1) Tryd.underlying22 cells_int (by omega) (fun n l x hx j hj => by
    obtain rfl : j = 0 := by omega
    obtain ⟨v, e, _⟩ := DataW.trod_int Tryd.underlying3 hx
    exact ⟨v, by rw [e]; rfl⟩) h
  refine ⟨A, n, c, fun i => f i 0, e, hn, hc, hm, ?_⟩
  rcases hr with h | ⟨b, off, hA, hb, hc⟩
  · exact .inl h
  · exact .inr ⟨b, off, hA, hb, fun i hi => by have := hc i 0 hi (by omega); simpa using this⟩
theorem span_ints {n : Nat} {l : List Value} {x : DataW H × List MemPlace} (h : DataW.trod enc Tryd.prog w base spare held n 52 l = some x) : ∀ j, j < 2 → ∃ v, l[j]? = some (.int .i64 v) := by
  obtain ⟨xs, n', _, _, _, hlen, hf⟩ := DataW.trod_struct Tryd.underlying52 h
  have hl : xs.length = 2 := hlen
  intro j hj
  obtain rfl | rfl : j = 0 ∨ j = 1 := by omega
  · exact field_int (i := 0) (hf 0 _ rfl) (by omega)
  · exact field_int (i := 1) (hf 1 _ rfl) (by omega)
set_option maxRecDepth 100000 in
/-- a chart by value -/
theorem open_chart {r : Reach} {b0 : Nat} {v : Value} {d : DataW H} {p : List MemPlace} (hv : Value.okWide Tryd.prog w r b0 25 v) (h : DataW.Trod enc Tryd.prog w base spare held 25 v d p) :
    ∃ (W H' : Int) (dA tA sA : Option Addr) (nd dc nt tc ns sc : Nat) (dep : Nat → Int) (tide : Nat → Nat → Int) (sw : Nat → Int), v = .agg #[.int .i64 W, .int .i64 H', .slice dA nd dc, .slice tA nt tc, .slice sA ns sc] ∧ nd ≤ maxLen ∧ nt ≤ maxLen ∧ ns ≤ maxLen ∧ RdC w w.heap.size dA tA sA nd nt ns dep tide sw := by
  obtain ⟨v0, v1, v2, v3, v4, y0, y1, y2, y3, y4, n, rfl, h0, h1, h2, h3, h4⟩ := open_agg5 Tryd.underlying25 (by kernel_rfl) (by kernel_rfl) hv h
  obtain ⟨W, e0, _⟩ := DataW.trod_int Tryd.underlying3 h0
  obtain ⟨H', e1, _⟩ := DataW.trod_int Tryd.underlying3 h1
  obtain ⟨dA, nd, dc, dep, e2, hnd, _, _, hd⟩ := rd1_of_trod h2
  obtain ⟨tA, nt, tc, tide, e3, hnt, _, _, ht⟩ := rd_of_trod (t := 23) (e := 52) (m := 2) Tryd.underlying23 (by kernel_rfl) (by omega) (fun _ _ _ h => span_ints h) h3
  obtain ⟨sA, ns, sc, sw, e4, hns, _, _, hs⟩ := rd1_of_trod h4
  injection e0 with e0 _
  injection e1 with e1 _
  injection e2 with e2 _
  injection e3 with e3 _
  injection e4 with e4 _
  subst e0; subst e1; subst e2; subst e3; subst e4
  exact ⟨W, H', dA, tA, sA, nd, dc, nt, tc, ns, sc, dep, tide, sw, rfl, hnd, hnt, hns, ⟨hd, ht, hs⟩⟩
set_option maxRecDepth 100000 in
/-- a leg by value -/
theorem open_leg {r : Reach} {b0 : Nat} {v : Value} {d : DataW H} {p : List MemPlace} (hv : Value.okWide Tryd.prog w r b0 41 v) (h : DataW.Trod enc Tryd.prog w base spare held 41 v d p) :
    ∃ (l : M.Leg) (cA : Option Addr) (cc : Nat), v = .agg #[.int .i64 l.at_, .int .i64 l.lv, .int .i64 l.dr, .bool l.tail, .slice cA l.n cc] ∧ l.n ≤ maxLen ∧ Rd1 w w.heap.size cA l.n l.c := by
  obtain ⟨v0, v1, v2, v3, v4, y0, y1, y2, y3, y4, n, rfl, h0, h1, h2, h3, h4⟩ := open_agg5 Tryd.underlying41 (by kernel_rfl) (by kernel_rfl) hv h
  obtain ⟨a, e0, _⟩ := DataW.trod_int Tryd.underlying3 h0
  obtain ⟨b, e1, _⟩ := DataW.trod_int Tryd.underlying3 h1
  obtain ⟨c, e2, _⟩ := DataW.trod_int Tryd.underlying3 h2
  obtain ⟨tl, e3, _⟩ := DataW.trod_bool Tryd.underlying4 h3
  obtain ⟨cA, m, cc, f, e4, hm, _, _, hr⟩ := rd1_of_trod h4
  injection e0 with e0 _
  injection e1 with e1 _
  injection e2 with e2 _
  injection e3 with e3 _
  injection e4 with e4 _
  subst e0; subst e1; subst e2; subst e3; subst e4
  exact ⟨⟨a, b, c, tl, m, f⟩, cA, cc, rfl, hm, hr⟩
end
end Go.Proofs.YtkdpmihdhiokkaaDoor
