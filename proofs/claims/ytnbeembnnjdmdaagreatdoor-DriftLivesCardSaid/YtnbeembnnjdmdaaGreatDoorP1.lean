/- Opening the arguments of the rows to what the walks read; what a row that answers true and changes nothing leaves. -/
import Derived.Test.YtnbeembnnjdmdaaGreatDoorBase
import Derived.Test.YtnbeembnnjdmdaaGreatDoorD0
import Derived.ProofKit
import Derived.OpenShut
import Derived.Carry
import Derived.Deep.Slices
import Derived.Lib.SmallJoins
import Derived.ChangeArms
import Derived.Test.YtnbeembnnjdmdaaGreatDoorD15
namespace Go.Proofs.YtnbeembnnjdmdaaGreatDoor
open Go.ChangeShapes Go.WideShapes Go.ChangeAt Go.RowKit Go.Deep Go.Joins

theorem own : ownKnob Tryz.prog.godebug = none := by kernel_rfl

section
variable {H : Type} {enc : TypeId × Value → H} {w : World} {base : Nat} {spare : Nat → Bool} {held : Bool}
theorem int_at {n : Nat} {l : List Value} {o : Nat} {x : DataW H × List MemPlace} (h : DataW.trod enc Tryz.prog w base spare held n 3 ((l.drop o).take 1) = some x) : ∃ v, l[o]? = some (.int .i64 v) := by
 obtain ⟨v, e, _⟩ := DataW.trod_int Tryz.underlying3 h
 have := congrArg (fun l => l[0]?) e
 exact ⟨v, by simpa using this⟩
theorem field_int {n i o : Nat} {l : List Value} {xs : List (DataW H × List MemPlace)} (h : DataW.trod enc Tryz.prog w base spare held n 3 ((l.drop o).take (Tryz.prog.cellsOf 3)) = xs[i]?) (hi : i < xs.length) : ∃ v, l[o]? = some (.int .i64 v) := by
 rw [cells_int, List.getElem?_eq_getElem hi] at h
 exact int_at h
theorem cell_spot {a : Addr} {v : Value} (h : w.cell? a = some v) : a.spot = none := by
 unfold World.cell? at h
 cases hs : a.spot with
 | none => rfl
 | some s => split at h <;> simp [hs] at h
theorem addr_add (b off o : Nat) : (⟨b, off, none⟩ : Addr).add o = ⟨b, off + o, none⟩ := by
 unfold Addr.add
 split
 · subst_vars; rfl
 · rfl
def intOfCell : Option Value → Int
 | some (.int _ n) => n
 | _ => 0
theorem rd_of_trod {fuel m : Nat} {t e : TypeId} {cs : List Value} {x : DataW H × List MemPlace} (ht : Tryz.prog.underlying t = some (.slice e)) (hC : Tryz.prog.cellsOf e = m) (hm : 0 < m)
  (hI : ∀ n l x, DataW.trod enc Tryz.prog w base spare held n e l = some x → ∀ j, j < m → ∃ v, l[j]? = some (.int .i64 v)) (h : DataW.trod enc Tryz.prog w base spare held fuel t cs = some x) :
  ∃ A n c f, cs = [.slice A n c] ∧ n ≤ maxLen ∧ n ≤ c ∧ c ≤ maxLen ∧ Rd w w.heap.size A m n f := by
 rcases open_slice ht h with ⟨rfl, _⟩ | ⟨a, len, cap, k, n, D, Pl, rfl, _, hl, hmx, hk, _, hi⟩
 · exact ⟨none, 0, 0, fun _ _ => 0, rfl, by unfold maxLen; omega, Nat.le_refl _, by unfold maxLen; omega, .inl rfl⟩
 ·
  have hlk : len ≤ k := by rw [hk]; split <;> omega
  rw [hC] at hi
  have hcell : ∀ i, i < len → ∀ j, j < m → ∃ v, w.cell? ((a.add (i * m)).add j) = some (.int .i64 v) := by
   intro i hil j hj
   obtain ⟨cs', hc, ht'⟩ := hi i (by omega)
   obtain ⟨_, _, hat⟩ := World.cells?_some hc
   obtain ⟨v, hv⟩ := hI _ _ _ ht' j hj
   exact ⟨v, (hat j hj).trans hv⟩
  rcases Nat.eq_zero_or_pos len with rfl | hpos
  · exact ⟨_, 0, cap, fun _ _ => 0, rfl, by omega, by omega, hmx, .inl rfl⟩
  ·
   obtain ⟨b, off, spot⟩ := a
   obtain rfl : spot = none := by
    obtain ⟨v, hv⟩ := hcell 0 hpos 0 hm
    have h0 := cell_spot hv
    unfold Addr.add at h0
    split at h0
    · simp_all
    · split at h0 <;> simp_all
   have hcell' : ∀ i, i < len → ∀ j, j < m → ∃ v, w.cell? ⟨b, off + (i * m + j), none⟩ = some (.int .i64 v) := fun i hil j hj => by
    obtain ⟨v, hv⟩ := hcell i hil j hj
    rw [addr_add, addr_add] at hv
    exact ⟨v, by rw [← hv, Nat.add_assoc]⟩
   refine ⟨some ⟨b, off, none⟩, len, cap, fun i j => intOfCell (w.cell? ⟨b, off + (i * m + j), none⟩), rfl, by omega, hl, hmx, .inr ⟨b, off, rfl, ?_, fun i j hil hj => ?_⟩⟩
   ·
    obtain ⟨v, hv⟩ := hcell' 0 hpos 0 hm
    exact World.block_lt_of_cell? w _ hv
   ·
    obtain ⟨v, hv⟩ := hcell' i hil j hj
    rw [hv]
    simp [intOfCell, hv]
end

section
variable {H : Type} {enc : TypeId × Value → H}
theorem trodAll_below {W W' : World} (hb : Below W.heap.size W W') : ∀ {ts : List TypeId} {vs : List Value} {ds : List (DataW H)} {ps : List MemPlace}, (∀ t ∈ ts, Tryz.prog.readableRec t = true ∧ t < Tryz.prog.types.size) →
  DataW.TrodAll enc Tryz.prog W 0 (fun _ => true) true ts vs ds ps → (∀ x ∈ ps, x.block < W.heap.size) → DataW.TrodAll enc Tryz.prog W' 0 (fun b => decide (b < W.heap.size)) true ts vs ds ps
 | [], [], [], _, _, h, _ => h
 | [], _ :: _, _, _, _, h, _ => h.elim
 | [], [], _ :: _, _, _, h, _ => h.elim
 | _ :: _, [], _, _, _, h, _ => h.elim
 | _ :: _, _ :: _, [], _, _, h, _ => h.elim
 | t :: ts, v :: vs, d :: ds, ps, hr, h, hlt => by
  obtain ⟨p, q, h1, h2, rfl⟩ := h
  exact ⟨p, q, Below.trod laid_out (hr t (by simp)).1 (hr t (by simp)).2 h1 hb (fun x hx => hlt x (by simp [hx])), trodAll_below hb (fun t ht => hr t (by simp [ht])) h2 (fun x hx => hlt x (by simp [hx])), rfl⟩

theorem post_true {f : Func} {s : ChangeSpec} {W W' : World} {args : Array Value} {ds gs : List (DataW H)} {before : List MemPlace} (hv : s.vars = []) (hrt : f.resultTypes = #[4]) (hpar : ∀ t ∈ f.params.toList, Tryz.prog.readableRec t = true ∧ t < Tryz.prog.types.size)
  (hW : DataW.Whole enc Tryz.prog f.params.toList s.vars false W args.toList ds gs before) (h1 : (s.fn H (ds ++ gs)).results = [.lit (.bool true)]) (h2 : (s.fn H (ds ++ gs)).args = ds) (h3 : (s.fn H (ds ++ gs)).vars = []) (hb : Below W.heap.size W W') :
  s.post enc Tryz.prog f false true false false W args (.bool true) W' := by
 have hW' := hW
 have hlt := hW.lt
 obtain ⟨p, q, hA, hV, rfl, _, _⟩ := hW
 rw [hv] at hV
 obtain ⟨rfl, rfl⟩ := trodVars_none hV
 refine ⟨ds, [], p ++ [], [], p ++ [], [], hW', ?_, ?_, ?_, World.keptBut_mono (fun x hx => ⟨hx, .inr (.inl hx)⟩) (hb.frame (· ∈ p ++ [])), fun h => by cases h⟩
 ·
  rw [h1, hrt]
  exact trodAll_mk1 (shut_bool Tryz.underlying4 _)
 ·
  rw [h2]
  rw [List.append_nil] at hlt ⊢
  exact trodAll_below hb hpar hA hlt
 ·
  rw [h3, hv]
  exact (rfl : ([] : List MemPlace) = [])
end
end Go.Proofs.YtnbeembnnjdmdaaGreatDoor
/- Drifts, opened. -/
namespace Go.Proofs.YtnbeembnnjdmdaaGreatDoor
open Go.ChangeShapes Go.WideShapes Go.ChangeAt Go.RowKit Go.Deep Go.Joins

section
variable {H : Type} {enc : TypeId × Value → H} {w : World} {base : Nat} {spare : Nat → Bool} {held : Bool}
theorem rd1_of_trod {fuel : Nat} {cs : List Value} {x : DataW H × List MemPlace} (h : DataW.trod enc Tryz.prog w base spare held fuel 22 cs = some x) :
  ∃ A n c f, cs = [.slice A n c] ∧ n ≤ maxLen ∧ n ≤ c ∧ c ≤ maxLen ∧ Rd1 w w.heap.size A n f := by
 obtain ⟨A, n, c, f, e, hn, hc, hm, hr⟩ := rd_of_trod (t := 22) (e := 3) (m := 1) Tryz.underlying22 cells_int (by omega) (fun n l x hx j hj => by
  obtain rfl : j = 0 := by omega
  obtain ⟨v, e, _⟩ := DataW.trod_int Tryz.underlying3 hx
  exact ⟨v, by rw [e]; rfl⟩) h
 refine ⟨A, n, c, fun i => f i 0, e, hn, hc, hm, ?_⟩
 rcases hr with h | ⟨b, off, hA, hb, hc⟩
 · exact .inl h
 · exact .inr ⟨b, off, hA, hb, fun i hi => by have := hc i 0 hi (by omega); simpa using this⟩
theorem span_ints {n : Nat} {l : List Value} {x : DataW H × List MemPlace} (h : DataW.trod enc Tryz.prog w base spare held n 42 l = some x) : ∀ j, j < 2 → ∃ v, l[j]? = some (.int .i64 v) := by
 obtain ⟨xs, n', _, _, _, hlen, hf⟩ := DataW.trod_struct Tryz.underlying42 h
 have hl : xs.length = 2 := hlen
 intro j hj
 obtain rfl | rfl : j = 0 ∨ j = 1 := by omega
 · exact field_int (i := 0) (hf 0 _ rfl) (by omega)
 · exact field_int (i := 1) (hf 1 _ rfl) (by omega)
theorem cells_ints : Tryz.prog.cellsOf 22 = 1 := by kernel_rfl
theorem cells_bool : Tryz.prog.cellsOf 4 = 1 := by kernel_rfl
theorem field_bool {n i o : Nat} {l : List Value} {xs : List (DataW H × List MemPlace)} (h : DataW.trod enc Tryz.prog w base spare held n 4 ((l.drop o).take (Tryz.prog.cellsOf 4)) = xs[i]?) (hi : i < xs.length) : ∃ v, l[o]? = some (.bool v) := by
 rw [cells_bool, List.getElem?_eq_getElem hi] at h
 obtain ⟨v, e, _⟩ := DataW.trod_bool Tryz.underlying4 h
 have := congrArg (fun l => l[0]?) e
 exact ⟨v, by simpa using this⟩
theorem field_ints {n i o : Nat} {l : List Value} {xs : List (DataW H × List MemPlace)} (h : DataW.trod enc Tryz.prog w base spare held n 22 ((l.drop o).take (Tryz.prog.cellsOf 22)) = xs[i]?) (hi : i < xs.length) :
  ∃ A m c f, l[o]? = some (.slice A m c) ∧ m ≤ maxLen ∧ Rd1 w w.heap.size A m f := by
 rw [cells_ints, List.getElem?_eq_getElem hi] at h
 obtain ⟨A, m, c, f, e, hm, _, _, hr⟩ := rd1_of_trod h
 have := congrArg (fun l => l[0]?) e
 exact ⟨A, m, c, f, by simpa using this, hm, hr⟩
theorem cells_span : Tryz.prog.cellsOf 42 = 2 := by kernel_rfl
theorem cells_push : Tryz.prog.cellsOf 142 = 3 := by kernel_rfl
theorem cells_chart : Tryz.prog.cellsOf 25 = 5 := by kernel_rfl
theorem cells_spans : Tryz.prog.cellsOf 23 = 1 := by kernel_rfl
theorem cells_pushes : Tryz.prog.cellsOf 27 = 1 := by kernel_rfl
theorem cells_rows : Tryz.prog.cellsOf 26 = 1 := by kernel_rfl
theorem push_ints {n : Nat} {l : List Value} {x : DataW H × List MemPlace} (h : DataW.trod enc Tryz.prog w base spare held n 142 l = some x) : ∀ j, j < 3 → ∃ v, l[j]? = some (.int .i64 v) := by
 obtain ⟨xs, n', _, _, _, hlen, hf⟩ := DataW.trod_struct Tryz.underlying142 h
 have hl : xs.length = 2 := hlen
 have h1 : DataW.trod enc Tryz.prog w base spare held n' 42 ((l.drop 1).take (Tryz.prog.cellsOf 42)) = xs[1]? := by simpa [cells_int] using hf 1 _ rfl
 rw [cells_span, List.getElem?_eq_getElem (show 1 < xs.length by omega)] at h1
 intro j hj
 obtain rfl | rfl | rfl : j = 0 ∨ j = 1 ∨ j = 2 := by omega
 · exact field_int (i := 0) (hf 0 _ rfl) (by omega)
 ·
  obtain ⟨v, hv⟩ := span_ints h1 0 (by omega)
  exact ⟨v, by simpa [List.getElem?_take, List.getElem?_drop] using hv⟩
 ·
  obtain ⟨v, hv⟩ := span_ints h1 1 (by omega)
  exact ⟨v, by simpa [List.getElem?_take, List.getElem?_drop] using hv⟩
theorem pushes_of_trod {fuel : Nat} {cs : List Value} {x : DataW H × List MemPlace} (h : DataW.trod enc Tryz.prog w base spare held fuel 27 cs = some x) : ∃ A n c f, cs = [.slice A n c] ∧ n ≤ maxLen ∧ n ≤ c ∧ c ≤ maxLen ∧ Rd w w.heap.size A 3 n f :=
 rd_of_trod (t := 27) (e := 142) (m := 3) Tryz.underlying27 cells_push (by omega) (fun _ _ _ h => push_ints h) h
theorem field_spans {n i o : Nat} {l : List Value} {xs : List (DataW H × List MemPlace)} (h : DataW.trod enc Tryz.prog w base spare held n 23 ((l.drop o).take (Tryz.prog.cellsOf 23)) = xs[i]?) (hi : i < xs.length) :
  ∃ A m c f, l[o]? = some (.slice A m c) ∧ m ≤ maxLen ∧ Rd w w.heap.size A 2 m f := by
 rw [cells_spans, List.getElem?_eq_getElem hi] at h
 obtain ⟨A, m, c, f, e, hm, _, _, hr⟩ := rd_of_trod (t := 23) (e := 42) (m := 2) Tryz.underlying23 cells_span (by omega) (fun _ _ _ h => span_ints h) h
 have := congrArg (fun l => l[0]?) e
 exact ⟨A, m, c, f, by simpa using this, hm, hr⟩
theorem field_pushes {n i o : Nat} {l : List Value} {xs : List (DataW H × List MemPlace)} (h : DataW.trod enc Tryz.prog w base spare held n 27 ((l.drop o).take (Tryz.prog.cellsOf 27)) = xs[i]?) (hi : i < xs.length) :
  ∃ A m c f, l[o]? = some (.slice A m c) ∧ m ≤ maxLen ∧ Rd w w.heap.size A 3 m f := by
 rw [cells_pushes, List.getElem?_eq_getElem hi] at h
 obtain ⟨A, m, c, f, e, hm, _, _, hr⟩ := pushes_of_trod h
 have := congrArg (fun l => l[0]?) e
 exact ⟨A, m, c, f, by simpa using this, hm, hr⟩
def RowAt (w : World) (v : Option Value) (g : Nat × (Nat → Nat → Int)) : Prop := ∃ rA rc, v = some (.slice rA g.1 rc) ∧ Rd w w.heap.size rA 3 g.1 g.2 ∧ g.1 ≤ maxLen
theorem rdP_of_trod {fuel : Nat} {cs : List Value} {x : DataW H × List MemPlace} (h : DataW.trod enc Tryz.prog w base spare held fuel 26 cs = some x) :
  ∃ A n c cl cu, cs = [.slice A n c] ∧ n ≤ maxLen ∧ RdP w w.heap.size A n cl cu := by
 rcases open_slice Tryz.underlying26 h with ⟨rfl, _⟩ | ⟨a, len, cap, k, n, D, Pl, rfl, _, hl, hmx, hk, _, hi⟩
 · exact ⟨none, 0, 0, fun _ => 0, fun _ _ _ => 0, rfl, by unfold maxLen; omega, .inl rfl⟩
 ·
  have hlk : len ≤ k := by rw [hk]; split <;> omega
  rw [cells_pushes] at hi
  have hcell : ∀ i, i < len → ∃ g, RowAt w (w.cell? (a.add (i * 1))) g := by
   intro i hil
   obtain ⟨cs', hc, ht'⟩ := hi i (by omega)
   obtain ⟨_, _, hat⟩ := World.cells?_some hc
   obtain ⟨A, m, c, f, e, hm, _, _, hr⟩ := pushes_of_trod ht'
   have h0 := hat 0 (by omega)
   rw [e] at h0
   refine ⟨⟨m, f⟩, A, c, ?_, hr, hm⟩
   have e2 : (a.add (i * 1)).add 0 = a.add (i * 1) := by
    unfold Addr.add
    simp
   rw [e2] at h0
   simpa using h0
  rcases Nat.eq_zero_or_pos len with rfl | hpos
  · exact ⟨_, 0, cap, fun _ => 0, fun _ _ _ => 0, rfl, by omega, .inl rfl⟩
  ·
   obtain ⟨b, off, spot⟩ := a
   obtain rfl : spot = none := by
    obtain ⟨g, rA, rc, hv, _⟩ := hcell 0 hpos
    have h0 := cell_spot hv
    unfold Addr.add at h0
    simp at h0
    exact h0
   have hcell' : ∀ i, i < len → ∃ g, RowAt w (w.cell? ⟨b, off + i, none⟩) g := fun i hil => by
    obtain ⟨g, hg⟩ := hcell i hil
    rw [addr_add, Nat.mul_one] at hg
    exact ⟨g, hg⟩
   refine ⟨some ⟨b, off, none⟩, len, cap, fun i => (if h : i < len then Classical.choose (hcell' i h) else (0, fun _ _ => 0)).1, fun i => (if h : i < len then Classical.choose (hcell' i h) else (0, fun _ _ => 0)).2, rfl, by omega, .inr ⟨b, off, rfl, ?_, fun i hil => ?_⟩⟩
   ·
    obtain ⟨g, rA, rc, hv, _⟩ := hcell' 0 hpos
    exact World.block_lt_of_cell? w _ hv
   ·
    show ∃ rA rc, w.cell? ⟨b, off + i, none⟩ = some (.slice rA (if h : i < len then Classical.choose (hcell' i h) else (0, fun _ _ => 0)).1 rc) ∧ Rd w w.heap.size rA 3 (if h : i < len then Classical.choose (hcell' i h) else (0, fun _ _ => 0)).1 (if h : i < len then Classical.choose (hcell' i h) else (0, fun _ _ => 0)).2 ∧ (if h : i < len then Classical.choose (hcell' i h) else (0, fun _ _ => 0)).1 ≤ maxLen
    rw [dif_pos hil]
    exact Classical.choose_spec (hcell' i hil)
theorem field_rows {n i o : Nat} {l : List Value} {xs : List (DataW H × List MemPlace)} (h : DataW.trod enc Tryz.prog w base spare held n 26 ((l.drop o).take (Tryz.prog.cellsOf 26)) = xs[i]?) (hi : i < xs.length) :
  ∃ A m c cl cu, l[o]? = some (.slice A m c) ∧ m ≤ maxLen ∧ RdP w w.heap.size A m cl cu := by
 rw [cells_rows, List.getElem?_eq_getElem hi] at h
 obtain ⟨A, m, c, cl, cu, e, hm, hr⟩ := rdP_of_trod h
 have := congrArg (fun l => l[0]?) e
 exact ⟨A, m, c, cl, cu, by simpa using this, hm, hr⟩
theorem chart_cells {n : Nat} {l : List Value} {x : DataW H × List MemPlace} (h : DataW.trod enc Tryz.prog w base spare held n 25 l = some x) :
  ∃ (W H' : Int) (dA tA sA : Option Addr) (nd dc nt tc ns sc : Nat) (dep : Nat → Int) (tide : Nat → Nat → Int) (sw : Nat → Int), l[0]? = some (.int .i64 W) ∧ l[1]? = some (.int .i64 H') ∧ l[2]? = some (.slice dA nd dc) ∧ l[3]? = some (.slice tA nt tc) ∧ l[4]? = some (.slice sA ns sc) ∧ nd ≤ maxLen ∧ nt ≤ maxLen ∧ ns ≤ maxLen ∧ RdC w w.heap.size dA tA sA nd nt ns dep tide sw := by
 obtain ⟨xs, n', _, _, _, hlen, hf⟩ := DataW.trod_struct Tryz.underlying25 h
 have hl : xs.length = 5 := hlen
 obtain ⟨W, e0⟩ := field_int (i := 0) (hf 0 _ rfl) (by omega)
 obtain ⟨H', e1⟩ := field_int (i := 1) (hf 1 _ rfl) (by omega)
 obtain ⟨dA, nd, dc, dep, e2, hnd, hd⟩ := field_ints (i := 2) (hf 2 _ rfl) (by omega)
 obtain ⟨tA, nt, tc, tide, e3, hnt, ht⟩ := field_spans (i := 3) (hf 3 _ rfl) (by omega)
 obtain ⟨sA, ns, sc, sw, e4, hns, hs⟩ := field_ints (i := 4) (hf 4 _ rfl) (by omega)
 exact ⟨W, H', dA, tA, sA, nd, dc, nt, tc, ns, sc, dep, tide, sw, e0, e1, e2, e3, e4, hnd, hnt, hns, ⟨hd, ht, hs⟩⟩
set_option maxRecDepth 100000 in
theorem open_drift {r : Reach} {b0 : Nat} {v : Value} {d : DataW H} {p : List MemPlace} (hv : Value.okWide Tryz.prog w r b0 29 v) (h : DataW.Trod enc Tryz.prog w base spare held 29 v d p) :
  ∃ (W H' : Int) (dA tA sA zA cA wA : Option Addr) (nd dc nt tc ns sc zn zc cn cc wn wc : Nat) (dep : Nat → Int) (tide : Nat → Nat → Int) (sw z : Nat → Int) (cl : Nat → Nat) (cu : Nat → Nat → Nat → Int) (wd : Nat → Nat → Int),
   v = .agg #[.int .i64 W, .int .i64 H', .slice dA nd dc, .slice tA nt tc, .slice sA ns sc, .slice zA zn zc, .slice cA cn cc, .slice wA wn wc] ∧ nd ≤ maxLen ∧ nt ≤ maxLen ∧ ns ≤ maxLen ∧ zn ≤ maxLen ∧ cn ≤ maxLen ∧ wn ≤ maxLen ∧ RdD w w.heap.size dA tA sA zA cA wA nd nt ns zn cn wn dep tide sw z cl cu wd := by
 obtain ⟨cs, rfl, hsz⟩ := okWide_struct Tryz.underlying29 hv
 have hsz8 : cs.size = 8 := hsz.trans (by kernel_rfl)
 obtain ⟨fuel, hf⟩ := h
 obtain ⟨xs, n', _, _, _, hlen, hff⟩ := DataW.trod_struct Tryz.underlying29 hf
 have hl : xs.length = 4 := hlen
 have h0 := hff 0 _ rfl
 rw [List.getElem?_eq_getElem (show 0 < xs.length by omega)] at h0
 obtain ⟨W, H', dA, tA, sA, nd, dc, nt, tc, ns, sc, dep, tide, sw, e0, e1, e2, e3, e4, hnd, hnt, hns, hC⟩ := chart_cells h0
 obtain ⟨zA, zn, zc, z, e5, hzn, hz⟩ := field_ints (i := 1) (hff 1 _ rfl) (by omega)
 obtain ⟨cA, cn, cc, cl, cu, e6, hcn, hc⟩ := field_rows (i := 2) (hff 2 _ rfl) (by omega)
 obtain ⟨wA, wn, wc, wd, e7, hwn, hw⟩ := field_pushes (i := 3) (hff 3 _ rfl) (by omega)
 obtain ⟨l⟩ := cs
 match l, hsz8 with
 | [c0, c1, c2, c3, c4, c5, c6, c7], _ =>
  simp [Value.cells, cells_chart] at e0 e1 e2 e3 e4 e5 e6 e7
  subst e0; subst e1; subst e2; subst e3; subst e4; subst e5; subst e6; subst e7
  exact ⟨W, H', dA, tA, sA, zA, cA, wA, nd, dc, nt, tc, ns, sc, zn, zc, cn, cc, wn, wc, dep, tide, sw, z, cl, cu, wd, rfl, hnd, hnt, hns, hzn, hcn, hwn, ⟨hC, hz, hc, hw⟩⟩
end
end Go.Proofs.YtnbeembnnjdmdaaGreatDoor
/- Sightings, drifters and what holds them, opened. -/
namespace Go.Proofs.YtnbeembnnjdmdaaGreatDoor
open Go.ChangeShapes Go.WideShapes Go.ChangeAt Go.RowKit Go.Deep Go.Joins

section
variable {H : Type} {enc : TypeId × Value → H} {w : World} {base : Nat} {spare : Nat → Bool} {held : Bool}
theorem cells_sg : Tryz.prog.cellsOf 68 = 3 := by kernel_rfl
theorem cells_sgs : Tryz.prog.cellsOf 45 = 1 := by kernel_rfl
theorem rd1_list {A : Option Addr} {n : Nat} {f : Nat → Int} (h : Rd1 w w.heap.size A n f) : ∃ L : List Int, L.length = n ∧ Rd1 w w.heap.size A L.length (fun k => L.getD k 0) := by
 refine ⟨(List.range n).map f, by simp, ?_⟩
 rw [show ((List.range n).map f).length = n by simp]
 rcases h with h | ⟨b, off, hA, hb, hc⟩
 · exact .inl h
 ·
  refine .inr ⟨b, off, hA, hb, fun i hi => ?_⟩
  rw [hc i hi]
  simp [List.getD_eq_getElem?_getD, List.getElem?_map, List.getElem?_range hi]
def SgAt (w : World) (l : Nat → Option Value) (x : SgV) : Prop := (l 0 = some (.int .i64 x.tk) ∧ l 1 = some (.slice x.A x.L.length x.c) ∧ l 2 = some (.bool x.seen)) ∧ Rd1 w w.heap.size x.A x.L.length (fun k => x.L.getD k 0) ∧ x.L.length ≤ maxLen
theorem sg_cells {n : Nat} {l : List Value} {x : DataW H × List MemPlace} (h : DataW.trod enc Tryz.prog w base spare held n 68 l = some x) : ∃ s, SgAt w (fun j => l[j]?) s := by
 obtain ⟨xs, n', _, _, _, hlen, hf⟩ := DataW.trod_struct Tryz.underlying68 h
 have hl : xs.length = 3 := hlen
 obtain ⟨tk, e0⟩ := field_int (i := 0) (hf 0 _ rfl) (by omega)
 obtain ⟨A, m, c, f, e1, hm, hr⟩ := field_ints (i := 1) (hf 1 _ rfl) (by omega)
 obtain ⟨sn, e2⟩ := field_bool (i := 2) (hf 2 _ rfl) (by omega)
 obtain ⟨L, rfl, hL⟩ := rd1_list hr
 exact ⟨⟨tk, A, c, L, sn⟩, ⟨e0, e1, e2⟩, hL, hm⟩
theorem rdS_of_trod {fuel : Nat} {cs : List Value} {x : DataW H × List MemPlace} (h : DataW.trod enc Tryz.prog w base spare held fuel 45 cs = some x) :
  ∃ A n c Xs, cs = [.slice A n c] ∧ n ≤ maxLen ∧ RdS w w.heap.size A n Xs := by
 rcases open_slice Tryz.underlying45 h with ⟨rfl, _⟩ | ⟨a, len, cap, k, n, D, Pl, rfl, _, hl, hmx, hk, _, hi⟩
 · exact ⟨none, 0, 0, fun _ => ⟨0, none, 0, [], false⟩, rfl, by unfold maxLen; omega, .inl rfl⟩
 ·
  have hlk : len ≤ k := by rw [hk]; split <;> omega
  rw [cells_sg] at hi
  have hcell : ∀ i, i < len → ∃ s, SgAt w (fun j => w.cell? ((a.add (i * 3)).add j)) s := by
   intro i hil
   obtain ⟨cs', hc, ht'⟩ := hi i (by omega)
   obtain ⟨_, _, hat⟩ := World.cells?_some hc
   obtain ⟨s, ⟨h0, h1, h2⟩, h3⟩ := sg_cells ht'
   exact ⟨s, ⟨(hat 0 (by omega)).trans h0, (hat 1 (by omega)).trans h1, (hat 2 (by omega)).trans h2⟩, h3⟩
  rcases Nat.eq_zero_or_pos len with rfl | hpos
  · exact ⟨_, 0, cap, fun _ => ⟨0, none, 0, [], false⟩, rfl, by omega, .inl rfl⟩
  ·
   obtain ⟨b, off, spot⟩ := a
   obtain rfl : spot = none := by
    obtain ⟨s, ⟨hv, _, _⟩, _⟩ := hcell 0 hpos
    have h0 := cell_spot hv
    unfold Addr.add at h0
    simp at h0
    exact h0
   have hcell' : ∀ i, i < len → ∃ s, SgAt w (fun j => w.cell? ⟨b, off + i * 3 + j, none⟩) s := fun i hil => by
    obtain ⟨s, hs⟩ := hcell i hil
    simp only [addr_add] at hs
    exact ⟨s, hs⟩
   obtain ⟨Xs, hXs⟩ : ∃ Xs : Nat → SgV, ∀ i, i < len → SgAt w (fun j => w.cell? ⟨b, off + i * 3 + j, none⟩) (Xs i) :=
    ⟨fun i => if h : i < len then Classical.choose (hcell' i h) else ⟨0, none, 0, [], false⟩, fun i hil => by
     dsimp only
     rw [dif_pos hil]
     exact Classical.choose_spec (hcell' i hil)⟩
   refine ⟨some ⟨b, off, none⟩, len, cap, Xs, rfl, by omega, .inr ⟨b, off, rfl, ?_, fun i hil => hXs i hil⟩⟩
   obtain ⟨s, ⟨hv, _, _⟩, _⟩ := hcell' 0 hpos
   exact World.block_lt_of_cell? w _ hv
theorem field_sgs {n i o : Nat} {l : List Value} {xs : List (DataW H × List MemPlace)} (h : DataW.trod enc Tryz.prog w base spare held n 45 ((l.drop o).take (Tryz.prog.cellsOf 45)) = xs[i]?) (hi : i < xs.length) :
  ∃ A m c Xs, l[o]? = some (.slice A m c) ∧ m ≤ maxLen ∧ RdS w w.heap.size A m Xs := by
 rw [cells_sgs, List.getElem?_eq_getElem hi] at h
 obtain ⟨A, m, c, Xs, e, hm, hr⟩ := rdS_of_trod h
 have := congrArg (fun l => l[0]?) e
 exact ⟨A, m, c, Xs, by simpa using this, hm, hr⟩
theorem field_span {n i o : Nat} {l : List Value} {xs : List (DataW H × List MemPlace)} (h : DataW.trod enc Tryz.prog w base spare held n 42 ((l.drop o).take (Tryz.prog.cellsOf 42)) = xs[i]?) (hi : i < xs.length) : ∃ a b, l[o]? = some (.int .i64 a) ∧ l[o + 1]? = some (.int .i64 b) := by
 rw [cells_span, List.getElem?_eq_getElem hi] at h
 obtain ⟨a, ha⟩ := span_ints h 0 (by omega)
 obtain ⟨b, hb⟩ := span_ints h 1 (by omega)
 exact ⟨a, b, by simpa [List.getElem?_take, List.getElem?_drop] using ha, by simpa [List.getElem?_take, List.getElem?_drop] using hb⟩
set_option maxRecDepth 100000 in
theorem open_drifter {r : Reach} {b0 : Nat} {v : Value} {d : DataW H} {p : List MemPlace} (hv : Value.okWide Tryz.prog w r b0 44 v) (h : DataW.Trod enc Tryz.prog w base spare held 44 v d p) :
  ∃ (at_ lo hi : Int) (xA : Option Addr) (xL : List Int) (xc : Nat), v = .agg #[.int .i64 at_, .slice xA xL.length xc, .int .i64 lo, .int .i64 hi] ∧ xL.length ≤ maxLen ∧ Rd1 w w.heap.size xA xL.length (fun k => xL.getD k 0) := by
 obtain ⟨cs, rfl, hsz⟩ := okWide_struct Tryz.underlying44 hv
 have hsz4 : cs.size = 4 := hsz.trans (by kernel_rfl)
 obtain ⟨fuel, hf⟩ := h
 obtain ⟨xs, n', _, _, _, hlen, hff⟩ := DataW.trod_struct Tryz.underlying44 hf
 have hl : xs.length = 3 := hlen
 obtain ⟨a, e0⟩ := field_int (i := 0) (hff 0 _ rfl) (by omega)
 obtain ⟨A, m, c, f, e1, hm, hr⟩ := field_ints (i := 1) (hff 1 _ rfl) (by omega)
 obtain ⟨lo, hi, e2, e3⟩ := field_span (i := 2) (hff 2 _ rfl) (by omega)
 obtain ⟨L, rfl, hL⟩ := rd1_list hr
 obtain ⟨l⟩ := cs
 match l, hsz4 with
 | [c0, c1, c2, c3], _ =>
  simp [Value.cells] at e0 e1 e2 e3
  subst e0; subst e1; subst e2; subst e3
  exact ⟨a, lo, hi, A, L, c, rfl, hm, hL⟩
end
end Go.Proofs.YtnbeembnnjdmdaaGreatDoor
/- A spot, a search and a past, opened. -/
namespace Go.Proofs.YtnbeembnnjdmdaaGreatDoor
open Go.ChangeShapes Go.WideShapes Go.ChangeAt Go.RowKit Go.Deep Go.Joins

section
variable {H : Type} {enc : TypeId × Value → H} {w : World} {base : Nat} {spare : Nat → Bool} {held : Bool}
end
end Go.Proofs.YtnbeembnnjdmdaaGreatDoor
/- Exposed by value. -/
namespace Go.Proofs.YtnbeembnnjdmdaaGreatDoor
open Go.ChangeShapes Go.WideShapes Go.ChangeAt Go.RowKit Go.Deep Go.Joins
section
variable {H : Type} {enc : TypeId × Value → H} {w : World} {base : Nat} {spare : Nat → Bool} {held : Bool}
theorem cells_bod : Tryz.prog.cellsOf 73 = 3 := by kernel_rfl
theorem bod_cells {n : Nat} {l : List Value} {x : DataW H × List MemPlace} (h : DataW.trod enc Tryz.prog w base spare held n 73 l = some x) :
  ∃ (bA : Option Addr) (bn bc : Nat) (cs : Nat → Nat → Int) (a b : Int), l[0]? = some (.slice bA bn bc) ∧ l[1]? = some (.int .i64 a) ∧ l[2]? = some (.int .i64 b) ∧ bn ≤ maxLen ∧ Rd w w.heap.size bA 2 bn cs := by
 obtain ⟨xs, n', _, _, _, hlen, hf⟩ := DataW.trod_struct Tryz.underlying73 h
 have hl : xs.length = 2 := hlen
 obtain ⟨A, m, c, f, e0, hm, hr⟩ := field_spans (i := 0) (hf 0 _ rfl) (by omega)
 obtain ⟨a, b, e1, e2⟩ := field_span (i := 1) (hf 1 _ rfl) (by omega)
 exact ⟨A, m, c, f, a, b, e0, e1, e2, hm, hr⟩
set_option maxRecDepth 100000 in
theorem open_exposed {r : Reach} {b0 : Nat} {v : Value} {d : DataW H} {p : List MemPlace} (hv : Value.okWide Tryz.prog w r b0 82 v) (h : DataW.Trod enc Tryz.prog w base spare held 82 v d p) :
  ∃ (hA : Option Addr) (hn hc : Nat) (Xs : Nat → SgV) (bA : Option Addr) (bn bc : Nat) (cs : Nat → Nat → Int) (s0 s1 : Int),
   v = .agg #[.slice hA hn hc, .slice bA bn bc, .int .i64 s0, .int .i64 s1] ∧ hn ≤ maxLen ∧ RdS w w.heap.size hA hn Xs ∧ bn ≤ maxLen ∧ Rd w w.heap.size bA 2 bn cs := by
 obtain ⟨cs, rfl, hsz⟩ := okWide_struct Tryz.underlying82 hv
 have hsz4 : cs.size = 4 := hsz.trans (by kernel_rfl)
 obtain ⟨fuel, hf⟩ := h
 obtain ⟨xs, n', _, _, _, hlen, hff⟩ := DataW.trod_struct Tryz.underlying82 hf
 have hl : xs.length = 2 := hlen
 obtain ⟨hA, hn, hc, Xs, e0, hm, hr⟩ := field_sgs (i := 0) (hff 0 _ rfl) (by omega)
 have h1 := hff 1 _ rfl
 rw [List.getElem?_eq_getElem (show 1 < xs.length by omega)] at h1
 obtain ⟨bA, bn, bc, f, s0, s1, e3, e4, e5, hbn, hb⟩ := bod_cells h1
 obtain ⟨l⟩ := cs
 match l, hsz4 with
 | [c0, c1, c2, c3], _ =>
  simp [Value.cells, cells_bod] at e0 e3 e4 e5
  subst e0; subst e3; subst e4; subst e5
  exact ⟨hA, hn, hc, Xs, bA, bn, bc, f, s0, s1, rfl, hm, hr, hbn, hb⟩
end
end Go.Proofs.YtnbeembnnjdmdaaGreatDoor
