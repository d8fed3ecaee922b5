/- Opening the arguments of the rows to what the walks read; what a row that answers true and changes nothing leaves. -/
import Derived.Test.YtfnfjmjejffjiaaDoorBase
import Derived.Test.YtfnfjmjejffjiaaDoorOwn
import Derived.ProofKit
import Derived.OpenShut
import Derived.Carry
import Derived.Deep.Slices
import Derived.Lib.SmallJoins
import Derived.Test.YtfnfjmjejffjiaaDoorStr
import Derived.ChangeArms
import Derived.Test.YtfnfjmjejffjiaaDoorTie
import Derived.Lay
import Derived.LaidMore
import Derived.Stop.Joined
namespace Go.Proofs.YtfnfjmjejffjiaaDoor
open Go.ChangeShapes Go.WideShapes Go.ChangeAt Go.RowKit Go.Deep Go.Joins

theorem own : ownKnob Tryd.prog.godebug = none := by kernel_rfl
theorem laid_out : laidOutB Tryd.prog = true := by kernel_rfl
theorem cells_int : Tryd.prog.cellsOf 3 = 1 := by kernel_rfl

section
variable {H : Type} {enc : TypeId × Value → H} {w : World} {base : Nat} {spare : Nat → Bool} {held : Bool}
theorem int_at {n : Nat} {l : List Value} {o : Nat} {x : DataW H × List MemPlace} (h : DataW.trod enc Tryd.prog w base spare held n 3 ((l.drop o).take 1) = some x) : ∃ v, l[o]? = some (.int .i64 v) := by
  obtain ⟨v, e, _⟩ := DataW.trod_int Tryd.underlying3 h
  have := congrArg (fun l => l[0]?) e
  exact ⟨v, by simpa using this⟩
theorem field_int {n i o : Nat} {l : List Value} {xs : List (DataW H × List MemPlace)} (h : DataW.trod enc Tryd.prog w base spare held n 3 ((l.drop o).take (Tryd.prog.cellsOf 3)) = xs[i]?) (hi : i < xs.length) : ∃ v, l[o]? = some (.int .i64 v) := by
  rw [cells_int, List.getElem?_eq_getElem hi] at h
  exact int_at h
theorem cell_spot {a : Addr} {v : Value} (h : w.cell? a = some v) : a.spot = none := by
  unfold World.cell? at h
  cases hs : a.spot with
  | none => rfl
  | some s => split at h <;> simp [hs] at h
theorem addr_add (b off o : Nat) : (⟨b, off, none⟩ : Addr).add o = ⟨b, off + o, none⟩ := by
  unfold Addr.add
  split
  · subst_vars; rfl
  · rfl
def intOfCell : Option Value → Int
  | some (.int _ n) => n
  | _ => 0
/-- a slice whose elements are m ints each -/
theorem rd_of_trod {fuel m : Nat} {t e : TypeId} {cs : List Value} {x : DataW H × List MemPlace} (ht : Tryd.prog.underlying t = some (.slice e)) (hC : Tryd.prog.cellsOf e = m) (hm : 0 < m)
    (hI : ∀ n l x, DataW.trod enc Tryd.prog w base spare held n e l = some x → ∀ j, j < m → ∃ v, l[j]? = some (.int .i64 v)) (h : DataW.trod enc Tryd.prog w base spare held fuel t cs = some x) :
    ∃ A n c f, cs = [.slice A n c] ∧ n ≤ maxLen ∧ n ≤ c ∧ c ≤ maxLen ∧ Rd w w.heap.size A m n f := by
  rcases open_slice ht h with ⟨rfl, _⟩ | ⟨a, len, cap, k, n, D, Pl, rfl, _, hl, hmx, hk, _, hi⟩
  · exact ⟨none, 0, 0, fun _ _ => 0, rfl, by unfold maxLen; omega, Nat.le_refl _, by unfold maxLen; omega, .inl rfl⟩
  · have hlk : len ≤ k := by rw [hk]; split <;> omega
    rw [hC] at hi
    have hcell : ∀ i, i < len → ∀ j, j < m → ∃ v, w.cell? ((a.add (i * m)).add j) = some (.int .i64 v) := by
      intro i hil j hj
      obtain ⟨cs', hc, ht'⟩ := hi i (by omega)
      obtain ⟨_, _, hat⟩ := World.cells?_some hc
      obtain ⟨v, hv⟩ := hI _ _ _ ht' j hj
      exact ⟨v, (hat j hj).trans hv⟩
    rcases Nat.eq_zero_or_pos len with rfl | hpos
    · exact ⟨_, 0, cap, fun _ _ => 0, rfl, by omega, by omega, hmx, .inl rfl⟩
    · obtain ⟨b, off, spot⟩ := a
      obtain rfl : spot = none := by
        obtain ⟨v, hv⟩ := hcell 0 hpos 0 hm
        have h0 := cell_spot hv
        unfold Addr.add at h0
        split at h0
        · simp_all
        · split at h0 <;> simp_all
      have hcell' : ∀ i, i < len → ∀ j, j < m → ∃ v, w.cell? ⟨b, off + (i * m + j), none⟩ = some (.int .i64 v) := fun i hil j hj => by
        obtain ⟨v, hv⟩ := hcell i hil j hj
        rw [addr_add, addr_add] at hv
        exact ⟨v, by rw [← hv, Nat.add_assoc]⟩
      refine ⟨some ⟨b, off, none⟩, len, cap, fun i j => intOfCell (w.cell? ⟨b, off + (i * m + j), none⟩), rfl, by omega, hl, hmx, .inr ⟨b, off, rfl, ?_, fun i j hil hj => ?_⟩⟩
      · obtain ⟨v, hv⟩ := hcell' 0 hpos 0 hm
        exact World.block_lt_of_cell? w _ hv
      · obtain ⟨v, hv⟩ := hcell' i hil j hj
        rw [hv]
        simp [intOfCell, hv]
end

section
variable {H : Type} {enc : TypeId × Value → H}
theorem trodAll_below {W W' : World} (hb : Below W.heap.size W W') : ∀ {ts : List TypeId} {vs : List Value} {ds : List (DataW H)} {ps : List MemPlace}, (∀ t ∈ ts, Tryd.prog.readableRec t = true ∧ t < Tryd.prog.types.size) →
    DataW.TrodAll enc Tryd.prog W 0 (fun _ => true) true ts vs ds ps → (∀ x ∈ ps, x.block < W.heap.size) → DataW.TrodAll enc Tryd.prog W' 0 (fun b => decide (b < W.heap.size)) true ts vs ds ps
  | [], [], [], _, _, h, _ => h
  | [], _ :: _, _, _, _, h, _ => h.elim
  | [], [], _ :: _, _, _, h, _ => h.elim
  | _ :: _, [], _, _, _, h, _ => h.elim
  | _ :: _, _ :: _, [], _, _, h, _ => h.elim
  | t :: ts, v :: vs, d :: ds, ps, hr, h, hlt => by
    obtain ⟨p, q, h1, h2, rfl⟩ := h
    exact ⟨p, q, Below.trod laid_out (hr t (by simp)).1 (hr t (by simp)).2 h1 hb (fun x hx => hlt x (by simp [hx])), trodAll_below hb (fun t ht => hr t (by simp [ht])) h2 (fun x hx => hlt x (by simp [hx])), rfl⟩

/-- the call answers true and what it was handed reads as it did -/
theorem post_true {f : Func} {s : ChangeSpec} {W W' : World} {args : Array Value} {ds gs : List (DataW H)} {before : List MemPlace} (hv : s.vars = []) (hrt : f.resultTypes = #[4]) (hpar : ∀ t ∈ f.params.toList, Tryd.prog.readableRec t = true ∧ t < Tryd.prog.types.size)
    (hW : DataW.Whole enc Tryd.prog f.params.toList s.vars false W args.toList ds gs before) (h1 : (s.fn H (ds ++ gs)).results = [.lit (.bool true)]) (h2 : (s.fn H (ds ++ gs)).args = ds) (h3 : (s.fn H (ds ++ gs)).vars = []) (hb : Below W.heap.size W W') :
    s.post enc Tryd.prog f false true false false W args (.bool true) W' := by
  have hW' := hW
  have hlt := hW.lt
  obtain ⟨p, q, hA, hV, rfl, _, _⟩ := hW
  rw [hv] at hV
  obtain ⟨rfl, rfl⟩ := trodVars_none hV
  refine ⟨ds, [], p ++ [], [], p ++ [], [], hW', ?_, ?_, ?_, World.keptBut_mono (fun x hx => ⟨hx, .inr (.inl hx)⟩) (hb.frame (· ∈ p ++ [])), fun h => by cases h⟩
  · rw [h1, hrt]
    exact trodAll_mk1 (shut_bool Tryd.underlying4 _)
  · rw [h2]
    rw [List.append_nil] at hlt ⊢
    exact trodAll_below hb hpar hA hlt
  · rw [h3, hv]
    exact (rfl : ([] : List MemPlace) = [])
end
end Go.Proofs.YtfnfjmjejffjiaaDoor
/- Words and radios, opened. -/
namespace Go.Proofs.YtfnfjmjejffjiaaDoor
open Go.ChangeShapes Go.WideShapes Go.ChangeAt Go.RowKit Go.Deep Go.Joins

def strOfCell : Option Value → ByteArray
  | some (.string s) => s
  | _ => ⟨#[]⟩
section
variable {H : Type} {enc : TypeId × Value → H} {w : World} {base : Nat} {spare : Nat → Bool} {held : Bool}
theorem cells_str : Tryd.prog.cellsOf 9 = 1 := by kernel_rfl
/-- a slice of strings -/
theorem rdS_of_trod {fuel : Nat} {cs : List Value} {x : DataW H × List MemPlace} (h : DataW.trod enc Tryd.prog w base spare held fuel 41 cs = some x) :
    ∃ A n c f, cs = [.slice A n c] ∧ n ≤ maxLen ∧ n ≤ c ∧ c ≤ maxLen ∧ RdS w w.heap.size A n f := by
  rcases open_slice Tryd.underlying41 h with ⟨rfl, _⟩ | ⟨a, len, cap, k, n, D, Pl, rfl, _, hl, hmx, hk, _, hi⟩
  · exact ⟨none, 0, 0, fun _ => ⟨#[]⟩, rfl, by unfold maxLen; omega, Nat.le_refl _, by unfold maxLen; omega, .inl rfl⟩
  · have hlk : len ≤ k := by rw [hk]; split <;> omega
    rw [cells_str] at hi
    have hcell : ∀ i, i < len → ∃ v, w.cell? (a.add (i * 1)) = some (.string v) := by
      intro i hil
      obtain ⟨cs', hc, ht'⟩ := hi i (by omega)
      obtain ⟨_, _, hat⟩ := World.cells?_some hc
      obtain ⟨v, hv, _⟩ := DataW.trod_string Tryd.underlying9 ht'
      subst hv
      have h0 := hat 0 (by omega)
      have ha : (a.add (i * 1)).add 0 = a.add (i * 1) := by simp [Addr.add]
      rw [ha] at h0
      exact ⟨v, h0⟩
    rcases Nat.eq_zero_or_pos len with rfl | hpos
    · exact ⟨_, 0, cap, fun _ => ⟨#[]⟩, rfl, by omega, by omega, hmx, .inl rfl⟩
    · obtain ⟨b, off, spot⟩ := a
      obtain rfl : spot = none := by
        obtain ⟨v, hv⟩ := hcell 0 hpos
        have h0 := cell_spot hv
        unfold Addr.add at h0
        split at h0 <;> simp_all
      have hcell' : ∀ i, i < len → ∃ v, w.cell? ⟨b, off + i, none⟩ = some (.string v) := fun i hil => by
        obtain ⟨v, hv⟩ := hcell i hil
        rw [addr_add, Nat.mul_one] at hv
        exact ⟨v, hv⟩
      refine ⟨some ⟨b, off, none⟩, len, cap, fun i => strOfCell (w.cell? ⟨b, off + i, none⟩), rfl, by omega, hl, hmx, .inr ⟨b, off, rfl, ?_, fun i hil => ?_⟩⟩
      · obtain ⟨v, hv⟩ := hcell' 0 hpos
        exact World.block_lt_of_cell? w _ hv
      · obtain ⟨v, hv⟩ := hcell' i hil
        rw [hv]; simp [strOfCell, hv]
end
set_option maxRecDepth 100000 in
/-- words -/
theorem open_words {H : Type} {enc : TypeId × Value → H} {w : World} {r : Reach} {b0 base : Nat} {spare : Nat → Bool} {held : Bool} {v : Value} {d : DataW H} {p : List MemPlace} (hv : Value.okWide Tryd.prog w r b0 41 v) (h : DataW.Trod enc Tryd.prog w base spare held 41 v d p) :
    ∃ A n c f, v = .slice A n c ∧ n ≤ maxLen ∧ n ≤ c ∧ c ≤ maxLen ∧ RdS w w.heap.size A n f := by
  obtain ⟨a0, len, cap, rfl⟩ := okWide_slice Tryd.underlying41 hv
  obtain ⟨fuel, hf⟩ := h
  obtain ⟨A, n, c, f, e, hn, hc, hm, hf⟩ := rdS_of_trod hf
  simp [Value.cells] at e
  obtain ⟨rfl, rfl, rfl⟩ := e
  exact ⟨_, _, _, f, rfl, hn, hc, hm, hf⟩
set_option maxRecDepth 100000 in
/-- a radio by value -/
theorem open_radio {H : Type} {enc : TypeId × Value → H} {w : World} {r : Reach} {b0 base : Nat} {spare : Nat → Bool} {held : Bool} {v : Value} {d : DataW H} {p : List MemPlace} (hv : Value.okWide Tryd.prog w r b0 75 v) (h : DataW.Trod enc Tryd.prog w base spare held 75 v d p) :
    ∃ gA gn gc g e, v = .agg #[.slice gA gn gc, .int .i64 e] ∧ gn ≤ maxLen ∧ RdS w w.heap.size gA gn g := by
  obtain ⟨v0, v1, y0, y1, n, rfl, _, _, h0, h1⟩ := open_agg2 Tryd.underlying75 (by kernel_rfl) (by kernel_rfl) hv h
  obtain ⟨gA, gn, gc, g, e0, hg, _, _, hG⟩ := rdS_of_trod h0
  obtain ⟨e, e1, _⟩ := DataW.trod_int Tryd.underlying3 h1
  injection e0 with e0 _
  injection e1 with e1 _
  subst e0; subst e1
  exact ⟨gA, gn, gc, g, e, rfl, hg, hG⟩
end Go.Proofs.YtfnfjmjejffjiaaDoor
/- Events, what was sent, and a start, opened. -/
namespace Go.Proofs.YtfnfjmjejffjiaaDoor
open Go.ChangeShapes Go.WideShapes Go.ChangeAt Go.RowKit Go.Deep Go.Joins

section
variable {H : Type} {enc : TypeId × Value → H} {w : World} {base : Nat} {spare : Nat → Bool} {held : Bool}
theorem evt_ints {n : Nat} {l : List Value} {x : DataW H × List MemPlace} (h : DataW.trod enc Tryd.prog w base spare held n 38 l = some x) : ∀ j, j < 3 → ∃ v, l[j]? = some (.int .i64 v) := by
  obtain ⟨xs, n', _, _, _, hlen, hf⟩ := DataW.trod_struct Tryd.underlying38 h
  have hl : xs.length = 3 := hlen
  intro j hj
  obtain rfl | rfl | rfl : j = 0 ∨ j = 1 ∨ j = 2 := by omega
  · exact field_int (i := 0) (hf 0 _ rfl) (by omega)
  · exact field_int (i := 1) (hf 1 _ rfl) (by omega)
  · exact field_int (i := 2) (hf 2 _ rfl) (by omega)
end
section
variable {H : Type} {enc : TypeId × Value → H} {w : World} {r : Reach} {b0 base : Nat} {spare : Nat → Bool} {held : Bool} {v : Value} {d : DataW H} {p : List MemPlace}
set_option maxRecDepth 100000 in
/-- events -/
theorem open_events (hv : Value.okWide Tryd.prog w r b0 22 v) (h : DataW.Trod enc Tryd.prog w base spare held 22 v d p) :
    ∃ A n c f, v = .slice A n c ∧ n ≤ maxLen ∧ n ≤ c ∧ c ≤ maxLen ∧ Rd w w.heap.size A 3 n f := by
  obtain ⟨a0, len, cap, rfl⟩ := okWide_slice Tryd.underlying22 hv
  obtain ⟨fuel, hf⟩ := h
  obtain ⟨A, n, c, f, e, hn, hc, hm, hf⟩ := rd_of_trod (t := 22) (e := 38) (m := 3) Tryd.underlying22 (by kernel_rfl) (by omega) (fun _ _ _ h => evt_ints h) hf
  simp [Value.cells] at e
  obtain ⟨rfl, rfl, rfl⟩ := e
  exact ⟨_, _, _, f, rfl, hn, hc, hm, hf⟩
set_option maxRecDepth 100000 in
/-- an event -/
theorem open_event (hv : Value.okWide Tryd.prog w r b0 38 v) (h : DataW.Trod enc Tryd.prog w base spare held 38 v d p) : ∃ a b c, v = .agg #[.int .i64 a, .int .i64 b, .int .i64 c] := by
  obtain ⟨v0, v1, v2, y0, y1, y2, n, rfl, _, _, h0, h1, h2⟩ := open_agg3 Tryd.underlying38 (by kernel_rfl) (by kernel_rfl) hv h
  obtain ⟨a, e0, _⟩ := DataW.trod_int Tryd.underlying3 h0
  obtain ⟨b, e1, _⟩ := DataW.trod_int Tryd.underlying3 h1
  obtain ⟨c, e2, _⟩ := DataW.trod_int Tryd.underlying3 h2
  injection e0 with e0 _
  injection e1 with e1 _
  injection e2 with e2 _
  subst e0; subst e1; subst e2
  exact ⟨a, b, c, rfl⟩
end
end Go.Proofs.YtfnfjmjejffjiaaDoor
/- The tables that the rows list. -/
namespace Go.Proofs.YtfnfjmjejffjiaaDoor
open Go.ChangeShapes Go.WideShapes Go.ChangeAt Go.RowKit

def laidL : List (String × DataW Unit) := [("unicode/utf8.acceptRanges", Rows.laid_unicode_utf8_acceptRanges), ("unicode/utf8.first", Rows.laid_unicode_utf8_first)]
end Go.Proofs.YtfnfjmjejffjiaaDoor
