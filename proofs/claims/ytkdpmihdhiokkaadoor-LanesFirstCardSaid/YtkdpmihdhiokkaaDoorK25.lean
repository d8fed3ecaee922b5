/- Numbers left out of a list: slices.Clone, slices.DeleteFunc with the closure of Block. -/
import Derived.Test.YtkdpmihdhiokkaaDoorK22
import Derived.Test.YtkdpmihdhiokkaaDoorShelfC
import Derived.Test.YtkdpmihdhiokkaaDoorLaE
import Derived.Test.YtkdpmihdhiokkaaDoorMix
namespace Go.Proofs.YtkdpmihdhiokkaaDoor
open Go.RowKit Go.Lib Go.Sort

theorem Own.cut {w : World} {base t m n n' c : Nat} {A : Option Addr} {F : Nat → Nat → Value} (h : Own w base t m (.slice A n c) n F) (hn : n' ≤ n) (hA : A ≠ none) : Own w base t m (.slice A n' c) n' F := by
  rcases h.2 with ⟨h1, h2⟩ | ⟨g, cap, cur, h1, h2, h3, h4, h5, h6, h7⟩
  · injection h1 with h1 _ _
    exact absurd h1 hA
  · injection h1 with h1 _ h8
    subst h1; subst h8
    refine ⟨length_cellsOf _ _ _, .inr ⟨g, c, cur, rfl, h2, h3, by omega, h5, h6, ?_⟩⟩
    have hle : n' * m ≤ n * m := Nat.mul_le_mul_right m hn
    have e : cur.toList.take (n' * m) = (cur.toList.take (n * m)).take (n' * m) := by rw [List.take_take, Nat.min_eq_left hle]
    rw [e, h7]
    apply List.ext_getElem?
    intro q
    by_cases hq : q < n' * m
    · rw [List.getElem?_take_of_lt hq]
      simp [cellsOf, hq, Nat.lt_of_lt_of_le hq hle]
    · rw [List.getElem?_take_eq_none (by omega), List.getElem?_eq_none (by rw [length_cellsOf]; omega)]
/-- the closure of Block -/
theorem bchk_any (i x : Int) (T : Nat) (W : World) (hc : W.cell? ⟨T, 0, none⟩ = some (.int .i64 i)) :
    FnGives Tryd.prog 62 #[.pointer (some ⟨T, 0, none⟩)] #[.int .i64 x] (.bool (x == i)) W := by
  show Calls Tryd.prog 62 #[.int .i64 x, .pointer (some ⟨T, 0, none⟩)] W _
  go_enter Tryd.func62, Tryd.ntmps62
  go_wp2
  go_ret
  exact ⟨rfl, 0, rfl⟩
theorem del_own (L : List Int) (base g c T : Nat) (i : Int) (w : World) (h : Own w base 3 1 (.slice (some ⟨g, 0, none⟩) L.length c) L.length (lst L)) (hT : Blk w T 3 #[.int .i64 i]) (hne : T ≠ g) (hn2 : L.length ≤ 1048576) :
    Calls Tryd.prog 60 #[.slice (some ⟨g, 0, none⟩) L.length c, .func (.func 62) #[] #[.pointer (some ⟨T, 0, none⟩)]] w fun e w' => (∃ v, e = .returned v ∧ Own w' base 3 1 v (L.filter fun x => !(x == i)).length (lst (L.filter fun x => !(x == i)))) ∧ w.grownBy w' (some g) := by
  have eg : ∀ args w, (callFunc 62 args).run Tryd.prog w = .ok (.enter 62 args) w := enters_of Tryd.func62 (by kernel_rfl) rfl
  have h' := h
  unfold Own at h'
  rw [cells_lst] at h'
  rcases h'.2 with ⟨h0, _⟩ | ⟨g', cap, cur, hv, hb0, hb, h1, h2, h3, h4⟩
  · cases h0
  · injection hv with hv1 _ hv3
    injection hv1 with hv1
    injection hv1 with hv1
    subst hv1; subst hv3
    rw [Nat.mul_one] at h4
    have hlt := hT.lt
    have hcell : w.cell? ⟨T, 0, none⟩ = some (.int .i64 i) := hT.cell 0
    have hH := holds_of_blockI hb h4
    have hcon := Tryd.slices_DeleteFunc (Value.int .i64) (fun _ => rfl) (fun x => x == i) 62 #[.pointer (some ⟨T, 0, none⟩)] eg 0 Tryd.zeroValue3 g 0 c L.toArray w
      (fun W x hb => bchk_any i x T W ((hb.cell (p := ⟨T, 0, none⟩) hlt).trans hcell))
      (fun n os dk x _ => bchk_any i x T _ (by
        have := (hT.grown (grownBy_sortedI (w := w) (g := g) (n := n) (os := os) dk) (by intro e; injection e with e; exact hne e)).cell 0
        exact this)) hH (by simp; omega) (by simpa using h1)
    simp only [List.size_toArray] at hcon
    refine hcon.mono ?_
    rintro e w' ⟨rfl, q, rfl⟩
    obtain ⟨fl, hfl⟩ : ∃ fl, fl = L.filter fun x => !(x == i) := ⟨_, rfl⟩
    rw [← hfl]
    have hle : fl.length ≤ L.length := by rw [hfl]; exact List.length_filter_le _ _
    obtain ⟨ts, hts⟩ : ∃ ts, ts = fl ++ List.replicate (L.length - fl.length) (0 : Int) := ⟨_, rfl⟩
    have htl : ts.length = L.length := by rw [hts]; simp; omega
    have hg := grownBy_sortedI (w := w) (g := g) (n := q) (os := #[]) ts.toArray
    have ho := ownsRow_sortedI (n := q) (os := #[]) (ss := L) (ts := ts) htl hb0 hb h1 h2 h3
    rw [grow_none] at hg ho
    rw [← hts]
    refine ⟨⟨_, rfl, ?_⟩, hg⟩
    have ho2 : Own (putRow (Value.int .i64) (Sort.ahead w q) g 0 ts.toArray) base 3 1 (.slice (some ⟨g, 0, none⟩) L.length c) L.length (lst ts) := by
      unfold Own
      rw [← htl, cells_lst, htl]
      exact ho
    refine (ho2.cut hle (by simp)).congr fun j _ hj _ => ?_
    show Value.int .i64 (ts.getD j 0) = Value.int .i64 (fl.getD j 0)
    rw [hts, List.getD_eq_getElem?_getD, List.getD_eq_getElem?_getD, List.getElem?_append_left hj]
/-- a copy of a list -/
theorem clone_own (L : List Int) (b c : Nat) (A : Option Addr) (w : World) (h : Own w b 3 1 (.slice A L.length c) L.length (lst L)) (hn2 : L.length ≤ 1048576) :
    Calls Tryd.prog 61 #[.slice A L.length c] w fun e w' => (∃ v, e = .returned v ∧ Own w' w.heap.size 3 1 v L.length (lst L)) ∧ Below w.heap.size w w' := by
  cases A with
  | none =>
    refine (Tryd.slices_Clone_int_nil L.length c w).mono ?_
    rintro e w' ⟨rfl, rfl⟩
    have h0 : L.length = 0 := by
      rcases h.2 with ⟨_, h⟩ | ⟨g, cap, cur, h1, _⟩
      · exact h
      · injection h1 with h1 _ _
        cases h1
    rw [h0]
    exact ⟨⟨_, rfl, Own.nil_⟩, Below.refl _ _⟩
  | some a =>
    rcases Nat.eq_zero_or_pos L.length with h0 | h0
    · rw [h0]
      refine (Tryd.slices_Clone_int_zero a c w).mono ?_
      rintro e w' ⟨v, rfl, ho, _, hb⟩
      exact ⟨⟨v, rfl, by unfold Own; simpa [cellsOf] using ho⟩, hb⟩
    · obtain ⟨g, c', e⟩ := h.nz h0
      injection e with e1 _ e3
      injection e1 with e1
      subst e1; subst e3
      have hc := Tryd.slices_Clone_int g 0 L.length c L w (Nat.le_refl _) (by omega) (fun j hj => by rw [Nat.zero_add]; exact h.cell1 hj)
      refine hc.mono ?_
      rintro e w' ⟨v, rfl, ho, _, hb⟩
      refine ⟨⟨v, rfl, ?_⟩, hb⟩
      unfold Own
      rw [cells_lst]
      rwa [List.take_length] at ho
end Go.Proofs.YtkdpmihdhiokkaaDoor
