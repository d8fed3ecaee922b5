/- Numbers left out of a list: slices.Clone, slices.DeleteFunc with the closure of Block. -/
import Derived.Test.YtkdpmihdhiokkaaDoorK22
import Derived.Test.YtkdpmihdhiokkaaDoorShelfC
import Derived.Test.YtkdpmihdhiokkaaDoorLaE
import Derived.Test.YtkdpmihdhiokkaaDoorMix
namespace Go.Proofs.YtkdpmihdhiokkaaDoor
open Go.RowKit Go.Lib Go.Sort

theorem Own.cut {w : World} {base t m n n' c : Nat} {A : Option Addr} {F : Nat → Nat → Value} (h : Own w base t m (.slice A n c) n F) (hn : n' ≤ n) (hA : A ≠ none) : Own w base t m (.slice A n' c) n' F := by
  rcases h.2 with ⟨h1, h2⟩ | ⟨g, cap, cur, h1, h2, h3, h4, h5, h6, h7⟩
  · injection h1 with h1 _ _
    exact absurd h1 hA
  · injection h1 with h1 _ h8
    subst h1; subst h8
    refine ⟨length_cellsOf _ _ _, .inr ⟨g, c, cur, rfl, h2, h3, by omega, h5, h6, ?_⟩⟩
    have hle : n' * m ≤ n * m := Nat.mul_le_mul_right m hn
    have e : cur.toList.take (n' * m) = (cur.toList.take (n * m)).take (n' * m) := by rw [List.take_take, Nat.min_eq_left hle]
    rw [e, h7]
    apply List.ext_getElem?
    intro q
    by_cases hq : q < n' * m
    · rw [List.getElem?_take_of_lt hq]
      simp [cellsOf, hq, Nat.lt_of_lt_of_le hq hle]
    · rw [List.getElem?_take_eq_none (by omega), List.getElem?_eq_none (by rw [length_cellsOf]; omega)]
/-- the closure of Block -/
theorem bchk_any (i x : Int) (T : Nat) (W : World) (hc : W.cell? ⟨T, 0, none⟩ = some (.int .i64 i)) :
    FnGives Tryd.prog 62 #[.pointer (some ⟨T, 0, none⟩)] #[.int .i64 x] (.bool (x == i)) W := by
  show Calls Tryd.prog 62 #[.int .i64 x, .pointer (some ⟨T, 0, none⟩)] W _
  go_enter Tryd.func62, Tryd.ntmps62
  go_wp2
  go_ret
  exact ⟨rfl, 0, rfl⟩
theorem del_own (L : List Int) (base g c T : Nat) (i : Int) (w : World) (h : Own w base 3 1 (.slice (some ⟨g, 0, none⟩) L.length c) L.length (lst L)) (hT : Blk w T 3 #[.int .i64 i]) (hne : T ≠ g) (hn2 : L.length ≤ 1048576) :
    Calls Tryd.prog 60 #[.slice (some ⟨g, 0, none⟩) L.length c, .func (.func 62) #[] #[.pointer (some ⟨T, 0, none⟩)]] w fun e w' => (∃ v, e = .returned v ∧ Own w' base 3 1 v (L.filter fun x => !(x == i)).length (lst (L.filter fun x => !(x == i)))) ∧ w.grownBy w' (some g) := by
  have eg : ∀ args w, (callFunc 62 args).run Tryd.prog w = .ok (.enter 62 args) w := enters_of Tryd.func62 (by kernel_rfl) rfl
  have h' := h
  unfold Own at h'
  rw [cells_lst] at h'
  rcases h'.2 with ⟨h0, _⟩ | ⟨g', cap, cur, hv, hb0, hb, h1, h2, h3, h4⟩
  · cases h0
  · injection hv with hv1 _ hv3
    injection hv1 with hv1
    injection hv1 with hv1
    subst hv1; subst hv3
    rw [Nat.mul_one] at h4
    have hlt := hT.lt
    have hcell : w.cell? ⟨T, 0, none⟩ = some (.int .i64 i) := hT.cell 0
    have hH := holds_of_blockI hb h4
    have hcon := Tryd.slices_DeleteFunc (Value.int .i64) (fun _ => rfl) (fun x => x == i) 62 #[.pointer (some ⟨T, 0, none⟩)] eg 0 Tryd.zeroValue3 g 0 c L.toArray w
      (fun W x hb => bchk_any i x T W ((hb.cell (p := ⟨T, 0, none⟩) hlt).trans hcell))
      (fun n os dk x _ => bchk_any i x T _ (by
        have := (hT.grown (grownBy_sortedI (w := w) (g := g) (n := n) (os := os) dk) (by intro e; injection e with e; exact hne e)).cell 0
        exact this)) hH (by simp; omega) (by simpa using h1)
    simp only [List.size_toArray] at hcon
    refine hcon.mono ?_
    rintro e w' ⟨rfl, q, rfl⟩
    obtain ⟨fl, hfl⟩ : ∃ fl, fl = L.filter fun x => !(x == i) := ⟨_, rfl⟩
    rw [← hfl]
    have hle : fl.length ≤ L.length := by rw [hfl]; exact List.length_filter_le _ _
    obtain ⟨ts, hts⟩ : ∃ ts, ts = fl ++ List.replicate (L.length - fl.length) (0 : Int) := ⟨_, rfl⟩
    have htl : ts.length = L.length := by rw [hts]; simp; omega
    have hg := grownBy_sortedI (w := w) (g := g) (n := q) (os := #[]) ts.toArray
    have ho := ownsRow_sortedI (n := q) (os := #[]) (ss := L) (ts := ts) htl hb0 hb h1 h2 h3
    rw [grow_none] at hg ho
    rw [← hts]
    refine ⟨⟨_, rfl, ?_⟩, hg⟩
    have ho2 : Own (putRow (Value.int .i64) (Sort.ahead w q) g 0 ts.toArray) base 3 1 (.slice (some ⟨g, 0, none⟩) L.length c) L.length (lst ts) := by
      unfold Own
      rw [← htl, cells_lst, htl]
      exact ho
    refine (ho2.cut hle (by simp)).congr fun j _ hj _ => ?_
    show Value.int .i64 (ts.getD j 0) = Value.int .i64 (fl.getD j 0)
    rw [hts, List.getD_eq_getElem?_getD, List.getD_eq_getElem?_getD, List.getElem?_append_left hj]
/-- a copy of a list -/
theorem clone_own (L : List Int) (b c : Nat) (A : Option Addr) (w : World) (h : Own w b 3 1 (.slice A L.length c) L.length (lst L)) (hn2 : L.length ≤ 1048576) :
    Calls Tryd.prog 61 #[.slice A L.length c] w fun e w' => (∃ v, e = .returned v ∧ Own w' w.heap.size 3 1 v L.length (lst L)) ∧ Below w.heap.size w w' := by
  cases A with
  | none =>
    refine (Tryd.slices_Clone_int_nil L.length c w).mono ?_
    rintro e w' ⟨rfl, rfl⟩
    have h0 : L.length = 0 := by
      rcases h.2 with ⟨_, h⟩ | ⟨g, cap, cur, h1, _⟩
      · exact h
      · injection h1 with h1 _ _
        cases h1
    rw [h0]
    exact ⟨⟨_, rfl, Own.nil_⟩, Below.refl _ _⟩
  | some a =>
    rcases Nat.eq_zero_or_pos L.length with h0 | h0
    · rw [h0]
      refine (Tryd.slices_Clone_int_zero a c w).mono ?_
      rintro e w' ⟨v, rfl, ho, _, hb⟩
      exact ⟨⟨v, rfl, by unfold Own; simpa [cellsOf] using ho⟩, hb⟩
    · obtain ⟨g, c', e⟩ := h.nz h0
      injection e with e1 _ e3
      injection e1 with e1
      subst e1; subst e3
      have hc := Tryd.slices_Clone_int g 0 L.length c L w (Nat.le_refl _) (by omega) (fun j hj => by rw [Nat.zero_add]; exact h.cell1 hj)
      refine hc.mono ?_
      rintro e w' ⟨v, rfl, ho, _, hb⟩
      refine ⟨⟨v, rfl, ?_⟩, hb⟩
      unfold Own
      rw [cells_lst]
      rwa [List.take_length] at ho
end Go.Proofs.YtkdpmihdhiokkaaDoor
/- Legs of the call's own, in a traffic: what an append to x.legs keeps. -/
namespace Go.Proofs.YtkdpmihdhiokkaaDoor
open Go.RowKit

/-- all blocks but those of type t, and block x, read as before -/
def KeepT (t : TypeId) (x : Nat) (W W' : World) : Prop := W.heap.size ≤ W'.heap.size ∧ ∀ (g : Nat) (cs : Array Value) (t' : TypeId), W.heap[g]? = some (.cells cs t' (0, 0)) → t' ≠ t → g ≠ x → W'.heap[g]? = some (.cells cs t' (0, 0))
section
variable {t x : Nat} {W W' W2 : World}
theorem KeepT.refl : KeepT t x W W := ⟨Nat.le_refl _, fun _ _ _ h _ _ => h⟩
theorem KeepT.trans (h : KeepT t x W W') (h' : KeepT t x W' W2) : KeepT t x W W2 := ⟨Nat.le_trans h.1 h'.1, fun g cs t' hg h1 h2 => h'.2 g cs t' (h.2 g cs t' hg h1 h2) h1 h2⟩
theorem KeepT.below (h : KeepT t x W W') (hb : Below W'.heap.size W' W2) : KeepT t x W W2 := h.trans ⟨hb.size, fun g _ _ hg _ _ => (hb.block g (Array.getElem?_eq_some_iff.1 hg).1).trans hg⟩
theorem KeepT.of_below (hb : Below W.heap.size W W') : KeepT t x W W' := KeepT.refl.below hb
theorem KeepT.grown (h : KeepT t x W W') {row : Option Nat} (hg : W'.grownBy W2 row) (hr : ∀ k, row = some k → W.heap.size ≤ k) : KeepT t x W W2 := by
  refine ⟨Nat.le_trans h.1 hg.size, fun g cs t' hc h1 h2 => ?_⟩
  have hc' := h.2 g cs t' hc h1 h2
  exact (hg.block g (Array.getElem?_eq_some_iff.1 hc').1 (fun e => by have := hr g e.symm; have := (Array.getElem?_eq_some_iff.1 hc).1; omega)).trans hc'
theorem KeepT.row (h : KeepT t x W W') {b m n : Nat} {v : Value} {F : Nat → Nat → Value} (ho : Own W' b t m v n F) (hg : W'.grownBy W2 v.ownBlock) : KeepT t x W W2 := by
  refine ⟨Nat.le_trans h.1 hg.size, fun g cs t' hc h1 h2 => ?_⟩
  have hc' := h.2 g cs t' hc h1 h2
  refine (hg.block g (Array.getElem?_eq_some_iff.1 hc').1 (fun e => ?_)).trans hc'
  rcases ho.2 with ⟨rfl, _⟩ | ⟨g1, cap, cur, rfl, _, hh, _⟩
  · simp [Value.ownBlock] at e
  · simp [Value.ownBlock] at e
    subst e
    rw [hh] at hc'
    injection hc' with hc'
    injection hc' with _ hc' _
    exact h1 hc'.symm
theorem KeepT.set_ (h : KeepT t x W W') (i : Nat) (u : Value) : KeepT t x W (W'.setCell ⟨x, i, none⟩ u) := by
  refine ⟨by simpa [World.setCell] using h.1, fun g cs t' hc h1 h2 => ?_⟩
  exact (Below.heap_setCell W' ⟨x, i, none⟩ u g h2).trans (h.2 g cs t' hc h1 h2)
theorem Blk.keepT {g t' : Nat} {cs : Array Value} (h : Blk W g t' cs) (hk : KeepT t x W W') (ht : t' ≠ t) (hx : g ≠ x) : Blk W' g t' cs := hk.2 g cs t' h ht hx
theorem Own.keepT {b t' m n : Nat} {v : Value} {F : Nat → Nat → Value} (h : Own W b t' m v n F) (hk : KeepT t x W W') (ht : t' ≠ t) (hx : v.ownBlock ≠ some x) : Own W' b t' m v n F := by
  refine ⟨h.1, ?_⟩
  rcases h.2 with h | ⟨g, cap, cur, rfl, h2, h3, h4⟩
  · exact .inl h
  · exact .inr ⟨g, cap, cur, rfl, h2, hk.2 g cur t' h3 ht (fun e => hx (by rw [e]; rfl)), h4⟩
end
theorem blk_ne {W : World} {g x t t' : Nat} {cs cs' : Array Value} (h : Blk W g t cs) (h' : Blk W x t' cs') (ht : t ≠ t') : g ≠ x := fun e => by
  subst e
  unfold Blk at h h'
  rw [h] at h'
  injection h' with h'
  injection h' with _ h' _
  exact ht h'
/-- a leg's cells -/
def legRow (l : M.Leg) (u : Value) : Nat → Value := fun j => if j = 0 then .int .i64 l.at_ else if j = 1 then .int .i64 l.lv else if j = 2 then .int .i64 l.dr else if j = 3 then .bool l.tail else u
def legV (L : Nat → M.Leg) (V : Nat → Value) : Nat → Nat → Value := fun i => legRow (L i) (V i)
theorem legV_upd (L : Nat → M.Leg) (V : Nat → Value) (n : Nat) (l : M.Leg) (u : Value) : upd (legV L V) n (legRow l u) = legV (fun i => if i = n then l else L i) (fun i => if i = n then u else V i) := by
  funext i
  unfold upd legV
  by_cases h : i = n
  · simp [h]
  · simp [h]
/-- the numbers of a leg's cells: below B, or of the call's own -/
def LegCells (W : World) (B base : Nat) (u : Value) (l : M.Leg) : Prop := l.n ≤ maxLen ∧ ((∃ cA cc, u = .slice cA l.n cc ∧ Rd1 W B cA l.n l.c) ∨ Own W base 3 1 u l.n (ints l.c))
section
variable {W W' : World} {B base x n : Nat} {u v : Value} {l : M.Leg} {L : Nat → M.Leg}
theorem LegCells.keepT (h : LegCells W B base u l) (hb : Below B W W') (hk : KeepT 41 x W W') (hx : ∃ cs, Blk W x 107 cs) : LegCells W' B base u l := by
  refine ⟨h.1, ?_⟩
  rcases h.2 with ⟨cA, cc, h1, h2⟩ | h2
  · exact .inl ⟨cA, cc, h1, h2.below hb⟩
  · obtain ⟨cs, hx⟩ := hx
    exact .inr (h2.keepT hk (by decide) (h2.ne_blk hx (by decide)))
theorem LegCells.rd (h : LegCells W B base u l) (hB : B ≤ W.heap.size) : ∃ cA cc, u = .slice cA l.n cc ∧ Rd1 W W.heap.size cA l.n l.c := by
  rcases h.2 with ⟨cA, cc, h1, h2⟩ | h2
  · exact ⟨cA, cc, h1, h2.more hB⟩
  · obtain ⟨A, c, rfl⟩ := h2.form
    exact ⟨A, c, rfl, h2.rd1'⟩
/-- n legs of the call's own -/
def OwnL (W : World) (B base : Nat) (v : Value) (n : Nat) (L : Nat → M.Leg) : Prop := ∃ V, Own W base 41 5 v n (legV L V) ∧ ∀ i, i < n → LegCells W B base (V i) (L i)
theorem OwnL.rd {A : Option Addr} {c : Nat} (h : OwnL W B base (.slice A n c) n L) (hB : B ≤ W.heap.size) : RdL W W.heap.size A n L := by
  obtain ⟨V, ho, hc⟩ := h
  rcases Nat.eq_zero_or_pos n with h0 | h0
  · exact .inl h0
  · obtain ⟨g, c', e⟩ := ho.nz h0
    injection e with e1 _ e3
    subst e1; subst e3
    refine .inr ⟨g, 0, rfl, (ho.block rfl).2, fun i hi => ?_⟩
    obtain ⟨cA, cc, hu, hr⟩ := (hc i hi).rd hB
    simp only [Nat.zero_add]
    refine ⟨ho.cell (j := 0) hi (by omega), ho.cell (j := 1) hi (by omega), ho.cell (j := 2) hi (by omega), ho.cell (j := 3) hi (by omega), cA, cc, ?_, hr, (hc i hi).1⟩
    rw [← hu]
    exact ho.cell (j := 4) hi (by omega)
theorem OwnL.form (h : OwnL W B base v n L) : ∃ A c, v = .slice A n c := by
  obtain ⟨V, h, _⟩ := h
  exact h.form
theorem OwnL.nil_ : OwnL W B base (.slice none 0 0) 0 L := ⟨fun _ => .int .i64 0, Own.nil_, fun i hi => absurd hi (by omega)⟩
theorem OwnL.congr {L' : Nat → M.Leg} (h : OwnL W B base v n L) (hL : ∀ i, i < n → L i = L' i) : OwnL W B base v n L' := by
  obtain ⟨V, ho, hc⟩ := h
  refine ⟨V, ho.congr fun i j hi _ => by unfold legV; rw [hL i hi], fun i hi => by rw [← hL i hi]; exact hc i hi⟩
theorem LegCells.below (h : LegCells W B base u l) (hb : Below W.heap.size W W') (hB : B ≤ W.heap.size) : LegCells W' B base u l := by
  refine ⟨h.1, ?_⟩
  rcases h.2 with ⟨cA, cc, h1, h2⟩ | h2
  · exact .inl ⟨cA, cc, h1, h2.below (hb.mono hB)⟩
  · exact .inr (h2.below hb)
theorem OwnL.below (h : OwnL W B base v n L) (hb : Below W.heap.size W W') (hB : B ≤ W.heap.size) : OwnL W' B base v n L := by
  obtain ⟨V, ho, hc⟩ := h
  exact ⟨V, ho.below hb, fun i hi => (hc i hi).below hb hB⟩
end
section
variable {W W' : World} {base x k : Nat} {s : M.Sea} {dA tA sA lA : Option Addr} {dc tc sc ln lc : Nat}
/-- the traffic, where only rows of legs have changed -/
theorem TrK.rowL (h : TrK W base x k s dA tA sA lA dc tc sc ln lc) (hk : KeepT 41 (W'.heap.size + 1) W W') : TrK W' base x k s dA tA sA lA dc tc sc ln lc := by
  obtain ⟨nA, nc, V, h1, h2, h3, h4⟩ := h
  have hne : ∀ {t : Nat} {b m n : Nat} {v : Value} {F : Nat → Nat → Value}, Own W b t m v n F → v.ownBlock ≠ some (W'.heap.size + 1) := fun ho e => by
    have := (ho.block e).2
    have := hk.1
    omega
  exact ⟨nA, nc, V, h1.keepT hk (by decide) (by have := h1.lt; have := hk.1; omega), h2, h3.keepT hk (by decide) (hne h3), fun i hi => (h4 i hi).keepT hk (by decide) (hne (h4 i hi))⟩
theorem TrK.legs (h : TrK W base x k s dA tA sA lA dc tc sc ln lc) (A : Option Addr) (n c : Nat) : TrK (W.setCell ⟨x, 5, none⟩ (.slice A n c)) base x k s dA tA sA A dc tc sc n c := by
  obtain ⟨nA, nc, V, h1, h2, h3, h4⟩ := h
  exact ⟨nA, nc, V, h1.set_ 5 _, h2, h3.setCell (p := ⟨x, 5, none⟩) (h3.ne_blk h1 (by decide)) _, fun i hi => (h4 i hi).setCell (p := ⟨x, 5, none⟩) ((h4 i hi).ne_blk h1 (by decide)) _⟩
theorem TrK.blk (h : TrK W base x k s dA tA sA lA dc tc sc ln lc) : ∃ nA nc, Blk W x 107 #[.int .i64 (s.W : Int), .int .i64 (s.H : Int), .slice dA s.nd dc, .slice tA s.nt tc, .slice sA s.nt sc, .slice lA ln lc, .slice nA k nc] ∧ base ≤ x := by
  obtain ⟨nA, nc, V, h1, h2, _⟩ := h
  exact ⟨nA, nc, h1, h2⟩
end
/-- behind an append of a leg to x.legs -/
theorem tr_done {W W1 w' : World} {base x k n c c' B : Nat} {s : M.Sea} {dA tA sA A A' : Option Addr} {dc tc sc : Nat} {L' : Nat → M.Leg} {V : Nat → Value} {l : M.Leg} {u : Value}
    (hT : TrK W base x k s dA tA sA A dc tc sc n c) (hV1 : Own W base 41 5 (.slice A n c) n (legV L' V)) (hV2 : ∀ i, i < n → LegCells W B base (V i) (L' i)) (hu : LegCells W B base u l) (hA : Below W.heap.size W W1)
    (hown : Own w' base 41 5 (.slice A' (n + 1) c') (n + 1) (upd (legV L' V) n (legRow l u))) (hg : W1.grownBy w' (Value.slice A n c).ownBlock) (hBb : B ≤ base) (hBs : base ≤ W.heap.size) :
    TrK (w'.setCell ⟨x, 5, none⟩ (.slice A' (n + 1) c')) base x k s dA tA sA A' dc tc sc (n + 1) c' ∧ OwnL (w'.setCell ⟨x, 5, none⟩ (.slice A' (n + 1) c')) B base (.slice A' (n + 1) c') (n + 1) (fun i => if i = n then l else L' i) ∧
      KeepT 41 x W (w'.setCell ⟨x, 5, none⟩ (.slice A' (n + 1) c')) ∧ Below base W (w'.setCell ⟨x, 5, none⟩ (.slice A' (n + 1) c')) := by
  obtain ⟨nA, nc, hx, hbx⟩ := hT.blk
  have hk1 : ∀ y, KeepT 41 y W w' := fun y => (KeepT.of_below hA).row (hV1.below hA) hg
  have hTw := hT.rowL (hk1 _)
  have hxw : ∃ nA nc, Blk w' x 107 #[.int .i64 (s.W : Int), .int .i64 (s.H : Int), .slice dA s.nd dc, .slice tA s.nt tc, .slice sA s.nt sc, .slice A n c, .slice nA k nc] ∧ base ≤ x := hTw.blk
  obtain ⟨nA', nc', hx', _⟩ := hxw
  have hk2 : KeepT 41 x W (w'.setCell ⟨x, 5, none⟩ (.slice A' (n + 1) c')) := (hk1 x).set_ 5 _
  have hb2 : Below base W (w'.setCell ⟨x, 5, none⟩ (.slice A' (n + 1) c')) := by
    refine Below.setCell (p := ⟨x, 5, none⟩) ?_ hbx _
    refine Below.grown (hA.mono hBs) hg (Nat.le_trans hBs hA.size) fun q hq => ?_
    exact (hV1.block hq).1
  refine ⟨hTw.legs A' (n + 1) c', ⟨fun i => if i = n then u else V i, ?_, fun i hi => ?_⟩, hk2, hb2⟩
  · rw [← legV_upd]
    exact hown.setCell (p := ⟨x, 5, none⟩) (hown.ne_blk hx' (by decide)) _
  · by_cases e : i = n
    · simp only [e, if_true]
      exact hu.keepT (hb2.mono hBb) hk2 ⟨_, hx⟩
    · simp only [e, if_false]
      exact (hV2 i (by omega)).keepT (hb2.mono hBb) hk2 ⟨_, hx⟩
end Go.Proofs.YtkdpmihdhiokkaaDoor
