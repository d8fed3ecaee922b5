/- As little as possible is left of a gift: with it before all others, and its bills first, Pay takes as much of it as it can. Plain, no program. -/
import Derived.Test.YtaljmlkapbojeaaCMath
namespace Go.Proofs.Ytaljmlkapbojeaa
open Go.RowKit

theorem M.sumTo_list (n : Nat) (f : Nat → Int) : M.sumTo n f = ((List.range n).map f).sum := by
  induction n with
  | zero => rfl
  | succ n ih => simp only [M.sumTo, ih, List.range_succ, List.map_append, List.map_cons, List.map_nil, List.sum_append, List.sum_cons, List.sum_nil]; omega
theorem M.sumTo_shift (n : Nat) (f : Nat → Int) : M.sumTo (n + 1) f = f 0 + M.sumTo n fun j => f (j + 1) := by
  induction n with
  | zero => simp [M.sumTo]
  | succ n ih =>
    have : M.sumTo (n + 1 + 1) f = M.sumTo (n + 1) f + f (n + 1) := rfl
    rw [this, ih]
    simp only [M.sumTo]
    omega
theorem sum_filter (p : Nat → Bool) (f : Nat → Int) (l : List Nat) : (((l.filter p) ++ (l.filter fun i => !p i)).map f).sum = (l.map f).sum := by
  induction l with
  | nil => rfl
  | cons a l ih =>
    simp only [List.map_append, List.sum_append] at ih ⊢
    cases h : p a <;> simp [h] <;> omega
theorem len_filter (p : Nat → Bool) (l : List Nat) : ((l.filter p) ++ (l.filter fun i => !p i)).length = l.length := by
  induction l with
  | nil => rfl
  | cons a l ih =>
    simp only [List.length_append] at ih ⊢
    cases h : p a <;> simp [h] <;> omega
def servedTo (G H : Nat → Nat → Int) (g k : Nat) : List Nat := (List.range k).filter fun i => M.srv G H g i
def othersTo (G H : Nat → Nat → Int) (g k : Nat) : List Nat := (List.range k).filter fun i => !M.srv G H g i
def idxOf (G H : Nat → Nat → Int) (g bn i : Nat) : Nat := (servedTo G H g bn ++ othersTo G H g bn).getD i 0
section
variable {G H : Nat → Nat → Int} {g gn bn : Nat}
theorem idx_len : (servedTo G H g bn ++ othersTo G H g bn).length = bn := by
  have := len_filter (fun i => M.srv G H g i) (List.range bn)
  simpa [servedTo, othersTo] using this
theorem idx_lt {i : Nat} (hi : i < bn) : idxOf G H g bn i < bn := by
  have hl : i < (servedTo G H g bn ++ othersTo G H g bn).length := by rw [idx_len]; exact hi
  unfold idxOf
  rw [List.getD_eq_getElem?_getD, List.getElem?_eq_getElem hl, Option.getD_some]
  have hm := List.getElem_mem hl
  rcases List.mem_append.1 hm with h | h
  · exact List.mem_range.1 (List.mem_filter.1 h).1
  · exact List.mem_range.1 (List.mem_filter.1 h).1
theorem sum_idx (f : Nat → Int) : M.sumTo bn (fun i => f (idxOf G H g bn i)) = M.sumTo bn f := by
  rw [M.sumTo_list, M.sumTo_list]
  have h1 : (List.range bn).map (fun i => f (idxOf G H g bn i)) = (servedTo G H g bn ++ othersTo G H g bn).map f := by
    apply List.ext_getElem
    · rw [List.length_map, List.length_map, List.length_range, idx_len]
    · intro i h1 h2
      simp only [List.getElem_map, List.getElem_range]
      unfold idxOf
      rw [List.getD_eq_getElem?_getD, List.getElem?_eq_getElem (by simpa using h2), Option.getD_some]
  rw [h1]
  exact sum_filter (fun i => M.srv G H g i) f (List.range bn)
/-- the gift before all others; none of it where it was -/
def firstG (G : Nat → Nat → Int) (g : Nat) : Nat → Nat → Int := fun j c => if j = 0 then G g c else if j = g + 1 ∧ c = 2 then 0 else G (j - 1) c
def firstH (G H : Nat → Nat → Int) (g bn : Nat) : Nat → Nat → Int := fun i c => H (idxOf G H g bn i) c
theorem first_srv0 (i : Nat) : M.srv (firstG G g) (firstH G H g bn) 0 i = M.srv G H g (idxOf G H g bn i) := rfl
theorem first_srv (j i : Nat) : M.srv (firstG G g) (firstH G H g bn) (j + 1) i = M.srv G H j (idxOf G H g bn i) := by simp [M.srv, firstG, firstH]
theorem first_ok (ok : Ok gn bn G H) (hg : g < gn) (h6 : gn ≤ 6) : Ok (gn + 1) bn (firstG G g) (firstH G H g bn) := by
  refine ⟨by omega, ok.2.1, fun j hj => ?_, fun i hi => ok.2.2.2 _ (idx_lt hi)⟩
  unfold firstG
  by_cases e : j = 0
  · subst e; simpa using ok.2.2.1 g hg
  · have h1 := ok.2.2.1 (j - 1) (by omega)
    by_cases e2 : j = g + 1
    · subst e2; simp at h1 ⊢; omega
    · simp [e, e2]; omega
/-- any payments are payments of it too -/
theorem first_pay {P : Nat → Nat → Int} (h : PayOk gn bn G H P) (hg : g < gn) : PayOk (gn + 1) bn (firstG G g) (firstH G H g bn) fun i j => if j = 0 then P (idxOf G H g bn i) g else if j = g + 1 then 0 else P (idxOf G H g bn i) (j - 1) := by
  refine ⟨fun i hi j hj => ?_, fun i hi => ?_, fun j hj => ?_⟩
  · have hx := idx_lt (G := G) (H := H) (g := g) hi
    by_cases e : j = 0
    · subst e
      have := h.cell _ hx g hg
      simpa [first_srv0] using this
    · by_cases e2 : j = g + 1
      · subst e2; simp
      · obtain ⟨j, rfl⟩ : ∃ k, j = k + 1 := ⟨j - 1, by omega⟩
        have := h.cell _ hx j (by omega)
        rw [first_srv]
        simpa [show ¬ j = g by omega] using this
  · have hx := idx_lt (G := G) (H := H) (g := g) hi
    rw [M.sumTo_shift]
    simp only [if_true]
    have h1 : M.sumTo gn (fun j => if j + 1 = 0 then P (idxOf G H g bn i) g else if j + 1 = g + 1 then 0 else P (idxOf G H g bn i) (j + 1 - 1)) = M.sumTo gn (P (idxOf G H g bn i)) + (0 - P (idxOf G H g bn i) g) := by
      rw [M.sumTo_upd (n := gn) (k := g) (f := P (idxOf G H g bn i)) hg (fun j _ hne => by simp [hne])]
      simp
    rw [h1, h.row _ hx]
    show _ = H (idxOf G H g bn i) 2
    omega
  · by_cases e : j = 0
    · subst e
      simp only [if_true]
      rw [sum_idx (fun i => P i g)]
      exact h.col g hg
    · by_cases e2 : j = g + 1
      · subst e2
        simp only [e, if_false, if_true]
        rw [M.sumTo_zero fun _ _ => rfl]
        simp [firstG]
      · simp only [e, e2, if_false]
        rw [sum_idx (fun i => P i (j - 1))]
        have := h.col (j - 1) (by omega)
        simpa [firstG, e, e2] using this
theorem sum_lt {n : Nat} {f f' : Nat → Int} (h : M.sumTo n f < M.sumTo n f') : ∃ i, i < n ∧ f i < f' i := by
  refine Classical.byContradiction fun h2 => ?_
  have := M.sumTo_le (n := n) (f := f') (g := f) fun i hi => by
    refine Classical.byContradiction fun h3 => h2 ⟨i, hi, by omega⟩
  omega
/-- a bit more of the first gift -/
theorem shift_pay {gn bn : Nat} {G H P : Nat → Nat → Int} (h : PayOk gn bn G H P) {i j : Nat} (hi : i < bn) (hj : j < gn) (hj0 : j ≠ 0) (hP : 0 < P i j) (hs : M.srv G H 0 i = true) (hr : P i 0 < H i 2) (hH : H i 2 ≤ 1000000) (hc : M.sumTo bn (fun i => P i 0) < G 0 2) :
    PayOk gn bn G H fun a c => if a = i ∧ c = 0 then P i 0 + 1 else if a = i ∧ c = j then P i j - 1 else P a c := by
  have hg0 : 0 < gn := by omega
  refine ⟨fun a ha c hc' => ?_, fun a ha => ?_, fun c hc' => ?_⟩
  · by_cases e : a = i ∧ c = 0
    · obtain ⟨rfl, rfl⟩ := e
      have := h.cell a ha 0 hg0
      simp
      exact ⟨by omega, by omega, fun _ => hs⟩
    · by_cases e2 : a = i ∧ c = j
      · obtain ⟨rfl, rfl⟩ := e2
        have := h.cell a ha c hc'
        simp [hj0]
        exact ⟨by omega, by omega, fun _ => this.2.2 hP⟩
      · simp only [e, e2, if_false]
        exact h.cell a ha c hc'
  · by_cases e : a = i
    · subst e
      have h1 := M.sumTo_upd (n := gn) (k := 0) (f := P a) (f' := fun c => if c = 0 then P a 0 + 1 else P a c) hg0 (fun c _ hne => by simp [hne])
      have h2 := M.sumTo_upd (n := gn) (k := j) (f := fun c => if c = 0 then P a 0 + 1 else P a c) (f' := fun c => if a = a ∧ c = 0 then P a 0 + 1 else if a = a ∧ c = j then P a j - 1 else P a c) hj (fun c _ hne => by simp [hne])
      rw [h2, h1, h.row a ha]
      simp [hj0]
      omega
    · rw [← h.row a ha]
      exact M.sumTo_congr fun c _ => by simp [e]
  · by_cases e : c = 0
    · subst e
      have h1 := M.sumTo_upd (n := bn) (k := i) (f := fun a => P a 0) (f' := fun a => if a = i ∧ 0 = 0 then P i 0 + 1 else if a = i ∧ 0 = j then P i j - 1 else P a 0) hi (fun a _ hne => by simp [hne])
      rw [h1]
      simp
      omega
    · by_cases e2 : c = j
      · subst e2
        have h1 := M.sumTo_upd (n := bn) (k := i) (f := fun a => P a c) (f' := fun a => if a = i ∧ c = 0 then P i 0 + 1 else if a = i ∧ c = c then P i c - 1 else P a c) hi (fun a _ hne => by simp [hne])
        rw [h1]
        have := h.col c hc'
        simp [hj0]
        omega
      · rw [M.sumTo_congr (g := fun a => P a c) fun a _ => by simp [e, e2]]
        exact h.col c hc'
theorem first_lpd (ok : Ok gn bn G H) (hp : lpd gn bn G H = true) (hg : g < gn) : lpd (gn + 1) bn (firstG G g) (firstH G H g bn) = true :=
  payB_lpd (first_pay (payOk_pay ok hp) hg).payB
/-- what Pay takes of it then -/
theorem first_used (ok : Ok gn bn G H) (hp : lpd gn bn G H = true) (hg : g < gn) (h6 : gn ≤ 6) :
    G g 2 - M.sumTo bn (fun i => M.payAt (gn + 1) bn (s0 (firstG G g) (firstH G H g bn) (gn + 1)) i 0) = leftSp gn bn G H g 0 := by
  have ok1 := first_ok ok hg h6
  have hp1 := first_lpd ok hp hg
  have po := payOk_pay ok1 hp1
  obtain ⟨P, hP⟩ : ∃ P, P = M.payAt (gn + 1) bn (s0 (firstG G g) (firstH G H g bn) (gn + 1)) := ⟨_, rfl⟩
  have lex : ∀ Q, PayOk (gn + 1) bn (firstG G g) (firstH G H g bn) Q → ∀ b, b < bn → (∀ i, i < b → ∀ j, j < gn + 1 → Q i j = P i j) → Q b 0 ≤ P b 0 := fun Q hQ b hb h1 => by
    rw [hP] at h1 ⊢
    exact payB_lex hQ.payB hb (by omega) h1 (fun j hj => absurd hj (by omega))
  rw [← hP] at po ⊢
  have hcol : M.sumTo bn (fun i => P i 0) ≤ G g 2 := by simpa [firstG] using po.col 0 (by omega)
  have hused : M.usedTo bn G H g = M.sumTo bn fun i => M.sel (M.srv G H g (idxOf G H g bn i)) (H (idxOf G H g bn i) 2) := by
    unfold M.usedTo
    exact (sum_idx (G := G) (H := H) (g := g) fun i => M.sel (M.srv G H g i) (H i 2)).symm
  have hle : M.sumTo bn (fun i => P i 0) ≤ M.usedTo bn G H g := by
    rw [hused]
    refine M.sumTo_le fun i hi => ?_
    have hc := po.cell i hi 0 (by omega)
    rw [first_srv0] at hc
    cases hs : M.srv G H g (idxOf G H g bn i)
    · by_cases h0 : 0 < P i 0
      · rw [hc.2.2 h0] at hs; cases hs
      · simp only [M.sel]; simp; omega
    · have h1 := M.sumTo_one (n := gn + 1) (k := 0) (f := P i) (by omega) fun j hj => (po.cell i hi j hj).1
      rw [po.row i hi] at h1
      exact h1
  show _ = max 0 (G g 2 - M.usedTo bn G H g)
  have key : ¬ (M.sumTo bn (fun i => P i 0) < G g 2 ∧ M.sumTo bn (fun i => P i 0) < M.usedTo bn G H g) := by
    rintro ⟨h1, h2⟩
    rw [hused] at h2
    obtain ⟨i, hi, h3⟩ := sum_lt h2
    have hc := po.cell i hi 0 (by omega)
    have hs : M.srv G H g (idxOf G H g bn i) = true := by
      cases hs : M.srv G H g (idxOf G H g bn i)
      · rw [hs] at h3; simp only [M.sel] at h3; simp at h3; omega
      · rfl
    rw [hs] at h3
    have h3' : P i 0 < firstH G H g bn i 2 := h3
    have h4 : M.sumTo (gn + 1) (fun j => if j = 0 then P i 0 else 0) < M.sumTo (gn + 1) (P i) := by
      rw [po.row i hi, M.sumTo_shift, M.sumTo_zero fun j _ => by simp]
      simpa using h3'
    obtain ⟨j, hj, h5⟩ := sum_lt h4
    have hj0 : j ≠ 0 := fun e => by subst e; simp at h5
    rw [if_neg hj0] at h5
    have hH := (ok1.2.2.2 i hi).2.2.2.2.2
    have hQ := shift_pay po hi hj hj0 h5 (by rw [first_srv0]; exact hs) h3' hH (by simpa [firstG] using h1)
    have := lex _ hQ i hi (fun a ha c _ => by simp [show ¬ a = i by omega])
    simp at this
    omega
  omega
end
end Go.Proofs.Ytaljmlkapbojeaa
