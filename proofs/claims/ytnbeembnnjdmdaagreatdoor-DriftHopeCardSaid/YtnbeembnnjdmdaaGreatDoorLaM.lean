/- The losses tick by tick, as a map from cells, filled in any order: plain. No program. -/
import Derived.Test.YtnbeembnnjdmdaaGreatDoorLaL
namespace Go.Proofs.YtnbeembnnjdmdaaGreatDoor.M

section
variable (d : Dr) (at_ : Nat) (l : Int) (X : Int → Bool) (fit : Nat → Int → Bool) (n : Nat) (co : Int → Nat → Int)
/-- the losses in tick i -/
def lvF (i : Nat) (c : Int) : Option (Int × Int) := if c ∈ rwL d at_ l X fit n i then some (loC d at_ l X fit n co i c, hiC d at_ l X fit n co i c) else none
/-- those of tick i + 1, by the cells seen so far of tick i -/
def bhV (i : Nat) (vis : List Int) (c : Int) : Option (Int × Int) :=
  if c ∈ rwL d at_ l X fit n (i + 1) then
    if (vis.filter fun p => stepB d (at_ + i) l p c) = [] then none
    else some (mnL ((vis.filter fun p => stepB d (at_ + i) l p c).map fun p => loC d at_ l X fit n co i p + co p 0), mxL ((vis.filter fun p => stepB d (at_ + i) l p c).map fun p => hiC d at_ l X fit n co i p + co p 1))
  else none
/-- .. and the first j cells in which the next one can be -/
def bhJ (i : Nat) (vis : List Int) (p : Int) (j : Nat) (c : Int) : Option (Int × Int) := if c ∈ (stepL d (at_ + i) l p).take j then bhV d at_ l X fit n co i (vis ++ [p]) c else bhV d at_ l X fit n co i vis c
end
section
variable {d : Dr} {at_ : Nat} {l : Int} {X : Int → Bool} {fit : Nat → Int → Bool} {n : Nat} {co : Int → Nat → Int} {i : Nat} {vis : List Int} {p c : Int} {j : Nat}
theorem bhV_nil : bhV d at_ l X fit n co i [] c = none := by unfold bhV; split <;> simp
theorem bhJ_zero : bhJ d at_ l X fit n co i vis p 0 c = bhV d at_ l X fit n co i vis c := by unfold bhJ; simp
theorem bhV_add (h : stepB d (at_ + i) l p c = false) : bhV d at_ l X fit n co i (vis ++ [p]) c = bhV d at_ l X fit n co i vis c := by
  unfold bhV
  simp [List.filter_append, h]
theorem bhJ_done (hd : d.Ok) (hp : p < d.s.nd) : bhJ d at_ l X fit n co i vis p (stepL d (at_ + i) l p).length c = bhV d at_ l X fit n co i (vis ++ [p]) c := by
  unfold bhJ
  rw [List.take_length]
  by_cases h : c ∈ stepL d (at_ + i) l p
  · rw [if_pos h]
  · rw [if_neg h, bhV_add]
    cases hs : stepB d (at_ + i) l p c
    · rfl
    · exact absurd ((mem_stepL hd hp).2 hs) h
theorem stepL_at (hj : j < (stepL d (at_ + i) l p).length) : (stepL d (at_ + i) l p).getD j 0 = (stepL d (at_ + i) l p)[j] := by rw [List.getD_eq_getElem?_getD, List.getElem?_eq_getElem hj, Option.getD_some]
theorem stepL_fresh (hj : j < (stepL d (at_ + i) l p).length) : (stepL d (at_ + i) l p).getD j 0 ∉ (stepL d (at_ + i) l p).take j := by
  rw [stepL_at hj]
  intro h
  obtain ⟨k, hk, e⟩ := List.getElem_of_mem h
  rw [List.getElem_take] at e
  rw [List.length_take] at hk
  have := List.pairwise_iff_getElem.1 (listB_sorted d.s.nd (stepB d (at_ + i) l p)) k j (by show k < (stepL d (at_ + i) l p).length; omega) hj (by omega)
  have e' : (stepL d (at_ + i) l p)[k]'(by omega) = (stepL d (at_ + i) l p)[j] := e
  unfold stepL at e'
  omega
theorem take_at (hj : j < (stepL d (at_ + i) l p).length) : (stepL d (at_ + i) l p).take (j + 1) = (stepL d (at_ + i) l p).take j ++ [(stepL d (at_ + i) l p).getD j 0] := by
  rw [stepL_at hj, List.take_add_one, List.getElem?_eq_getElem hj]
  rfl
/-- a cell that is not in the next row leaves the map as it is -/
theorem bhJ_skip (hj : j < (stepL d (at_ + i) l p).length) (h : (stepL d (at_ + i) l p).getD j 0 ∉ rwL d at_ l X fit n (i + 1)) (c : Int) : bhJ d at_ l X fit n co i vis p (j + 1) c = bhJ d at_ l X fit n co i vis p j c := by
  unfold bhJ
  rw [take_at hj]
  by_cases e : c = (stepL d (at_ + i) l p).getD j 0
  · subst e
    rw [if_pos (by simp), if_neg (stepL_fresh hj)]
    unfold bhV
    rw [if_neg h, if_neg h]
  · by_cases h2 : c ∈ (stepL d (at_ + i) l p).take j
    · rw [if_pos h2, if_pos (List.mem_append_left _ h2)]
    · rw [if_neg h2, if_neg (by
        intro h3
        rcases List.mem_append.1 h3 with h3 | h3
        · exact h2 h3
        · exact e (List.mem_singleton.1 h3))]
theorem bhJ_old (hj : j < (stepL d (at_ + i) l p).length) : bhJ d at_ l X fit n co i vis p j ((stepL d (at_ + i) l p).getD j 0) = bhV d at_ l X fit n co i vis ((stepL d (at_ + i) l p).getD j 0) := by
  unfold bhJ
  rw [if_neg (stepL_fresh hj)]
/-- the number that is laid at a cell of the next row: where nothing lay .. -/
theorem bhJ_new (hd : d.Ok) (hp : p < d.s.nd) (hj : j < (stepL d (at_ + i) l p).length) (h : (stepL d (at_ + i) l p).getD j 0 ∈ rwL d at_ l X fit n (i + 1)) (h0 : 0 ≤ hiC d at_ l X fit n co i p + co p 1) (hv : bhV d at_ l X fit n co i vis ((stepL d (at_ + i) l p).getD j 0) = none) (c : Int) :
    bhJ d at_ l X fit n co i vis p (j + 1) c = if c = (stepL d (at_ + i) l p).getD j 0 then some (loC d at_ l X fit n co i p + co p 0, hiC d at_ l X fit n co i p + co p 1) else bhJ d at_ l X fit n co i vis p j c := by
  by_cases e : c = (stepL d (at_ + i) l p).getD j 0
  · rw [if_pos e]
    unfold bhJ
    rw [take_at hj, if_pos (by rw [e]; simp), e]
    have hs : stepB d (at_ + i) l p ((stepL d (at_ + i) l p).getD j 0) = true := by
      rw [stepL_at hj]; exact (mem_stepL hd hp).1 (List.getElem_mem hj)
    unfold bhV at hv ⊢
    rw [if_pos h] at hv ⊢
    have hf : (vis.filter fun q => stepB d (at_ + i) l q ((stepL d (at_ + i) l p).getD j 0)) = [] := by
      by_cases hf : (vis.filter fun q => stepB d (at_ + i) l q ((stepL d (at_ + i) l p).getD j 0)) = []
      · exact hf
      · rw [if_neg hf] at hv; cases hv
    simp only [List.filter_append, hf, List.filter_cons, hs, List.filter_nil, if_true, List.nil_append, List.map_cons, List.map_nil]
    rw [if_neg (by simp)]
    simp only [mnL, mxL, if_true]
    congr 2
    omega
  · rw [if_neg e]
    unfold bhJ
    rw [take_at hj]
    by_cases h2 : c ∈ (stepL d (at_ + i) l p).take j
    · rw [if_pos h2, if_pos (List.mem_append_left _ h2)]
    · rw [if_neg h2, if_neg (by
        intro h3
        rcases List.mem_append.1 h3 with h3 | h3
        · exact h2 h3
        · exact e (List.mem_singleton.1 h3))]
/-- .. and where something lay -/
theorem bhJ_more (hd : d.Ok) (hp : p < d.s.nd) (hj : j < (stepL d (at_ + i) l p).length) (h : (stepL d (at_ + i) l p).getD j 0 ∈ rwL d at_ l X fit n (i + 1)) {a b : Int} (hv : bhV d at_ l X fit n co i vis ((stepL d (at_ + i) l p).getD j 0) = some (a, b)) (c : Int) :
    bhJ d at_ l X fit n co i vis p (j + 1) c = if c = (stepL d (at_ + i) l p).getD j 0 then some (min a (loC d at_ l X fit n co i p + co p 0), max b (hiC d at_ l X fit n co i p + co p 1)) else bhJ d at_ l X fit n co i vis p j c := by
  by_cases e : c = (stepL d (at_ + i) l p).getD j 0
  · rw [if_pos e]
    unfold bhJ
    rw [take_at hj, if_pos (by rw [e]; simp), e]
    have hs : stepB d (at_ + i) l p ((stepL d (at_ + i) l p).getD j 0) = true := by
      rw [stepL_at hj]; exact (mem_stepL hd hp).1 (List.getElem_mem hj)
    unfold bhV at hv ⊢
    rw [if_pos h] at hv ⊢
    by_cases hf : (vis.filter fun q => stepB d (at_ + i) l q ((stepL d (at_ + i) l p).getD j 0)) = []
    · rw [if_pos hf] at hv; cases hv
    · rw [if_neg hf] at hv
      have hv := Option.some.inj hv
      have ha := congrArg Prod.fst hv
      have hb := congrArg Prod.snd hv
      simp only at ha hb
      rw [← ha, ← hb]
      simp only [List.filter_append, List.filter_cons, hs, List.filter_nil, if_true, List.map_append, List.map_cons, List.map_nil]
      rw [if_neg (by simp), mnL_app, mxL_app, if_neg (by simpa using hf)]
  · rw [if_neg e]
    unfold bhJ
    rw [take_at hj]
    by_cases h2 : c ∈ (stepL d (at_ + i) l p).take j
    · rw [if_pos h2, if_pos (List.mem_append_left _ h2)]
    · rw [if_neg h2, if_neg (by
        intro h3
        rcases List.mem_append.1 h3 with h3 | h3
        · exact h2 h3
        · exact e (List.mem_singleton.1 h3))]
/-- when all cells of a tick have been seen -/
theorem bhV_done (hi : i < n) (h1 : ∀ x, x ∈ vis ↔ x ∈ rwL d at_ l X fit n i) (c : Int) : bhV d at_ l X fit n co i vis c = lvF d at_ l X fit n co (i + 1) c := by
  unfold bhV lvF
  by_cases hc : c ∈ rwL d at_ l X fit n (i + 1)
  · rw [if_pos hc, if_pos hc]
    obtain ⟨q, hq, hs⟩ := row_back hi hc
    rw [if_neg (List.ne_nil_of_mem (List.mem_filter.2 ⟨(h1 q).2 hq, hs⟩))]
    congr 2
    · refine mnL_ext fun x => ?_
      simp only [List.mem_map, List.mem_filter, h1]
    · refine mxL_ext fun x => ?_
      simp only [List.mem_map, List.mem_filter, h1]
  · rw [if_neg hc, if_neg hc]
theorem lvF_zero (c : Int) : lvF d at_ l X fit n co 0 c = if c ∈ rwL d at_ l X fit n 0 then some (0, 0) else none := rfl
theorem low_done (h1 : ∀ x, x ∈ vis ↔ x ∈ rwL d at_ l X fit n i) : mnL (vis.map (loC d at_ l X fit n co i)) = lowR d at_ l X fit n co i := mnL_ext fun x => by simp only [List.mem_map, h1]
theorem high_done (h1 : ∀ x, x ∈ vis ↔ x ∈ rwL d at_ l X fit n i) : mxL (vis.map (hiC d at_ l X fit n co i)) = highR d at_ l X fit n co i := mxL_ext fun x => by simp only [List.mem_map, h1]
end
end Go.Proofs.YtnbeembnnjdmdaaGreatDoor.M
