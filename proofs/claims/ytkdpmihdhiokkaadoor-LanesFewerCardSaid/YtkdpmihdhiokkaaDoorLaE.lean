/- What is in the way: legs that leave no route. Plain. -/
import Derived.Test.YtkdpmihdhiokkaaDoorLaD
namespace Go.Proofs.YtkdpmihdhiokkaaDoor.M

def someL (L : Nat → Leg) (l : List Nat) : Nat → Leg := fun i => L (l.getD i 0)
def hasR (s : Sea) (L : Nat → Leg) (n : Nat) (r : Trip) : Bool := decide (endK s L n r < s.nt - r.at_.toNat)
def hasS (s : Sea) (L : Nat → Leg) (r : Trip) (l : List Nat) : Bool := hasR s (someL L l) l.length r
/-- those of the first i legs that stay -/
def keep (s : Sea) (L : Nat → Leg) (n : Nat) (r : Trip) : Nat → List Nat
  | 0 => []
  | i + 1 => if hasS s L r (keep s L n r i ++ List.range' (i + 1) (n - (i + 1))) then keep s L n r i ++ [i] else keep s L n r i
def leftL (s : Sea) (L : Nat → Leg) (n : Nat) (r : Trip) (i : Nat) : List Nat := keep s L n r i ++ List.range' i (n - i)
section
variable {s : Sea} {L : Nat → Leg} {n : Nat} {r : Trip}
theorem hasS_sub {l l' : List Nat} (h : ∀ x, x ∈ l' → x ∈ l) (hh : hasS s L r l = true) : hasS s L r l' = true := by
  unfold hasS hasR at *
  simp only [decide_eq_true_eq] at *
  have := endK_mono (s := s) (L := someL L l) (L' := someL L l') (n := l.length) (n' := l'.length) (r := r) (r' := r) rfl rfl rfl (fun p q t hg => goes_sub (fun i hi => by
    have hm : l'.getD i 0 ∈ l' := by rw [List.getD_eq_getElem?_getD, List.getElem?_eq_getElem hi, Option.getD_some]; exact List.getElem_mem hi
    obtain ⟨j, hj, e⟩ := List.getElem_of_mem (h _ hm)
    refine ⟨j, hj, ?_⟩
    unfold someL
    congr 1
    rw [List.getD_eq_getElem?_getD, List.getD_eq_getElem?_getD, List.getElem?_eq_getElem hj, Option.getD_some, e, List.getD_eq_getElem?_getD]) hg) hh
  omega
theorem keep_lt : ∀ {i x}, x ∈ keep s L n r i → x < i
  | 0, x, h => by simp [keep] at h
  | i + 1, x, h => by
    simp only [keep] at h
    split at h
    · rw [List.mem_append] at h
      rcases h with h | h
      · have := keep_lt h; omega
      · have : x = i := by simpa using h
        omega
    · have := keep_lt h; omega
theorem keep_grow : ∀ {i k x}, i ≤ k → x ∈ keep s L n r k → x < i → x ∈ keep s L n r i
  | i, 0, x, hk, h, hx => by simp [keep] at h
  | i, k + 1, x, hk, h, hx => by
    by_cases e : i = k + 1
    · subst e; exact h
    · simp only [keep] at h
      split at h
      · rw [List.mem_append] at h
        rcases h with h | h
        · exact keep_grow (by omega) h hx
        · have : x = k := by simpa using h
          omega
      · exact keep_grow (by omega) h hx
theorem left_succ {i : Nat} (hi : i < n) : leftL s L n r (i + 1) = if hasS s L r (keep s L n r i ++ List.range' (i + 1) (n - (i + 1))) then leftL s L n r i else keep s L n r i ++ List.range' (i + 1) (n - (i + 1)) := by
  unfold leftL
  have e : List.range' i (n - i) = i :: List.range' (i + 1) (n - (i + 1)) := by
    rw [show n - i = (n - (i + 1)) + 1 by omega, List.range'_succ]
  by_cases h : hasS s L r (keep s L n r i ++ List.range' (i + 1) (n - (i + 1))) = true
  · rw [if_pos h, e]
    simp only [keep, h, if_true]
    simp
  · rw [if_neg h]
    simp only [keep, h]
    simp
/-- among those that stay there is no route -/
theorem left_none (h0 : hasS s L r (leftL s L n r 0) = false) : ∀ {i}, i ≤ n → hasS s L r (leftL s L n r i) = false
  | 0, _ => h0
  | i + 1, hi => by
    rw [left_succ (by omega)]
    cases h : hasS s L r (keep s L n r i ++ List.range' (i + 1) (n - (i + 1)))
    · simpa using h
    · simp only [if_true]
      exact left_none h0 (by omega)
theorem left_end : leftL s L n r n = keep s L n r n := by unfold leftL; simp
/-- without any one of them there is one -/
theorem keep_each {v : Nat} (hv : v ∈ keep s L n r n) {l : List Nat} (hl : ∀ x, x ∈ l → x ∈ keep s L n r n ∧ x ≠ v) : hasS s L r l = true := by
  have hvn := keep_lt hv
  have h1 : v ∈ keep s L n r (v + 1) := keep_grow (by omega) hv (by omega)
  have h2 : hasS s L r (keep s L n r v ++ List.range' (v + 1) (n - (v + 1))) = true := by
    cases h : hasS s L r (keep s L n r v ++ List.range' (v + 1) (n - (v + 1)))
    · simp only [keep, h] at h1
      have := keep_lt (by simpa using h1)
      omega
    · rfl
  refine hasS_sub (fun x hx => ?_) h2
  obtain ⟨h3, h4⟩ := hl x hx
  have h5 := keep_lt h3
  rw [List.mem_append]
  rcases Nat.lt_or_ge x v with h | h
  · exact .inl (keep_grow (by omega) h3 h)
  · refine .inr ?_
    rw [List.mem_range'_1]
    omega
end
end Go.Proofs.YtkdpmihdhiokkaaDoor.M
