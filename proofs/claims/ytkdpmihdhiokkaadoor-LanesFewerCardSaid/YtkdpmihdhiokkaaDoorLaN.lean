/- What is near a cell, as a sorted list. Plain. -/
import Derived.Test.YtkdpmihdhiokkaaDoorLaA
namespace Go.Proofs.YtkdpmihdhiokkaaDoor.M

/-- a cell, and its neighbours in the directions below d -/
def rawL (W H c : Nat) : Nat → List Int
  | 0 => [(c : Int)]
  | d + 1 => if nbIs W H c d then rawL W H c d ++ [((nbN W c d : Nat) : Int)] else rawL W H c d
def leI : Int → Int → Bool := fun x y => decide (x ≤ y)
def nearL (W H c : Nat) : List Int := (rawL W H c 6).mergeSort leI
theorem rawL_len (W H c : Nat) : ∀ d, 1 ≤ (rawL W H c d).length ∧ (rawL W H c d).length ≤ d + 1
  | 0 => ⟨Nat.le_refl _, Nat.le_refl _⟩
  | d + 1 => by
    have := rawL_len W H c d
    simp only [rawL]
    split
    · simp; omega
    · omega
theorem rawL_mem {W H c : Nat} {x : Int} : ∀ {d}, x ∈ rawL W H c d ↔ x = c ∨ ∃ k, k < d ∧ nbIs W H c k = true ∧ x = (nbN W c k : Nat)
  | 0 => by simp [rawL]
  | d + 1 => by
    simp only [rawL]
    split
    · rename_i h
      rw [List.mem_append, rawL_mem]
      constructor
      · rintro ((h1 | ⟨k, hk, h1, h2⟩) | h1)
        · exact .inl h1
        · exact .inr ⟨k, by omega, h1, h2⟩
        · exact .inr ⟨d, by omega, h, by simpa using h1⟩
      · rintro (h1 | ⟨k, hk, h1, h2⟩)
        · exact .inl (.inl h1)
        · rcases Nat.lt_succ_iff_lt_or_eq.1 hk with h3 | h3
          · exact .inl (.inr ⟨k, h3, h1, h2⟩)
          · subst h3; exact .inr (by simp [h2])
    · rename_i h
      rw [rawL_mem]
      constructor
      · rintro (h1 | ⟨k, hk, h1, h2⟩)
        · exact .inl h1
        · exact .inr ⟨k, by omega, h1, h2⟩
      · rintro (h1 | ⟨k, hk, h1, h2⟩)
        · exact .inl h1
        · rcases Nat.lt_succ_iff_lt_or_eq.1 hk with h3 | h3
          · exact .inr ⟨k, h3, h1, h2⟩
          · subst h3; exact absurd h1 h
theorem nearL_len (W H c : Nat) : 1 ≤ (nearL W H c).length ∧ (nearL W H c).length ≤ 7 := by
  unfold nearL
  rw [List.length_mergeSort]
  exact rawL_len W H c 6
theorem nearL_mem {W H c : Nat} {x : Int} : x ∈ nearL W H c ↔ ∃ b : Nat, x = b ∧ adj W H c b = true := by
  unfold nearL
  rw [List.mem_mergeSort, rawL_mem]
  constructor
  · rintro (h | ⟨k, hk, h1, h2⟩)
    · exact ⟨c, h, adj_iff.2 (.inl rfl)⟩
    · exact ⟨_, h2, adj_iff.2 (.inr ⟨k, hk, h1, rfl⟩)⟩
  · rintro ⟨b, rfl, h⟩
    rcases adj_iff.1 h with h | ⟨k, hk, h1, h2⟩
    · exact .inl (by rw [h])
    · exact .inr ⟨k, hk, h1, by rw [h2]⟩
theorem nearL_sorted (W H c : Nat) : (nearL W H c).Pairwise (fun x y => x ≤ y) := by
  have h := List.pairwise_mergeSort (le := leI) (fun a b c h1 h2 => by unfold leI at *; simp at *; omega) (fun a b => by unfold leI; simp; omega) (rawL W H c 6)
  exact h.imp fun h => by unfold leI at h; simpa using h
theorem nearL_get {W H c i : Nat} (hi : i < (nearL W H c).length) : ∃ b : Nat, (nearL W H c).getD i 0 = b ∧ adj W H c b = true := by
  rw [List.getD_eq_getElem?_getD, List.getElem?_eq_getElem hi, Option.getD_some]
  exact nearL_mem.1 (List.getElem_mem hi)
theorem nearL_idx {W H c b : Nat} (h : adj W H c b = true) : ∃ i, i < (nearL W H c).length ∧ (nearL W H c).getD i 0 = b := by
  obtain ⟨i, hi, he⟩ := List.getElem_of_mem (nearL_mem.2 ⟨b, rfl, h⟩)
  exact ⟨i, hi, by rw [List.getD_eq_getElem?_getD, List.getElem?_eq_getElem hi, Option.getD_some]; exact he⟩
theorem nearL_le {W H c i j : Nat} (hij : i ≤ j) (hj : j < (nearL W H c).length) : (nearL W H c).getD i 0 ≤ (nearL W H c).getD j 0 := by
  rw [List.getD_eq_getElem?_getD, List.getD_eq_getElem?_getD, List.getElem?_eq_getElem hj, List.getElem?_eq_getElem (show i < _ by omega), Option.getD_some, Option.getD_some]
  rcases Nat.lt_or_eq_of_le hij with h | h
  · exact List.pairwise_iff_getElem.1 (nearL_sorted W H c) i j (by omega) hj h
  · subst h; exact Int.le_refl _
end Go.Proofs.YtkdpmihdhiokkaaDoor.M
