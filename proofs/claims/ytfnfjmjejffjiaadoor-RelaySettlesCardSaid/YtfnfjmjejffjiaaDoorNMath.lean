/- What holds of a call after any events: who is responsible, the turns, losses, duplicates. Plain, no program. -/
import Derived.Test.YtfnfjmjejffjiaaDoorRInv
import Derived.Test.YtfnfjmjejffjiaaDoorT10
namespace Go.Proofs.YtfnfjmjejffjiaaDoor
open Go.RowKit

/-- no centre behind the last one -/
def M.Sil (n : Nat) (s : M.St) : Prop := ∀ i, n ≤ i → ∀ j, s.c i j = 0
section
variable {n : Nat} {s : M.St}
theorem M.Sil.setC (h : M.Sil n s) {i : Nat} (hi : i < n) (v : Nat → Int) : M.Sil n (M.setC s i v) := fun a ha j => by
  rw [M.set_far s v (by omega)]; exact h a ha j
theorem M.Sil.handle (h : M.Sil n s) {x : Nat → Int} (hx : 0 ≤ x 2 ∧ x 2 < n) : M.Sil n (M.handle s x) := by
  unfold M.handle
  split
  · exact M.Sil.setC h (show (x 2).toNat < n by omega) _
  split
  · exact h
  split
  · exact M.Sil.setC h (show (x 2).toNat < n by omega) _
  split
  · exact h
  split
  · exact M.Sil.setC h (show (x 2).toNat < n by omega) _
  · exact h
theorem M.Sil.go (h : M.Sil n s) (hw : M.Wf n s) (k a b : Int) : M.Sil n (M.go n s k a b) := by
  unfold M.go
  cases e : M.step n s k a b with
  | none => exact h
  | some t =>
    show M.Sil n t
    unfold M.step at e
    split at e
    · unfold M.offer at e
      split at e
      · injection e with e; subst e
        exact M.Sil.setC h (show a.toNat < n by omega) _
      · cases e
    split at e
    · cases e
    split at e
    · unfold M.again at e
      split at e
      · split at e
        · injection e with e; subst e; exact h
        split at e
        · injection e with e; subst e; exact h
        · cases e
      · cases e
    split at e
    · cases e
    rename_i hr
    have hr : 0 ≤ a ∧ a < s.k := Classical.not_not.1 hr
    have hm := hw.msg a.toNat (by omega)
    split at e
    · injection e with e; subst e
      exact M.Sil.handle (s := M.drop s a.toNat) h (by omega)
    split at e
    · injection e with e; subst e; exact h
    split at e
    · split at e
      · injection e with e; subst e; exact h
      · cases e
    · cases e
theorem M.Sil.run {first : Int} (hf : 0 ≤ first ∧ first < n) (E : Nat → Nat → Int) (i : Nat) : M.Sil n (M.runF n first E i) := by
  induction i with
  | zero => intro a ha j; simp only [M.runF, M.init]; rw [if_neg (by omega)]
  | succ i ih => exact ih.go (M.Wf.run hf E i) _ _ _
theorem M.run_congr {first : Int} {E E' : Nat → Nat → Int} : ∀ {i : Nat}, (∀ k, k < i → ∀ j, j < 3 → E k j = E' k j) → M.runF n first E i = M.runF n first E' i
  | 0 => fun _ => rfl
  | i + 1 => fun h => by
    simp only [M.runF]
    rw [M.run_congr (i := i) fun k hk => h k (by omega), h i (by omega) 0 (by omega), h i (by omega) 1 (by omega), h i (by omega) 2 (by omega)]
theorem M.done_congr {first : Int} {E E' : Nat → Nat → Int} {i : Nat} (h : ∀ k, k ≤ i → ∀ j, j < 3 → E k j = E' k j) : M.done n first E i = M.done n first E' i := by
  unfold M.done
  rw [M.run_congr (i := i) fun k hk => h k (by omega), h i (by omega) 0 (by omega), h i (by omega) 1 (by omega), h i (by omega) 2 (by omega)]

theorem elP_two {m : Nat} {p : Nat → Bool} {a b : Nat} (hp : ∀ i, i < m → (p i = true ↔ i = a ∨ i = b)) (hab : a < b) (hb : b < m) : M.elP m p = [a, b] := by
  have key : ∀ m, (∀ i, i < m → (p i = true ↔ i = a ∨ i = b)) → M.elP m p = if b < m then [a, b] else if a < m then [a] else [] := by
    intro m
    induction m with
    | zero => intro _; rfl
    | succ m ih =>
      intro h
      rw [M.elP_succ, ih fun i hi => h i (by omega)]
      have hm := h m (by omega)
      by_cases hpm : p m = true
      · rw [if_pos hpm]
        rcases hm.1 hpm with e | e
        · rw [if_neg (show ¬ b < m by omega), if_neg (show ¬ a < m by omega), if_neg (show ¬ b < m + 1 by omega), if_pos (show a < m + 1 by omega), e]; rfl
        · rw [if_neg (show ¬ b < m by omega), if_pos (show a < m by omega), if_pos (show b < m + 1 by omega), e]; rfl
      · rw [if_neg hpm, List.append_nil]
        have h1 : ¬ (m = a ∨ m = b) := fun e => hpm (hm.2 e)
        by_cases e : b < m
        · rw [if_pos e, if_pos (show b < m + 1 by omega)]
        · rw [if_neg e, if_neg (show ¬ b < m + 1 by omega)]
          by_cases e2 : a < m
          · rw [if_pos e2, if_pos (show a < m + 1 by omega)]
          · rw [if_neg e2, if_neg (show ¬ a < m + 1 by omega)]
  rw [key m hp, if_pos hb]
theorem elP_one {m : Nat} {p : Nat → Bool} {a : Nat} (hp : ∀ i, i < m → (p i = true ↔ i = a)) (ha : a < m) : M.elP m p = [a] := by
  have key : ∀ m, (∀ i, i < m → (p i = true ↔ i = a)) → M.elP m p = if a < m then [a] else [] := by
    intro m
    induction m with
    | zero => intro _; rfl
    | succ m ih =>
      intro h
      rw [M.elP_succ, ih fun i hi => h i (by omega)]
      have hm := h m (by omega)
      by_cases hpm : p m = true
      · rw [if_pos hpm]
        have e := hm.1 hpm
        rw [if_neg (show ¬ a < m by omega), if_pos (show a < m + 1 by omega), e]; rfl
      · rw [if_neg hpm, List.append_nil]
        have h1 : ¬ m = a := fun e => hpm (hm.2 e)
        by_cases e : a < m
        · rw [if_pos e, if_pos (show a < m + 1 by omega)]
        · rw [if_neg e, if_neg (show ¬ a < m + 1 by omega)]
  rw [key m hp, if_pos ha]
theorem elP_none {m : Nat} {p : Nat → Bool} (hp : ∀ i, i < m → p i = false) : M.elP m p = [] := by
  induction m with
  | zero => rfl
  | succ m ih => rw [M.elP_succ, ih fun i hi => hp i (by omega), hp m (by omega)]; rfl

def M.own (s : M.St) (i : Nat) : Bool := decide (s.c i 0 = 1) || decide (s.c i 0 = 2)
theorem M.isResp_iff {i : Nat} : M.isResp s i = true ↔ s.c i 0 = 1 ∨ s.c i 0 = 2 ∨ s.c i 0 = 3 := by
  unfold M.isResp; simp [or_assoc]
theorem M.own_iff {i : Nat} : M.own s i = true ↔ s.c i 0 = 1 ∨ s.c i 0 = 2 := by
  unfold M.own; simp
/-- the offering one and the taking one -/
def M.pair (s : M.St) (x y : Nat) : Prop := s.c x 0 = 2 ∧ s.c y 0 = 3 ∧ s.c x 1 = y ∧ s.c y 1 = x ∧ s.c x 2 = s.c y 2
def M.Never (n : Nat) (s : M.St) : Prop :=
  (M.elP n (M.own s)).length ≤ 1 ∧ ((∃ a, a < n ∧ M.resp s = [a]) ∨ (∃ a b, a < n ∧ b < n ∧ a < b ∧ M.resp s = [a, b] ∧ (M.pair s a b ∨ s.c a 0 ≠ 2 ∧ M.pair s b a)))
theorem M.never (hI : M.Inv n s) (hs : M.Sil n s) (hn : n ≤ 4) : M.Never n s := by
  have big : ∀ i, ¬ i < n → s.c i 0 = 0 := fun i hi => hs i (by omega) 0
  rcases hI with ⟨h, ⟨hh, h1, ho⟩, -⟩ | ⟨h, c, T, ⟨hh, hb, hne, ⟨c0, c1, c2⟩, ⟨d0, d2⟩, hr⟩, -⟩ | ⟨h, c, T, ⟨hh, hb, hne, ⟨c0, c1, c2⟩, ⟨d0, d1, d2⟩, hr⟩, -⟩ | ⟨h, c, T, ⟨hh, hb, hne, ⟨c0, c1, c2⟩, ⟨d0, d1, d2⟩, hr⟩, -⟩
  · constructor
    · rw [elP_one (a := h) (fun i hi => ?_) hh]
      · exact Nat.le_refl _
      · rw [M.own_iff]
        by_cases e : i = h
        · subst e; exact ⟨fun _ => rfl, fun _ => .inl h1⟩
        · have := (ho i hi e).1
          exact ⟨fun q => by omega, fun q => absurd q e⟩
    · refine .inl ⟨h, hh, elP_one (fun i hi => ?_) (by omega)⟩
      rw [M.isResp_iff]
      by_cases e : i = h
      · subst e; exact ⟨fun _ => rfl, fun _ => .inl h1⟩
      · by_cases hin : i < n
        · have := (ho i hin e).1
          exact ⟨fun q => by omega, fun q => absurd q e⟩
        · have := big i hin
          exact ⟨fun q => by omega, fun q => absurd q e⟩
  · have hz : ∀ i, i ≠ h → s.c i 0 = 0 ∨ s.c i 0 = 4 := fun i e => by
      by_cases hin : i < n
      · by_cases e2 : i = c
        · rw [e2]; exact d0
        · exact (hr i hin e e2).1
      · exact .inl (big i hin)
    constructor
    · rw [elP_one (a := h) (fun i _ => ?_) hh]
      · exact Nat.le_refl _
      · rw [M.own_iff]
        by_cases e : i = h
        · subst e; exact ⟨fun _ => rfl, fun _ => .inr c0⟩
        · have := hz i e
          exact ⟨fun q => by omega, fun q => absurd q e⟩
    · refine .inl ⟨h, hh, elP_one (fun i _ => ?_) (by omega)⟩
      rw [M.isResp_iff]
      by_cases e : i = h
      · subst e; exact ⟨fun _ => rfl, fun _ => .inr (.inl c0)⟩
      · have := hz i e
        exact ⟨fun q => by omega, fun q => absurd q e⟩
  · have hz : ∀ i, i ≠ h → i ≠ c → s.c i 0 = 0 ∨ s.c i 0 = 4 := fun i e e2 => by
      by_cases hin : i < n
      · exact (hr i hin e e2).1
      · exact .inl (big i hin)
    have two : ∀ i, M.isResp s i = true ↔ i = h ∨ i = c := fun i => by
      rw [M.isResp_iff]
      by_cases e : i = h
      · subst e; exact ⟨fun _ => .inl rfl, fun _ => .inr (.inl c0)⟩
      · by_cases e2 : i = c
        · subst e2; exact ⟨fun _ => .inr rfl, fun _ => .inr (.inr d0)⟩
        · have := hz i e e2
          exact ⟨fun q => by omega, fun q => by rcases q with q | q; exact absurd q e; exact absurd q e2⟩
    have hp : M.pair s h c := ⟨c0, d0, c1, d1, by omega⟩
    constructor
    · rw [elP_one (a := h) (fun i _ => ?_) hh]
      · exact Nat.le_refl _
      · rw [M.own_iff]
        by_cases e : i = h
        · subst e; exact ⟨fun _ => rfl, fun _ => .inr c0⟩
        · by_cases e2 : i = c
          · subst e2; exact ⟨fun q => by omega, fun q => absurd q e⟩
          · have := hz i e e2
            exact ⟨fun q => by omega, fun q => absurd q e⟩
    · rcases Nat.lt_or_gt_of_ne hne with hlt | hlt
      · exact .inr ⟨h, c, hh, hb, hlt, elP_two (fun i _ => two i) hlt (by omega), .inl hp⟩
      · exact .inr ⟨c, h, hb, hh, hlt, elP_two (fun i _ => (two i).trans Or.comm) hlt (by omega), .inr ⟨by omega, hp⟩⟩
  · have hz : ∀ i, i ≠ c → s.c i 0 = 0 ∨ s.c i 0 = 4 := fun i e => by
      by_cases hin : i < n
      · by_cases e2 : i = h
        · rw [e2]; exact .inr c0
        · exact (hr i hin e2 e).1
      · exact .inl (big i hin)
    constructor
    · rw [elP_none fun i _ => ?_]
      · exact Nat.zero_le _
      · refine Bool.eq_false_iff.2 fun q => ?_
        rw [M.own_iff] at q
        by_cases e : i = c
        · subst e; omega
        · have := hz i e; omega
    · refine .inl ⟨c, hb, elP_one (fun i _ => ?_) (by omega)⟩
      rw [M.isResp_iff]
      by_cases e : i = c
      · subst e; exact ⟨fun _ => rfl, fun _ => .inr (.inr d0)⟩
      · have := hz i e
        exact ⟨fun q => by omega, fun q => absurd q e⟩

/-- the turns never decrease -/
theorem M.turn_handle (s : M.St) (x : Nat → Int) (i : Nat) : s.c i 2 ≤ (M.handle s x).c i 2 := by
  have hset : ∀ (k : Nat) (v : Nat → Int), s.c k 2 ≤ v 2 → s.c i 2 ≤ (M.setC s k v).c i 2 := fun k v h => by
    rw [M.set_c]; split
    · subst_vars; exact h
    · exact Int.le_refl _
  unfold M.handle
  split
  · rename_i q; exact hset _ _ (by rw [M.v3_2]; omega)
  split
  · exact Int.le_refl _
  split
  · exact hset _ _ (by rw [M.v3_2]; exact Int.le_refl _)
  split
  · exact Int.le_refl _
  split
  · exact hset _ _ (by rw [M.v3_2]; exact Int.le_refl _)
  · exact Int.le_refl _
theorem M.turn_go (n : Nat) (s : M.St) (k a b : Int) (i : Nat) : s.c i 2 ≤ (M.go n s k a b).c i 2 := by
  unfold M.go
  cases e : M.step n s k a b with
  | none => exact Int.le_refl _
  | some t =>
    show s.c i 2 ≤ t.c i 2
    unfold M.step at e
    split at e
    · unfold M.offer at e
      split at e
      · injection e with e; subst e
        show s.c i 2 ≤ (M.setC s a.toNat (M.v3 2 b (s.c a.toNat 2 + 1))).c i 2
        rw [M.set_c]
        split
        · subst_vars; rw [M.v3_2]; omega
        · exact Int.le_refl _
      · cases e
    split at e
    · cases e
    split at e
    · unfold M.again at e
      split at e
      · split at e
        · injection e with e; subst e; exact Int.le_refl _
        split at e
        · injection e with e; subst e; exact Int.le_refl _
        · cases e
      · cases e
    split at e
    · cases e
    split at e
    · injection e with e; subst e
      exact M.turn_handle (M.drop s a.toNat) _ i
    split at e
    · injection e with e; subst e; exact Int.le_refl _
    split at e
    · split at e
      · injection e with e; subst e; exact Int.le_refl _
      · cases e
    · cases e
theorem M.turn_run {first : Int} {E : Nat → Nat → Int} {j : Nat} (i : Nat) : ∀ {k : Nat}, j ≤ k → (M.runF n first E j).c i 2 ≤ (M.runF n first E k).c i 2
  | 0 => fun h => by
    obtain rfl : j = 0 := by omega
    exact Int.le_refl _
  | k + 1 => fun h => by
    by_cases e : j = k + 1
    · subst e; exact Int.le_refl _
    · exact Int.le_trans (M.turn_run i (show j ≤ k by omega)) (M.turn_go _ _ _ _ _ _)
/-- the greatest turn -/
def M.mostF (s : M.St) : Nat → Int
  | 0 => 0
  | k + 1 => max (M.mostF s k) (s.c k 2)
theorem M.most_ge {i : Nat} : ∀ {k : Nat}, i < k → s.c i 2 ≤ M.mostF s k
  | 0 => fun h => absurd h (by omega)
  | k + 1 => fun h => by
    simp only [M.mostF]
    by_cases e : i = k
    · subst e; omega
    · have := M.most_ge (show i < k by omega); omega
theorem M.most_le {T : Int} (hT : 0 ≤ T) : ∀ {k : Nat}, (∀ i, i < k → s.c i 2 ≤ T) → M.mostF s k ≤ T
  | 0 => fun _ => hT
  | k + 1 => fun h => by
    simp only [M.mostF]
    have h1 := M.most_le hT (k := k) fun i hi => h i (by omega)
    have h2 := h k (by omega)
    omega
theorem M.holds_most (hI : M.Inv n s) (hw : M.Wf n s) {i : Nat} (hi : i < n) (h1 : s.c i 0 = 1) : s.c i 2 = M.mostF s n := by
  have hle : ∀ j, j < n → s.c j 2 ≤ s.c i 2 := by
    rcases hI with ⟨h, ⟨hh, h1', ho⟩, -⟩ | ⟨h, c, T, ⟨hh, hb, hne, ⟨c0, c1, c2⟩, ⟨d0, d2⟩, hr⟩, -⟩ | ⟨h, c, T, ⟨hh, hb, hne, ⟨c0, c1, c2⟩, ⟨d0, d1, d2⟩, hr⟩, -⟩ | ⟨h, c, T, ⟨hh, hb, hne, ⟨c0, c1, c2⟩, ⟨d0, d1, d2⟩, hr⟩, -⟩
    · have e : i = h := Classical.byContradiction fun e => by have := (ho i hi e).1; omega
      subst e
      intro j hj
      by_cases e : j = i
      · subst e; exact Int.le_refl _
      · exact (ho j hj e).2
    all_goals
      exfalso
      rcases M.rest_far hr hi (by omega) (by omega) with e | e
      · subst e; omega
      · subst e; omega
  have h0 := (hw.cen i hi).2.2.2.2.1
  have h3 := M.most_le h0 hle
  have h4 := M.most_ge (s := s) hi
  omega

/-- losses and copies change no centre -/
theorem M.loss_go (n : Nat) (s : M.St) (k a b : Int) (hk : k = 3 ∨ k = 4) : (M.go n s k a b).c = s.c ∧
    ((M.step n s k a b).isSome = false → (M.go n s k a b).k = s.k) ∧ ((M.step n s k a b).isSome = true → (k = 3 → (M.go n s k a b).k = s.k - 1 ∧ 1 ≤ s.k) ∧ (k = 4 → (M.go n s k a b).k = s.k + 1)) := by
  unfold M.go
  cases e : M.step n s k a b with
  | none => exact ⟨rfl, fun _ => rfl, fun h => by cases h⟩
  | some t =>
    show t.c = s.c ∧ (_ → t.k = s.k) ∧ (_ → (k = 3 → t.k = s.k - 1 ∧ 1 ≤ s.k) ∧ (k = 4 → t.k = s.k + 1))
    unfold M.step at e
    rw [if_neg (by omega)] at e
    split at e
    · cases e
    rw [if_neg (by omega)] at e
    split at e
    · cases e
    rename_i hr
    have hr : 0 ≤ a ∧ a < s.k := Classical.not_not.1 hr
    rw [if_neg (by omega)] at e
    split at e
    · injection e with e; subst e
      refine ⟨rfl, fun h => by simp at h, fun _ => ⟨fun _ => ⟨rfl, by omega⟩, fun h => by omega⟩⟩
    split at e
    · split at e
      · injection e with e; subst e
        exact ⟨rfl, fun h => by simp at h, fun _ => ⟨fun h => by omega, fun _ => rfl⟩⟩
      · cases e
    · cases e

/-- what a message does to a centre, it does once -/
theorem M.handle_c (s t : M.St) (x : Nat → Int) (h : s.c = t.c) : (M.handle s x).c = (M.handle t x).c := by
  unfold M.handle
  rw [h]
  split
  · show (M.setC s _ _).c = (M.setC t _ _).c
    unfold M.setC; rw [h]
  split
  · exact h
  split
  · show (M.setC s _ _).c = (M.setC t _ _).c
    unfold M.setC; rw [h]
  split
  · exact h
  split
  · show (M.setC s _ _).c = (M.setC t _ _).c
    unfold M.setC; rw [h]
  · exact h
theorem M.handle_same (s : M.St) (x : Nat → Int) (h1 : ¬ (x 0 = 1 ∧ (s.c (x 2).toNat 0 = 0 ∨ s.c (x 2).toNat 0 = 4) ∧ s.c (x 2).toNat 2 < x 3))
    (h2 : ¬ (x 0 = 2 ∧ s.c (x 2).toNat 0 = 2 ∧ s.c (x 2).toNat 1 = x 1 ∧ s.c (x 2).toNat 2 = x 3)) (h3 : ¬ (x 0 = 3 ∧ s.c (x 2).toNat 0 = 3 ∧ s.c (x 2).toNat 1 = x 1 ∧ s.c (x 2).toNat 2 = x 3)) : (M.handle s x).c = s.c := by
  unfold M.handle
  rw [if_neg h1, if_neg h2, if_neg h3]
  split
  · rfl
  split
  · rfl
  · rfl
theorem M.handle_twice (s t : M.St) (x : Nat → Int) (h : t.c = (M.handle s x).c) : (M.handle t x).c = (M.handle s x).c := by
  rw [← h]
  have hc : t.c (x 2).toNat = (M.handle s x).c (x 2).toNat := by rw [h]
  unfold M.handle at hc
  apply M.handle_same
  all_goals
    rw [hc]
    intro q
    revert q
    split
    · rename_i p
      rw [show (M.send (M.setC s (x 2).toNat (M.v3 3 (x 1) (x 3))) 2 (x 2) (x 1)).c (x 2).toNat = M.v3 3 (x 1) (x 3) from M.set_same s _ _, M.v3_0]
      try rw [M.v3_2]
      omega
    split
    · rename_i p0 p
      show (_ ∧ _ ∧ _) → False
      intro q
      have hs : (M.send s 2 (x 2) (x 1)).c = s.c := rfl
      rw [hs] at q
      omega
    split
    · rename_i p0 p1 p
      rw [show (M.send (M.setC s (x 2).toNat (M.v3 4 (s.c (x 2).toNat 1) (s.c (x 2).toNat 2))) 3 (x 2) (x 1)).c (x 2).toNat = M.v3 4 (s.c (x 2).toNat 1) (s.c (x 2).toNat 2) from M.set_same s _ _, M.v3_0]
      omega
    split
    · rename_i p0 p1 p2 p
      intro q
      have hs : (M.send s 3 (x 2) (x 1)).c = s.c := rfl
      rw [hs] at q
      omega
    split
    · rename_i p0 p1 p2 p3 p
      rw [show (M.setC s (x 2).toNat (M.v3 1 0 (s.c (x 2).toNat 2))).c (x 2).toNat = M.v3 1 0 (s.c (x 2).toNat 2) from M.set_same s _ _, M.v3_0]
      omega
    · rename_i p0 p1 p2 p3 p4
      intro q
      omega
theorem M.step_copy {a : Nat} (ha : a < s.k) (hk : s.k < 6) : M.step n s 4 a 0 = some (M.add s (s.m a)) := by
  unfold M.step
  rw [if_neg (by omega), if_neg (by omega), if_neg (by omega), if_neg (by omega), if_neg (by omega), if_neg (by omega), if_pos rfl, if_pos hk, Int.toNat_natCast]
theorem M.step_deliver {a : Nat} (ha : a < s.k) : M.step n s 2 a 0 = some (M.handle (M.drop s a) (s.m a)) := by
  unfold M.step
  rw [if_neg (by omega), if_neg (by omega), if_neg (by omega), if_neg (by omega), if_pos rfl, Int.toNat_natCast]
theorem M.handle_mk (s : M.St) (x : Nat → Int) : s.k ≤ (M.handle s x).k ∧ ∀ a, a < s.k → (M.handle s x).m a = s.m a := by
  have hsend : ∀ (t : M.St) (k f o : Int), t.k = s.k → t.m = s.m → s.k ≤ (M.send t k f o).k ∧ ∀ a, a < s.k → (M.send t k f o).m a = s.m a := fun t k f o h1 h2 => by
    refine ⟨by show s.k ≤ t.k + 1; omega, fun a ha => ?_⟩
    show (if a = t.k then _ else t.m a) = s.m a
    rw [if_neg (by omega), h2]
  unfold M.handle
  split
  · exact hsend _ _ _ _ rfl rfl
  split
  · exact hsend _ _ _ _ rfl rfl
  split
  · exact hsend _ _ _ _ rfl rfl
  split
  · exact hsend _ _ _ _ rfl rfl
  split
  · exact ⟨Nat.le_refl _, fun _ _ => rfl⟩
  · exact ⟨Nat.le_refl _, fun _ _ => rfl⟩
/-- the duplicate of a message, delivered behind it -/
theorem M.twice {a : Nat} (ha : a < s.k) (hk : s.k < 6) : ∃ s1 s2 s3, M.step n s 4 a 0 = some s1 ∧ M.step n s1 2 a 0 = some s2 ∧ M.step n s2 2 ((s.k - 1 : Nat) : Int) 0 = some s3 ∧ s3.c = (M.handle (M.drop s a) (s.m a)).c := by
  have e1 : (M.add s (s.m a)).m a = s.m a := by
    show (if a = s.k then _ else s.m a) = s.m a
    rw [if_neg (by omega)]
  have h2 := M.step_deliver (n := n) (s := M.add s (s.m a)) (a := a) (show a < s.k + 1 by omega)
  rw [e1] at h2
  obtain ⟨hk2, hm2⟩ := M.handle_mk (M.drop (M.add s (s.m a)) a) (s.m a)
  have hk3 : (M.drop (M.add s (s.m a)) a).k = s.k := rfl
  have hc : (M.handle (M.drop (M.add s (s.m a)) a) (s.m a)).m (s.k - 1) = s.m a := by
    rw [hm2 _ (by rw [hk3]; omega)]
    show (if s.k - 1 < a then _ else if s.k - 1 + 1 < s.k + 1 then (if s.k - 1 + 1 = s.k then s.m a else s.m (s.k - 1 + 1)) else _) = s.m a
    rw [if_neg (by omega), if_pos (by omega), if_pos (by omega)]
  have h3 := M.step_deliver (n := n) (s := M.handle (M.drop (M.add s (s.m a)) a) (s.m a)) (a := s.k - 1) (by rw [hk3] at hk2; omega)
  rw [hc] at h3
  refine ⟨_, _, _, M.step_copy ha hk, h2, h3, ?_⟩
  have hcc : (M.handle (M.drop (M.add s (s.m a)) a) (s.m a)).c = (M.handle (M.drop s a) (s.m a)).c := M.handle_c _ _ _ rfl
  exact M.handle_twice (M.drop s a) _ (s.m a) hcc
end
end Go.Proofs.YtfnfjmjejffjiaaDoor
