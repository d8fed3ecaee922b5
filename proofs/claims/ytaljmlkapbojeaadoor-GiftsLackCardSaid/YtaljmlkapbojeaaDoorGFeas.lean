/- Payments by the greatest amounts: what stays payable. Plain sums, no program. -/
import Derived.Test.YtaljmlkapbojeaaDoorGMath
namespace Go.Proofs.YtaljmlkapbojeaaDoor.M

theorem sumTo_upd {n k : Nat} {f f' : Nat → Int} (hk : k < n) (h : ∀ i, i < n → i ≠ k → f' i = f i) : sumTo n f' = sumTo n f + (f' k - f k) := by
  induction n with
  | zero => omega
  | succ n ih =>
    simp only [sumTo]
    by_cases e : k = n
    · subst e
      rw [sumTo_congr (f := f') (g := f) fun i hi => h i (by omega) (by omega)]
      omega
    · rw [ih (by omega) fun i hi he => h i (by omega) he, h n (by omega) (fun e' => e e'.symm)]
      omega
theorem sumTo_le {n : Nat} {f g : Nat → Int} (h : ∀ i, i < n → f i ≤ g i) : sumTo n f ≤ sumTo n g := by
  induction n with
  | zero => simp [sumTo]
  | succ n ih => simp only [sumTo]; have := ih fun i hi => h i (by omega); have := h n (by omega); omega
theorem sumTo_add {n : Nat} {f g : Nat → Int} : sumTo n f + sumTo n g = sumTo n fun i => f i + g i := by
  induction n with
  | zero => simp [sumTo]
  | succ n ih => simp only [sumTo]; rw [← ih]; omega

def Gm (nb : Nat) (ub : Nat → Nat → Bool) (p : Nat → Bool) (g : Nat) : Bool := anyTo nb fun i => p i && ub i g
def mny (ng nb : Nat) (L N : Nat → Int) (ub : Nat → Nat → Bool) (p : Nat → Bool) : Int := sumTo ng (fun g => sel (Gm nb ub p g) (L g)) - sumTo nb (fun i => sel (p i) (N i))
def Feas (ng nb : Nat) (L N : Nat → Int) (ub : Nat → Nat → Bool) : Prop := ∀ p, 0 ≤ mny ng nb L N ub p

theorem Gm_iff {nb : Nat} {ub : Nat → Nat → Bool} {p : Nat → Bool} {g : Nat} : Gm nb ub p g = true ↔ ∃ i, i < nb ∧ p i = true ∧ ub i g = true := by
  simp [Gm, anyTo_iff]
theorem bool_eq {a b : Bool} (h : a = true ↔ b = true) : a = b := by cases a <;> cases b <;> simp_all
theorem sel_le {a b : Bool} {x : Int} (hx : 0 ≤ x) (h : a = true → b = true) : sel a x ≤ sel b x := by
  cases a <;> cases b <;> simp_all [sel]

theorem submod {ng nb : Nat} {L N : Nat → Int} {ub : Nat → Nat → Bool} (hL : ∀ g, g < ng → 0 ≤ L g) (p q : Nat → Bool) :
    mny ng nb L N ub (fun i => p i || q i) + mny ng nb L N ub (fun i => p i && q i) ≤ mny ng nb L N ub p + mny ng nb L N ub q := by
  have h1 : sumTo ng (fun g => sel (Gm nb ub (fun i => p i || q i) g) (L g)) + sumTo ng (fun g => sel (Gm nb ub (fun i => p i && q i) g) (L g)) ≤
      sumTo ng (fun g => sel (Gm nb ub p g) (L g)) + sumTo ng (fun g => sel (Gm nb ub q g) (L g)) := by
    rw [sumTo_add, sumTo_add]
    refine sumTo_le fun g hg => ?_
    have e1 : Gm nb ub (fun i => p i || q i) g = (Gm nb ub p g || Gm nb ub q g) := bool_eq (by
      rw [Bool.or_eq_true, Gm_iff, Gm_iff, Gm_iff]
      constructor
      · rintro ⟨i, hi, hp, hu⟩
        rcases Bool.or_eq_true _ _ ▸ hp with h | h
        · exact .inl ⟨i, hi, h, hu⟩
        · exact .inr ⟨i, hi, h, hu⟩
      · rintro (⟨i, hi, hp, hu⟩ | ⟨i, hi, hp, hu⟩)
        · exact ⟨i, hi, by simp [hp], hu⟩
        · exact ⟨i, hi, by simp [hp], hu⟩)
    have e2 : Gm nb ub (fun i => p i && q i) g = true → Gm nb ub p g = true ∧ Gm nb ub q g = true := by
      rw [Gm_iff, Gm_iff, Gm_iff]
      rintro ⟨i, hi, hp, hu⟩
      rw [Bool.and_eq_true] at hp
      exact ⟨⟨i, hi, hp.1, hu⟩, ⟨i, hi, hp.2, hu⟩⟩
    rw [e1]
    have := hL g hg
    cases h3 : Gm nb ub (fun i => p i && q i) g
    · cases Gm nb ub p g <;> cases Gm nb ub q g <;> simp [sel] <;> omega
    · obtain ⟨h4, h5⟩ := e2 h3
      rw [h4, h5]; simp [sel]
  have h2 : sumTo nb (fun i => sel (p i || q i) (N i)) + sumTo nb (fun i => sel (p i && q i) (N i)) = sumTo nb (fun i => sel (p i) (N i)) + sumTo nb (fun i => sel (q i) (N i)) := by
    rw [sumTo_add, sumTo_add]
    refine sumTo_congr fun i _ => ?_
    cases p i <;> cases q i <;> simp [sel]
  unfold mny
  try dsimp only
  omega

def setI (f : Nat → Int) (k : Nat) (x : Int) : Nat → Int := fun i => if i = k then x else f i
def clrB (ub : Nat → Nat → Bool) (b g : Nat) : Nat → Nat → Bool := fun i j => ub i j && !(i == b && j == g)

section
variable {ng nb : Nat} {L N : Nat → Int} {ub : Nat → Nat → Bool} {b g : Nat} {n : Int}

theorem Gm_clr_off {p : Nat → Bool} (hp : p b = false) (k : Nat) : Gm nb (clrB ub b g) p k = Gm nb ub p k := anyTo_congr fun i _ => by
  by_cases e : i = b
  · subst e; simp [hp]
  · simp [clrB, beq_eq_false_iff_ne.2 e]
theorem Gm_clr_ne {p : Nat → Bool} {k : Nat} (hk : k ≠ g) : Gm nb (clrB ub b g) p k = Gm nb ub p k := anyTo_congr fun i _ => by simp [clrB, beq_eq_false_iff_ne.2 hk]
theorem Gm_mono {p q : Nat → Bool} {k : Nat} (h : ∀ i, i < nb → p i = true → q i = true) (hg : Gm nb ub p k = true) : Gm nb ub q k = true := by
  rw [Gm_iff] at hg ⊢
  obtain ⟨i, hi, hp, hu⟩ := hg
  exact ⟨i, hi, h i hi hp, hu⟩

/-- a set without the bill -/
theorem mny_off (hg : g < ng) {p : Nat → Bool} (hp : p b = false) :
    mny ng nb (setI L g (L g - n)) (setI N b (N b - n)) (clrB ub b g) p = mny ng nb L N ub p - sel (Gm nb ub p g) n := by
  have h1 := sumTo_upd (n := ng) (k := g) (f := fun k => sel (Gm nb ub p k) (L k)) (f' := fun k => sel (Gm nb (clrB ub b g) p k) (setI L g (L g - n) k)) hg (fun i _ he => by
    rw [Gm_clr_off hp]; simp [setI, he])
  have h2 : sumTo nb (fun i => sel (p i) (setI N b (N b - n) i)) = sumTo nb (fun i => sel (p i) (N i)) := sumTo_congr fun i _ => by
    by_cases e : i = b
    · subst e; simp [hp, sel]
    · simp [setI, e]
  have h3 : sel (Gm nb (clrB ub b g) p g) (setI L g (L g - n) g) - sel (Gm nb ub p g) (L g) = - sel (Gm nb ub p g) n := by
    rw [Gm_clr_off hp]; simp only [setI, if_true]; cases Gm nb ub p g <;> simp [sel] <;> omega
  unfold mny
  try dsimp only at h1
  omega
/-- a set with the bill -/
theorem mny_on (hg : g < ng) (hb : b < nb) {p : Nat → Bool} (hp : p b = true) :
    mny ng nb (setI L g (L g - n)) (setI N b (N b - n)) (clrB ub b g) p = mny ng nb L N ub p + n + (sel (Gm nb (clrB ub b g) p g) (L g - n) - sel (Gm nb ub p g) (L g)) := by
  have h1 := sumTo_upd (n := ng) (k := g) (f := fun k => sel (Gm nb ub p k) (L k)) (f' := fun k => sel (Gm nb (clrB ub b g) p k) (setI L g (L g - n) k)) hg (fun i _ he => by
    rw [Gm_clr_ne he]; simp [setI, he])
  have h2 := sumTo_upd (n := nb) (k := b) (f := fun i => sel (p i) (N i)) (f' := fun i => sel (p i) (setI N b (N b - n) i)) hb (fun i _ he => by simp [setI, he])
  have h3 : sel (p b) (setI N b (N b - n) b) - sel (p b) (N b) = - n := by simp only [setI, if_true, hp, sel]; omega
  have h4 : setI L g (L g - n) g = L g - n := by simp [setI]
  unfold mny
  simp only [h4] at h1
  omega

theorem Feas.step (hF : Feas ng nb L N ub) (hL : ∀ k, k < ng → 0 ≤ L k) (hg : g < ng) (hb : b < nb) (hu : ub b g = true) (_h0 : 0 ≤ n) (hnL : n ≤ L g) (_hnN : n ≤ N b)
    (hle : ∀ p, p b = false → Gm nb ub p g = true → n ≤ mny ng nb L N ub p) (hat : n = N b ∨ n = L g ∨ ∃ p, p b = false ∧ Gm nb ub p g = true ∧ n = mny ng nb L N ub p) :
    Feas ng nb (setI L g (L g - n)) (setI N b (N b - n)) (clrB ub b g) := by
  have hL' : ∀ k, k < ng → 0 ≤ setI L g (L g - n) k := fun k hk => by
    unfold setI; split
    · omega
    · exact hL k hk
  have off : ∀ p : Nat → Bool, p b = false → 0 ≤ mny ng nb (setI L g (L g - n)) (setI N b (N b - n)) (clrB ub b g) p := by
    intro p hp
    rw [mny_off hg hp]
    cases h : Gm nb ub p g
    · have := hF p; simp [sel]; exact this
    · have := hle p hp h; simp [sel]; omega
  intro p
  cases hp : p b
  · exact off p hp
  · have hG : Gm nb ub p g = true := Gm_iff.2 ⟨b, hb, hp, hu⟩
    cases hG' : Gm nb (clrB ub b g) p g
    · rcases hat with h | h | ⟨r, hr, hrg, h⟩
      · -- the bill is paid: as without it
        have hq := off (fun i => p i && !(i == b)) (by simp)
        refine Int.le_trans hq ?_
        have h1 : sumTo ng (fun k => sel (Gm nb (clrB ub b g) (fun i => p i && !(i == b)) k) (setI L g (L g - n) k)) ≤ sumTo ng (fun k => sel (Gm nb (clrB ub b g) p k) (setI L g (L g - n) k)) :=
          sumTo_le fun k hk => sel_le (hL' k hk) (Gm_mono fun i _ hi => by have hi' : (p i && !(i == b)) = true := hi; rw [Bool.and_eq_true] at hi'; exact hi'.1)
        have h2 : sumTo nb (fun i => sel (p i && !(i == b)) (setI N b (N b - n) i)) = sumTo nb (fun i => sel (p i) (setI N b (N b - n) i)) := sumTo_congr fun i _ => by
          by_cases e : i = b
          · subst e; simp [setI, sel, hp, h]
          · simp [beq_eq_false_iff_ne.2 e]
        unfold mny
        try dsimp only
        omega
      · rw [mny_on hg hb hp, hG, hG']
        have := hF p
        simp [sel]; omega
      · have hs := submod (nb := nb) (N := setI N b (N b - n)) (ub := clrB ub b g) hL' p r
        have h1 := off (fun i => p i && r i) (by simp [hr])
        have h2 : mny ng nb (setI L g (L g - n)) (setI N b (N b - n)) (clrB ub b g) r = 0 := by
          rw [mny_off hg hr, hrg]; simp [sel]; omega
        have h3 : 0 ≤ mny ng nb (setI L g (L g - n)) (setI N b (N b - n)) (clrB ub b g) (fun i => p i || r i) := by
          rw [mny_on hg hb (by simp [hp])]
          have hx : Gm nb (clrB ub b g) (fun i => p i || r i) g = true := by
            have : Gm nb (clrB ub b g) r g = true := by rw [Gm_clr_off hr]; exact hrg
            exact Gm_mono (fun i _ hi => by simp [hi]) this
          have hy : Gm nb ub (fun i => p i || r i) g = true := Gm_mono (fun i _ hi => by simp [hi]) hG
          rw [hx, hy]
          have := hF fun i => p i || r i
          simp [sel]; omega
        omega
    · rw [mny_on hg hb hp, hG, hG']
      have := hF p
      simp [sel]; omega
end
end Go.Proofs.YtaljmlkapbojeaaDoor.M
