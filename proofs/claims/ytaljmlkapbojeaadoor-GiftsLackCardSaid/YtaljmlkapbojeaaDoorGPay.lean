/- What Pay computes: states, rows; that all stays payable. Plain, no program. -/
import Derived.Test.YtaljmlkapbojeaaDoorGFeas
namespace Go.Proofs.YtaljmlkapbojeaaDoor.M

theorem bt_nat (m k : Nat) : bt (m : Int) k = m.testBit k := by
  unfold bt
  rw [Nat.testBit_eq_decide_div_mod_eq]
  rw [show ((m : Int) / 2 ^ k % 2) = ((m / 2 ^ k % 2 : Nat) : Int) from by simp]
  by_cases h : m / 2 ^ k % 2 = 1
  · simp [h]
  · have h0 : m / 2 ^ k % 2 = 0 := by omega
    simp [h0]
def ubOf (U : Nat → Nat) : Nat → Nat → Bool := fun i g => (U i).testBit g
theorem testBit_orTo {n g : Nat} {f : Nat → Nat} : (orTo n f).testBit g = anyTo n fun i => (f i).testBit g := by
  induction n with
  | zero => simp [orTo, anyTo]
  | succ n ih => simp only [orTo, anyTo, Nat.testBit_or, ih]
theorem gifts_bit (nb : Nat) (U : Nat → Nat) (s : Int) (g : Nat) : bt (giftsF nb U s : Nat) g = Gm nb (ubOf U) (fun i => bt s i) g := by
  rw [bt_nat, giftsF, testBit_orTo]
  refine anyTo_congr fun i _ => ?_
  unfold selN ubOf
  dsimp only
  cases bt s i <;> simp
theorem money_eq (ng nb : Nat) (L N : Nat → Int) (U : Nat → Nat) (s : Int) : moneyF ng nb L N U s = mny ng nb L N (ubOf U) fun i => bt s i := by
  unfold moneyF mny leftF needF
  congr 1
  exact sumTo_congr fun g _ => by rw [gifts_bit]
theorem mny_congr {ng nb : Nat} {L N : Nat → Int} {ub : Nat → Nat → Bool} {p q : Nat → Bool} (h : ∀ i, i < nb → p i = q i) : mny ng nb L N ub p = mny ng nb L N ub q := by
  unfold mny
  rw [sumTo_congr (n := ng) (g := fun g => sel (Gm nb ub q g) (L g)) fun g _ => by rw [show Gm nb ub p g = Gm nb ub q g from anyTo_congr fun i hi => by rw [h i hi]],
    sumTo_congr (n := nb) (g := fun i => sel (q i) (N i)) fun i hi => by rw [h i hi]]
/-- a set as a number -/
def setOf (nb : Nat) (p : Nat → Bool) : Nat := orTo nb fun i => selN (p i) (2 ^ i)
theorem setOf_lt (nb : Nat) (p : Nat → Bool) : setOf nb p < 2 ^ nb := orTo_lt fun i hi => by
  unfold selN; split
  · exact Nat.pow_lt_pow_right (by omega) hi
  · exact Nat.two_pow_pos nb
theorem setOf_bit {nb : Nat} {p : Nat → Bool} {i : Nat} (hi : i < nb) : bt (setOf nb p : Nat) i = p i := by
  rw [bt_nat, setOf, testBit_orTo]
  refine bool_eq ?_
  rw [anyTo_iff]
  constructor
  · rintro ⟨j, hj, h⟩
    unfold selN at h
    split at h
    · rw [Nat.testBit_two_pow] at h
      simp at h; subst h; assumption
    · simp at h
  · intro h
    exact ⟨i, hi, by simp [selN, h]⟩
theorem feas_iff {ng nb : Nat} {L N : Nat → Int} {U : Nat → Nat} : lpaidF ng nb L N U = true ↔ Feas ng nb L N (ubOf U) := by
  unfold lpaidF
  rw [allTo_iff]
  constructor
  · intro h p
    have := h (setOf nb p) (setOf_lt nb p)
    rw [decide_eq_true_eq, money_eq] at this
    rw [mny_congr (q := fun i => bt (setOf nb p : Nat) i) fun i hi => (setOf_bit hi).symm]
    exact this
  · intro h s _
    rw [decide_eq_true_eq, money_eq]
    exact h _

section
variable {ng nb : Nat} {L N : Nat → Int} {U : Nat → Nat} {b g : Nat}
theorem mostTo_le (q : Nat) : mostTo ng nb L N U b g q ≤ N b ∧ mostTo ng nb L N U b g q ≤ L g ∧ ∀ s : Nat, s < q → bt s b = false → bt (giftsF nb U s : Nat) g = true → mostTo ng nb L N U b g q ≤ moneyF ng nb L N U s := by
  induction q with
  | zero => exact ⟨by simp only [mostTo]; omega, by simp only [mostTo]; omega, fun s hs => absurd hs (by omega)⟩
  | succ q ih =>
    obtain ⟨h1, h2, h3⟩ := ih
    simp only [mostTo]
    split
    · refine ⟨h1, h2, fun s hs hb hg => ?_⟩
      rcases Nat.lt_succ_iff_lt_or_eq.1 hs with h | h
      · exact h3 s h hb hg
      · subst h; simp_all
    · split
      · refine ⟨by omega, by omega, fun s hs hb hg => ?_⟩
        rcases Nat.lt_succ_iff_lt_or_eq.1 hs with h | h
        · have := h3 s h hb hg; omega
        · subst h; omega
      · refine ⟨h1, h2, fun s hs hb hg => ?_⟩
        rcases Nat.lt_succ_iff_lt_or_eq.1 hs with h | h
        · exact h3 s h hb hg
        · subst h; simp_all
theorem mostTo_at (q : Nat) : mostTo ng nb L N U b g q = N b ∨ mostTo ng nb L N U b g q = L g ∨ ∃ s : Nat, s < q ∧ bt s b = false ∧ bt (giftsF nb U s : Nat) g = true ∧ mostTo ng nb L N U b g q = moneyF ng nb L N U s := by
  induction q with
  | zero => simp only [mostTo]; omega
  | succ q ih =>
    have up : (mostTo ng nb L N U b g q = N b ∨ mostTo ng nb L N U b g q = L g ∨ ∃ s : Nat, s < q + 1 ∧ bt s b = false ∧ bt (giftsF nb U s : Nat) g = true ∧ mostTo ng nb L N U b g q = moneyF ng nb L N U s) := by
      rcases ih with h | h | ⟨s, hs, h⟩
      · exact .inl h
      · exact .inr (.inl h)
      · exact .inr (.inr ⟨s, by omega, h⟩)
    simp only [mostTo]
    split
    · exact up
    · split
      · rename_i h1 h2
        by_cases hlt : moneyF ng nb L N U q < mostTo ng nb L N U b g q
        · rw [Int.min_eq_right (by omega)]
          exact .inr (.inr ⟨q, by omega, by simpa using h1, h2, rfl⟩)
        · rw [Int.min_eq_left (by omega)]
          exact up
      · exact up
end

/-- a state of Pay -/
structure St where
  L : Nat → Int
  N : Nat → Int
  U : Nat → Nat
def clrN (u g : Nat) : Nat := u ^^^ (u &&& 2 ^ g)
def setN (f : Nat → Nat) (k x : Nat) : Nat → Nat := fun i => if i = k then x else f i
theorem clrN_bit (u g j : Nat) : (clrN u g).testBit j = (u.testBit j && !(j == g)) := by
  unfold clrN
  rw [Nat.testBit_xor, Nat.testBit_and, Nat.testBit_two_pow]
  by_cases h : g = j
  · subst h; simp
  · simp [h, beq_eq_false_iff_ne.2 (fun e : j = g => h e.symm)]
theorem clrN_lt {u g n : Nat} (hu : u < 2 ^ n) : clrN u g < 2 ^ n := Nat.lt_pow_two_of_testBit _ fun i hi => by
  rw [clrN_bit, Nat.testBit_lt_two_pow (Nat.lt_of_lt_of_le hu (Nat.pow_le_pow_right (by omega) hi))]
  rfl
def mostS (ng nb : Nat) (s : St) (b g : Nat) : Int := mostF ng nb s.L s.N s.U b g
def step (ng nb : Nat) (s : St) (b g : Nat) : St := ⟨setI s.L g (s.L g - mostS ng nb s b g), setI s.N b (s.N b - mostS ng nb s b g), setN s.U b (clrN (s.U b) g)⟩
def rowSt (ng nb : Nat) (s : St) (b : Nat) : Nat → St
  | 0 => s
  | g + 1 => step ng nb (rowSt ng nb s b g) b g
def rowAt (ng nb : Nat) (s : St) (b g : Nat) : Int := mostS ng nb (rowSt ng nb s b g) b g
def paySt (ng nb : Nat) (s : St) : Nat → St
  | 0 => s
  | b + 1 => rowSt ng nb (paySt ng nb s b) b ng
def payAt (ng nb : Nat) (s : St) (b g : Nat) : Int := rowAt ng nb (paySt ng nb s b) b g

/-- what holds of every state -/
def Inv (ng nb : Nat) (s : St) : Prop := (∀ g, g < ng → 0 ≤ s.L g ∧ s.L g ≤ 1000000) ∧ (∀ i, i < nb → 0 ≤ s.N i ∧ s.N i ≤ 1000000) ∧ (∀ i, i < nb → s.U i < 1024) ∧ Feas ng nb s.L s.N (ubOf s.U)
theorem ub_step (U : Nat → Nat) (b g : Nat) : ubOf (setN U b (clrN (U b) g)) = clrB (ubOf U) b g := by
  funext i j
  unfold ubOf setN clrB
  by_cases h : i = b
  · subst h; simp [clrN_bit]
  · simp [h]
theorem most_bd {ng nb : Nat} {s : St} {b g : Nat} (h : Inv ng nb s) (hb : b < nb) (hg : g < ng) : 0 ≤ mostS ng nb s b g ∧ mostS ng nb s b g ≤ s.L g ∧ mostS ng nb s b g ≤ s.N b := by
  have h1 := h.1 g hg
  have h2 := h.2.1 b hb
  unfold mostS mostF
  split
  · have h3 := mostTo_le (ng := ng) (nb := nb) (L := s.L) (N := s.N) (U := s.U) (b := b) (g := g) (2 ^ nb)
    refine ⟨?_, h3.2.1, h3.1⟩
    rcases mostTo_at (ng := ng) (nb := nb) (L := s.L) (N := s.N) (U := s.U) (b := b) (g := g) (2 ^ nb) with h4 | h4 | ⟨t, _, _, _, h4⟩
    · omega
    · omega
    · rw [h4, money_eq]; exact h.2.2.2 _
  · exact ⟨Int.le_refl _, h1.1, h2.1⟩
theorem Inv.step {ng nb : Nat} {s : St} {b g : Nat} (h : Inv ng nb s) (hb : b < nb) (hg : g < ng) : Inv ng nb (step ng nb s b g) := by
  have hm := most_bd h hb hg
  refine ⟨fun k hk => ?_, fun k hk => ?_, fun k hk => ?_, ?_⟩
  · have := h.1 k hk
    simp only [M.step, setI]; split
    · subst_vars; omega
    · exact this
  · have := h.2.1 k hk
    simp only [M.step, setI]; split
    · subst_vars; omega
    · exact this
  · have := h.2.2.1 k hk
    simp only [M.step, setN]; split
    · subst_vars; exact clrN_lt (n := 10) this
    · exact this
  · simp only [M.step]
    rw [ub_step]
    by_cases hu : bt (s.U b) g = true
    · have hu' : ubOf s.U b g = true := by rw [bt_nat] at hu; exact hu
      refine Feas.step h.2.2.2 (fun k hk => (h.1 k hk).1) hg hb hu' hm.1 hm.2.1 hm.2.2 ?_ ?_
      · intro p hp hG
        have h3 := (mostTo_le (ng := ng) (nb := nb) (L := s.L) (N := s.N) (U := s.U) (b := b) (g := g) (2 ^ nb)).2.2 (setOf nb p) (setOf_lt nb p) (by rw [setOf_bit hb]; exact hp)
          (by rw [gifts_bit, ← hG]; exact anyTo_congr fun i hi => by dsimp only; rw [setOf_bit hi])
        rw [money_eq, mny_congr (q := p) fun i hi => setOf_bit hi] at h3
        unfold mostS mostF; rw [if_pos hu]; exact h3
      · unfold mostS mostF; rw [if_pos hu]
        rcases mostTo_at (ng := ng) (nb := nb) (L := s.L) (N := s.N) (U := s.U) (b := b) (g := g) (2 ^ nb) with h4 | h4 | ⟨t, _, h5, h6, h4⟩
        · exact .inl h4
        · exact .inr (.inl h4)
        · exact .inr (.inr ⟨fun i => bt t i, h5, by rw [← gifts_bit]; exact h6, by rw [h4, money_eq]⟩)
    · have hn : mostS ng nb s b g = 0 := by unfold mostS mostF; rw [if_neg hu]
      have e1 : setI s.L g (s.L g - mostS ng nb s b g) = s.L := by funext k; unfold setI; split <;> simp_all
      have e2 : setI s.N b (s.N b - mostS ng nb s b g) = s.N := by funext k; unfold setI; split <;> simp_all
      have e3 : clrB (ubOf s.U) b g = ubOf s.U := by
        funext i j
        unfold clrB
        by_cases hi : i = b ∧ j = g
        · obtain ⟨rfl, rfl⟩ := hi
          have : ubOf s.U i j = false := by rw [bt_nat] at hu; simpa [ubOf] using hu
          rw [this]; rfl
        · have : (!(i == b && j == g)) = true := by
            rw [Bool.not_eq_true', Bool.and_eq_false_iff]
            by_cases h1 : i = b
            · exact .inr (beq_eq_false_iff_ne.2 fun e => hi ⟨h1, e⟩)
            · exact .inl (beq_eq_false_iff_ne.2 h1)
          rw [this, Bool.and_true]
      rw [e1, e2, e3]
      exact h.2.2.2
theorem Inv.row {ng nb : Nat} {s : St} {b : Nat} (h : Inv ng nb s) (hb : b < nb) : ∀ g, g ≤ ng → Inv ng nb (rowSt ng nb s b g)
  | 0, _ => h
  | g + 1, hg => (Inv.row h hb g (by omega)).step hb (by omega)
theorem Inv.pay {ng nb : Nat} {s : St} (h : Inv ng nb s) : ∀ b, b ≤ nb → Inv ng nb (paySt ng nb s b)
  | 0, _ => h
  | b + 1, hb => (Inv.pay h b (by omega)).row (by omega) ng (Nat.le_refl _)
end Go.Proofs.YtaljmlkapbojeaaDoor.M
