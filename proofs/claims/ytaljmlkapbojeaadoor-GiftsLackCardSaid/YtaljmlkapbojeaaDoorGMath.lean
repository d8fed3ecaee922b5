/- Plain definitions for the gifts: sums and tests up to n, bits, who serves, what is spare. No program here. -/
namespace Go.Proofs.YtaljmlkapbojeaaDoor.M

def sumTo : Nat → (Nat → Int) → Int
  | 0, _ => 0
  | n + 1, f => sumTo n f + f n
def anyTo : Nat → (Nat → Bool) → Bool
  | 0, _ => false
  | n + 1, p => anyTo n p || p n
def allTo : Nat → (Nat → Bool) → Bool
  | 0, _ => true
  | n + 1, p => allTo n p && p n

def bt (s : Int) (k : Nat) : Bool := s / 2 ^ k % 2 == 1
def sel (c : Bool) (x : Int) : Int := if c then x else 0

/-- a gift (purposes, day, amount) serves a bill (purpose, day, amount) -/
def srv (G H : Nat → Nat → Int) (g i : Nat) : Bool := bt (G g 0) (H i 0).toNat && decide (G g 1 ≤ H i 1)
def needsF (nb : Nat) (H : Nat → Nat → Int) (s : Int) : Int := sumTo nb fun i => sel (bt s i) (H i 2)
def helpsF (nb : Nat) (G H : Nat → Nat → Int) (g : Nat) (s : Int) : Bool := anyTo nb fun i => bt s i && srv G H g i
def haveF (ng nb : Nat) (G H : Nat → Nat → Int) (s : Int) : Int := sumTo ng fun g => sel (helpsF nb G H g s) (G g 2)
def spareF (ng nb : Nat) (G H : Nat → Nat → Int) (s : Int) : Int := haveF ng nb G H s - needsF nb H s
def paidF (ng nb : Nat) (G H : Nat → Nat → Int) : Bool := allTo (2 ^ nb) fun s => decide (0 ≤ spareF ng nb G H s)

def within (n a b : Int) : Bool := decide (a ≤ n ∧ n ≤ b)
def okG (G : Nat → Nat → Int) (g : Nat) : Bool := within (G g 0) 0 255 && within (G g 1) 0 99999 && within (G g 2) 0 1000000
def okB (H : Nat → Nat → Int) (i : Nat) : Bool := within (H i 0) 0 7 && within (H i 1) 0 99999 && within (H i 2) 0 1000000
def okF (ng nb : Nat) (G H : Nat → Nat → Int) : Bool := decide (ng ≤ 10) && decide (nb ≤ 8) && allTo ng (okG G) && allTo nb (okB H)

theorem sumTo_bd {n : Nat} {f : Nat → Int} {c : Int} (h : ∀ i, i < n → 0 ≤ f i ∧ f i ≤ c) : 0 ≤ sumTo n f ∧ sumTo n f ≤ n * c := by
  induction n with
  | zero => simp [sumTo]
  | succ n ih =>
    have h1 := ih fun i hi => h i (by omega)
    have h2 := h n (by omega)
    simp only [sumTo]
    have : ((n + 1 : Nat) : Int) * c = n * c + c := by rw [Int.natCast_add, Int.add_mul]; simp
    omega
theorem sel_bd {b : Bool} {x c : Int} (h : 0 ≤ x ∧ x ≤ c) : 0 ≤ sel b x ∧ sel b x ≤ c := by
  unfold sel; split <;> omega
theorem sumTo_congr {n : Nat} {f g : Nat → Int} (h : ∀ i, i < n → f i = g i) : sumTo n f = sumTo n g := by
  induction n with
  | zero => rfl
  | succ n ih => simp only [sumTo]; rw [ih fun i hi => h i (by omega), h n (by omega)]
theorem anyTo_congr {n : Nat} {f g : Nat → Bool} (h : ∀ i, i < n → f i = g i) : anyTo n f = anyTo n g := by
  induction n with
  | zero => rfl
  | succ n ih => simp only [anyTo]; rw [ih fun i hi => h i (by omega), h n (by omega)]
theorem allTo_iff {n : Nat} {p : Nat → Bool} : allTo n p = true ↔ ∀ i, i < n → p i = true := by
  induction n with
  | zero => simp [allTo]
  | succ n ih =>
    simp only [allTo, Bool.and_eq_true, ih]
    constructor
    · intro ⟨h1, h2⟩ i hi
      rcases Nat.lt_succ_iff_lt_or_eq.1 hi with h | h
      · exact h1 i h
      · subst h; exact h2
    · intro h
      exact ⟨fun i hi => h i (by omega), h n (by omega)⟩
theorem anyTo_iff {n : Nat} {p : Nat → Bool} : anyTo n p = true ↔ ∃ i, i < n ∧ p i = true := by
  induction n with
  | zero => simp [anyTo]
  | succ n ih =>
    simp only [anyTo, Bool.or_eq_true, ih]
    constructor
    · rintro (⟨i, h1, h2⟩ | h)
      · exact ⟨i, by omega, h2⟩
      · exact ⟨n, by omega, h⟩
    · rintro ⟨i, h1, h2⟩
      rcases Nat.lt_succ_iff_lt_or_eq.1 h1 with h | h
      · exact .inl ⟨i, h, h2⟩
      · subst h; exact .inr h2
theorem allTo_not {n : Nat} {p : Nat → Bool} : (anyTo n fun i => !p i) = !allTo n p := by
  induction n with
  | zero => rfl
  | succ n ih => simp [anyTo, allTo, ih]
/-- the error number of Check -/
def chkN (ng nb : Nat) (G H : Nat → Nat → Int) : Int := if okF ng nb G H then 0 else 110
theorem okF_iff {ng nb : Nat} {G H : Nat → Nat → Int} : okF ng nb G H = true ↔ ng ≤ 10 ∧ nb ≤ 8 ∧ (∀ g, g < ng → 0 ≤ G g 0 ∧ G g 0 ≤ 255 ∧ 0 ≤ G g 1 ∧ G g 1 ≤ 99999 ∧ 0 ≤ G g 2 ∧ G g 2 ≤ 1000000) ∧
    (∀ i, i < nb → 0 ≤ H i 0 ∧ H i 0 ≤ 7 ∧ 0 ≤ H i 1 ∧ H i 1 ≤ 99999 ∧ 0 ≤ H i 2 ∧ H i 2 ≤ 1000000) := by
  simp only [okF, Bool.and_eq_true, decide_eq_true_eq, allTo_iff, okG, okB, within]
  constructor
  · rintro ⟨⟨⟨h1, h2⟩, h3⟩, h4⟩
    exact ⟨h1, h2, fun g hg => by have := h3 g hg; omega, fun i hi => by have := h4 i hi; omega⟩
  · rintro ⟨h1, h2, h3, h4⟩
    exact ⟨⟨⟨h1, h2⟩, fun g hg => by have := h3 g hg; omega⟩, fun i hi => by have := h4 i hi; omega⟩

def orTo : Nat → (Nat → Nat) → Nat
  | 0, _ => 0
  | n + 1, f => orTo n f ||| f n
def selN (c : Bool) (x : Nat) : Nat := if c then x else 0
theorem orTo_lt {n b : Nat} {f : Nat → Nat} (h : ∀ i, i < n → f i < 2 ^ b) : orTo n f < 2 ^ b := by
  induction n with
  | zero => exact Nat.two_pow_pos b
  | succ n ih => exact Nat.or_lt_two_pow (ih fun i hi => h i (by omega)) (h n (by omega))
/-- the gifts (a set) for the bills of a set; what they are together more than the bills -/
def giftsF (nb : Nat) (U : Nat → Nat) (s : Int) : Nat := orTo nb fun i => selN (bt s i) (U i)
def needF (nb : Nat) (Nd : Nat → Int) (s : Int) : Int := sumTo nb fun i => sel (bt s i) (Nd i)
def leftF (ng : Nat) (L : Nat → Int) (gs : Nat) : Int := sumTo ng fun g => sel (bt gs g) (L g)
def moneyF (ng nb : Nat) (L Nd : Nat → Int) (U : Nat → Nat) (s : Int) : Int := leftF ng L (giftsF nb U s) - needF nb Nd s
def lpaidF (ng nb : Nat) (L Nd : Nat → Int) (U : Nat → Nat) : Bool := allTo (2 ^ nb) fun s => decide (0 ≤ moneyF ng nb L Nd U s)
/-- the greatest amount of a gift for a bill, over the sets below n -/
def mostTo (ng nb : Nat) (L Nd : Nat → Int) (U : Nat → Nat) (bill gift : Nat) : Nat → Int
  | 0 => min (Nd bill) (L gift)
  | s + 1 => if bt s bill then mostTo ng nb L Nd U bill gift s else if bt (giftsF nb U s) gift then min (mostTo ng nb L Nd U bill gift s) (moneyF ng nb L Nd U s) else mostTo ng nb L Nd U bill gift s
def mostF (ng nb : Nat) (L Nd : Nat → Int) (U : Nat → Nat) (bill gift : Nat) : Int := if bt (U bill) gift then mostTo ng nb L Nd U bill gift (2 ^ nb) else 0

def bit (g : Nat) : Nat := 2 ^ g
/-- the set of the gifts below k that serve a bill -/
def useTo (G H : Nat → Nat → Int) (i : Nat) (k : Nat) : Nat := orTo k fun g => selN (srv G H g i) (bit g)
theorem useTo_lt {G H : Nat → Nat → Int} {i k n : Nat} (hk : k ≤ n) : useTo G H i k < 2 ^ n := by
  refine orTo_lt fun g hg => ?_
  have h2 := Nat.two_pow_pos n
  unfold selN bit
  split
  · exact Nat.pow_lt_pow_right (by omega) (by omega)
  · exact h2
end Go.Proofs.YtaljmlkapbojeaaDoor.M
