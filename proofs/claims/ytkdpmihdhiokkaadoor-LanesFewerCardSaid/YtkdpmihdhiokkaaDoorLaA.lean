/- Charts, plain: neighbours, what is near, where a boat floats. No program. -/
namespace Go.Proofs.YtkdpmihdhiokkaaDoor.M

def anyTo : Nat → (Nat → Bool) → Bool
  | 0, _ => false
  | n + 1, p => anyTo n p || p n
def allTo : Nat → (Nat → Bool) → Bool
  | 0, _ => true
  | n + 1, p => allTo n p && p n
theorem allTo_iff {n : Nat} {p : Nat → Bool} : allTo n p = true ↔ ∀ i, i < n → p i = true := by
  induction n with
  | zero => exact ⟨fun _ i hi => absurd hi (by omega), fun _ => rfl⟩
  | succ n ih =>
    simp only [allTo, Bool.and_eq_true, ih]
    constructor
    · intro h i hi
      rcases Nat.lt_succ_iff_lt_or_eq.1 hi with h1 | h1
      · exact h.1 i h1
      · subst h1; exact h.2
    · exact fun h => ⟨fun i hi => h i (by omega), h n (by omega)⟩
theorem anyTo_iff {n : Nat} {p : Nat → Bool} : anyTo n p = true ↔ ∃ i, i < n ∧ p i = true := by
  induction n with
  | zero => exact ⟨fun h => (by cases h), fun ⟨i, hi, _⟩ => absurd hi (by omega)⟩
  | succ n ih =>
    simp only [anyTo, Bool.or_eq_true, ih]
    constructor
    · rintro (⟨i, hi, h⟩ | h)
      · exact ⟨i, by omega, h⟩
      · exact ⟨n, by omega, h⟩
    · rintro ⟨i, hi, h⟩
      rcases Nat.lt_succ_iff_lt_or_eq.1 hi with h1 | h1
      · exact .inl ⟨i, h1, h⟩
      · subst h1; exact .inr h
theorem allTo_congr {n : Nat} {p q : Nat → Bool} (h : ∀ i, i < n → p i = q i) : allTo n p = allTo n q := by
  induction n with
  | zero => rfl
  | succ n ih => simp only [allTo]; rw [ih fun i hi => h i (by omega), h n (by omega)]
theorem anyTo_congr {n : Nat} {p q : Nat → Bool} (h : ∀ i, i < n → p i = q i) : anyTo n p = anyTo n q := by
  induction n with
  | zero => rfl
  | succ n ih => simp only [anyTo]; rw [ih fun i hi => h i (by omega), h n (by omega)]
theorem any_all {n : Nat} {p : Nat → Bool} : anyTo n (fun i => !p i) = !allTo n p := by
  induction n with
  | zero => rfl
  | succ n ih => simp only [anyTo, allTo, ih, Bool.not_and]
theorem anyTo_false {n : Nat} {p : Nat → Bool} : anyTo n p = false ↔ ∀ i, i < n → p i = false := by
  constructor
  · intro h i hi
    cases hp : p i
    · rfl
    · have := anyTo_iff.2 ⟨i, hi, hp⟩
      rw [h] at this; cases this
  · intro h
    cases hp : anyTo n p
    · rfl
    · obtain ⟨i, hi, h2⟩ := anyTo_iff.1 hp
      rw [h i hi] at h2; cases h2
theorem bool_ext {a b : Bool} (h : a = true ↔ b = true) : a = b := by cases a <;> cases b <;> simp_all

/-- the columns to the east, by the direction and the row's parity -/
def dx (d p : Nat) : Int := if d = 0 then 1 else if d = 1 then (if p = 1 then 1 else 0) else if d = 2 then (if p = 1 then 0 else -1) else if d = 3 then -1 else if d = 4 then (if p = 1 then 0 else -1) else (if p = 1 then 1 else 0)
def dy (d : Nat) : Int := if d = 0 then 0 else if d = 1 then 1 else if d = 2 then 1 else if d = 3 then 0 else -1
def nbX (W c d : Nat) : Int := (c % W : Nat) + dx d (c / W % 2)
def nbY (W c d : Nat) : Int := (c / W : Nat) + dy d
def nbIs (W H c d : Nat) : Bool := decide (0 ≤ nbX W c d) && decide (nbX W c d < W) && decide (0 ≤ nbY W c d) && decide (nbY W c d < H)
def nbN (W c d : Nat) : Nat := (nbY W c d * W + nbX W c d).toNat
theorem nb_spec {W H c d : Nat} (h : nbIs W H c d = true) : nbN W c d < W * H ∧ (nbN W c d % W : Nat) = nbX W c d ∧ (nbN W c d / W : Nat) = nbY W c d ∧ nbY W c d * W + nbX W c d = nbN W c d := by
  unfold nbIs at h
  simp only [Bool.and_eq_true, decide_eq_true_eq] at h
  obtain ⟨⟨⟨h1, h2⟩, h3⟩, h4⟩ := h
  unfold nbN
  generalize nbX W c d = x at *
  generalize nbY W c d = y at *
  obtain ⟨x, rfl⟩ := Int.eq_ofNat_of_zero_le h1
  obtain ⟨y, rfl⟩ := Int.eq_ofNat_of_zero_le h3
  have e : ((y : Int) * W + x).toNat = y * W + x := by omega
  have hx : x < W := by omega
  have hy : y < H := by omega
  rw [e]
  refine ⟨?_, ?_, ?_, ?_⟩
  · have : (y + 1) * W ≤ H * W := Nat.mul_le_mul_right W hy
    rw [Nat.add_mul, Nat.one_mul, Nat.mul_comm H] at this
    omega
  · rw [Nat.mul_comm, Nat.mul_add_mod, Nat.mod_eq_of_lt hx]
  · rw [Nat.mul_comm, Nat.mul_add_div (by omega), Nat.div_eq_of_lt hx]; simp
  · simp
def opp (d : Nat) : Nat := if d < 3 then d + 3 else d - 3
theorem nb_opp {W H c d : Nat} (hd : d < 6) (hc : c < W * H) (h : nbIs W H c d = true) : nbIs W H (nbN W c d) (opp d) = true ∧ nbN W (nbN W c d) (opp d) = c := by
  obtain ⟨h1, h2, h3, h4⟩ := nb_spec h
  have hW : 0 < W := by
    rcases Nat.eq_zero_or_pos W with h | h
    · subst h; simp at hc
    · exact h
  have hcW : c % W < W := Nat.mod_lt _ hW
  have hcH : c / W < H := Nat.div_lt_of_lt_mul hc
  have hdm := Nat.div_add_mod c W
  have eX : nbX W (nbN W c d) (opp d) = (c % W : Nat) := by
    have h2' := h2
    have h3' := h3
    unfold nbX at h2'
    unfold nbY at h3'
    unfold nbX
    generalize nbN W c d % W = a at *
    generalize nbN W c d / W = b at *
    generalize c % W = x at *
    generalize c / W = y at *
    have hp : b % 2 = 0 ∨ b % 2 = 1 := by omega
    have hq : y % 2 = 0 ∨ y % 2 = 1 := by omega
    have hds : d = 0 ∨ d = 1 ∨ d = 2 ∨ d = 3 ∨ d = 4 ∨ d = 5 := by omega
    rcases hp with hp | hp <;> rcases hq with hq | hq <;> rcases hds with rfl | rfl | rfl | rfl | rfl | rfl <;> simp [dx, dy, opp, hp, hq] at h2' h3' ⊢ <;> omega
  have eY : nbY W (nbN W c d) (opp d) = (c / W : Nat) := by
    have h3' := h3
    unfold nbY at h3'
    unfold nbY
    generalize nbN W c d / W = b at *
    generalize c / W = y at *
    have hds : d = 0 ∨ d = 1 ∨ d = 2 ∨ d = 3 ∨ d = 4 ∨ d = 5 := by omega
    rcases hds with rfl | rfl | rfl | rfl | rfl | rfl <;> simp [dy, opp] at h3' ⊢ <;> omega
  refine ⟨?_, ?_⟩
  · unfold nbIs
    rw [eX, eY]
    simp only [Bool.and_eq_true, decide_eq_true_eq]
    exact ⟨⟨⟨Int.natCast_nonneg _, by omega⟩, Int.natCast_nonneg _⟩, by omega⟩
  · have e : nbN W (nbN W c d) (opp d) = (((c / W : Nat) : Int) * W + (c % W : Nat)).toNat := by
      show (nbY W (nbN W c d) (opp d) * W + nbX W (nbN W c d) (opp d)).toNat = _
      rw [eX, eY]
    rw [e]
    have : (((c / W : Nat) : Int) * W + (c % W : Nat)) = ((c / W * W + c % W : Nat) : Int) := by simp
    rw [this, Int.toNat_natCast, Nat.mul_comm]
    exact hdm
/-- the same cell, or a neighbour -/
def adj (W H a b : Nat) : Bool := anyTo 6 (fun d => nbIs W H a d && nbN W a d == b) || a == b
theorem adj_iff {W H a b : Nat} : adj W H a b = true ↔ a = b ∨ ∃ d, d < 6 ∧ nbIs W H a d = true ∧ nbN W a d = b := by
  unfold adj
  simp only [Bool.or_eq_true, anyTo_iff, Bool.and_eq_true, beq_iff_eq]
  exact ⟨fun h => h.symm, fun h => h.symm⟩
theorem adj_symm {W H a b : Nat} (ha : a < W * H) (h : adj W H a b = true) : adj W H b a = true := by
  rcases adj_iff.1 h with h | ⟨d, hd, h1, rfl⟩
  · exact adj_iff.2 (.inl h.symm)
  · have := nb_opp hd ha h1
    exact adj_iff.2 (.inr ⟨opp d, by unfold opp; split <;> omega, this.1, this.2⟩)
theorem adj_lt {W H a b : Nat} (ha : a < W * H) (h : adj W H a b = true) : b < W * H := by
  rcases adj_iff.1 h with h | ⟨d, hd, h1, rfl⟩
  · omega
  · exact (nb_spec h1).1
theorem adj_comm {W H a b : Nat} (ha : a < W * H) (hb : b < W * H) : adj W H a b = adj W H b a := bool_ext ⟨adj_symm ha, adj_symm hb⟩
/-- a chart that is valid -/
structure Sea where
  W : Nat
  H : Nat
  nd : Nat
  nt : Nat
  dep : Nat → Int
  tide : Nat → Nat → Int
  sw : Nat → Int
structure Sea.Ok (s : Sea) : Prop where
  w1 : 1 ≤ s.W
  w2 : s.W ≤ 12
  h1 : 1 ≤ s.H
  h2 : s.H ≤ 12
  nd : s.nd = s.W * s.H
  t1 : 1 ≤ s.nt
  t2 : s.nt ≤ 60
  dep : ∀ i, i < s.nd → -1000 ≤ s.dep i ∧ s.dep i ≤ 1000
  tide : ∀ t, t < s.nt → 0 ≤ s.tide t 0 ∧ s.tide t 0 ≤ s.tide t 1 ∧ s.tide t 1 ≤ 200
  sw : ∀ t, t < s.nt → 0 ≤ s.sw t ∧ s.sw t ≤ 100
theorem Sea.Ok.nd1 {s : Sea} (h : s.Ok) : 1 ≤ s.nd ∧ s.nd ≤ 144 := by
  rw [h.nd]
  have := Nat.mul_le_mul h.w1 h.h1
  have := Nat.mul_le_mul h.w2 h.h2
  omega
def inB (lo hi x : Int) : Bool := decide (lo ≤ x) && decide (x ≤ hi)
theorem inB_iff {lo hi x : Int} : inB lo hi x = true ↔ lo ≤ x ∧ x ≤ hi := by unfold inB; simp
theorem inB_not {lo hi x : Int} : inB lo hi x = false ↔ x < lo ∨ hi < x := by
  unfold inB
  rw [← Bool.not_eq_true]
  simp only [Bool.and_eq_true, decide_eq_true_eq]
  omega
/-- the check of a chart -/
def chkC (W H : Int) (nd nt ns : Nat) (dep : Nat → Int) (tide : Nat → Nat → Int) (sw : Nat → Int) : Bool :=
  inB 1 12 W && inB 1 12 H && decide ((nd : Int) = W * H) && inB 1 60 nt && decide (ns = nt) && allTo nd (fun i => inB (-1000) 1000 (dep i)) && allTo nt (fun t => inB 0 (tide t 1) (tide t 0) && decide (tide t 1 ≤ 200)) && allTo ns (fun t => inB 0 100 (sw t))
theorem chkC_ok {W H : Int} {nd nt ns : Nat} {dep : Nat → Int} {tide : Nat → Nat → Int} {sw : Nat → Int} (h : chkC W H nd nt ns dep tide sw = true) :
    ∃ W' H' : Nat, W = W' ∧ H = H' ∧ ns = nt ∧ Sea.Ok ⟨W', H', nd, nt, dep, tide, sw⟩ := by
  unfold chkC at h
  simp only [Bool.and_eq_true, decide_eq_true_eq, inB_iff, allTo_iff] at h
  obtain ⟨⟨⟨⟨⟨⟨⟨h1, h2⟩, h3⟩, h4⟩, h5⟩, h6⟩, h7⟩, h8⟩ := h
  obtain ⟨W', rfl⟩ := Int.eq_ofNat_of_zero_le (show 0 ≤ W by omega)
  obtain ⟨H', rfl⟩ := Int.eq_ofNat_of_zero_le (show 0 ≤ H by omega)
  refine ⟨W', H', rfl, rfl, h5, ⟨by show 1 ≤ W'; omega, by show W' ≤ 12; omega, by show 1 ≤ H'; omega, by show H' ≤ 12; omega, ?_, by show 1 ≤ nt; omega, by show nt ≤ 60; omega, h6, ?_, ?_⟩⟩
  · show nd = W' * H'
    have : ((nd : Nat) : Int) = ((W' * H' : Nat) : Int) := by rw [h3]; simp
    omega
  · intro t ht
    have := h7 t ht
    exact ⟨this.1.1, this.1.2, this.2⟩
  · intro t ht
    exact h8 t (by rw [h5]; exact ht)
theorem Sea.Ok.chk {s : Sea} (h : s.Ok) : chkC s.W s.H s.nd s.nt s.nt s.dep s.tide s.sw = true := by
  unfold chkC
  simp only [Bool.and_eq_true, decide_eq_true_eq, inB_iff, allTo_iff]
  have h1 := h.w1; have h2 := h.w2; have h3 := h.h1; have h4 := h.h2; have h5 := h.nd; have h6 := h.t1; have h7 := h.t2
  refine ⟨⟨⟨⟨⟨⟨⟨by omega, by omega⟩, ?_⟩, by omega⟩, trivial⟩, h.dep⟩, fun t ht => ?_⟩, h.sw⟩
  · rw [h5]; simp
  · have := h.tide t ht
    exact ⟨⟨this.1, this.2.1⟩, this.2.2⟩
/-- a boat surely floats -/
def low (s : Sea) (c t : Nat) : Int := s.dep c + s.tide t 0 - s.sw t
def can (s : Sea) (lv dr : Int) (c t : Nat) : Bool := decide (0 < lv) || decide (dr ≤ low s c t)
end Go.Proofs.YtkdpmihdhiokkaaDoor.M
