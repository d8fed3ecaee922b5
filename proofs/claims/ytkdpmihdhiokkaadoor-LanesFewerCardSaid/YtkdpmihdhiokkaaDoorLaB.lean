/- Legs, plain: where a unit is, clashes, routes. No program. -/
import Derived.Test.YtkdpmihdhiokkaaDoorLaA
namespace Go.Proofs.YtkdpmihdhiokkaaDoor.M

structure Leg where
  at_ : Int
  lv : Int
  dr : Int
  tail : Bool
  n : Nat
  c : Nat → Int
structure Trip where
  at_ : Int
  lv : Int
  dr : Int
  tail : Bool
  from_ : Int
  to_ : Int
def unit (lv dr : Int) : Bool := (decide (lv = 0) && inB 1 100 dr) || (inB 1 3 lv && decide (dr = 0))
/-- the step of a leg at its cell i -/
def legStep (s : Sea) (l : Leg) (i : Nat) : Bool := inB 0 ((s.nd : Int) - 1) (l.c i) && can s l.lv l.dr (l.c i).toNat (l.at_ + i).toNat && (i == 0 || adj s.W s.H (l.c (i - 1)).toNat (l.c i).toNat)
def legOk (s : Sea) (l : Leg) : Bool := unit l.lv l.dr && decide (0 < l.n) && decide (0 ≤ l.at_) && decide (l.n ≤ s.nt) && decide (l.at_ ≤ (s.nt : Int) - l.n) && allTo l.n (legStep s l)
structure LegOk (s : Sea) (l : Leg) : Prop where
  un : unit l.lv l.dr = true
  n0 : 0 < l.n
  at0 : 0 ≤ l.at_
  n1 : l.n ≤ s.nt
  at1 : l.at_ + l.n ≤ s.nt
  cell : ∀ i, i < l.n → 0 ≤ l.c i ∧ l.c i < s.nd
  can : ∀ i, i < l.n → can s l.lv l.dr (l.c i).toNat (l.at_ + i).toNat = true
  adj : ∀ i, i + 1 < l.n → adj s.W s.H (l.c i).toNat (l.c (i + 1)).toNat = true
theorem legOk_iff {s : Sea} {l : Leg} : legOk s l = true ↔ LegOk s l := by
  unfold legOk legStep
  simp only [Bool.and_eq_true, decide_eq_true_eq, allTo_iff, inB_iff, Bool.or_eq_true, beq_iff_eq]
  constructor
  · rintro ⟨⟨⟨⟨⟨h1, h2⟩, h3⟩, h4⟩, h5⟩, h6⟩
    refine ⟨h1, h2, h3, h4, by omega, fun i hi => by have := (h6 i hi).1.1; omega, fun i hi => (h6 i hi).1.2, fun i hi => ?_⟩
    rcases (h6 (i + 1) hi).2 with h | h
    · omega
    · exact h
  · intro h
    refine ⟨⟨⟨⟨⟨h.un, h.n0⟩, h.at0⟩, h.n1⟩, by have := h.at1; omega⟩, fun i hi => ⟨⟨by have := h.cell i hi; omega, h.can i hi⟩, ?_⟩⟩
    rcases Nat.eq_zero_or_pos i with h0 | h0
    · exact .inl h0
    · obtain ⟨j, rfl⟩ : ∃ j, i = j + 1 := ⟨i - 1, by omega⟩
      exact .inr (h.adj j hi)
/-- the cell of a leg in a tick, or -1 -/
def atC (l : Leg) (t : Int) : Int := if t < l.at_ ∨ l.at_ + l.n ≤ t then -1 else l.c (t - l.at_).toNat
theorem atC_ge {s : Sea} {l : Leg} (h : LegOk s l) (t : Int) : -1 ≤ atC l t ∧ atC l t < s.nd := by
  unfold atC
  split
  · omega
  · rename_i h1
    have := h.cell (t - l.at_).toNat (by omega)
    omega
theorem atC_in {l : Leg} {t : Int} (h1 : l.at_ ≤ t) (h2 : t < l.at_ + l.n) : atC l t = l.c (t - l.at_).toNat := by
  unfold atC; rw [if_neg (by omega)]
theorem atC_out {l : Leg} {t : Int} (h : t < l.at_ ∨ l.at_ + l.n ≤ t) : atC l t = -1 := by unfold atC; rw [if_pos h]
theorem atC_nn {s : Sea} {l : Leg} (h : LegOk s l) {t : Int} : 0 ≤ atC l t ↔ l.at_ ≤ t ∧ t < l.at_ + l.n := by
  unfold atC
  split
  · omega
  · have := h.cell (t - l.at_).toNat (by omega)
    omega

/-- does a unit occupy a cell (a number that is not below 0) -/
def occ (tail : Bool) (p q x : Int) : Bool := decide (x = q) || tail && decide (x = p)
/-- two units clash: where each was and is -/
def clash (lv lv' : Int) (tl tl' : Bool) (p q p' q' : Int) : Bool :=
  decide (lv = lv') && ((decide (0 ≤ q) && (occ tl p q q && occ tl' p' q' q)) || (decide (0 ≤ p) && (occ tl p q p && occ tl' p' q' p)) || (decide (0 ≤ p) && decide (0 ≤ p') && decide (p ≠ p') && decide (q = p') && decide (q' = p)))
/-- what is occupied, as the reference lists it -/
def occL (tail : Bool) (p q : Int) : List Int := if q < 0 then [] else if tail = true ∧ 0 ≤ p then [q, p] else [q]
def clashR (lv lv' : Int) (tl tl' : Bool) (p q p' q' : Int) : Bool :=
  decide (lv = lv') && ((occL tl p q).any (fun x => (occL tl' p' q').any (fun y => decide (x = y))) || (decide (0 ≤ p) && decide (0 ≤ q) && decide (0 ≤ p') && decide (0 ≤ q') && decide (q = p') && decide (q' = p) && decide (p ≠ p')))
theorem clashR_eq (lv lv' : Int) (tl tl' : Bool) (p q p' q' : Int) : clashR lv lv' tl tl' p q p' q' = (decide (0 ≤ q) && decide (0 ≤ q') && clash lv lv' tl tl' p q p' q') := by
  unfold clashR clash occL occ
  by_cases hl : lv = lv'
  · by_cases hq : q < 0
    · have : ¬ 0 ≤ q := by omega
      simp [hq, this]
    · by_cases hq' : q' < 0
      · have : ¬ 0 ≤ q' := by omega
        simp [hq', this]
      · have h1 : 0 ≤ q := by omega
        have h2 : 0 ≤ q' := by omega
        apply bool_ext
        by_cases hp : 0 ≤ p <;> by_cases hp' : 0 ≤ p' <;> cases tl <;> cases tl' <;> simp [hl, hq, hq', h1, h2, hp, hp'] <;> omega
  · simp [hl]
theorem clash_symm {lv lv' : Int} {tl tl' : Bool} {p q p' q' : Int} (h1 : 0 ≤ q) (h2 : 0 ≤ q') : clash lv lv' tl tl' p q p' q' = clash lv' lv tl' tl p' q' p q := by
  unfold clash occ
  by_cases hl : lv = lv'
  · apply bool_ext
    by_cases hp : 0 ≤ p <;> by_cases hp' : 0 ≤ p' <;> cases tl <;> cases tl' <;> simp [hl, h1, h2, hp, hp'] <;> omega
  · have : ¬ lv' = lv := fun e => hl e.symm
    simp [hl, this]
theorem clash_light {lv lv' : Int} {tl tl' : Bool} {p q p' q' : Int} (h : clash lv lv' false tl' p q p' q' = true) : clash lv lv' tl tl' p q p' q' = true := by
  unfold clash occ at *
  cases tl
  · exact h
  · simp only [Bool.and_eq_true, Bool.or_eq_true, decide_eq_true_eq, Bool.false_and, Bool.false_eq_true, or_false, Bool.true_and] at h ⊢
    refine ⟨h.1, ?_⟩
    rcases h.2 with (h | h) | h
    · exact .inl (.inl ⟨h.1, .inl trivial, h.2.2⟩)
    · exact .inl (.inr ⟨h.1, .inr trivial, h.2.2⟩)
    · exact .inr h
/-- two legs clash in a tick -/
def legC (a b : Leg) (t : Int) : Bool := decide (0 ≤ atC a t) && decide (0 ≤ atC b t) && clash a.lv b.lv a.tail b.tail (atC a (t - 1)) (atC a t) (atC b (t - 1)) (atC b t)
theorem legC_symm (a b : Leg) (t : Int) : legC a b t = legC b a t := by
  unfold legC
  by_cases h1 : 0 ≤ atC a t
  · by_cases h2 : 0 ≤ atC b t
    · rw [clash_symm h1 h2]; simp [h1, h2]
    · simp [h2]
  · simp [h1]
/-- some leg is in the way -/
def hit (L : Nat → Leg) (n : Nat) (lv : Int) (tail : Bool) (p q t : Int) : Bool := anyTo n fun i => decide (0 ≤ atC (L i) t) && clash lv (L i).lv tail (L i).tail p q (atC (L i) (t - 1)) (atC (L i) t)
section
variable (s : Sea) (L : Nat → Leg) (n : Nat) (r : Trip)
def goes (p : Int) (q t : Nat) : Bool := can s r.lv r.dr q t && !hit L n r.lv r.tail p q t
def tripOk : Bool := inB 0 ((s.nt : Int) - 1) r.at_ && inB 0 ((s.nd : Int) - 1) r.from_ && inB 0 ((s.nd : Int) - 1) r.to_ && unit r.lv r.dr
/-- where a unit can be, so many ticks behind the first -/
def reach : Nat → Nat → Bool
  | 0, c => decide ((c : Int) = r.from_) && goes s L n r (-1) c r.at_.toNat
  | k + 1, c => anyTo s.nd fun b => reach k b && adj s.W s.H b c && goes s L n r b c (r.at_.toNat + (k + 1))
/-- the first number with a property -/
def firstTo : Nat → (Nat → Bool) → Nat
  | 0, _ => 0
  | m + 1, p => if firstTo m p < m then firstTo m p else if p m then m else m + 1
theorem firstTo_le (m : Nat) (p : Nat → Bool) : firstTo m p ≤ m := by
  cases m with
  | zero => exact Nat.le_refl _
  | succ m => simp only [firstTo]; split; omega; split <;> omega
theorem firstTo_spec : ∀ (m : Nat) (p : Nat → Bool), (∀ i, i < firstTo m p → p i = false) ∧ (firstTo m p < m → p (firstTo m p) = true)
  | 0, _ => ⟨fun i hi => absurd hi (by simp [firstTo]), fun h => absurd h (by simp [firstTo])⟩
  | m + 1, p => by
    obtain ⟨h1, h2⟩ := firstTo_spec m p
    have hle := firstTo_le m p
    simp only [firstTo]
    split
    · rename_i h
      exact ⟨h1, fun _ => h2 h⟩
    · rename_i h
      have he : firstTo m p = m := by omega
      rw [he] at h1
      split
      · rename_i hp
        exact ⟨h1, fun _ => hp⟩
      · rename_i hp
        refine ⟨fun i hi => ?_, fun h => by omega⟩
        rcases Nat.lt_succ_iff_lt_or_eq.1 hi with h | h
        · exact h1 i h
        · subst h; simpa using hp
theorem firstTo_lt {m i : Nat} {p : Nat → Bool} (hi : i < m) (hp : p i = true) : firstTo m p ≤ i := by
  rcases Nat.lt_or_ge i (firstTo m p) with h | h
  · have := (firstTo_spec m p).1 i h
    rw [hp] at this; cases this
  · exact h
theorem firstTo_any {m : Nat} {p : Nat → Bool} : firstTo m p < m ↔ anyTo m p = true := by
  rw [anyTo_iff]
  exact ⟨fun h => ⟨_, h, (firstTo_spec m p).2 h⟩, fun ⟨i, hi, hp⟩ => by have := firstTo_lt hi hp; omega⟩
/-- the first cell from which a cell is come to -/
def pred (k c : Nat) : Nat := firstTo s.nd fun b => reach s L n r k b && adj s.W s.H b c && goes s L n r b c (r.at_.toNat + (k + 1))
/-- when a route ends, counted from the first tick; s.nt - at if never -/
def endK : Nat := firstTo (s.nt - r.at_.toNat) fun k => reach s L n r k r.to_.toNat
/-- the cell so many ticks before the end -/
def bk (K : Nat) : Nat → Nat
  | 0 => r.to_.toNat
  | j + 1 => pred s L n r (K - (j + 1)) (bk K j)
def routeF (K : Nat) (i : Nat) : Int := (bk s L n r K (K - i) : Nat)
def legOf (m : Nat) (f : Nat → Int) : Leg := ⟨r.at_, r.lv, r.dr, r.tail, m, f⟩
def isRoute (m : Nat) (f : Nat → Int) : Bool := decide (m ≤ 80) && legOk s (legOf r m f) && decide (f 0 = r.from_) && decide (f (m - 1) = r.to_) && allTo n fun i => allTo s.nt fun t => !legC (legOf r m f) (L i) t
end
section
variable {s : Sea} {L : Nat → Leg} {n : Nat} {r : Trip}
theorem tripOk_iff : tripOk s r = true ↔ (0 ≤ r.at_ ∧ r.at_ < s.nt) ∧ (0 ≤ r.from_ ∧ r.from_ < s.nd) ∧ (0 ≤ r.to_ ∧ r.to_ < s.nd) ∧ unit r.lv r.dr = true := by
  unfold tripOk
  simp only [Bool.and_eq_true, inB_iff]
  constructor
  · rintro ⟨⟨⟨h1, h2⟩, h3⟩, h4⟩
    exact ⟨by omega, by omega, by omega, h4⟩
  · rintro ⟨h1, h2, h3, h4⟩
    exact ⟨⟨⟨by omega, by omega⟩, by omega⟩, h4⟩
theorem reach_lt (hr : tripOk s r = true) : ∀ {k c : Nat}, s.nd = s.W * s.H → reach s L n r k c = true → c < s.nd
  | 0, c, _, h => by
    have h1 := (tripOk_iff.1 hr).2.1
    simp only [reach, Bool.and_eq_true, decide_eq_true_eq] at h
    omega
  | k + 1, c, hnd, h => by
    simp only [reach, anyTo_iff, Bool.and_eq_true] at h
    obtain ⟨b, hb, ⟨_, h2⟩, _⟩ := h
    rw [hnd]
    exact adj_lt (by rw [← hnd]; exact hb) h2
theorem pred_spec {k c : Nat} (h : reach s L n r (k + 1) c = true) :
    pred s L n r k c < s.nd ∧ reach s L n r k (pred s L n r k c) = true ∧ adj s.W s.H (pred s L n r k c) c = true ∧ goes s L n r (pred s L n r k c) c (r.at_.toNat + (k + 1)) = true := by
  have h1 : pred s L n r k c < s.nd := firstTo_any.2 h
  have h2 := (firstTo_spec s.nd (fun b => reach s L n r k b && adj s.W s.H b c && goes s L n r b c (r.at_.toNat + (k + 1)))).2 h1
  simp only [Bool.and_eq_true] at h2
  exact ⟨h1, h2.1.1, h2.1.2, h2.2⟩
theorem bk_reach {K : Nat} (hK : reach s L n r K r.to_.toNat = true) : ∀ j, j ≤ K → reach s L n r (K - j) (bk s L n r K j) = true
  | 0, _ => hK
  | j + 1, hj => by
    have ih := bk_reach hK j (by omega)
    have e : K - j = (K - (j + 1)) + 1 := by omega
    rw [e] at ih
    exact (pred_spec ih).2.1
theorem bk_step {K : Nat} (hK : reach s L n r K r.to_.toNat = true) {j : Nat} (hj : j + 1 ≤ K) :
    adj s.W s.H (bk s L n r K (j + 1)) (bk s L n r K j) = true ∧ goes s L n r (bk s L n r K (j + 1)) (bk s L n r K j) (r.at_.toNat + (K - j)) = true := by
  have ih := bk_reach hK j (by omega)
  have e : K - j = (K - (j + 1)) + 1 := by omega
  rw [e] at ih
  have := pred_spec ih
  rw [e]
  exact ⟨this.2.2.1, this.2.2.2⟩
theorem bk_first {K : Nat} (hK : reach s L n r K r.to_.toNat = true) : ((bk s L n r K K : Nat) : Int) = r.from_ ∧ goes s L n r (-1) (bk s L n r K K) r.at_.toNat = true := by
  have := bk_reach hK K (Nat.le_refl _)
  rw [Nat.sub_self] at this
  simp only [reach, Bool.and_eq_true, decide_eq_true_eq] at this
  exact this
theorem goes_can {p : Int} {q t : Nat} (h : goes s L n r p q t = true) : can s r.lv r.dr q t = true ∧ hit L n r.lv r.tail p q t = false := by
  unfold goes at h
  simpa using h
/-- the legs that a route meets -/
theorem leg_hit {m : Nat} {f : Nat → Int} {i k : Nat} (hi : i < n) (hat : 0 ≤ r.at_) (hk : k < m) (hh : hit L n r.lv r.tail (if k = 0 then -1 else f (k - 1)) (f k) ((r.at_.toNat + k : Nat) : Int) = false) : legC (legOf r m f) (L i) ((r.at_.toNat + k : Nat) : Int) = false := by
  have h1 := anyTo_false.1 hh i hi
  have ha : (((r.at_.toNat + k : Nat) : Int)) = r.at_ + k := by omega
  rw [ha] at h1 ⊢
  have e1 : atC (legOf r m f) (r.at_ + k) = f k := by
    rw [atC_in (by show r.at_ ≤ _; omega) (by show _ < r.at_ + (m : Int); omega)]
    show f (r.at_ + k - r.at_).toNat = f k
    congr 1; omega
  have e2 : atC (legOf r m f) (r.at_ + k - 1) = if k = 0 then -1 else f (k - 1) := by
    by_cases hk0 : k = 0
    · subst hk0
      rw [if_pos rfl, atC_out (.inl (by show _ < r.at_; omega))]
    · rw [if_neg hk0, atC_in (by show r.at_ ≤ _; omega) (by show _ < r.at_ + (m : Int); omega)]
      show f (r.at_ + k - 1 - r.at_).toNat = f (k - 1)
      congr 1; omega
  unfold legC
  rw [e1, e2]
  show (decide (0 ≤ f k) && decide (0 ≤ atC (L i) (r.at_ + k)) && clash r.lv (L i).lv r.tail (L i).tail _ _ _ _) = false
  rw [Bool.and_assoc]
  show (decide (0 ≤ f k) && _) = false
  simp only [h1, Bool.and_false]
/-- the route of reach is a route -/
theorem route_is {K : Nat} (hs : s.Ok) (hr : tripOk s r = true) (hK : reach s L n r K r.to_.toNat = true) (hKn : K < s.nt - r.at_.toNat) : isRoute s L n r (K + 1) (routeF s L n r K) = true := by
  obtain ⟨ha, hf, ht, hu⟩ := tripOk_iff.1 hr
  have hnt := hs.t2
  have hlt : ∀ j, j ≤ K → bk s L n r K j < s.nd := fun j hj => reach_lt hr hs.nd (bk_reach hK j hj)
  have hstep : ∀ k, k < K + 1 → can s r.lv r.dr (bk s L n r K (K - k)) (r.at_.toNat + k) = true ∧ hit L n r.lv r.tail (if k = 0 then -1 else routeF s L n r K (k - 1)) (bk s L n r K (K - k)) ((r.at_.toNat + k : Nat) : Int) = false := by
    intro k hk
    by_cases h0 : k = 0
    · subst h0
      rw [if_pos rfl]
      exact goes_can (bk_first hK).2
    · rw [if_neg h0]
      have h1 := (bk_step hK (j := K - k) (by omega)).2
      have e : K - (K - k) = k := by omega
      rw [e] at h1
      have e2 : K - k + 1 = K - (k - 1) := by omega
      rw [e2] at h1
      exact goes_can h1
  unfold isRoute
  simp only [Bool.and_eq_true, decide_eq_true_eq, allTo_iff, Bool.not_eq_true']
  refine ⟨⟨⟨⟨by omega, legOk_iff.2 ⟨hu, by show 0 < K + 1; omega, ha.1, by show K + 1 ≤ s.nt; omega, by show r.at_ + ((K + 1 : Nat) : Int) ≤ s.nt; omega, fun i hi => ?_, fun i hi => ?_, fun i hi => ?_⟩⟩, ?_⟩, ?_⟩, fun i hi t ht => ?_⟩
  · have := hlt (K - i) (by omega)
    show 0 ≤ ((bk s L n r K (K - i) : Nat) : Int) ∧ ((bk s L n r K (K - i) : Nat) : Int) < s.nd
    omega
  · have := (hstep i hi).1
    show can s r.lv r.dr ((bk s L n r K (K - i) : Nat) : Int).toNat (r.at_ + i).toNat = true
    rw [Int.toNat_natCast, show (r.at_ + i).toNat = r.at_.toNat + i by omega]
    exact this
  · have hi' : i + 1 < K + 1 := hi
    have := (bk_step hK (j := K - (i + 1)) (by omega)).1
    show adj s.W s.H ((bk s L n r K (K - i) : Nat) : Int).toNat ((bk s L n r K (K - (i + 1)) : Nat) : Int).toNat = true
    rw [Int.toNat_natCast, Int.toNat_natCast, show K - i = K - (i + 1) + 1 by omega]
    exact this
  · exact (bk_first hK).1
  · show ((bk s L n r K (K - (K + 1 - 1)) : Nat) : Int) = r.to_
    rw [show K - (K + 1 - 1) = 0 by omega]
    show ((r.to_.toNat : Nat) : Int) = r.to_
    omega
  · by_cases hin : r.at_ ≤ t ∧ (t : Int) < r.at_ + (K + 1 : Nat)
    · obtain ⟨k, hk⟩ : ∃ k : Nat, t = r.at_.toNat + k := ⟨t - r.at_.toNat, by omega⟩
      subst hk
      have hkK : k < K + 1 := by omega
      exact leg_hit hi ha.1 hkK (hstep k hkK).2
    · unfold legC
      have : atC (legOf r (K + 1) (routeF s L n r K)) t = -1 := atC_out (by show (t : Int) < r.at_ ∨ r.at_ + ((K + 1 : Nat) : Int) ≤ t; omega)
      simp [this]
/-- no route is earlier -/
theorem route_reach {m : Nat} {f : Nat → Int} (hr : tripOk s r = true) (h : isRoute s L n r m f = true) : ∀ k, k < m → reach s L n r k (f k).toNat = true := by
  unfold isRoute at h
  simp only [Bool.and_eq_true, decide_eq_true_eq, allTo_iff, Bool.not_eq_true'] at h
  obtain ⟨⟨⟨⟨_, hl⟩, h0⟩, h1⟩, hc⟩ := h
  obtain ⟨ha, hf, ht, hu⟩ := tripOk_iff.1 hr
  have hl := legOk_iff.1 hl
  have hat1 : r.at_ + (m : Int) ≤ s.nt := hl.at1
  have hcell : ∀ i, i < m → 0 ≤ f i ∧ f i < s.nd := hl.cell
  have hgo : ∀ k, k < m → goes s L n r (if k = 0 then -1 else f (k - 1)) (f k).toNat (r.at_.toNat + k) = true := by
    intro k hk
    have h2 := hl.can k hk
    have h3 : can s r.lv r.dr (f k).toNat (r.at_.toNat + k) = true := by
      rw [show r.at_.toNat + k = (r.at_ + k).toNat by omega]; exact h2
    unfold goes
    rw [h3]
    have : hit L n r.lv r.tail (if k = 0 then -1 else f (k - 1)) (((f k).toNat : Nat) : Int) ((r.at_.toNat + k : Nat) : Int) = false := by
      refine anyTo_false.2 fun i hi => ?_
      have h4 := hc i hi (r.at_.toNat + k) (by omega)
      have e0 := (hcell k hk).1
      have e1 : atC (legOf r m f) ((r.at_.toNat + k : Nat) : Int) = f k := by
        rw [atC_in (by show r.at_ ≤ _; omega) (by show _ < r.at_ + (m : Int); omega)]
        show f _ = f k
        congr 1; show (((r.at_.toNat + k : Nat) : Int) - r.at_).toNat = k; omega
      have e2 : atC (legOf r m f) (((r.at_.toNat + k : Nat) : Int) - 1) = if k = 0 then -1 else f (k - 1) := by
        by_cases hk0 : k = 0
        · subst hk0
          rw [if_pos rfl, atC_out (.inl (by show _ < r.at_; omega))]
        · rw [if_neg hk0, atC_in (by show r.at_ ≤ _; omega) (by show _ < r.at_ + (m : Int); omega)]
          show f _ = f (k - 1)
          congr 1; show (((r.at_.toNat + k : Nat) : Int) - 1 - r.at_).toNat = k - 1; omega
      unfold legC at h4
      rw [e1, e2] at h4
      have e3 : (((f k).toNat : Nat) : Int) = f k := by omega
      rw [e3]
      have h5 : (decide (0 ≤ atC (L i) ((r.at_.toNat + k : Nat) : Int)) && clash r.lv (L i).lv r.tail (L i).tail (if k = 0 then -1 else f (k - 1)) (f k) (atC (L i) (((r.at_.toNat + k : Nat) : Int) - 1)) (atC (L i) ((r.at_.toNat + k : Nat) : Int))) = false := by
        have h6 : (decide (0 ≤ f k) && (decide (0 ≤ atC (L i) ((r.at_.toNat + k : Nat) : Int)) && clash r.lv (L i).lv r.tail (L i).tail (if k = 0 then -1 else f (k - 1)) (f k) (atC (L i) (((r.at_.toNat + k : Nat) : Int) - 1)) (atC (L i) ((r.at_.toNat + k : Nat) : Int)))) = false := by
          rw [← Bool.and_assoc]; exact h4
        rw [decide_eq_true e0, Bool.true_and] at h6
        exact h6
      exact h5
    rw [this]; rfl
  intro k
  induction k with
  | zero =>
    intro hk
    have h2 := hgo 0 hk
    rw [if_pos rfl] at h2
    have h3 := (hcell 0 hk).1
    simp only [reach, Bool.and_eq_true, decide_eq_true_eq]
    exact ⟨by omega, h2⟩
  | succ k ih =>
    intro hk
    have h2 := hgo (k + 1) hk
    rw [if_neg (by omega)] at h2
    have h3 := hcell k (by omega)
    simp only [reach]
    refine anyTo_iff.2 ⟨(f k).toNat, by omega, ?_⟩
    simp only [Bool.and_eq_true]
    refine ⟨⟨ih (by omega), hl.adj k hk⟩, ?_⟩
    rw [show (((f k).toNat : Nat) : Int) = f k by omega]
    exact h2
theorem endK_le {m : Nat} {f : Nat → Int} (hr : tripOk s r = true) (h : isRoute s L n r m f = true) : endK s L n r < s.nt - r.at_.toNat ∧ endK s L n r + 1 ≤ m := by
  have h1 := route_reach hr h
  unfold isRoute at h
  simp only [Bool.and_eq_true, decide_eq_true_eq, allTo_iff, Bool.not_eq_true'] at h
  obtain ⟨⟨⟨⟨_, hl⟩, h0⟩, h2⟩, hc⟩ := h
  have hl := legOk_iff.1 hl
  have hm : 0 < m := hl.n0
  have hat1 : r.at_ + (m : Int) ≤ s.nt := hl.at1
  have hat0 : 0 ≤ r.at_ := hl.at0
  have h3 := h1 (m - 1) (by omega)
  rw [h2] at h3
  have h4 : m - 1 < s.nt - r.at_.toNat := by omega
  have := firstTo_lt (p := fun k => reach s L n r k r.to_.toNat) h4 h3
  unfold endK
  omega
theorem endK_is (hs : s.Ok) (hr : tripOk s r = true) (h : endK s L n r < s.nt - r.at_.toNat) : isRoute s L n r (endK s L n r + 1) (routeF s L n r (endK s L n r)) = true :=
  route_is hs hr ((firstTo_spec _ (fun k => reach s L n r k r.to_.toNat)).2 h) h
end
end Go.Proofs.YtkdpmihdhiokkaaDoor.M
