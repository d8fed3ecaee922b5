/- The least and the greatest loss up to a tick of all histories: plain. No program. -/
import Derived.Test.YtnbeembnnjdmdaaGreatDoorLaA
namespace Go.Proofs.YtnbeembnnjdmdaaGreatDoor.M

/-- the least of numbers; of none: -1 -/
def mnL : List Int → Int
  | [] => -1
  | x :: l => if l = [] then x else min x (mnL l)
/-- the greatest of numbers and 0 -/
def mxL : List Int → Int
  | [] => 0
  | x :: l => max x (mxL l)
theorem mnL_le : ∀ {l : List Int} {x : Int}, x ∈ l → mnL l ≤ x
  | y :: l, x, h => by
    unfold mnL
    by_cases e : l = []
    · subst e
      rw [if_pos rfl]
      simp at h
      omega
    · rw [if_neg e]
      rcases List.mem_cons.1 h with h | h
      · omega
      · have := mnL_le h; omega
theorem mnL_mem : ∀ {l : List Int}, l ≠ [] → mnL l ∈ l
  | y :: l, _ => by
    unfold mnL
    by_cases e : l = []
    · rw [if_pos e]; exact List.mem_cons_self
    · rw [if_neg e]
      have := mnL_mem e
      rcases Int.le_total y (mnL l) with h | h
      · rw [Int.min_eq_left h]; exact List.mem_cons_self
      · rw [Int.min_eq_right h]; exact List.mem_cons_of_mem _ this
theorem mnL_eq {l : List Int} {v : Int} (h1 : v ∈ l) (h2 : ∀ x, x ∈ l → v ≤ x) : mnL l = v := by
  have h3 := h2 _ (mnL_mem (List.ne_nil_of_mem h1))
  have h4 := mnL_le h1
  omega
theorem mnL_ext {l l' : List Int} (h : ∀ x, x ∈ l ↔ x ∈ l') : mnL l = mnL l' := by
  by_cases e : l = []
  · subst e
    have : l' = [] := List.eq_nil_iff_forall_not_mem.2 fun x hx => by have := (h x).2 hx; cases this
    rw [this]
  · have h1 := mnL_mem e
    exact (mnL_eq ((h _).1 h1) fun x hx => mnL_le ((h x).2 hx)).symm
theorem mnL_app {l : List Int} {x : Int} : mnL (l ++ [x]) = if l = [] then x else min (mnL l) x := by
  by_cases e : l = []
  · subst e; rfl
  · rw [if_neg e]
    have h1 := mnL_mem e
    rcases Int.le_total (mnL l) x with h | h
    · rw [Int.min_eq_left h]
      refine mnL_eq (List.mem_append_left _ h1) fun y hy => ?_
      rcases List.mem_append.1 hy with hy | hy
      · exact mnL_le hy
      · simp at hy; omega
    · rw [Int.min_eq_right h]
      refine mnL_eq (List.mem_append_right _ (by simp)) fun y hy => ?_
      rcases List.mem_append.1 hy with hy | hy
      · have := mnL_le hy; omega
      · simp at hy; omega
theorem mxL_le_iff {v : Int} : ∀ {l : List Int}, mxL l ≤ v ↔ 0 ≤ v ∧ ∀ x, x ∈ l → x ≤ v
  | [] => by simp [mxL]
  | y :: l => by
    have ih := mxL_le_iff (v := v) (l := l)
    unfold mxL
    constructor
    · intro h
      have h2 := ih.1 (by omega)
      refine ⟨h2.1, fun x hx => ?_⟩
      rcases List.mem_cons.1 hx with hx | hx
      · omega
      · exact h2.2 x hx
    · intro h
      have h2 := ih.2 ⟨h.1, fun x hx => h.2 x (List.mem_cons_of_mem _ hx)⟩
      have := h.2 y List.mem_cons_self
      omega
theorem mxL_le {l : List Int} {x : Int} (h : x ∈ l) : x ≤ mxL l := (mxL_le_iff.1 (Int.le_refl (mxL l))).2 x h
theorem mxL_nn {l : List Int} : 0 ≤ mxL l := (mxL_le_iff.1 (Int.le_refl (mxL l))).1
theorem mxL_ext {l l' : List Int} (h : ∀ x, x ∈ l ↔ x ∈ l') : mxL l = mxL l' := by
  have h1 : mxL l ≤ mxL l' := mxL_le_iff.2 ⟨mxL_nn, fun x hx => mxL_le ((h x).1 hx)⟩
  have h2 : mxL l' ≤ mxL l := mxL_le_iff.2 ⟨mxL_nn, fun x hx => mxL_le ((h x).2 hx)⟩
  omega
theorem mxL_app {l : List Int} {x : Int} : mxL (l ++ [x]) = max (mxL l) x := by
  have h1 : mxL (l ++ [x]) ≤ max (mxL l) x := mxL_le_iff.2 ⟨by have := mxL_nn (l := l); omega, fun y hy => by
    rcases List.mem_append.1 hy with hy | hy
    · have := mxL_le hy; omega
    · simp at hy; omega⟩
  have h2 : mxL l ≤ mxL (l ++ [x]) := mxL_le_iff.2 ⟨mxL_nn, fun y hy => mxL_le (List.mem_append_left _ hy)⟩
  have h3 : x ≤ mxL (l ++ [x]) := mxL_le (List.mem_append_right _ (by simp))
  omega
/-- the first place below m of something; m: there is none -/
def fstB (p : Nat → Bool) : Nat → Nat
  | 0 => 0
  | m + 1 => if fstB p m < m then fstB p m else if p m then m else m + 1
theorem fstB_spec {p : Nat → Bool} : ∀ m, fstB p m ≤ m ∧ (∀ i, i < fstB p m → p i = false) ∧ (fstB p m < m → p (fstB p m) = true)
  | 0 => ⟨Nat.le_refl _, fun i hi => absurd hi (by simp [fstB]), fun h => absurd h (by simp [fstB])⟩
  | m + 1 => by
    obtain ⟨h1, h2, h3⟩ := fstB_spec (p := p) m
    unfold fstB
    by_cases h : fstB p m < m
    · rw [if_pos h]
      exact ⟨by omega, h2, fun _ => h3 h⟩
    · rw [if_neg h]
      have e : fstB p m = m := by omega
      rw [e] at h2
      cases hp : p m
      · rw [if_neg (by simp)]
        refine ⟨Nat.le_refl _, fun i hi => ?_, fun h => absurd h (Nat.lt_irrefl _)⟩
        by_cases e2 : i = m
        · rw [e2]; exact hp
        · exact h2 i (by omega)
      · rw [if_pos rfl]
        exact ⟨by omega, h2, fun _ => hp⟩
theorem fstB_eq {p : Nat → Bool} {m k : Nat} (h1 : k ≤ m) (h2 : ∀ i, i < k → p i = false) (h3 : k < m → p k = true) : fstB p m = k := by
  obtain ⟨g1, g2, g3⟩ := fstB_spec (p := p) m
  rcases Nat.lt_trichotomy (fstB p m) k with h | h | h
  · have e1 := g3 (by omega)
    rw [h2 _ h] at e1; cases e1
  · exact h
  · have e1 := h3 (by omega)
    rw [g2 _ h] at e1; cases e1

section
variable (d : Dr) (at_ : Nat) (l : Int) (X : Int → Bool) (fit : Nat → Int → Bool) (n : Nat) (co : Int → Nat → Int)
/-- the least loss of all histories that are in a cell in a tick -/
def loC : Nat → Int → Int
  | 0, _ => 0
  | i + 1, c => mnL (((rwL d at_ l X fit n i).filter fun p => stepB d (at_ + i) l p c).map fun p => loC i p + co p 0)
/-- the greatest one -/
def hiC : Nat → Int → Int
  | 0, _ => 0
  | i + 1, c => mxL (((rwL d at_ l X fit n i).filter fun p => stepB d (at_ + i) l p c).map fun p => hiC i p + co p 1)
def lowR (i : Nat) : Int := mnL ((rwL d at_ l X fit n i).map (loC d at_ l X fit n co i))
def highR (i : Nat) : Int := mxL ((rwL d at_ l X fit n i).map (hiC d at_ l X fit n co i))
end
section
variable {d : Dr} {at_ : Nat} {l : Int} {X : Int → Bool} {fit : Nat → Int → Bool} {n : Nat} {co : Int → Nat → Int}
theorem mem_rwL {i : Nat} (hi : i ≤ n) {c : Int} : c ∈ rwL d at_ l X fit n i ↔ (-1 ≤ c ∧ c < d.s.nd) ∧ ∃ f, Hist d at_ l X fit n f ∧ f i = c := by
  unfold rwL
  rw [mem_listB]
  constructor
  · rintro ⟨h1, h2⟩
    exact ⟨h1, (rowB_iff hi h1).1 h2⟩
  · rintro ⟨h1, h2⟩
    exact ⟨h1, (rowB_iff hi h1).2 h2⟩
theorem Hist.mem {f : Nat → Int} (hf : Hist d at_ l X fit n f) {i : Nat} (hi : i ≤ n) : f i ∈ rwL d at_ l X fit n i := (mem_rwL hi).2 ⟨hf.bd i hi, f, hf, rfl⟩
theorem row_back {i : Nat} (hi : i < n) {c : Int} (hc : c ∈ rwL d at_ l X fit n (i + 1)) : ∃ p, p ∈ rwL d at_ l X fit n i ∧ stepB d (at_ + i) l p c = true := by
  obtain ⟨_, f, hf, rfl⟩ := (mem_rwL (show i + 1 ≤ n by omega)).1 hc
  exact ⟨f i, hf.mem (by omega), hf.go i hi⟩
theorem loC_at {i : Nat} (hi : i < n) {c : Int} (hc : c ∈ rwL d at_ l X fit n (i + 1)) : ∃ p, p ∈ rwL d at_ l X fit n i ∧ stepB d (at_ + i) l p c = true ∧ loC d at_ l X fit n co (i + 1) c = loC d at_ l X fit n co i p + co p 0 := by
  obtain ⟨p, hp, hs⟩ := row_back hi hc
  have h1 := mnL_mem (l := ((rwL d at_ l X fit n i).filter fun p => stepB d (at_ + i) l p c).map fun p => loC d at_ l X fit n co i p + co p 0) (List.ne_nil_of_mem (List.mem_map.2 ⟨p, List.mem_filter.2 ⟨hp, hs⟩, rfl⟩))
  obtain ⟨q, hq, e⟩ := List.mem_map.1 h1
  obtain ⟨hq1, hq2⟩ := List.mem_filter.1 hq
  exact ⟨q, hq1, hq2, e.symm⟩
theorem loC_step {i : Nat} {p c : Int} (hp : p ∈ rwL d at_ l X fit n i) (hs : stepB d (at_ + i) l p c = true) : loC d at_ l X fit n co (i + 1) c ≤ loC d at_ l X fit n co i p + co p 0 := mnL_le (List.mem_map.2 ⟨p, List.mem_filter.2 ⟨hp, hs⟩, rfl⟩)
theorem hiC_step {i : Nat} {p c : Int} (hp : p ∈ rwL d at_ l X fit n i) (hs : stepB d (at_ + i) l p c = true) : hiC d at_ l X fit n co i p + co p 1 ≤ hiC d at_ l X fit n co (i + 1) c := mxL_le (List.mem_map.2 ⟨p, List.mem_filter.2 ⟨hp, hs⟩, rfl⟩)
theorem hiC_nn (i : Nat) (c : Int) : 0 ≤ hiC d at_ l X fit n co i c := by
  cases i
  · exact Int.le_refl _
  · exact mxL_nn
theorem loC_bd {K : Int} (h0 : ∀ p, 0 ≤ co p 0 ∧ co p 0 ≤ K) : ∀ (i : Nat), i ≤ n → ∀ {c : Int}, c ∈ rwL d at_ l X fit n i → 0 ≤ loC d at_ l X fit n co i c ∧ loC d at_ l X fit n co i c ≤ K * i
  | 0, _, c, _ => by
    show (0 : Int) ≤ 0 ∧ (0 : Int) ≤ K * ((0 : Nat) : Int)
    omega
  | i + 1, hi, c, hc => by
    obtain ⟨p, hp, _, e⟩ := loC_at (co := co) (show i < n by omega) hc
    have h1 := loC_bd h0 i (by omega) hp
    have h2 := h0 p
    have h3 : K * ((i + 1 : Nat) : Int) = K * (i : Int) + K := by rw [Int.natCast_add, Int.mul_add]; simp
    rw [e, h3]
    omega
theorem hiC_bd {K : Int} (hK : 0 ≤ K) (h0 : ∀ p, co p 1 ≤ K) : ∀ (i : Nat) (c : Int), hiC d at_ l X fit n co i c ≤ K * i
  | 0, c => by
    show (0 : Int) ≤ K * ((0 : Nat) : Int)
    omega
  | i + 1, c => by
    refine mxL_le_iff.2 ⟨Int.mul_nonneg hK (by omega), fun x hx => ?_⟩
    obtain ⟨p, hp, rfl⟩ := List.mem_map.1 hx
    have h1 := hiC_bd hK h0 i p
    have h2 := h0 p
    have h3 : K * ((i + 1 : Nat) : Int) = K * (i : Int) + K := by rw [Int.natCast_add, Int.mul_add]; simp
    rw [h3]
    omega
theorem row_some {i j : Nat} (hi : i ≤ n) (hj : j ≤ n) (h : rwL d at_ l X fit n i ≠ []) : rwL d at_ l X fit n j ≠ [] := listB_ne.2 (rowB_some hi hj (listB_ne.1 h))
theorem lowR_mem {i : Nat} (h : rwL d at_ l X fit n i ≠ []) : ∃ c, c ∈ rwL d at_ l X fit n i ∧ lowR d at_ l X fit n co i = loC d at_ l X fit n co i c := by
  have h1 := mnL_mem (l := (rwL d at_ l X fit n i).map (loC d at_ l X fit n co i)) (by intro e; exact h (List.map_eq_nil_iff.1 e))
  obtain ⟨c, hc, e⟩ := List.mem_map.1 h1
  exact ⟨c, hc, e.symm⟩
theorem lowR_le {i : Nat} {c : Int} (h : c ∈ rwL d at_ l X fit n i) : lowR d at_ l X fit n co i ≤ loC d at_ l X fit n co i c := mnL_le (List.mem_map.2 ⟨c, h, rfl⟩)
theorem highR_le {i : Nat} {c : Int} (h : c ∈ rwL d at_ l X fit n i) : hiC d at_ l X fit n co i c ≤ highR d at_ l X fit n co i := mxL_le (List.mem_map.2 ⟨c, h, rfl⟩)
/-- the least loss does not become less -/
theorem lowR_mono (h0 : ∀ p, 0 ≤ co p 0) {i : Nat} (hi : i < n) (h : rwL d at_ l X fit n 0 ≠ []) : lowR d at_ l X fit n co i ≤ lowR d at_ l X fit n co (i + 1) := by
  obtain ⟨c, hc, e⟩ := lowR_mem (co := co) (row_some (Nat.zero_le n) (show i + 1 ≤ n by omega) h)
  obtain ⟨p, hp, _, e2⟩ := loC_at (co := co) hi hc
  rw [e, e2]
  have := lowR_le (co := co) hp
  have := h0 p
  omega
/-- what is lost in the ticks before a tick -/
def tot (L : Nat → Int) : Nat → Int
  | 0 => 0
  | i + 1 => tot L i + L i
/-- a history's loss lies between them -/
theorem Hist.tot {f L : Nat → Int} (hf : Hist d at_ l X fit n f) : ∀ {i : Nat}, i ≤ n → (∀ k, k < i → co (f k) 0 ≤ L k ∧ L k ≤ co (f k) 1) → loC d at_ l X fit n co i (f i) ≤ M.tot L i ∧ M.tot L i ≤ hiC d at_ l X fit n co i (f i)
  | 0, _, _ => ⟨Int.le_refl _, Int.le_refl _⟩
  | i + 1, hi, hL => by
    have h1 := Hist.tot hf (show i ≤ n by omega) fun k hk => hL k (by omega)
    have h2 := loC_step (co := co) (hf.mem (show i ≤ n by omega)) (hf.go i (by omega))
    have h3 := hiC_step (co := co) (hf.mem (show i ≤ n by omega)) (hf.go i (by omega))
    have h4 := hL i (by omega)
    show _ ≤ M.tot L i + L i ∧ M.tot L i + L i ≤ _
    omega
theorem Hist.low {f L : Nat → Int} (hf : Hist d at_ l X fit n f) {i : Nat} (hi : i ≤ n) (hL : ∀ k, k < i → co (f k) 0 ≤ L k ∧ L k ≤ co (f k) 1) : lowR d at_ l X fit n co i ≤ M.tot L i ∧ M.tot L i ≤ highR d at_ l X fit n co i := by
  have h1 := hf.tot hi hL
  have h2 := lowR_le (co := co) (hf.mem hi)
  have h3 := highR_le (co := co) (hf.mem hi)
  omega
end
section
variable (d : Dr) (at_ : Nat) (X : Int → Bool) (fit : Nat → Int → Bool) (n : Nat) (co : Int → Nat → Int)
/-- .. of some leeways -/
def leastA (ls : List Int) (i : Nat) : Int := mnL (ls.map fun l => lowR d at_ l X fit n co i)
def mostA (ls : List Int) (i : Nat) : Int := mxL (ls.map fun l => highR d at_ l X fit n co i)
end
section
variable {d : Dr} {at_ : Nat} {X : Int → Bool} {fit : Nat → Int → Bool} {n : Nat} {co : Int → Nat → Int} {ls : List Int}
theorem leastA_app {l : Int} {i : Nat} : leastA d at_ X fit n co (ls ++ [l]) i = if ls = [] then lowR d at_ l X fit n co i else min (leastA d at_ X fit n co ls i) (lowR d at_ l X fit n co i) := by
  unfold leastA
  rw [List.map_append]
  show mnL (_ ++ [_]) = _
  rw [mnL_app]
  by_cases e : ls = []
  · subst e; rfl
  · rw [if_neg e, if_neg (by intro h; exact e (List.map_eq_nil_iff.1 h))]
theorem mostA_app {l : Int} {i : Nat} : mostA d at_ X fit n co (ls ++ [l]) i = max (mostA d at_ X fit n co ls i) (highR d at_ l X fit n co i) := by
  unfold mostA
  rw [List.map_append]
  exact mxL_app
theorem leastA_le {l : Int} {i : Nat} (h : l ∈ ls) : leastA d at_ X fit n co ls i ≤ lowR d at_ l X fit n co i := mnL_le (List.mem_map.2 ⟨l, h, rfl⟩)
theorem leastA_mem {i : Nat} (h : ls ≠ []) : ∃ l, l ∈ ls ∧ leastA d at_ X fit n co ls i = lowR d at_ l X fit n co i := by
  have h1 := mnL_mem (l := ls.map fun l => lowR d at_ l X fit n co i) (by intro e; exact h (List.map_eq_nil_iff.1 e))
  obtain ⟨l, hl, e⟩ := List.mem_map.1 h1
  exact ⟨l, hl, e.symm⟩
theorem mostA_le {l : Int} {i : Nat} (h : l ∈ ls) : highR d at_ l X fit n co i ≤ mostA d at_ X fit n co ls i := mxL_le (List.mem_map.2 ⟨l, h, rfl⟩)
theorem leastA_mono (h0 : ∀ p, 0 ≤ co p 0) (hne : ls ≠ []) (hr : ∀ l, l ∈ ls → rwL d at_ l X fit n 0 ≠ []) {i : Nat} (hi : i < n) : leastA d at_ X fit n co ls i ≤ leastA d at_ X fit n co ls (i + 1) := by
  obtain ⟨l, hl, e⟩ := leastA_mem (d := d) (at_ := at_) (X := X) (fit := fit) (n := n) (co := co) (i := i + 1) hne
  rw [e]
  have h1 := leastA_le (d := d) (at_ := at_) (X := X) (fit := fit) (n := n) (co := co) (i := i) hl
  have h2 := lowR_mono (co := co) h0 hi (hr l hl)
  omega
theorem leastA_mono' (h0 : ∀ p, 0 ≤ co p 0) (hne : ls ≠ []) (hr : ∀ l, l ∈ ls → rwL d at_ l X fit n 0 ≠ []) {i : Nat} : ∀ {j : Nat}, i ≤ j → j ≤ n → leastA d at_ X fit n co ls i ≤ leastA d at_ X fit n co ls j
  | 0, h1, _ => by rw [show i = 0 by omega]; exact Int.le_refl _
  | j + 1, h1, h2 => by
    by_cases e : i = j + 1
    · rw [e]; exact Int.le_refl _
    · exact Int.le_trans (leastA_mono' h0 hne hr (show i ≤ j by omega) (by omega)) (leastA_mono h0 hne hr (by omega))
/-- the number of ticks in which a person is surely alive, and in which it may be -/
def sureN (d : Dr) (at_ : Nat) (X : Int → Bool) (fit : Nat → Int → Bool) (n : Nat) (co : Int → Nat → Int) (ls : List Int) (s : Int) : Nat := fstB (fun i => decide (s ≤ mostA d at_ X fit n co ls i)) (n + 1)
def mayN (d : Dr) (at_ : Nat) (X : Int → Bool) (fit : Nat → Int → Bool) (n : Nat) (co : Int → Nat → Int) (ls : List Int) (s : Int) : Nat := fstB (fun i => decide (s ≤ leastA d at_ X fit n co ls i)) (n + 1)
/-- in a history the person is alive in these ticks, and not behind those -/
theorem hope {f L : Nat → Int} {l lw hw s : Int} (h0 : ∀ p, 0 ≤ co p 0) (hr : ∀ l, l ∈ ls → rwL d at_ l X fit n 0 ≠ []) (hl : l ∈ ls) (hf : Hist d at_ l X fit n f) (h1 : lw ≤ s) (h2 : s ≤ hw) {i : Nat} (hi : i ≤ n) (hL : ∀ k, k < i → co (f k) 0 ≤ L k ∧ L k ≤ co (f k) 1) :
    (s ≤ tot L i → sureN d at_ X fit n co ls lw ≤ i) ∧ (tot L i < s → i < mayN d at_ X fit n co ls hw) := by
  have h3 := hf.low hi hL
  constructor
  · intro h4
    obtain ⟨g1, g2, g3⟩ := fstB_spec (p := fun i => decide (lw ≤ mostA d at_ X fit n co ls i)) (n + 1)
    refine Nat.not_lt.1 fun h5 => ?_
    have h6 := of_decide_eq_false (g2 i h5)
    have := mostA_le (d := d) (at_ := at_) (X := X) (fit := fit) (n := n) (co := co) (i := i) hl
    omega
  · intro h4
    obtain ⟨g1, g2, g3⟩ := fstB_spec (p := fun i => decide (hw ≤ leastA d at_ X fit n co ls i)) (n + 1)
    refine Nat.not_le.1 fun h5 => ?_
    have h5 : fstB (fun i => decide (hw ≤ leastA d at_ X fit n co ls i)) (n + 1) ≤ i := h5
    have h6 := of_decide_eq_true (g3 (by omega))
    have h7 := leastA_mono' (co := co) h0 (List.ne_nil_of_mem hl) hr h5 hi
    have h8 := leastA_le (d := d) (at_ := at_) (X := X) (fit := fit) (n := n) (co := co) (i := i) hl
    omega
end
end Go.Proofs.YtnbeembnnjdmdaaGreatDoor.M
