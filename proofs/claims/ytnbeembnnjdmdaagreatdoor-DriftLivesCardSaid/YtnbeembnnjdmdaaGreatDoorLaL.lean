/- The least and the greatest loss up to a tick of all histories: plain. No program. -/
import Derived.Test.YtnbeembnnjdmdaaGreatDoorLaA
namespace Go.Proofs.YtnbeembnnjdmdaaGreatDoor.M

def mnL : List Int → Int
 | [] => -1
 | x :: l => if l = [] then x else min x (mnL l)
def mxL : List Int → Int
 | [] => 0
 | x :: l => max x (mxL l)
theorem mnL_le : ∀ {l : List Int} {x : Int}, x ∈ l → mnL l ≤ x
 | y :: l, x, h => by
  unfold mnL
  by_cases e : l = []
  ·
   subst e
   rw [if_pos rfl]
   simp at h
   omega
  ·
   rw [if_neg e]
   rcases List.mem_cons.1 h with h | h
   · omega
   · have := mnL_le h; omega
theorem mnL_mem : ∀ {l : List Int}, l ≠ [] → mnL l ∈ l
 | y :: l, _ => by
  unfold mnL
  by_cases e : l = []
  · rw [if_pos e]; exact List.mem_cons_self
  ·
   rw [if_neg e]
   have := mnL_mem e
   rcases Int.le_total y (mnL l) with h | h
   · rw [Int.min_eq_left h]; exact List.mem_cons_self
   · rw [Int.min_eq_right h]; exact List.mem_cons_of_mem _ this
theorem mnL_eq {l : List Int} {v : Int} (h1 : v ∈ l) (h2 : ∀ x, x ∈ l → v ≤ x) : mnL l = v := by
 have h3 := h2 _ (mnL_mem (List.ne_nil_of_mem h1))
 have h4 := mnL_le h1
 omega
theorem mnL_ext {l l' : List Int} (h : ∀ x, x ∈ l ↔ x ∈ l') : mnL l = mnL l' := by
 by_cases e : l = []
 ·
  subst e
  have : l' = [] := List.eq_nil_iff_forall_not_mem.2 fun x hx => by have := (h x).2 hx; cases this
  rw [this]
 ·
  have h1 := mnL_mem e
  exact (mnL_eq ((h _).1 h1) fun x hx => mnL_le ((h x).2 hx)).symm
theorem mnL_app {l : List Int} {x : Int} : mnL (l ++ [x]) = if l = [] then x else min (mnL l) x := by
 by_cases e : l = []
 · subst e; rfl
 ·
  rw [if_neg e]
  have h1 := mnL_mem e
  rcases Int.le_total (mnL l) x with h | h
  ·
   rw [Int.min_eq_left h]
   refine mnL_eq (List.mem_append_left _ h1) fun y hy => ?_
   rcases List.mem_append.1 hy with hy | hy
   · exact mnL_le hy
   · simp at hy; omega
  ·
   rw [Int.min_eq_right h]
   refine mnL_eq (List.mem_append_right _ (by simp)) fun y hy => ?_
   rcases List.mem_append.1 hy with hy | hy
   · have := mnL_le hy; omega
   · simp at hy; omega
theorem mxL_le_iff {v : Int} : ∀ {l : List Int}, mxL l ≤ v ↔ 0 ≤ v ∧ ∀ x, x ∈ l → x ≤ v
 | [] => by simp [mxL]
 | y :: l => by
  have ih := mxL_le_iff (v := v) (l := l)
  unfold mxL
  constructor
  ·
   intro h
   have h2 := ih.1 (by omega)
   refine ⟨h2.1, fun x hx => ?_⟩
   rcases List.mem_cons.1 hx with hx | hx
   · omega
   · exact h2.2 x hx
  ·
   intro h
   have h2 := ih.2 ⟨h.1, fun x hx => h.2 x (List.mem_cons_of_mem _ hx)⟩
   have := h.2 y List.mem_cons_self
   omega
theorem mxL_le {l : List Int} {x : Int} (h : x ∈ l) : x ≤ mxL l := (mxL_le_iff.1 (Int.le_refl (mxL l))).2 x h
theorem mxL_nn {l : List Int} : 0 ≤ mxL l := (mxL_le_iff.1 (Int.le_refl (mxL l))).1
theorem mxL_ext {l l' : List Int} (h : ∀ x, x ∈ l ↔ x ∈ l') : mxL l = mxL l' := by
 have h1 : mxL l ≤ mxL l' := mxL_le_iff.2 ⟨mxL_nn, fun x hx => mxL_le ((h x).1 hx)⟩
 have h2 : mxL l' ≤ mxL l := mxL_le_iff.2 ⟨mxL_nn, fun x hx => mxL_le ((h x).2 hx)⟩
 omega
theorem mxL_app {l : List Int} {x : Int} : mxL (l ++ [x]) = max (mxL l) x := by
 have h1 : mxL (l ++ [x]) ≤ max (mxL l) x := mxL_le_iff.2 ⟨by have := mxL_nn (l := l); omega, fun y hy => by
  rcases List.mem_append.1 hy with hy | hy
  · have := mxL_le hy; omega
  · simp at hy; omega⟩
 have h2 : mxL l ≤ mxL (l ++ [x]) := mxL_le_iff.2 ⟨mxL_nn, fun y hy => mxL_le (List.mem_append_left _ hy)⟩
 have h3 : x ≤ mxL (l ++ [x]) := mxL_le (List.mem_append_right _ (by simp))
 omega
def fstB (p : Nat → Bool) : Nat → Nat
 | 0 => 0
 | m + 1 => if fstB p m < m then fstB p m else if p m then m else m + 1
theorem fstB_spec {p : Nat → Bool} : ∀ m, fstB p m ≤ m ∧ (∀ i, i < fstB p m → p i = false) ∧ (fstB p m < m → p (fstB p m) = true)
 | 0 => ⟨Nat.le_refl _, fun i hi => absurd hi (by simp [fstB]), fun h => absurd h (by simp [fstB])⟩
 | m + 1 => by
  obtain ⟨h1, h2, h3⟩ := fstB_spec (p := p) m
  unfold fstB
  by_cases h : fstB p m < m
  ·
   rw [if_pos h]
   exact ⟨by omega, h2, fun _ => h3 h⟩
  ·
   rw [if_neg h]
   have e : fstB p m = m := by omega
   rw [e] at h2
   cases hp : p m
   ·
    rw [if_neg (by simp)]
    refine ⟨Nat.le_refl _, fun i hi => ?_, fun h => absurd h (Nat.lt_irrefl _)⟩
    by_cases e2 : i = m
    · rw [e2]; exact hp
    · exact h2 i (by omega)
   ·
    rw [if_pos rfl]
    exact ⟨by omega, h2, fun _ => hp⟩
theorem fstB_eq {p : Nat → Bool} {m k : Nat} (h1 : k ≤ m) (h2 : ∀ i, i < k → p i = false) (h3 : k < m → p k = true) : fstB p m = k := by
 obtain ⟨g1, g2, g3⟩ := fstB_spec (p := p) m
 rcases Nat.lt_trichotomy (fstB p m) k with h | h | h
 ·
  have e1 := g3 (by omega)
  rw [h2 _ h] at e1; cases e1
 · exact h
 ·
  have e1 := h3 (by omega)
  rw [g2 _ h] at e1; cases e1

section
variable (d : Dr) (at_ : Nat) (l : Int) (X : Int → Bool) (fit : Nat → Int → Bool) (n : Nat) (co : Int → Nat → Int)
def loC : Nat → Int → Int
 | 0, _ => 0
 | i + 1, c => mnL (((rwL d at_ l X fit n i).filter fun p => stepB d (at_ + i) l p c).map fun p => loC i p + co p 0)
def hiC : Nat → Int → Int
 | 0, _ => 0
 | i + 1, c => mxL (((rwL d at_ l X fit n i).filter fun p => stepB d (at_ + i) l p c).map fun p => hiC i p + co p 1)
def lowR (i : Nat) : Int := mnL ((rwL d at_ l X fit n i).map (loC d at_ l X fit n co i))
def highR (i : Nat) : Int := mxL ((rwL d at_ l X fit n i).map (hiC d at_ l X fit n co i))
end
section
variable {d : Dr} {at_ : Nat} {l : Int} {X : Int → Bool} {fit : Nat → Int → Bool} {n : Nat} {co : Int → Nat → Int}
theorem mem_rwL {i : Nat} (hi : i ≤ n) {c : Int} : c ∈ rwL d at_ l X fit n i ↔ (-1 ≤ c ∧ c < d.s.nd) ∧ ∃ f, Hist d at_ l X fit n f ∧ f i = c := by
 unfold rwL
 rw [mem_listB]
 constructor
 ·
  rintro ⟨h1, h2⟩
  exact ⟨h1, (rowB_iff hi h1).1 h2⟩
 ·
  rintro ⟨h1, h2⟩
  exact ⟨h1, (rowB_iff hi h1).2 h2⟩
theorem Hist.mem {f : Nat → Int} (hf : Hist d at_ l X fit n f) {i : Nat} (hi : i ≤ n) : f i ∈ rwL d at_ l X fit n i := (mem_rwL hi).2 ⟨hf.bd i hi, f, hf, rfl⟩
theorem row_back {i : Nat} (hi : i < n) {c : Int} (hc : c ∈ rwL d at_ l X fit n (i + 1)) : ∃ p, p ∈ rwL d at_ l X fit n i ∧ stepB d (at_ + i) l p c = true := by
 obtain ⟨_, f, hf, rfl⟩ := (mem_rwL (show i + 1 ≤ n by omega)).1 hc
 exact ⟨f i, hf.mem (by omega), hf.go i hi⟩
theorem loC_at {i : Nat} (hi : i < n) {c : Int} (hc : c ∈ rwL d at_ l X fit n (i + 1)) : ∃ p, p ∈ rwL d at_ l X fit n i ∧ stepB d (at_ + i) l p c = true ∧ loC d at_ l X fit n co (i + 1) c = loC d at_ l X fit n co i p + co p 0 := by
 obtain ⟨p, hp, hs⟩ := row_back hi hc
 have h1 := mnL_mem (l := ((rwL d at_ l X fit n i).filter fun p => stepB d (at_ + i) l p c).map fun p => loC d at_ l X fit n co i p + co p 0) (List.ne_nil_of_mem (List.mem_map.2 ⟨p, List.mem_filter.2 ⟨hp, hs⟩, rfl⟩))
 obtain ⟨q, hq, e⟩ := List.mem_map.1 h1
 obtain ⟨hq1, hq2⟩ := List.mem_filter.1 hq
 exact ⟨q, hq1, hq2, e.symm⟩
theorem hiC_nn (i : Nat) (c : Int) : 0 ≤ hiC d at_ l X fit n co i c := by
 cases i
 · exact Int.le_refl _
 · exact mxL_nn
theorem loC_bd {K : Int} (h0 : ∀ p, 0 ≤ co p 0 ∧ co p 0 ≤ K) : ∀ (i : Nat), i ≤ n → ∀ {c : Int}, c ∈ rwL d at_ l X fit n i → 0 ≤ loC d at_ l X fit n co i c ∧ loC d at_ l X fit n co i c ≤ K * i
 | 0, _, c, _ => by
  show (0 : Int) ≤ 0 ∧ (0 : Int) ≤ K * ((0 : Nat) : Int)
  omega
 | i + 1, hi, c, hc => by
  obtain ⟨p, hp, _, e⟩ := loC_at (co := co) (show i < n by omega) hc
  have h1 := loC_bd h0 i (by omega) hp
  have h2 := h0 p
  have h3 : K * ((i + 1 : Nat) : Int) = K * (i : Int) + K := by rw [Int.natCast_add, Int.mul_add]; simp
  rw [e, h3]
  omega
theorem hiC_bd {K : Int} (hK : 0 ≤ K) (h0 : ∀ p, co p 1 ≤ K) : ∀ (i : Nat) (c : Int), hiC d at_ l X fit n co i c ≤ K * i
 | 0, c => by
  show (0 : Int) ≤ K * ((0 : Nat) : Int)
  omega
 | i + 1, c => by
  refine mxL_le_iff.2 ⟨Int.mul_nonneg hK (by omega), fun x hx => ?_⟩
  obtain ⟨p, hp, rfl⟩ := List.mem_map.1 hx
  have h1 := hiC_bd hK h0 i p
  have h2 := h0 p
  have h3 : K * ((i + 1 : Nat) : Int) = K * (i : Int) + K := by rw [Int.natCast_add, Int.mul_add]; simp
  rw [h3]
  omega
theorem row_some {i j : Nat} (hi : i ≤ n) (hj : j ≤ n) (h : rwL d at_ l X fit n i ≠ []) : rwL d at_ l X fit n j ≠ [] := listB_ne.2 (rowB_some hi hj (listB_ne.1 h))
theorem lowR_mem {i : Nat} (h : rwL d at_ l X fit n i ≠ []) : ∃ c, c ∈ rwL d at_ l X fit n i ∧ lowR d at_ l X fit n co i = loC d at_ l X fit n co i c := by
 have h1 := mnL_mem (l := (rwL d at_ l X fit n i).map (loC d at_ l X fit n co i)) (by intro e; exact h (List.map_eq_nil_iff.1 e))
 obtain ⟨c, hc, e⟩ := List.mem_map.1 h1
 exact ⟨c, hc, e.symm⟩
theorem lowR_le {i : Nat} {c : Int} (h : c ∈ rwL d at_ l X fit n i) : lowR d at_ l X fit n co i ≤ loC d at_ l X fit n co i c := mnL_le (List.mem_map.2 ⟨c, h, rfl⟩)
theorem highR_nn (i : Nat) : 0 ≤ highR d at_ l X fit n co i := mxL_nn
theorem lowR_mono (h0 : ∀ p, 0 ≤ co p 0) {i : Nat} (hi : i < n) (h : rwL d at_ l X fit n 0 ≠ []) : lowR d at_ l X fit n co i ≤ lowR d at_ l X fit n co (i + 1) := by
 obtain ⟨c, hc, e⟩ := lowR_mem (co := co) (row_some (Nat.zero_le n) (show i + 1 ≤ n by omega) h)
 obtain ⟨p, hp, _, e2⟩ := loC_at (co := co) hi hc
 rw [e, e2]
 have := lowR_le (co := co) hp
 have := h0 p
 omega
end
section
variable (d : Dr) (at_ : Nat) (X : Int → Bool) (fit : Nat → Int → Bool) (n : Nat) (co : Int → Nat → Int)
def leastA (ls : List Int) (i : Nat) : Int := mnL (ls.map fun l => lowR d at_ l X fit n co i)
def mostA (ls : List Int) (i : Nat) : Int := mxL (ls.map fun l => highR d at_ l X fit n co i)
end
section
variable {d : Dr} {at_ : Nat} {X : Int → Bool} {fit : Nat → Int → Bool} {n : Nat} {co : Int → Nat → Int} {ls : List Int}
theorem leastA_app {l : Int} {i : Nat} : leastA d at_ X fit n co (ls ++ [l]) i = if ls = [] then lowR d at_ l X fit n co i else min (leastA d at_ X fit n co ls i) (lowR d at_ l X fit n co i) := by
 unfold leastA
 rw [List.map_append]
 show mnL (_ ++ [_]) = _
 rw [mnL_app]
 by_cases e : ls = []
 · subst e; rfl
 · rw [if_neg e, if_neg (by intro h; exact e (List.map_eq_nil_iff.1 h))]
theorem mostA_app {l : Int} {i : Nat} : mostA d at_ X fit n co (ls ++ [l]) i = max (mostA d at_ X fit n co ls i) (highR d at_ l X fit n co i) := by
 unfold mostA
 rw [List.map_append]
 exact mxL_app
theorem leastA_le {l : Int} {i : Nat} (h : l ∈ ls) : leastA d at_ X fit n co ls i ≤ lowR d at_ l X fit n co i := mnL_le (List.mem_map.2 ⟨l, h, rfl⟩)
theorem leastA_mem {i : Nat} (h : ls ≠ []) : ∃ l, l ∈ ls ∧ leastA d at_ X fit n co ls i = lowR d at_ l X fit n co i := by
 have h1 := mnL_mem (l := ls.map fun l => lowR d at_ l X fit n co i) (by intro e; exact h (List.map_eq_nil_iff.1 e))
 obtain ⟨l, hl, e⟩ := List.mem_map.1 h1
 exact ⟨l, hl, e.symm⟩
theorem mostA_le {l : Int} {i : Nat} (h : l ∈ ls) : highR d at_ l X fit n co i ≤ mostA d at_ X fit n co ls i := mxL_le (List.mem_map.2 ⟨l, h, rfl⟩)
theorem mostA_iff {i : Nat} {s : Int} (h : ls ≠ []) : s ≤ mostA d at_ X fit n co ls i ↔ ∃ l, l ∈ ls ∧ s ≤ highR d at_ l X fit n co i := by
 constructor
 ·
  intro h1
  obtain ⟨l0, h0⟩ := List.exists_mem_of_ne_nil _ h
  by_cases h2 : ∃ l, l ∈ ls ∧ s ≤ highR d at_ l X fit n co i
  · exact h2
  ·
   exfalso
   have h3 : mostA d at_ X fit n co ls i ≤ s - 1 := mxL_le_iff.2 ⟨by
    have h4 := highR_nn (d := d) (at_ := at_) (l := l0) (X := X) (fit := fit) (n := n) (co := co) i
    by_cases h5 : s ≤ highR d at_ l0 X fit n co i
    · exact absurd ⟨l0, h0, h5⟩ h2
    · omega, fun x hx => by
    obtain ⟨l, hl, rfl⟩ := List.mem_map.1 hx
    by_cases h5 : s ≤ highR d at_ l X fit n co i
    · exact absurd ⟨l, hl, h5⟩ h2
    · omega⟩
   omega
 ·
  rintro ⟨l, hl, h1⟩
  have := mostA_le (d := d) (at_ := at_) (X := X) (fit := fit) (n := n) (co := co) (i := i) hl
  omega
theorem leastA_lt {i : Nat} {s : Int} (h : ls ≠ []) : leastA d at_ X fit n co ls i < s ↔ ∃ l, l ∈ ls ∧ lowR d at_ l X fit n co i < s := by
 constructor
 ·
  intro h1
  obtain ⟨l, hl, e⟩ := leastA_mem (d := d) (at_ := at_) (X := X) (fit := fit) (n := n) (co := co) (i := i) h
  exact ⟨l, hl, by omega⟩
 ·
  rintro ⟨l, hl, h1⟩
  have := leastA_le (d := d) (at_ := at_) (X := X) (fit := fit) (n := n) (co := co) (i := i) hl
  omega
theorem leastA_mono (h0 : ∀ p, 0 ≤ co p 0) (hne : ls ≠ []) (hr : ∀ l, l ∈ ls → rwL d at_ l X fit n 0 ≠ []) {i : Nat} (hi : i < n) : leastA d at_ X fit n co ls i ≤ leastA d at_ X fit n co ls (i + 1) := by
 obtain ⟨l, hl, e⟩ := leastA_mem (d := d) (at_ := at_) (X := X) (fit := fit) (n := n) (co := co) (i := i + 1) hne
 rw [e]
 have h1 := leastA_le (d := d) (at_ := at_) (X := X) (fit := fit) (n := n) (co := co) (i := i) hl
 have h2 := lowR_mono (co := co) h0 hi (hr l hl)
 omega
theorem leastA_mono' (h0 : ∀ p, 0 ≤ co p 0) (hne : ls ≠ []) (hr : ∀ l, l ∈ ls → rwL d at_ l X fit n 0 ≠ []) {i : Nat} : ∀ {j : Nat}, i ≤ j → j ≤ n → leastA d at_ X fit n co ls i ≤ leastA d at_ X fit n co ls j
 | 0, h1, _ => by rw [show i = 0 by omega]; exact Int.le_refl _
 | j + 1, h1, h2 => by
  by_cases e : i = j + 1
  · rw [e]; exact Int.le_refl _
  · exact Int.le_trans (leastA_mono' h0 hne hr (show i ≤ j by omega) (by omega)) (leastA_mono h0 hne hr (by omega))
def sureN (d : Dr) (at_ : Nat) (X : Int → Bool) (fit : Nat → Int → Bool) (n : Nat) (co : Int → Nat → Int) (ls : List Int) (s : Int) : Nat := fstB (fun i => decide (s ≤ mostA d at_ X fit n co ls i)) (n + 1)
def mayN (d : Dr) (at_ : Nat) (X : Int → Bool) (fit : Nat → Int → Bool) (n : Nat) (co : Int → Nat → Int) (ls : List Int) (s : Int) : Nat := fstB (fun i => decide (s ≤ leastA d at_ X fit n co ls i)) (n + 1)
structure SureI (hi : Int → Nat → Int) (m : Nat) (s : Int) (dn : Int → Nat → Prop) (v : Nat) : Prop where
 le : v ≤ m
 at_ : v = m ∨ ∃ l, dn l v ∧ s ≤ hi l v
 all : ∀ l i, dn l i → i < m → s ≤ hi l i → v ≤ i
structure MayI (lo : Int → Nat → Int) (m : Nat) (s : Int) (dn : Int → Nat → Prop) (v : Nat) : Prop where
 le : v ≤ m
 at_ : v = 0 ∨ ∃ l i, v = i + 1 ∧ dn l i ∧ lo l i < s
 all : ∀ l i, dn l i → i < m → lo l i < s → i + 1 ≤ v
theorem SureI.done {s : Int} {dn : Int → Nat → Prop} {v : Nat} (hne : ls ≠ []) (h : SureI (fun l i => highR d at_ l X fit n co i) (n + 1) s dn v) (h1 : ∀ l i, dn l i → l ∈ ls) (h2 : ∀ l i, l ∈ ls → i < n + 1 → dn l i) : v = sureN d at_ X fit n co ls s := by
 refine (fstB_eq h.le (fun i hi => ?_) fun hv => ?_).symm
 ·
  refine decide_eq_false fun h3 => ?_
  obtain ⟨l, hl, h4⟩ := (mostA_iff hne).1 h3
  have := h.le
  have := h.all l i (h2 l i hl (by omega)) (by omega) h4
  omega
 ·
  refine decide_eq_true ?_
  rcases h.at_ with h3 | ⟨l, h3, h4⟩
  · omega
  · exact (mostA_iff hne).2 ⟨l, h1 l v h3, h4⟩
theorem MayI.done {s : Int} {dn : Int → Nat → Prop} {v : Nat} (h0 : ∀ p, 0 ≤ co p 0) (hne : ls ≠ []) (hr : ∀ l, l ∈ ls → rwL d at_ l X fit n 0 ≠ []) (h : MayI (fun l i => lowR d at_ l X fit n co i) (n + 1) s dn v) (h1 : ∀ l i, dn l i → l ∈ ls ∧ i < n + 1) (h2 : ∀ l i, l ∈ ls → i < n + 1 → dn l i) : v = mayN d at_ X fit n co ls s := by
 refine (fstB_eq h.le (fun i hi => ?_) fun hv => ?_).symm
 ·
  refine decide_eq_false fun h3 => ?_
  rcases h.at_ with h4 | ⟨l, k, e, h4, h5⟩
  · omega
  ·
   have h6 := leastA_mono' (co := co) h0 hne hr (show i ≤ k by omega) (by have := (h1 l k h4).2; omega)
   have h7 := leastA_le (d := d) (at_ := at_) (X := X) (fit := fit) (n := n) (co := co) (i := k) (h1 l k h4).1
   omega
 ·
  refine decide_eq_true ?_
  refine Int.not_lt.1 fun h3 => ?_
  obtain ⟨l, hl, h4⟩ := (leastA_lt hne).1 h3
  have := h.all l v (h2 l v hl hv) hv h4
  omega
end
end Go.Proofs.YtnbeembnnjdmdaaGreatDoor.M
/- The losses tick by tick, as a map from cells, filled in any order: plain. No program. -/
namespace Go.Proofs.YtnbeembnnjdmdaaGreatDoor.M

section
variable (d : Dr) (at_ : Nat) (l : Int) (X : Int → Bool) (fit : Nat → Int → Bool) (n : Nat) (co : Int → Nat → Int)
def lvF (i : Nat) (c : Int) : Option (Int × Int) := if c ∈ rwL d at_ l X fit n i then some (loC d at_ l X fit n co i c, hiC d at_ l X fit n co i c) else none
def bhV (i : Nat) (vis : List Int) (c : Int) : Option (Int × Int) :=
 if c ∈ rwL d at_ l X fit n (i + 1) then
  if (vis.filter fun p => stepB d (at_ + i) l p c) = [] then none
  else some (mnL ((vis.filter fun p => stepB d (at_ + i) l p c).map fun p => loC d at_ l X fit n co i p + co p 0), mxL ((vis.filter fun p => stepB d (at_ + i) l p c).map fun p => hiC d at_ l X fit n co i p + co p 1))
 else none
def bhJ (i : Nat) (vis : List Int) (p : Int) (j : Nat) (c : Int) : Option (Int × Int) := if c ∈ (stepL d (at_ + i) l p).take j then bhV d at_ l X fit n co i (vis ++ [p]) c else bhV d at_ l X fit n co i vis c
end
section
variable {d : Dr} {at_ : Nat} {l : Int} {X : Int → Bool} {fit : Nat → Int → Bool} {n : Nat} {co : Int → Nat → Int} {i : Nat} {vis : List Int} {p c : Int} {j : Nat}
theorem bhV_nil : bhV d at_ l X fit n co i [] c = none := by unfold bhV; split <;> simp
theorem bhJ_zero : bhJ d at_ l X fit n co i vis p 0 c = bhV d at_ l X fit n co i vis c := by unfold bhJ; simp
theorem bhV_add (h : stepB d (at_ + i) l p c = false) : bhV d at_ l X fit n co i (vis ++ [p]) c = bhV d at_ l X fit n co i vis c := by
 unfold bhV
 simp [List.filter_append, h]
theorem bhJ_done (hd : d.Ok) (hp : p < d.s.nd) : bhJ d at_ l X fit n co i vis p (stepL d (at_ + i) l p).length c = bhV d at_ l X fit n co i (vis ++ [p]) c := by
 unfold bhJ
 rw [List.take_length]
 by_cases h : c ∈ stepL d (at_ + i) l p
 · rw [if_pos h]
 ·
  rw [if_neg h, bhV_add]
  cases hs : stepB d (at_ + i) l p c
  · rfl
  · exact absurd ((mem_stepL hd hp).2 hs) h
theorem stepL_at (hj : j < (stepL d (at_ + i) l p).length) : (stepL d (at_ + i) l p).getD j 0 = (stepL d (at_ + i) l p)[j] := by rw [List.getD_eq_getElem?_getD, List.getElem?_eq_getElem hj, Option.getD_some]
theorem stepL_fresh (hj : j < (stepL d (at_ + i) l p).length) : (stepL d (at_ + i) l p).getD j 0 ∉ (stepL d (at_ + i) l p).take j := by
 rw [stepL_at hj]
 intro h
 obtain ⟨k, hk, e⟩ := List.getElem_of_mem h
 rw [List.getElem_take] at e
 rw [List.length_take] at hk
 have := List.pairwise_iff_getElem.1 (listB_sorted d.s.nd (stepB d (at_ + i) l p)) k j (by show k < (stepL d (at_ + i) l p).length; omega) hj (by omega)
 have e' : (stepL d (at_ + i) l p)[k]'(by omega) = (stepL d (at_ + i) l p)[j] := e
 unfold stepL at e'
 omega
theorem take_at (hj : j < (stepL d (at_ + i) l p).length) : (stepL d (at_ + i) l p).take (j + 1) = (stepL d (at_ + i) l p).take j ++ [(stepL d (at_ + i) l p).getD j 0] := by
 rw [stepL_at hj, List.take_add_one, List.getElem?_eq_getElem hj]
 rfl
theorem bhJ_skip (hj : j < (stepL d (at_ + i) l p).length) (h : (stepL d (at_ + i) l p).getD j 0 ∉ rwL d at_ l X fit n (i + 1)) (c : Int) : bhJ d at_ l X fit n co i vis p (j + 1) c = bhJ d at_ l X fit n co i vis p j c := by
 unfold bhJ
 rw [take_at hj]
 by_cases e : c = (stepL d (at_ + i) l p).getD j 0
 ·
  subst e
  rw [if_pos (by simp), if_neg (stepL_fresh hj)]
  unfold bhV
  rw [if_neg h, if_neg h]
 ·
  by_cases h2 : c ∈ (stepL d (at_ + i) l p).take j
  · rw [if_pos h2, if_pos (List.mem_append_left _ h2)]
  ·
   rw [if_neg h2, if_neg (by
    intro h3
    rcases List.mem_append.1 h3 with h3 | h3
    · exact h2 h3
    · exact e (List.mem_singleton.1 h3))]
theorem bhJ_old (hj : j < (stepL d (at_ + i) l p).length) : bhJ d at_ l X fit n co i vis p j ((stepL d (at_ + i) l p).getD j 0) = bhV d at_ l X fit n co i vis ((stepL d (at_ + i) l p).getD j 0) := by
 unfold bhJ
 rw [if_neg (stepL_fresh hj)]
theorem bhJ_new (hd : d.Ok) (hp : p < d.s.nd) (hj : j < (stepL d (at_ + i) l p).length) (h : (stepL d (at_ + i) l p).getD j 0 ∈ rwL d at_ l X fit n (i + 1)) (h0 : 0 ≤ hiC d at_ l X fit n co i p + co p 1) (hv : bhV d at_ l X fit n co i vis ((stepL d (at_ + i) l p).getD j 0) = none) (c : Int) :
  bhJ d at_ l X fit n co i vis p (j + 1) c = if c = (stepL d (at_ + i) l p).getD j 0 then some (loC d at_ l X fit n co i p + co p 0, hiC d at_ l X fit n co i p + co p 1) else bhJ d at_ l X fit n co i vis p j c := by
 by_cases e : c = (stepL d (at_ + i) l p).getD j 0
 ·
  rw [if_pos e]
  unfold bhJ
  rw [take_at hj, if_pos (by rw [e]; simp), e]
  have hs : stepB d (at_ + i) l p ((stepL d (at_ + i) l p).getD j 0) = true := by
   rw [stepL_at hj]; exact (mem_stepL hd hp).1 (List.getElem_mem hj)
  unfold bhV at hv ⊢
  rw [if_pos h] at hv ⊢
  have hf : (vis.filter fun q => stepB d (at_ + i) l q ((stepL d (at_ + i) l p).getD j 0)) = [] := by
   by_cases hf : (vis.filter fun q => stepB d (at_ + i) l q ((stepL d (at_ + i) l p).getD j 0)) = []
   · exact hf
   · rw [if_neg hf] at hv; cases hv
  simp only [List.filter_append, hf, List.filter_cons, hs, List.filter_nil, if_true, List.nil_append, List.map_cons, List.map_nil]
  rw [if_neg (by simp)]
  simp only [mnL, mxL, if_true]
  congr 2
  omega
 ·
  rw [if_neg e]
  unfold bhJ
  rw [take_at hj]
  by_cases h2 : c ∈ (stepL d (at_ + i) l p).take j
  · rw [if_pos h2, if_pos (List.mem_append_left _ h2)]
  ·
   rw [if_neg h2, if_neg (by
    intro h3
    rcases List.mem_append.1 h3 with h3 | h3
    · exact h2 h3
    · exact e (List.mem_singleton.1 h3))]
theorem bhJ_more (hd : d.Ok) (hp : p < d.s.nd) (hj : j < (stepL d (at_ + i) l p).length) (h : (stepL d (at_ + i) l p).getD j 0 ∈ rwL d at_ l X fit n (i + 1)) {a b : Int} (hv : bhV d at_ l X fit n co i vis ((stepL d (at_ + i) l p).getD j 0) = some (a, b)) (c : Int) :
  bhJ d at_ l X fit n co i vis p (j + 1) c = if c = (stepL d (at_ + i) l p).getD j 0 then some (min a (loC d at_ l X fit n co i p + co p 0), max b (hiC d at_ l X fit n co i p + co p 1)) else bhJ d at_ l X fit n co i vis p j c := by
 by_cases e : c = (stepL d (at_ + i) l p).getD j 0
 ·
  rw [if_pos e]
  unfold bhJ
  rw [take_at hj, if_pos (by rw [e]; simp), e]
  have hs : stepB d (at_ + i) l p ((stepL d (at_ + i) l p).getD j 0) = true := by
   rw [stepL_at hj]; exact (mem_stepL hd hp).1 (List.getElem_mem hj)
  unfold bhV at hv ⊢
  rw [if_pos h] at hv ⊢
  by_cases hf : (vis.filter fun q => stepB d (at_ + i) l q ((stepL d (at_ + i) l p).getD j 0)) = []
  · rw [if_pos hf] at hv; cases hv
  ·
   rw [if_neg hf] at hv
   have hv := Option.some.inj hv
   have ha := congrArg Prod.fst hv
   have hb := congrArg Prod.snd hv
   simp only at ha hb
   rw [← ha, ← hb]
   simp only [List.filter_append, List.filter_cons, hs, List.filter_nil, if_true, List.map_append, List.map_cons, List.map_nil]
   rw [if_neg (by simp), mnL_app, mxL_app, if_neg (by simpa using hf)]
 ·
  rw [if_neg e]
  unfold bhJ
  rw [take_at hj]
  by_cases h2 : c ∈ (stepL d (at_ + i) l p).take j
  · rw [if_pos h2, if_pos (List.mem_append_left _ h2)]
  ·
   rw [if_neg h2, if_neg (by
    intro h3
    rcases List.mem_append.1 h3 with h3 | h3
    · exact h2 h3
    · exact e (List.mem_singleton.1 h3))]
theorem bhV_done (hi : i < n) (h1 : ∀ x, x ∈ vis ↔ x ∈ rwL d at_ l X fit n i) (c : Int) : bhV d at_ l X fit n co i vis c = lvF d at_ l X fit n co (i + 1) c := by
 unfold bhV lvF
 by_cases hc : c ∈ rwL d at_ l X fit n (i + 1)
 ·
  rw [if_pos hc, if_pos hc]
  obtain ⟨q, hq, hs⟩ := row_back hi hc
  rw [if_neg (List.ne_nil_of_mem (List.mem_filter.2 ⟨(h1 q).2 hq, hs⟩))]
  congr 2
  ·
   refine mnL_ext fun x => ?_
   simp only [List.mem_map, List.mem_filter, h1]
  ·
   refine mxL_ext fun x => ?_
   simp only [List.mem_map, List.mem_filter, h1]
 · rw [if_neg hc, if_neg hc]
theorem low_done (h1 : ∀ x, x ∈ vis ↔ x ∈ rwL d at_ l X fit n i) : mnL (vis.map (loC d at_ l X fit n co i)) = lowR d at_ l X fit n co i := mnL_ext fun x => by simp only [List.mem_map, h1]
theorem high_done (h1 : ∀ x, x ∈ vis ↔ x ∈ rwL d at_ l X fit n i) : mxL (vis.map (hiC d at_ l X fit n co i)) = highR d at_ l X fit n co i := mxL_ext fun x => by simp only [List.mem_map, h1]
end
end Go.Proofs.YtnbeembnnjdmdaaGreatDoor.M
/- What the reference counts of a person's losses, plain. -/
namespace Go.Proofs.YtnbeembnnjdmdaaGreatDoor.M
def wid (a b : Int × Int) : Int × Int := if a.1 < 0 then b else (min a.1 b.1, max a.2 b.2)
def bstV (lo hi : Int → Int) (L : List Int) : Int × Int := if L = [] then (-1, 0) else (mnL (L.map lo), mxL (L.map hi))
theorem bstV_nil {lo hi : Int → Int} : bstV lo hi [] = (-1, 0) := if_pos rfl
theorem mnL_one {a : Int} : mnL [a] = a := mnL_app (l := []) (x := a)
theorem mxL_one {a : Int} (h : 0 ≤ a) : mxL [a] = a := by
 have h1 := mxL_app (l := []) (x := a)
 rw [List.nil_append] at h1
 rw [h1]
 have : mxL ([] : List Int) = 0 := rfl
 omega
theorem bstV_app {lo hi : Int → Int} {L : List Int} {x : Int} (h0 : ∀ y, y ∈ L → 0 ≤ lo y) (hx : 0 ≤ hi x) : wid (bstV lo hi L) (lo x, hi x) = bstV lo hi (L ++ [x]) := by
 unfold bstV
 by_cases h : L = []
 ·
  subst h
  rw [if_pos rfl, if_neg (by simp)]
  unfold wid
  rw [if_pos (by decide)]
  simp only [List.nil_append, List.map_cons, List.map_nil, mnL_one, mxL_one hx]
 ·
  rw [if_neg h, if_neg (by simp)]
  unfold wid
  have hm : 0 ≤ mnL (L.map lo) := by
   obtain ⟨y, hy, e⟩ := List.mem_map.1 (mnL_mem (l := L.map lo) (by simpa using h))
   rw [← e]; exact h0 y hy
  rw [if_neg (by simp only; omega)]
  simp only [List.map_append, List.map_cons, List.map_nil]
  rw [mnL_app, mxL_app, if_neg (by simpa using h)]
def upC (p : Int → Bool) : Nat → List Int
 | 0 => []
 | k + 1 => upC p k ++ if p ((k : Int) - 1) then [(k : Int) - 1] else []
theorem upC_yes {p : Int → Bool} {k : Nat} (h : p ((k : Int) - 1) = true) : upC p (k + 1) = upC p k ++ [(k : Int) - 1] := by
 show upC p k ++ (if p ((k : Int) - 1) then [(k : Int) - 1] else []) = _
 rw [if_pos h]
theorem upC_no {p : Int → Bool} {k : Nat} (h : p ((k : Int) - 1) = false) : upC p (k + 1) = upC p k := by
 show upC p k ++ (if p ((k : Int) - 1) then [(k : Int) - 1] else []) = _
 rw [h]; simp
theorem upC_eq {p : Int → Bool} : ∀ {k : Nat}, upC p k = ((List.range k).map fun (i : Nat) => (i : Int) - 1).filter p
 | 0 => rfl
 | k + 1 => by
  show upC p k ++ (if p ((k : Int) - 1) then [(k : Int) - 1] else []) = _
  rw [List.range_succ, List.map_append, List.filter_append, upC_eq (k := k)]
  congr 1
  cases h : p ((k : Int) - 1) <;> simp [h]
theorem upC_listB {nd : Nat} {p : Int → Bool} : upC p (nd + 1) = listB nd p := upC_eq
theorem mem_upC {p : Int → Bool} {k : Nat} {x : Int} (h : x ∈ upC p k) : -1 ≤ x ∧ x < (k : Int) - 1 ∧ p x = true := by
 rw [upC_eq] at h
 obtain ⟨h1, h2⟩ := List.mem_filter.1 h
 obtain ⟨i, hi, rfl⟩ := List.mem_map.1 h1
 rw [List.mem_range] at hi
 exact ⟨by omega, by omega, h2⟩
section
variable {d : Dr} {at_ : Nat} {l : Int} {X : Int → Bool} {fit : Nat → Int → Bool} {n : Nat} {co : Int → Nat → Int}
theorem bst_cell {i : Nat} {c : Int} (hi : i < n) (hc : c ∈ rwL d at_ l X fit n (i + 1)) :
  bstV (fun p => loC d at_ l X fit n co i p + co p 0) (fun p => hiC d at_ l X fit n co i p + co p 1) (upC (fun p => rowB d at_ l X fit n i p && stepB d (at_ + i) l p c) (d.s.nd + 1)) = (loC d at_ l X fit n co (i + 1) c, hiC d at_ l X fit n co (i + 1) c) := by
 rw [upC_listB]
 have e : listB d.s.nd (fun p => rowB d at_ l X fit n i p && stepB d (at_ + i) l p c) = (rwL d at_ l X fit n i).filter fun p => stepB d (at_ + i) l p c := listB_filter.symm
 rw [e]
 unfold bstV
 obtain ⟨p, hp, hs⟩ := row_back hi hc
 rw [if_neg (List.ne_nil_of_mem (List.mem_filter.2 ⟨hp, hs⟩))]
 rfl
theorem bst_row {i : Nat} (hr : rwL d at_ l X fit n i ≠ []) : bstV (loC d at_ l X fit n co i) (hiC d at_ l X fit n co i) (upC (rowB d at_ l X fit n i) (d.s.nd + 1)) = (lowR d at_ l X fit n co i, highR d at_ l X fit n co i) := by
 rw [upC_listB]
 unfold bstV
 rw [if_neg (show listB d.s.nd (rowB d at_ l X fit n i) ≠ [] from hr)]
 rfl
theorem low_zero (hr : rwL d at_ l X fit n 0 ≠ []) : lowR d at_ l X fit n co 0 = 0 ∧ highR d at_ l X fit n co 0 = 0 := by
 obtain ⟨c, hc⟩ := List.exists_mem_of_ne_nil _ hr
 constructor
 · exact mnL_eq (List.mem_map.2 ⟨c, hc, rfl⟩) fun x hx => by obtain ⟨y, _, rfl⟩ := List.mem_map.1 hx; exact Int.le_refl _
 ·
  have h1 : highR d at_ l X fit n co 0 ≤ 0 := mxL_le_iff.2 ⟨Int.le_refl _, fun x hx => by obtain ⟨y, _, rfl⟩ := List.mem_map.1 hx; exact Int.le_refl _⟩
  have h2 := highR_nn (d := d) (at_ := at_) (l := l) (X := X) (fit := fit) (n := n) (co := co) 0
  omega
end
section
variable {hi lo : Int → Nat → Int} {m v i : Nat} {s l : Int} {dn dn' : Int → Nat → Prop}
theorem SureI.congr (h : SureI hi m s dn v) (e : ∀ l i, dn l i ↔ dn' l i) : SureI hi m s dn' v :=
 ⟨h.le, h.at_.imp id fun ⟨l, h1, h2⟩ => ⟨l, (e l v).1 h1, h2⟩, fun l i h1 => h.all l i ((e l i).2 h1)⟩
theorem SureI.start : SureI hi m s (fun _ _ => False) m := ⟨Nat.le_refl _, .inl rfl, fun _ _ h => h.elim⟩
theorem SureI.yes (h : SureI hi m s dn v) (him : i < m) (hs : s ≤ hi l i) : SureI hi m s (fun l' i' => dn l' i' ∨ l' = l ∧ i' = i) (min v i) := by
 refine ⟨by have := h.le; omega, ?_, ?_⟩
 ·
  by_cases hv : v ≤ i
  ·
   rw [Nat.min_eq_left hv]
   exact h.at_.imp id fun ⟨l, h1, h2⟩ => ⟨l, .inl h1, h2⟩
  ·
   rw [Nat.min_eq_right (by omega)]
   exact .inr ⟨l, .inr ⟨rfl, rfl⟩, hs⟩
 ·
  rintro l' i' (h1 | ⟨rfl, rfl⟩) h2 h3
  · have := h.all l' i' h1 h2 h3; omega
  · omega
theorem SureI.no (h : SureI hi m s dn v) (hs : ¬ s ≤ hi l i) : SureI hi m s (fun l' i' => dn l' i' ∨ l' = l ∧ i' = i) v := by
 refine ⟨h.le, h.at_.imp id fun ⟨l, h1, h2⟩ => ⟨l, .inl h1, h2⟩, ?_⟩
 rintro l' i' (h1 | ⟨rfl, rfl⟩) h2 h3
 · exact h.all l' i' h1 h2 h3
 · exact absurd h3 hs
theorem MayI.congr (h : MayI lo m s dn v) (e : ∀ l i, dn l i ↔ dn' l i) : MayI lo m s dn' v :=
 ⟨h.le, h.at_.imp id fun ⟨l, i, h0, h1, h2⟩ => ⟨l, i, h0, (e l i).1 h1, h2⟩, fun l i h1 => h.all l i ((e l i).2 h1)⟩
theorem MayI.start : MayI lo m s (fun _ _ => False) 0 := ⟨Nat.zero_le _, .inl rfl, fun _ _ h => h.elim⟩
theorem MayI.yes (h : MayI lo m s dn v) (him : i < m) (hs : lo l i < s) : MayI lo m s (fun l' i' => dn l' i' ∨ l' = l ∧ i' = i) (max v (i + 1)) := by
 refine ⟨by have := h.le; omega, ?_, ?_⟩
 ·
  by_cases hv : v ≤ i + 1
  ·
   rw [Nat.max_eq_right hv]
   exact .inr ⟨l, i, rfl, .inr ⟨rfl, rfl⟩, hs⟩
  ·
   rw [Nat.max_eq_left (by omega)]
   exact h.at_.imp id fun ⟨l, i, h0, h1, h2⟩ => ⟨l, i, h0, .inl h1, h2⟩
 ·
  rintro l' i' (h1 | ⟨rfl, rfl⟩) h2 h3
  · have := h.all l' i' h1 h2 h3; omega
  · omega
theorem MayI.no (h : MayI lo m s dn v) (hs : ¬ lo l i < s) : MayI lo m s (fun l' i' => dn l' i' ∨ l' = l ∧ i' = i) v := by
 refine ⟨h.le, h.at_.imp id fun ⟨l, i, h0, h1, h2⟩ => ⟨l, i, h0, .inl h1, h2⟩, ?_⟩
 rintro l' i' (h1 | ⟨rfl, rfl⟩) h2 h3
 · exact h.all l' i' h1 h2 h3
 · exact absurd h3 hs
end
end Go.Proofs.YtnbeembnnjdmdaaGreatDoor.M
/- What the reference counts of a person's losses, cell by cell and tick by tick: plain. -/
namespace Go.Proofs.YtnbeembnnjdmdaaGreatDoor.M
section
variable (d : Dr) (at_ : Nat) (l : Int) (X : Int → Bool) (fit : Nat → Int → Bool) (n : Nat) (co : Int → Nat → Int)
def nwF (i k : Nat) : Int × Int := if rowB d at_ l X fit n i ((k : Int) - 1) = true then (loC d at_ l X fit n co i ((k : Int) - 1), hiC d at_ l X fit n co i ((k : Int) - 1)) else (-1, 0)
def bsF (i k f : Nat) : Int × Int := bstV (fun p => loC d at_ l X fit n co i p + co p 0) (fun p => hiC d at_ l X fit n co i p + co p 1) (upC (fun p => rowB d at_ l X fit n (i + 1) ((k : Int) - 1) && rowB d at_ l X fit n i p && stepB d (at_ + i) l p ((k : Int) - 1)) f)
def whF (i k : Nat) : Int × Int := bstV (loC d at_ l X fit n co (i + 1)) (hiC d at_ l X fit n co (i + 1)) (upC (rowB d at_ l X fit n (i + 1)) k)
def ouF (i : Nat) : Int × Int := (lowR d at_ l X fit n co i, highR d at_ l X fit n co i)
end
section
variable {d : Dr} {at_ : Nat} {l : Int} {X : Int → Bool} {fit : Nat → Int → Bool} {n : Nat} {co : Int → Nat → Int}
theorem nw_zero {k : Nat} : rowB d at_ l X fit n 0 ((k : Int) - 1) = true → nwF d at_ l X fit n co 0 k = (0, 0) := fun h => by unfold nwF; rw [if_pos h]; rfl
theorem bs_zero {i k : Nat} : bsF d at_ l X fit n co i k 0 = (-1, 0) := bstV_nil
theorem wh_zero {i : Nat} : whF d at_ l X fit n co i 0 = (-1, 0) := bstV_nil
theorem row_mem {i : Nat} {c : Int} (h : rowB d at_ l X fit n i c = true) (h1 : -1 ≤ c) (h2 : c < d.s.nd) : c ∈ rwL d at_ l X fit n i := by unfold rwL; exact mem_listB.2 ⟨⟨h1, h2⟩, h⟩
theorem bs_no {i k f : Nat} (h : (rowB d at_ l X fit n (i + 1) ((k : Int) - 1) && rowB d at_ l X fit n i ((f : Int) - 1) && stepB d (at_ + i) l ((f : Int) - 1) ((k : Int) - 1)) = false) : bsF d at_ l X fit n co i k (f + 1) = bsF d at_ l X fit n co i k f := by
 unfold bsF
 rw [upC_no h]
theorem bs_yes (h0 : ∀ p, (0 ≤ co p 0 ∧ co p 0 ≤ 100) ∧ 0 ≤ co p 1 ∧ co p 1 ≤ 100) {i k f : Nat} (hi : i < n) (hf : f < d.s.nd + 1) (h1 : rowB d at_ l X fit n (i + 1) ((k : Int) - 1) = true) (h2 : rowB d at_ l X fit n i ((f : Int) - 1) = true) (h3 : stepB d (at_ + i) l ((f : Int) - 1) ((k : Int) - 1) = true) :
  wid (bsF d at_ l X fit n co i k f) ((nwF d at_ l X fit n co i f).1 + co ((f : Int) - 1) 0, (nwF d at_ l X fit n co i f).2 + co ((f : Int) - 1) 1) = bsF d at_ l X fit n co i k (f + 1) := by
 unfold bsF
 rw [upC_yes (by simp [h1, h2, h3])]
 have e : nwF d at_ l X fit n co i f = (loC d at_ l X fit n co i ((f : Int) - 1), hiC d at_ l X fit n co i ((f : Int) - 1)) := by unfold nwF; rw [if_pos h2]
 rw [e]
 refine bstV_app (x := (f : Int) - 1) (fun y hy => ?_) ?_
 ·
  obtain ⟨g1, g2, g3⟩ := mem_upC hy
  simp only [Bool.and_eq_true] at g3
  have := loC_bd (co := co) (K := 100) (fun p => (h0 p).1) i (by omega) (row_mem g3.1.2 g1 (by omega))
  have := h0 y
  omega
 ·
  have := hiC_nn (d := d) (at_ := at_) (l := l) (X := X) (fit := fit) (n := n) (co := co) i ((f : Int) - 1)
  have := h0 ((f : Int) - 1)
  omega
theorem upC_none : ∀ {k : Nat}, upC (fun _ => false) k = []
 | 0 => rfl
 | k + 1 => by
  show upC (fun _ => false) k ++ (if (false : Bool) = true then _ else []) = []
  rw [upC_none (k := k)]; rfl
theorem bs_end {i k : Nat} (hi : i < n) (hk : k < d.s.nd + 1) : bsF d at_ l X fit n co i k (d.s.nd + 1) = nwF d at_ l X fit n co (i + 1) k := by
 unfold bsF nwF
 cases h : rowB d at_ l X fit n (i + 1) ((k : Int) - 1)
 ·
  rw [if_neg (by simp)]
  simp only [Bool.false_and]
  rw [upC_none, bstV_nil]
 ·
  rw [if_pos rfl]
  simp only [Bool.true_and]
  exact bst_cell hi (row_mem h (by omega) (by omega))
theorem wh_no {i k : Nat} (h : rowB d at_ l X fit n (i + 1) ((k : Int) - 1) = false) : whF d at_ l X fit n co i (k + 1) = whF d at_ l X fit n co i k := by
 unfold whF
 rw [upC_no h]
theorem wh_yes (h0 : ∀ p, (0 ≤ co p 0 ∧ co p 0 ≤ 100) ∧ 0 ≤ co p 1 ∧ co p 1 ≤ 100) {i k : Nat} (hi : i < n) (hk : k < d.s.nd + 1) (h : rowB d at_ l X fit n (i + 1) ((k : Int) - 1) = true) : wid (whF d at_ l X fit n co i k) (nwF d at_ l X fit n co (i + 1) k) = whF d at_ l X fit n co i (k + 1) := by
 unfold whF
 rw [upC_yes h]
 have e : nwF d at_ l X fit n co (i + 1) k = (loC d at_ l X fit n co (i + 1) ((k : Int) - 1), hiC d at_ l X fit n co (i + 1) ((k : Int) - 1)) := by unfold nwF; rw [if_pos h]
 rw [e]
 refine bstV_app (x := (k : Int) - 1) (fun y hy => ?_) (hiC_nn _ _)
 obtain ⟨g1, g2, g3⟩ := mem_upC hy
 exact (loC_bd (co := co) (K := 100) (fun p => (h0 p).1) (i + 1) (by omega) (row_mem g3 g1 (by omega))).1
theorem wh_end {i : Nat} (hr : rwL d at_ l X fit n (i + 1) ≠ []) : whF d at_ l X fit n co i (d.s.nd + 1) = ouF d at_ l X fit n co (i + 1) := bst_row hr
theorem nw_bd (h0 : ∀ p, (0 ≤ co p 0 ∧ co p 0 ≤ 100) ∧ 0 ≤ co p 1 ∧ co p 1 ≤ 100) {i f : Nat} (hi : i ≤ n) (hf : f < d.s.nd + 1) (h2 : rowB d at_ l X fit n i ((f : Int) - 1) = true) : 0 ≤ (nwF d at_ l X fit n co i f).1 ∧ (nwF d at_ l X fit n co i f).1 ≤ 100 * n ∧ 0 ≤ (nwF d at_ l X fit n co i f).2 ∧ (nwF d at_ l X fit n co i f).2 ≤ 100 * n := by
 have e : nwF d at_ l X fit n co i f = (loC d at_ l X fit n co i ((f : Int) - 1), hiC d at_ l X fit n co i ((f : Int) - 1)) := by unfold nwF; rw [if_pos h2]
 rw [e]
 have h3 := loC_bd (co := co) (K := 100) (fun p => (h0 p).1) i hi (row_mem h2 (by omega) (by omega))
 have h4 := hiC_nn (d := d) (at_ := at_) (l := l) (X := X) (fit := fit) (n := n) (co := co) i ((f : Int) - 1)
 have h5 := hiC_bd (d := d) (at_ := at_) (l := l) (X := X) (fit := fit) (n := n) (co := co) (K := 100) (by omega) (fun p => (h0 p).2.2) i ((f : Int) - 1)
 simp only
 omega
end
end Go.Proofs.YtnbeembnnjdmdaaGreatDoor.M
