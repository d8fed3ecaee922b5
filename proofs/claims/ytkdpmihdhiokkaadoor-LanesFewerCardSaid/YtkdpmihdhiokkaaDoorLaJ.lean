/- The steps from a cell to all others: a search in breadth. The grid is connected. Plain. -/
import Derived.Test.YtkdpmihdhiokkaaDoorLaD
import Derived.Test.YtkdpmihdhiokkaaDoorLaH
import Derived.Test.YtkdpmihdhiokkaaDoorLaI
namespace Go.Proofs.YtkdpmihdhiokkaaDoor.M

/-- each cell but the first has a neighbour with a lesser number -/
theorem adj_less {s : Sea} (hs : s.Ok) {c : Nat} (hc : c < s.nd) (h0 : 0 < c) : ∃ b, b < c ∧ adj s.W s.H c b = true := by
  have hW : 0 < s.W := hs.w1
  have hnd := hs.nd
  have hm := Nat.div_add_mod c s.W
  by_cases hx : c % s.W = 0
  · -- a row below
    have hy : 0 < c / s.W := by
      rcases Nat.eq_zero_or_pos (c / s.W) with h | h
      · rw [h] at hm; omega
      · exact h
    have hyH : c / s.W < s.H := by
      rw [Nat.div_lt_iff_lt_mul hW, Nat.mul_comm]; omega
    have hle : s.W ≤ c := by
      have : s.W * 1 ≤ s.W * (c / s.W) := Nat.mul_le_mul_left _ hy
      omega
    refine ⟨c - s.W, by omega, ?_⟩
    refine adj_iff.2 (.inr ?_)
    have hp2 := Nat.mod_lt (c / s.W) (show 0 < 2 by omega)
    have hval : ∀ d, nbX s.W c d = 0 → nbY s.W c d = (c / s.W : Nat) - 1 → nbIs s.W s.H c d = true ∧ nbN s.W c d = c - s.W := by
      intro d e1 e2
      constructor
      · unfold nbIs
        rw [e1, e2]
        simp only [Bool.and_eq_true, decide_eq_true_eq]
        omega
      · unfold nbN
        rw [e1, e2]
        have e3 : (((c / s.W : Nat) : Int) - 1) * (s.W : Int) + 0 = ((c - s.W : Nat) : Int) := by
          have h4 : ((c / s.W : Nat) : Int) * (s.W : Int) = (c : Int) := by
            have : s.W * (c / s.W) = c := by omega
            rw [← Int.natCast_mul, Nat.mul_comm, this]
          rw [Int.sub_mul, h4]
          omega
        rw [e3]; simp
    rcases (by omega : c / s.W % 2 = 0 ∨ c / s.W % 2 = 1) with hp | hp
    · refine ⟨5, by omega, hval 5 ?_ ?_⟩
      · unfold nbX dx; rw [hx, hp]; rfl
      · unfold nbY dy; simp; omega
    · refine ⟨4, by omega, hval 4 ?_ ?_⟩
      · unfold nbX dx; rw [hx, hp]; rfl
      · unfold nbY dy; simp; omega
  · refine ⟨c - 1, by omega, ?_⟩
    refine adj_iff.2 (.inr ⟨3, by omega, ?_⟩)
    have hxl := Nat.mod_lt c hW
    have hyH : c / s.W < s.H := by
      rw [Nat.div_lt_iff_lt_mul hW, Nat.mul_comm]; omega
    obtain ⟨x, hxe⟩ : ∃ x, x = c % s.W := ⟨_, rfl⟩
    obtain ⟨y, hye⟩ : ∃ y, y = c / s.W := ⟨_, rfl⟩
    have e1 : nbX s.W c 3 = (x : Int) - 1 := by unfold nbX dx; rw [← hxe]; simp; omega
    have e2 : nbY s.W c 3 = (y : Int) := by unfold nbY dy; rw [← hye]; simp
    rw [← hye] at hyH hm
    rw [← hxe] at hxl hx hm
    constructor
    · unfold nbIs
      rw [e1, e2]
      clear e1 e2 hm hye hxe
      simp only [Bool.and_eq_true, decide_eq_true_eq]
      omega
    · unfold nbN
      rw [e1, e2]
      have e3 : (y : Int) * (s.W : Int) + ((x : Int) - 1) = ((c - 1 : Nat) : Int) := by
        rw [← Int.natCast_mul, Nat.mul_comm]
        omega
      rw [e3]; simp
theorem closed_all {s : Sea} (hs : s.Ok) {S : Nat → Prop} (hS : ∀ x y, x < s.nd → S x → adj s.W s.H x y = true → S y) {a b : Nat} (ha : a < s.nd) (hb : b < s.nd) (h : S a) : S b := by
  have h0 : ∀ n c, c ≤ n → c < s.nd → S c → S 0 := by
    intro n
    induction n with
    | zero => intro c hc _ h; obtain rfl : c = 0 := by omega
              exact h
    | succ n ih =>
      intro c hc hcn h
      rcases Nat.eq_zero_or_pos c with rfl | hp
      · exact h
      · obtain ⟨p, hp1, hp2⟩ := adj_less hs hcn hp
        exact ih p (by omega) (by omega) (hS c p hcn h hp2)
  have h1 : ∀ n c, c ≤ n → c < s.nd → S c := by
    intro n
    induction n with
    | zero => intro c hc _; obtain rfl : c = 0 := by omega
              exact h0 a a (Nat.le_refl _) ha h
    | succ n ih =>
      intro c hc hcn
      rcases Nat.eq_zero_or_pos c with rfl | hp
      · exact h0 a a (Nat.le_refl _) ha h
      · obtain ⟨p, hp1, hp2⟩ := adj_less hs hcn hp
        have hnd := hs.nd
        exact hS p c (by omega) (ih p (by omega) (by omega)) (adj_symm (by omega) hp2)
  exact h1 b b (Nat.le_refl _) hb

/-- how many cells have a number -/
def cnt (st : Nat → Int) : Nat → Nat
  | 0 => 0
  | n + 1 => cnt st n + (if 0 ≤ st n then 1 else 0)
theorem cnt_le (st : Nat → Int) : ∀ n, cnt st n ≤ n
  | 0 => Nat.le_refl _
  | n + 1 => by have := cnt_le st n; unfold cnt; split <;> omega
def updI (f : Nat → Int) (k : Nat) (x : Int) : Nat → Int := fun i => if i = k then x else f i
def updN (f : Nat → Nat) (k x : Nat) : Nat → Nat := fun i => if i = k then x else f i
theorem cnt_upd {st : Nat → Int} {c : Nat} {x : Int} (h : st c < 0) (hx : 0 ≤ x) : ∀ n, cnt (updI st c x) n = cnt st n + if c < n then 1 else 0
  | 0 => rfl
  | n + 1 => by
    unfold cnt
    rw [cnt_upd h hx n]
    by_cases hc : n = c
    · subst hc
      unfold updI
      rw [if_pos rfl, if_pos hx, if_neg (by omega : ¬ n < n), if_neg (by omega : ¬ 0 ≤ st n), if_pos (by omega : n < n + 1)]
    · unfold updI
      rw [if_neg hc]
      by_cases h2 : c < n
      · rw [if_pos h2, if_pos (by omega : c < n + 1)]; omega
      · rw [if_neg h2, if_neg (by omega : ¬ c < n + 1)]; omega
theorem cnt_one {a : Nat} : ∀ n, cnt (fun c => if c = a then 0 else -1) n = if a < n then 1 else 0
  | 0 => rfl
  | n + 1 => by
    unfold cnt
    rw [cnt_one n]
    by_cases hc : n = a
    · subst hc
      rw [if_pos rfl, if_neg (by omega : ¬ n < n), if_pos (by omega : n < n + 1)]; rfl
    · rw [if_neg hc, if_neg (by omega : ¬ (0 : Int) ≤ -1)]
      by_cases h2 : a < n
      · rw [if_pos h2, if_pos (by omega : a < n + 1)]
      · rw [if_neg h2, if_neg (by omega : ¬ a < n + 1)]

/-- the search: m cells are found, in the order O; the neighbours of the first h are found too -/
structure Bfs (s : Sea) (a h m : Nat) (O : Nat → Nat) (st : Nat → Int) : Prop where
  hm : h ≤ m
  m1 : 1 ≤ m
  o0 : O 0 = a
  lt : ∀ i, i < m → O i < s.nd
  mem : ∀ c, c < s.nd → (0 ≤ st c ↔ ∃ i, i < m ∧ O i = c)
  cn : m = cnt st s.nd
  up : ∀ i, i < m → st (O i) ≤ i
  dn : ∀ c, -1 ≤ st c
  mon : ∀ i j, i ≤ j → j < m → st (O i) ≤ st (O j)
  one : h < m → ∀ i, i < m → st (O i) ≤ st (O h) + 1
  clo : ∀ i, i < h → ∀ c, adj s.W s.H (O i) c = true → ∃ j, j < m ∧ O j = c
  ex : ∀ i, i < m → ball s a (st (O i)).toNat (O i) = true ∧ ∀ k, k < (st (O i)).toNat → ball s a k (O i) = false
section
variable {s : Sea} {a h m : Nat} {O : Nat → Nat} {st : Nat → Int}
theorem Bfs.le (B : Bfs s a h m O st) : m ≤ s.nd := by rw [B.cn]; exact cnt_le _ _
theorem Bfs.nn (B : Bfs s a h m O st) {i : Nat} (hi : i < m) : 0 ≤ st (O i) := (B.mem _ (B.lt i hi)).2 ⟨i, hi, rfl⟩
theorem Bfs.start (ha : a < s.nd) : Bfs s a 0 1 (fun _ => a) (fun c => if c = a then 0 else -1) := by
  refine ⟨Nat.zero_le _, Nat.le_refl _, rfl, fun _ _ => ha, fun c hc => ?_, ?_, fun i hi => ?_, fun c => ?_, fun i j _ _ => Int.le_refl _, fun _ i _ => ?_, fun i hi => absurd hi (by omega), fun i hi => ?_⟩
  · by_cases h : c = a
    · subst h; exact ⟨fun _ => ⟨0, by omega, rfl⟩, fun _ => by simp⟩
    · simp only [if_neg h]
      exact ⟨fun h2 => absurd h2 (by omega), fun ⟨_, _, e⟩ => absurd e.symm h⟩
  · rw [cnt_one, if_pos ha]
  · simp
  · split <;> omega
  · simp
  · simp only [if_true, Int.toNat_zero]
    exact ⟨by simp [ball], fun k hk => absurd hk (by omega)⟩
theorem Bfs.found (B : Bfs s a h m O st) (hh : h < m) : ∀ k c, k ≤ (st (O h)).toNat → ball s a k c = true → ∃ i, i < m ∧ O i = c
  | 0, c, _, hb => by
    simp only [ball, beq_iff_eq] at hb
    exact ⟨0, by have := B.m1; omega, by rw [hb]; exact B.o0⟩
  | k + 1, c, hk, hb => by
    obtain ⟨b, hbn, h1⟩ := anyTo_iff.1 hb
    simp only [Bool.and_eq_true] at h1
    obtain ⟨i, hi, rfl⟩ := B.found hh k b (by omega) h1.1
    have h2 : (st (O i)).toNat ≤ k := by
      rcases Nat.lt_or_ge k (st (O i)).toNat with h3 | h3
      · have := (B.ex i hi).2 k h3
        rw [h1.1] at this; cases this
      · exact h3
    have h4 : i < h := by
      rcases Nat.lt_or_ge i h with h5 | h5
      · exact h5
      · have := B.mon h i h5 hi
        have := B.nn hi
        omega
    exact B.clo i h4 c h1.2
theorem Bfs.new (B : Bfs s a h m O st) (hh : h < m) {c : Nat} (hc : c < s.nd) (hadj : adj s.W s.H (O h) c = true) (hn : st c < 0) :
    Bfs s a h (m + 1) (updN O m c) (updI st c (st (O h) + 1)) := by
  have hne : ∀ i, i < m → O i ≠ c := fun i hi e => by have := B.nn hi; rw [e] at this; omega
  have ho : ∀ i, i < m → updN O m c i = O i := fun i hi => by unfold updN; rw [if_neg (by omega)]
  have hs : ∀ i, i < m → updI st c (st (O h) + 1) (updN O m c i) = st (O i) := fun i hi => by rw [ho i hi]; unfold updI; rw [if_neg (hne i hi)]
  have hom : updN O m c m = c := by unfold updN; rw [if_pos rfl]
  have hsm : updI st c (st (O h) + 1) (updN O m c m) = st (O h) + 1 := by rw [hom]; unfold updI; rw [if_pos rfl]
  have hnn := B.nn hh
  refine ⟨Nat.le_succ_of_le B.hm, by omega, by rw [ho 0 (by have := B.m1; omega)]; exact B.o0, fun i hi => ?_, fun x hx => ?_, ?_, fun i hi => ?_, fun x => ?_, fun i j hij hj => ?_, fun _ i hi => ?_, fun i hi x hx => ?_, fun i hi => ?_⟩
  · rcases Nat.lt_succ_iff_lt_or_eq.1 hi with h1 | h1
    · rw [ho i h1]; exact B.lt i h1
    · rw [h1, hom]; exact hc
  · by_cases e : x = c
    · subst e
      refine ⟨fun _ => ⟨m, by omega, hom⟩, fun _ => ?_⟩
      unfold updI; rw [if_pos rfl]; omega
    · have : updI st c (st (O h) + 1) x = st x := by unfold updI; rw [if_neg e]
      rw [this, B.mem x hx]
      constructor
      · rintro ⟨i, hi, rfl⟩; exact ⟨i, by omega, ho i hi⟩
      · rintro ⟨i, hi, h2⟩
        rcases Nat.lt_succ_iff_lt_or_eq.1 hi with h1 | h1
        · exact ⟨i, h1, by rw [← ho i h1]; exact h2⟩
        · rw [h1, hom] at h2; exact absurd h2.symm e
  · rw [cnt_upd hn (by omega), if_pos hc, ← B.cn]
  · rcases Nat.lt_succ_iff_lt_or_eq.1 hi with h1 | h1
    · rw [hs i h1]; exact B.up i h1
    · subst h1; rw [hsm]; have := B.up h hh; omega
  · unfold updI; split
    · omega
    · exact B.dn x
  · rcases Nat.lt_succ_iff_lt_or_eq.1 hj with h1 | h1
    · rw [hs i (by omega), hs j h1]; exact B.mon i j hij h1
    · subst h1
      rw [hsm]
      rcases Nat.lt_or_eq_of_le hij with h2 | h2
      · rw [hs i h2]; exact B.one hh i h2
      · rw [h2, hsm]; exact Int.le_refl _
  · rw [hs h hh]
    rcases Nat.lt_succ_iff_lt_or_eq.1 hi with h1 | h1
    · rw [hs i h1]; exact B.one hh i h1
    · rw [h1, hsm]; exact Int.le_refl _
  · have hm := B.hm
    rw [ho i (by omega)] at hx
    obtain ⟨j, hj, e⟩ := B.clo i hi x hx
    exact ⟨j, by omega, by rw [ho j hj]; exact e⟩
  · rcases Nat.lt_succ_iff_lt_or_eq.1 hi with h1 | h1
    · rw [hs i h1, ho i h1]; exact B.ex i h1
    · rw [h1, hsm, hom]
      have e : (st (O h) + 1).toNat = (st (O h)).toNat + 1 := by omega
      rw [e]
      refine ⟨anyTo_iff.2 ⟨O h, B.lt h hh, ?_⟩, fun k hk => ?_⟩
      · simp only [Bool.and_eq_true]; exact ⟨(B.ex h hh).1, hadj⟩
      · cases hb : ball s a k c
        · rfl
        · obtain ⟨i, hi, e2⟩ := B.found hh k c (by omega) hb
          exact absurd e2 (hne i hi)
theorem Bfs.pop (B : Bfs s a h m O st) (hh : h < m) (hall : ∀ c, adj s.W s.H (O h) c = true → 0 ≤ st c) (hnd : s.nd = s.W * s.H) : Bfs s a (h + 1) m O st := by
  refine ⟨hh, B.m1, B.o0, B.lt, B.mem, B.cn, B.up, B.dn, B.mon, fun h1 i hi => ?_, fun i hi c hc => ?_, B.ex⟩
  · have h2 := B.one hh i hi
    have h3 := B.mon h (h + 1) (by omega) h1
    omega
  · rcases Nat.lt_succ_iff_lt_or_eq.1 hi with h1 | h1
    · exact B.clo i h1 c hc
    · subst h1
      have hl := B.lt i hh
      exact (B.mem c (by rw [hnd] at *; exact adj_lt hl hc)).1 (hall c hc)
theorem Bfs.more (B : Bfs s a h m O st) (hs : s.Ok) (ha : a < s.nd) {b : Nat} (hb : b < s.nd) (hn : st b < 0) : h < m := by
  rcases Nat.lt_or_ge h m with h1 | h1
  · exact h1
  · have hm := B.hm
    obtain rfl : h = m := by omega
    have := closed_all hs (S := fun c => ∃ i, i < h ∧ O i = c) (fun x y _ ⟨i, hi, e⟩ hxy => B.clo i hi y (by rw [e]; exact hxy)) ha hb ⟨0, B.m1, B.o0⟩
    have := (B.mem b hb).2 this
    omega
/-- the steps from a cell to another one -/
def IsDist (s : Sea) (a b n : Nat) : Prop := n < s.nd ∧ ball s a n b = true ∧ ∀ k, k < n → ball s a k b = false
theorem Bfs.dist (B : Bfs s a h m O st) {b : Nat} (hb : b < s.nd) (hn : 0 ≤ st b) : ∃ n : Nat, st b = n ∧ IsDist s a b n := by
  obtain ⟨i, hi, rfl⟩ := (B.mem b hb).1 hn
  have h1 := B.up i hi
  have h2 := B.le
  have h3 := B.ex i hi
  exact ⟨(st (O i)).toNat, by omega, by omega, h3.1, h3.2⟩
theorem dist_end {L : Nat → Leg} {ln b n : Nat} {r : Trip} (hlv : 0 < r.lv) (hal : ∀ i, i < ln → (L i).lv ≠ r.lv) (hat : 0 ≤ r.at_ ∧ r.at_ < s.nt) (ha : r.from_ = (a : Int)) (hb : r.to_ = (b : Int)) (h : IsDist s a b n) :
    hasR s L ln r = decide (r.at_ + n < s.nt) ∧ (r.at_ + n < s.nt → endK s L ln r = n) := by
  have hr : ∀ k, reach s L ln r k r.to_.toNat = ball s a k b := fun k => by rw [reach_ball hlv hal ha, hb]; simp
  by_cases hk : r.at_ + n < s.nt
  · have he : endK s L ln r = n := endK_eq (by omega) (by rw [hr]; exact h.2.1) fun j hj => by rw [hr]; exact h.2.2 j hj
    refine ⟨?_, fun _ => he⟩
    unfold hasR
    rw [he, decide_eq_true hk]
    exact decide_eq_true (by omega)
  · refine ⟨?_, fun h2 => absurd h2 hk⟩
    have he : endK s L ln r = s.nt - r.at_.toNat := endK_none fun j hj => by rw [hr]; exact h.2.2 j (by omega)
    unfold hasR
    rw [he, decide_eq_false hk]
    exact decide_eq_false (by omega)
end
end Go.Proofs.YtkdpmihdhiokkaaDoor.M
