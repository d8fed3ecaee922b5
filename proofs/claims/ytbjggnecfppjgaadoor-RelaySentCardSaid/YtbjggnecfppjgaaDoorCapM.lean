/- The distance of words is a metric; the least distance of a vocabulary; what is possible of a word. Plain, no program. -/
import Derived.Test.YtbjggnecfppjgaaDoorS8
namespace Go.Proofs.YtbjggnecfppjgaaDoor
open Go.RowKit

/-- the least distance of a word to some before it, and the least so far -/
def M.inr (f : Nat → ByteArray) (i : Nat) : Nat → Int → Int
  | 0, acc => acc
  | k + 1, acc => min (M.inr f i k acc) (M.dst (f i) (f k))
def M.least (f : Nat → ByteArray) : Nat → Int
  | 0 => 12
  | i + 1 => M.inr f i i (M.least f i)
theorem M.dst_pos {a b : ByteArray} (hs : a.size = b.size) (hne : a ≠ b) : 1 ≤ M.dst a b := by
  have h1 : ∃ i, i < a.size ∧ M.chr a i ≠ M.chr b i := by
    refine Classical.byContradiction fun h => hne (M.ext_chr hs fun i hi => ?_)
    exact Classical.byContradiction fun h2 => h ⟨i, hi, h2⟩
  obtain ⟨i, hi, hd⟩ := h1
  have h2 : ∀ n, i < n → 1 ≤ M.dstTo n a b := by
    intro n
    induction n with
    | zero => intro h; omega
    | succ n ih =>
      intro h
      have hb := M.dstTo_bd n a b
      have he : M.dstTo (n + 1) a b = M.dstTo n a b + (if M.chr a n = M.chr b n then 0 else 1) := rfl
      by_cases e : i = n
      · subst e
        rw [he, if_neg hd]; omega
      · have := ih (by omega)
        rw [he]
        split <;> omega
  exact h2 _ hi
theorem M.dstTo_comm (n : Nat) (a b : ByteArray) : M.dstTo n a b = M.dstTo n b a := by
  unfold M.dstTo
  refine M.sumTo_congr fun i _ => ?_
  by_cases h : M.chr a i = M.chr b i
  · rw [if_pos h, if_pos h.symm]
  · rw [if_neg h, if_neg fun e => h e.symm]
theorem M.dst_comm {a b : ByteArray} (hs : a.size = b.size) : M.dst a b = M.dst b a := by
  unfold M.dst
  rw [M.dstTo_comm, hs]
theorem M.dstTo_tri (n : Nat) (a b c : ByteArray) : M.dstTo n a c ≤ M.dstTo n a b + M.dstTo n b c := by
  induction n with
  | zero => simp [M.dstTo, M.sumTo]
  | succ n ih =>
    have e1 : M.dstTo (n + 1) a c = M.dstTo n a c + (if M.chr a n = M.chr c n then 0 else 1) := rfl
    have e2 : M.dstTo (n + 1) a b = M.dstTo n a b + (if M.chr a n = M.chr b n then 0 else 1) := rfl
    have e3 : M.dstTo (n + 1) b c = M.dstTo n b c + (if M.chr b n = M.chr c n then 0 else 1) := rfl
    rw [e1, e2, e3]
    by_cases h1 : M.chr a n = M.chr b n
    · by_cases h2 : M.chr b n = M.chr c n
      · rw [if_pos h1, if_pos h2, if_pos (h1.trans h2)]; omega
      · rw [if_pos h1, if_neg h2]; split <;> omega
    · rw [if_neg h1]; split <;> split <;> omega
theorem voc_pair {n : Nat} {f : Nat → ByteArray} (hV : M.isV n f = true) {i k : Nat} (hi : i < n) (hk : k < i) : (f i).size = (f k).size ∧ f i ≠ f k ∧ (f i).size ≤ 12 ∧ M.low (f i) = true := by
  unfold M.isV at hV
  simp only [Bool.and_eq_true] at hV
  have h1 := M.allTo_iff.1 hV.2 i hi
  have h2 := M.allTo_iff.1 hV.2 k (by omega)
  unfold M.vocAt at h1 h2
  simp only [Bool.and_eq_true, decide_eq_true_eq, Bool.not_eq_true'] at h1 h2
  have h3 := h1.1.1
  unfold M.isW at h3
  simp only [Bool.and_eq_true, decide_eq_true_eq] at h3
  refine ⟨by omega, fun e => ?_, h3.1.2, h3.2⟩
  have h4 : M.anyTo i (fun k => decide (f k = f i)) = true := M.anyTo_iff.2 ⟨k, hk, decide_eq_true e.symm⟩
  rw [h1.2] at h4; cases h4
theorem voc_one {n : Nat} {f : Nat → ByteArray} (hV : M.isV n f = true) {i : Nat} (hi : i < n) : (f i).size = (f 0).size ∧ (f i).size ≤ 12 ∧ M.low (f i) = true := by
  unfold M.isV at hV
  simp only [Bool.and_eq_true] at hV
  have h1 := M.allTo_iff.1 hV.2 i hi
  unfold M.vocAt at h1
  simp only [Bool.and_eq_true, decide_eq_true_eq, Bool.not_eq_true'] at h1
  have h3 := h1.1.1
  unfold M.isW at h3
  simp only [Bool.and_eq_true, decide_eq_true_eq] at h3
  exact ⟨h1.1.2, h3.1.2, h3.2⟩
theorem inr_bd {n : Nat} {f : Nat → ByteArray} (hV : M.isV n f = true) {i : Nat} (hi : i < n) (k : Nat) (hk : k ≤ i) (acc : Int) (ha : 1 ≤ acc ∧ acc ≤ 12) : 1 ≤ M.inr f i k acc ∧ M.inr f i k acc ≤ 12 := by
  induction k with
  | zero => exact ha
  | succ k ih =>
    have h1 := ih (by omega)
    have h2 := voc_pair hV hi (show k < i by omega)
    have h3 := M.dst_pos h2.1 h2.2.1
    simp only [M.inr]
    omega
theorem least_bd {n : Nat} {f : Nat → ByteArray} (hV : M.isV n f = true) (i : Nat) (hi : i ≤ n) : 1 ≤ M.least f i ∧ M.least f i ≤ 12 := by
  induction i with
  | zero => simp [M.least]
  | succ i ih => exact inr_bd hV (by omega) i (Nat.le_refl _) _ (ih (by omega))
theorem inr_le {f : Nat → ByteArray} {i : Nat} {acc : Int} : ∀ {k : Nat}, M.inr f i k acc ≤ acc ∧ ∀ j, j < k → M.inr f i k acc ≤ M.dst (f i) (f j)
  | 0 => ⟨Int.le_refl _, fun _ h => absurd h (by omega)⟩
  | k + 1 => by
    obtain ⟨h1, h2⟩ := inr_le (f := f) (i := i) (acc := acc) (k := k)
    simp only [M.inr]
    refine ⟨by omega, fun j hj => ?_⟩
    by_cases e : j = k
    · subst e; omega
    · have := h2 j (by omega); omega
theorem inr_ex {f : Nat → ByteArray} {i : Nat} {acc : Int} : ∀ {k : Nat}, M.inr f i k acc = acc ∨ ∃ j, j < k ∧ M.dst (f i) (f j) = M.inr f i k acc
  | 0 => .inl rfl
  | k + 1 => by
    have h := inr_ex (f := f) (i := i) (acc := acc) (k := k)
    simp only [M.inr]
    by_cases e : M.inr f i k acc ≤ M.dst (f i) (f k)
    · rw [Int.min_eq_left e]
      rcases h with h | ⟨j, hj, h⟩
      · exact .inl h
      · exact .inr ⟨j, by omega, h⟩
    · rw [Int.min_eq_right (by omega)]
      exact .inr ⟨k, by omega, rfl⟩
theorem least_le {f : Nat → ByteArray} : ∀ {n : Nat}, ∀ i k, i < n → k < i → M.least f n ≤ M.dst (f i) (f k)
  | 0 => fun _ _ h => absurd h (by omega)
  | n + 1 => fun i k hi hk => by
    have h := inr_le (f := f) (i := n) (acc := M.least f n) (k := n)
    by_cases e : i = n
    · subst e; exact h.2 k hk
    · have := least_le (f := f) i k (show i < n by omega) hk
      exact Int.le_trans h.1 this
theorem least_ex {f : Nat → ByteArray} : ∀ {n : Nat}, M.least f n = 12 ∨ ∃ i k, i < n ∧ k < i ∧ M.dst (f i) (f k) = M.least f n
  | 0 => .inl rfl
  | n + 1 => by
    rcases inr_ex (f := f) (i := n) (acc := M.least f n) (k := n) with h | ⟨j, hj, h⟩
    · rcases least_ex (f := f) (n := n) with h2 | ⟨i, k, h3, h4, h5⟩
      · exact .inl (h.trans h2)
      · exact .inr ⟨i, k, by omega, h4, h5.trans h.symm⟩
    · exact .inr ⟨n, j, by omega, hj, h⟩
def capN (n : Nat) (f : Nat → ByteArray) : Int := if M.isV n f = true ∧ 2 ≤ n then (M.least f n - 1) / 2 else 0
def capE (n : Nat) (f : Nat → ByteArray) : Int := if M.isV n f then (if 2 ≤ n then 0 else 3) else 102
theorem capN_bd {n : Nat} {f : Nat → ByteArray} (hV : M.isV n f = true) (h2 : 2 ≤ n) : capN n f = (M.least f n - 1) / 2 ∧ 0 ≤ capN n f ∧ 2 * capN n f + 1 ≤ 11 := by
  have h := least_bd hV n (Nat.le_refl _)
  unfold capN
  rw [if_pos ⟨hV, h2⟩]
  omega
def nearAt (f : Nat → ByteArray) (c : Int) (i : Nat) : Bool := M.anyTo i fun k => decide (M.dst (f i) (f k) ≤ 2 * c + 2)
/-- some two words are near -/
theorem near_all {n : Nat} {f : Nat → ByteArray} (hV : M.isV n f = true) (h2 : 2 ≤ n) : M.anyTo n (nearAt f (capN n f)) = true := by
  have hc := capN_bd hV h2
  have key : ∃ i k, i < n ∧ k < i ∧ M.dst (f i) (f k) ≤ M.least f n := by
    rcases least_ex (f := f) (n := n) with h | ⟨i, k, h3, h4, h5⟩
    · have h1 := voc_one hV (show 1 < n by omega)
      have h3 := M.dstTo_bd (f 1).size (f 1) (f 0)
      exact ⟨1, 0, by omega, by omega, by rw [h]; unfold M.dst; omega⟩
    · exact ⟨i, k, h3, h4, by omega⟩
  obtain ⟨i, k, hi, hk, h⟩ := key
  exact M.anyTo_iff.2 ⟨i, hi, M.anyTo_iff.2 ⟨k, hk, decide_eq_true (by omega)⟩⟩
/-- a word that was received with no more errors than the capacity -/
theorem sure_radio {n : Nat} {f : Nat → ByteArray} {s : ByteArray} {e : Int} (hW : M.isW s = true) (hs : s.size = (f 0).size) (he : 0 ≤ e ∧ e ≤ 12) : M.isR n f 1 (fun _ => s) e = true := by
  unfold M.isR
  rw [decide_eq_true (by omega), decide_eq_true (by omega), decide_eq_true he.1, decide_eq_true he.2]
  simp only [Bool.true_and]
  refine M.allTo_iff.2 fun i _ => ?_
  unfold M.radAt
  simp [hW, hs]
theorem sure_list {n : Nat} {f : Nat → ByteArray} {s : ByteArray} {e : Int} (hV : M.isV n f = true) (h2 : 2 ≤ n) (hW : M.isW s = true) (hs : s.size = (f 0).size) (he : 0 ≤ e ∧ e ≤ capN n f) {o : Nat} (ho : o < n) (hd : M.dst (f o) s ≤ e) :
    idE n f 1 (fun _ => s) e = 0 ∧ idL n f 1 (fun _ => s) e = [o] := by
  have hc := capN_bd hV h2
  have hR := sure_radio (n := n) (f := f) hW hs (show 0 ≤ e ∧ e ≤ 12 by omega)
  refine ⟨by unfold idE; rw [hV, hR]; rfl, ?_⟩
  unfold idL
  rw [hV, hR]
  simp only [Bool.and_self, if_true]
  have hp : ∀ i, i < n → M.may 1 (fun _ => s) e (f i) = decide (i = o) := fun i hi => by
    show (true && decide (M.dst (f i) s ≤ e)) = _
    rw [Bool.true_and]
    by_cases h : i = o
    · subst h; rw [decide_eq_true hd, decide_eq_true rfl]
    · rw [decide_eq_false h, decide_eq_false]
      intro hx
      have si := (voc_one hV hi).1
      have so := (voc_one hV ho).1
      have t := M.dstTo_tri (f 0).size (f i) s (f o)
      have d1 : M.dst (f i) s = M.dstTo (f 0).size (f i) s := by unfold M.dst; rw [si]
      have d2 : M.dstTo (f 0).size s (f o) = M.dst (f o) s := by unfold M.dst; rw [so, M.dstTo_comm]
      have d3 : M.dstTo (f 0).size (f i) (f o) = M.dst (f i) (f o) := by unfold M.dst; rw [si]
      have d4 : M.dst (f i) (f o) = M.dst (f o) (f i) := M.dst_comm (by omega)
      have hl : M.least f n ≤ M.dst (f i) (f o) := by
        rcases Nat.lt_or_gt_of_ne h with h3 | h3
        · rw [d4]; exact least_le _ _ ho h3
        · exact least_le _ _ hi h3
      omega
  unfold M.elP
  have : (List.range n).filter (fun i => M.may 1 (fun _ => s) e (f i)) = (List.range n).filter (fun i => i == o) := by
    refine List.filter_congr fun i hi => ?_
    rw [hp i (List.mem_range.1 hi)]
    by_cases h : i = o <;> simp [h]
  rw [this]
  have : ∀ m, (List.range m).filter (fun i => i == o) = if o < m then [o] else [] := by
    intro m
    induction m with
    | zero => rfl
    | succ m ih =>
      rw [List.range_succ, List.filter_append, ih]
      by_cases h : o < m
      · rw [if_pos h, if_pos (by omega)]
        simp [show ¬ m = o by omega]
      · by_cases h3 : o = m
        · subst h3; simp
        · rw [if_neg h, if_neg (by omega)]
          simp [show ¬ m = o by omega]
  rw [this, if_pos ho]
theorem sure_dec {n : Nat} {f : Nat → ByteArray} {s : ByteArray} {e : Int} (hV : M.isV n f = true) (h2 : 2 ≤ n) (hW : M.isW s = true) (hs : s.size = (f 0).size) (he : 0 ≤ e ∧ e ≤ capN n f) {o : Nat} (ho : o < n) (hd : M.dst (f o) s ≤ e) :
    dcN n f s e = o ∧ dcE n f s e = 0 := by
  obtain ⟨h1, h3⟩ := sure_list hV h2 hW hs he ho hd
  constructor
  · unfold dcN dcI dcL
    rw [h1, h3]; simp
  · unfold dcE dcI dcL
    rw [h1, h3]; simp
/-- one more reception -/
def more (gn : Nat) (g : Nat → ByteArray) (s : ByteArray) : Nat → ByteArray := fun i => if i < gn then g i else s
theorem may_more {gn : Nat} {g : Nat → ByteArray} {s a : ByteArray} {e : Int} (h : M.may (gn + 1) (more gn g s) e a = true) : M.may gn g e a = true := by
  unfold M.may at h ⊢
  refine M.allTo_iff.2 fun i hi => ?_
  have := M.allTo_iff.1 h i (by omega)
  unfold more at this
  rwa [if_pos hi] at this
def hasF (n : Nat) (f : Nat → Int) (x : Int) : Bool := M.anyTo n fun i => decide (f i = x)
theorem hasF_nats {l : List Nat} {x : Int} : hasF l.length (nats l) x = true ↔ ∃ i : Nat, (i : Int) = x ∧ i ∈ l := by
  unfold hasF nats
  rw [M.anyTo_iff]
  constructor
  · rintro ⟨i, hi, h⟩
    refine ⟨_, of_decide_eq_true h, ?_⟩
    rw [List.getD_eq_getElem?_getD, List.getElem?_eq_getElem hi]
    exact List.getElem_mem hi
  · rintro ⟨i, rfl, h⟩
    obtain ⟨j, hj, e⟩ := List.mem_iff_getElem.1 h
    refine ⟨j, hj, decide_eq_true ?_⟩
    rw [List.getD_eq_getElem?_getD, List.getElem?_eq_getElem hj]
    simp [e]
theorem has_word {wn gn : Nat} {f g : Nat → ByteArray} {e : Int} (hV : M.isV wn f = true) (hR : M.isR wn f gn g e = true) {o : Nat} (ho : o < wn) : hasF (idL wn f gn g e).length (nats (idL wn f gn g e)) (o : Int) = M.may gn g e (f o) := by
  rw [Bool.eq_iff_iff, hasF_nats]
  unfold idL
  rw [hV, hR]
  simp only [Bool.and_self, if_true, M.mem_elP]
  constructor
  · rintro ⟨i, hi, h⟩
    obtain rfl : i = o := by omega
    exact h.2
  · exact fun h => ⟨o, rfl, ho, h⟩
theorem has_more {wn gn : Nat} {f g : Nat → ByteArray} {s : ByteArray} {e : Int} (hV : M.isV wn f = true) (hR : M.isR wn f gn g e = true) {i : Nat} (hi : i < (idL wn f (gn + 1) (more gn g s) e).length) :
    hasF (idL wn f gn g e).length (nats (idL wn f gn g e)) (nats (idL wn f (gn + 1) (more gn g s) e) i) = true := by
  rw [hasF_nats]
  refine ⟨_, rfl, ?_⟩
  have hm : (idL wn f (gn + 1) (more gn g s) e).getD i 0 ∈ idL wn f (gn + 1) (more gn g s) e := by
    rw [List.getD_eq_getElem?_getD, List.getElem?_eq_getElem hi]
    exact List.getElem_mem hi
  generalize (idL wn f (gn + 1) (more gn g s) e).getD i 0 = x at hm ⊢
  unfold idL at hm ⊢
  rw [hV, hR]
  rw [hV] at hm
  simp only [Bool.and_self, if_true, Bool.true_and] at hm ⊢
  split at hm
  · exact M.mem_elP.2 ⟨(M.mem_elP.1 hm).1, may_more (M.mem_elP.1 hm).2⟩
  · cases hm
end Go.Proofs.YtbjggnecfppjgaaDoor
