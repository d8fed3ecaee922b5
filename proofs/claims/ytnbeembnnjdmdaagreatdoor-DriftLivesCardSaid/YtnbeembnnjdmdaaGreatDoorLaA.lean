/- Charts, plain: neighbours, what is near, where a boat floats. No program. -/

namespace Go.Proofs.YtnbeembnnjdmdaaGreatDoor.M

def anyTo : Nat → (Nat → Bool) → Bool
 | 0, _ => false
 | n + 1, p => anyTo n p || p n
def allTo : Nat → (Nat → Bool) → Bool
 | 0, _ => true
 | n + 1, p => allTo n p && p n
theorem allTo_iff {n : Nat} {p : Nat → Bool} : allTo n p = true ↔ ∀ i, i < n → p i = true := by
 induction n with
 | zero => exact ⟨fun _ i hi => absurd hi (by omega), fun _ => rfl⟩
 | succ n ih =>
  simp only [allTo, Bool.and_eq_true, ih]
  constructor
  ·
   intro h i hi
   rcases Nat.lt_succ_iff_lt_or_eq.1 hi with h1 | h1
   · exact h.1 i h1
   · subst h1; exact h.2
  · exact fun h => ⟨fun i hi => h i (by omega), h n (by omega)⟩
theorem anyTo_iff {n : Nat} {p : Nat → Bool} : anyTo n p = true ↔ ∃ i, i < n ∧ p i = true := by
 induction n with
 | zero => exact ⟨fun h => (by cases h), fun ⟨i, hi, _⟩ => absurd hi (by omega)⟩
 | succ n ih =>
  simp only [anyTo, Bool.or_eq_true, ih]
  constructor
  ·
   rintro (⟨i, hi, h⟩ | h)
   · exact ⟨i, by omega, h⟩
   · exact ⟨n, by omega, h⟩
  ·
   rintro ⟨i, hi, h⟩
   rcases Nat.lt_succ_iff_lt_or_eq.1 hi with h1 | h1
   · exact .inl ⟨i, h1, h⟩
   · subst h1; exact .inr h
theorem anyTo_congr {n : Nat} {p q : Nat → Bool} (h : ∀ i, i < n → p i = q i) : anyTo n p = anyTo n q := by
 induction n with
 | zero => rfl
 | succ n ih => simp only [anyTo]; rw [ih fun i hi => h i (by omega), h n (by omega)]
theorem any_all {n : Nat} {p : Nat → Bool} : anyTo n (fun i => !p i) = !allTo n p := by
 induction n with
 | zero => rfl
 | succ n ih => simp only [anyTo, allTo, ih, Bool.not_and]
theorem anyTo_false {n : Nat} {p : Nat → Bool} : anyTo n p = false ↔ ∀ i, i < n → p i = false := by
 constructor
 ·
  intro h i hi
  cases hp : p i
  · rfl
  ·
   have := anyTo_iff.2 ⟨i, hi, hp⟩
   rw [h] at this; cases this
 ·
  intro h
  cases hp : anyTo n p
  · rfl
  ·
   obtain ⟨i, hi, h2⟩ := anyTo_iff.1 hp
   rw [h i hi] at h2; cases h2
theorem bool_ext {a b : Bool} (h : a = true ↔ b = true) : a = b := by cases a <;> cases b <;> simp_all

def dx (d p : Nat) : Int := if d = 0 then 1 else if d = 1 then (if p = 1 then 1 else 0) else if d = 2 then (if p = 1 then 0 else -1) else if d = 3 then -1 else if d = 4 then (if p = 1 then 0 else -1) else (if p = 1 then 1 else 0)
def dy (d : Nat) : Int := if d = 0 then 0 else if d = 1 then 1 else if d = 2 then 1 else if d = 3 then 0 else -1
def nbX (W c d : Nat) : Int := (c % W : Nat) + dx d (c / W % 2)
def nbY (W c d : Nat) : Int := (c / W : Nat) + dy d
def nbIs (W H c d : Nat) : Bool := decide (0 ≤ nbX W c d) && decide (nbX W c d < W) && decide (0 ≤ nbY W c d) && decide (nbY W c d < H)
def nbN (W c d : Nat) : Nat := (nbY W c d * W + nbX W c d).toNat
theorem nb_spec {W H c d : Nat} (h : nbIs W H c d = true) : nbN W c d < W * H ∧ (nbN W c d % W : Nat) = nbX W c d ∧ (nbN W c d / W : Nat) = nbY W c d ∧ nbY W c d * W + nbX W c d = nbN W c d := by
 unfold nbIs at h
 simp only [Bool.and_eq_true, decide_eq_true_eq] at h
 obtain ⟨⟨⟨h1, h2⟩, h3⟩, h4⟩ := h
 unfold nbN
 generalize nbX W c d = x at *
 generalize nbY W c d = y at *
 obtain ⟨x, rfl⟩ := Int.eq_ofNat_of_zero_le h1
 obtain ⟨y, rfl⟩ := Int.eq_ofNat_of_zero_le h3
 have e : ((y : Int) * W + x).toNat = y * W + x := by omega
 have hx : x < W := by omega
 have hy : y < H := by omega
 rw [e]
 refine ⟨?_, ?_, ?_, ?_⟩
 ·
  have : (y + 1) * W ≤ H * W := Nat.mul_le_mul_right W hy
  rw [Nat.add_mul, Nat.one_mul, Nat.mul_comm H] at this
  omega
 · rw [Nat.mul_comm, Nat.mul_add_mod, Nat.mod_eq_of_lt hx]
 · rw [Nat.mul_comm, Nat.mul_add_div (by omega), Nat.div_eq_of_lt hx]; simp
 · simp
structure Sea where
 W : Nat
 H : Nat
 nd : Nat
 nt : Nat
 dep : Nat → Int
 tide : Nat → Nat → Int
 sw : Nat → Int
structure Sea.Ok (s : Sea) : Prop where
 w1 : 1 ≤ s.W
 w2 : s.W ≤ 12
 h1 : 1 ≤ s.H
 h2 : s.H ≤ 12
 nd : s.nd = s.W * s.H
 t1 : 1 ≤ s.nt
 t2 : s.nt ≤ 60
 dep : ∀ i, i < s.nd → -1000 ≤ s.dep i ∧ s.dep i ≤ 1000
 tide : ∀ t, t < s.nt → 0 ≤ s.tide t 0 ∧ s.tide t 0 ≤ s.tide t 1 ∧ s.tide t 1 ≤ 200
 sw : ∀ t, t < s.nt → 0 ≤ s.sw t ∧ s.sw t ≤ 100
theorem Sea.Ok.nd1 {s : Sea} (h : s.Ok) : 1 ≤ s.nd ∧ s.nd ≤ 144 := by
 rw [h.nd]
 have := Nat.mul_le_mul h.w1 h.h1
 have := Nat.mul_le_mul h.w2 h.h2
 omega
def inB (lo hi x : Int) : Bool := decide (lo ≤ x) && decide (x ≤ hi)
theorem inB_iff {lo hi x : Int} : inB lo hi x = true ↔ lo ≤ x ∧ x ≤ hi := by unfold inB; simp
def chkC (W H : Int) (nd nt ns : Nat) (dep : Nat → Int) (tide : Nat → Nat → Int) (sw : Nat → Int) : Bool :=
 inB 1 12 W && inB 1 12 H && decide ((nd : Int) = W * H) && inB 1 60 nt && decide (ns = nt) && allTo nd (fun i => inB (-1000) 1000 (dep i)) && allTo nt (fun t => inB 0 (tide t 1) (tide t 0) && decide (tide t 1 ≤ 200)) && allTo ns (fun t => inB 0 100 (sw t))
theorem chkC_ok {W H : Int} {nd nt ns : Nat} {dep : Nat → Int} {tide : Nat → Nat → Int} {sw : Nat → Int} (h : chkC W H nd nt ns dep tide sw = true) :
  ∃ W' H' : Nat, W = W' ∧ H = H' ∧ ns = nt ∧ Sea.Ok ⟨W', H', nd, nt, dep, tide, sw⟩ := by
 unfold chkC at h
 simp only [Bool.and_eq_true, decide_eq_true_eq, inB_iff, allTo_iff] at h
 obtain ⟨⟨⟨⟨⟨⟨⟨h1, h2⟩, h3⟩, h4⟩, h5⟩, h6⟩, h7⟩, h8⟩ := h
 obtain ⟨W', rfl⟩ := Int.eq_ofNat_of_zero_le (show 0 ≤ W by omega)
 obtain ⟨H', rfl⟩ := Int.eq_ofNat_of_zero_le (show 0 ≤ H by omega)
 refine ⟨W', H', rfl, rfl, h5, ⟨by show 1 ≤ W'; omega, by show W' ≤ 12; omega, by show 1 ≤ H'; omega, by show H' ≤ 12; omega, ?_, by show 1 ≤ nt; omega, by show nt ≤ 60; omega, h6, ?_, ?_⟩⟩
 ·
  show nd = W' * H'
  have : ((nd : Nat) : Int) = ((W' * H' : Nat) : Int) := by rw [h3]; simp
  omega
 ·
  intro t ht
  have := h7 t ht
  exact ⟨this.1.1, this.1.2, this.2⟩
 ·
  intro t ht
  exact h8 t (by rw [h5]; exact ht)
theorem Sea.Ok.chk {s : Sea} (h : s.Ok) : chkC s.W s.H s.nd s.nt s.nt s.dep s.tide s.sw = true := by
 unfold chkC
 simp only [Bool.and_eq_true, decide_eq_true_eq, inB_iff, allTo_iff]
 have h1 := h.w1; have h2 := h.w2; have h3 := h.h1; have h4 := h.h2; have h5 := h.nd; have h6 := h.t1; have h7 := h.t2
 refine ⟨⟨⟨⟨⟨⟨⟨by omega, by omega⟩, ?_⟩, by omega⟩, trivial⟩, h.dep⟩, fun t ht => ?_⟩, h.sw⟩
 · rw [h5]; simp
 ·
  have := h.tide t ht
  exact ⟨⟨this.1, this.2.1⟩, this.2.2⟩
end Go.Proofs.YtnbeembnnjdmdaaGreatDoor.M
/- Drift, plain: what a tick of drift can do. No program. -/
namespace Go.Proofs.YtnbeembnnjdmdaaGreatDoor.M

def spanTo (lo hi : Int) (p : Int → Bool) : Bool := anyTo (hi - lo + 1).toNat fun i => p (lo + i)
theorem spanTo_iff {lo hi : Int} {p : Int → Bool} : spanTo lo hi p = true ↔ ∃ x, lo ≤ x ∧ x ≤ hi ∧ p x = true := by
 unfold spanTo
 rw [anyTo_iff]
 constructor
 · rintro ⟨i, hi, h⟩; exact ⟨lo + i, by omega, by omega, h⟩
 ·
  rintro ⟨x, h1, h2, h⟩
  refine ⟨(x - lo).toNat, by omega, ?_⟩
  rw [show lo + ((x - lo).toNat : Int) = x by omega]; exact h
theorem spanTo_nil {lo hi : Int} {p : Int → Bool} (h : hi < lo) : spanTo lo hi p = false := by
 unfold spanTo
 rw [show (hi - lo + 1).toNat = 0 by omega]; rfl
theorem spanTo_succ {lo h : Int} {p : Int → Bool} (hl : lo ≤ h) : spanTo lo h p = (spanTo lo (h - 1) p || p h) := by
 unfold spanTo
 rw [show (h - lo + 1).toNat = (h - 1 - lo + 1).toNat + 1 by omega]
 simp only [anyTo]
 rw [show lo + (((h - 1 - lo + 1).toNat : Nat) : Int) = h by omega]
structure Dr where
 s : Sea
 nz : Nat
 z : Nat → Int
 cu : Nat → Nat → Nat → Int
 wd : Nat → Nat → Int
def pushB (p : Nat → Int) : Bool := inB 1 63 (p 0) && (decide (0 ≤ p 1) && decide (p 1 ≤ p 2) && decide (p 2 ≤ 3))
theorem pushB_iff {p : Nat → Int} : pushB p = true ↔ (1 ≤ p 0 ∧ p 0 ≤ 63) ∧ 0 ≤ p 1 ∧ p 1 ≤ p 2 ∧ p 2 ≤ 3 := by
 unfold pushB
 simp only [Bool.and_eq_true, inB_iff, decide_eq_true_eq, and_assoc]
structure Dr.Ok (d : Dr) : Prop where
 s : d.s.Ok
 z1 : 1 ≤ d.nz
 z4 : d.nz ≤ 4
 z : ∀ c, c < d.s.nd → 0 ≤ d.z c ∧ d.z c < d.nz
 cu : ∀ i, i < d.nz → ∀ t, t + 1 < d.s.nt → pushB (d.cu i t) = true
 wd : ∀ t, t + 1 < d.s.nt → pushB (d.wd t) = true
def chkD (ck : Bool) (nd nt zn cn wn : Nat) (z : Nat → Int) (cl : Nat → Nat) (cu : Nat → Nat → Nat → Int) (wd : Nat → Nat → Int) : Bool :=
 ck && decide (zn = nd) && (decide (1 ≤ cn) && decide (cn ≤ 4)) && allTo zn (fun i => inB 0 ((cn : Int) - 1) (z i)) && allTo cn (fun i => decide (cl i + 1 = nt) && allTo (cl i) fun t => pushB (cu i t)) && (decide (wn + 1 = nt) && allTo wn fun t => pushB (wd t))
theorem chkD_ok {s : Sea} {zn cn wn : Nat} {z : Nat → Int} {cl : Nat → Nat} {cu : Nat → Nat → Nat → Int} {wd : Nat → Nat → Int} (hs : s.Ok) (h : chkD true s.nd s.nt zn cn wn z cl cu wd = true) :
  (Dr.mk s cn z cu wd).Ok ∧ zn = s.nd ∧ wn + 1 = s.nt ∧ ∀ i, i < cn → cl i + 1 = s.nt := by
 unfold chkD at h
 simp only [Bool.and_eq_true, decide_eq_true_eq, allTo_iff, inB_iff, Bool.true_and] at h
 obtain ⟨⟨⟨⟨h1, h2⟩, h3⟩, h4⟩, h5⟩ := h
 refine ⟨⟨hs, h2.1, h2.2, fun c hc => ?_, fun i hi t ht => (h4 i hi).2 t (by have := (h4 i hi).1; show t < cl i; have h9 : t + 1 < s.nt := ht; omega), fun t ht => h5.2 t (by have h9 : t + 1 < s.nt := ht; have := h5.1; omega)⟩, h1, h5.1, fun i hi => (h4 i hi).1⟩
 have := h3 c (by rw [h1]; exact hc)
 show 0 ≤ z c ∧ z c < cn
 omega
def dryB (s : Sea) (c t : Nat) (h : Int) : Bool := decide (s.dep c + h - s.sw t < 1)
def pushN (s : Sea) (t : Nat) (h : Int) (a : Nat) : Nat → Nat → Int
 | 0, c => c
 | k + 1, c => if nbIs s.W s.H c a then (if dryB s (nbN s.W c a) t h then (c : Int) else pushN s t h a k (nbN s.W c a)) else -1
theorem pushN_bd {s : Sea} {t : Nat} {h : Int} {a : Nat} : ∀ (k c : Nat), c < s.W * s.H → -1 ≤ pushN s t h a k c ∧ pushN s t h a k c < (s.W * s.H : Nat)
 | 0, c, hc => by simp only [pushN]; omega
 | k + 1, c, hc => by
  unfold pushN
  by_cases h1 : nbIs s.W s.H c a = true
  ·
   rw [if_pos h1]
   by_cases h2 : dryB s (nbN s.W c a) t h = true
   · rw [if_pos h2]; omega
   · rw [if_neg h2]; exact pushN_bd k _ (nb_spec h1).1
  · rw [if_neg h1]; omega
def bitB (x : Int) (a : Nat) : Bool := x / 2 ^ a % 2 == 1
def pushT (s : Sea) (p : Nat → Int) (t : Nat) (h : Int) (g : Int → Int) (c : Nat) (to : Int) : Bool :=
 anyTo 6 fun a => bitB (p 0) a && spanTo (p 1) (p 2) fun f => pushN s t h a (g f).toNat c == to
def stepH (d : Dr) (t : Nat) (l h : Int) (c : Nat) (to : Int) : Bool :=
 if dryB d.s c t h then to == c else
  anyTo 6 fun a => bitB (d.cu (d.z c).toNat t 0) a && spanTo (d.cu (d.z c).toNat t 1) (d.cu (d.z c).toNat t 2) fun n =>
   if pushN d.s t h a n.toNat c < 0 then to == -1 else pushT d.s (d.wd t) t h (fun f => f * l / 4) (pushN d.s t h a n.toNat c).toNat to
def stepB (d : Dr) (t : Nat) (l c to : Int) : Bool :=
 if c < 0 then to == -1 else spanTo (d.s.tide t 0) (d.s.tide t 1) fun h => stepH d t l h c.toNat to
def listB (nd : Nat) (p : Int → Bool) : List Int := ((List.range (nd + 1)).map fun (i : Nat) => (i : Int) - 1).filter p
theorem mem_listB {nd : Nat} {p : Int → Bool} {x : Int} : x ∈ listB nd p ↔ (-1 ≤ x ∧ x < nd) ∧ p x = true := by
 unfold listB
 rw [List.mem_filter, List.mem_map]
 constructor
 ·
  rintro ⟨⟨i, hi, rfl⟩, h⟩
  rw [List.mem_range] at hi
  exact ⟨by omega, h⟩
 ·
  rintro ⟨⟨h1, h2⟩, h⟩
  exact ⟨⟨(x + 1).toNat, List.mem_range.2 (show (x + 1).toNat < nd + 1 by omega), by omega⟩, h⟩
theorem listB_sorted (nd : Nat) (p : Int → Bool) : (listB nd p).Pairwise (· < ·) := by
 unfold listB
 refine List.Pairwise.filter _ ?_
 rw [List.pairwise_map]
 exact List.pairwise_lt_range.imp fun h => by omega
theorem listB_len (nd : Nat) (p : Int → Bool) : (listB nd p).length ≤ nd + 1 := by
 unfold listB
 refine Nat.le_trans (List.length_filter_le _ _) ?_
 simp
theorem asc_ext : ∀ {l l' : List Int}, l.Pairwise (· < ·) → l'.Pairwise (· < ·) → (∀ x, x ∈ l ↔ x ∈ l') → l = l'
 | [], [], _, _, _ => rfl
 | [], b :: _, _, _, h => by have := (h b).2 (List.mem_cons_self ..); cases this
 | a :: _, [], _, _, h => by have := (h a).1 (List.mem_cons_self ..); cases this
 | a :: l, b :: l', h1, h2, h => by
  rw [List.pairwise_cons] at h1 h2
  have e : a = b := by
   have ha := (h a).1 (List.mem_cons_self ..)
   have hb := (h b).2 (List.mem_cons_self ..)
   rcases List.mem_cons.1 ha with e | ha
   · exact e
   ·
    rcases List.mem_cons.1 hb with e | hb
    · exact e.symm
    · have := h2.1 a ha; have := h1.1 b hb; omega
  subst e
  rw [asc_ext h1.2 h2.2 fun x => ?_]
  constructor
  ·
   intro hx
   rcases List.mem_cons.1 ((h x).1 (List.mem_cons_of_mem _ hx)) with e | h3
   · subst e; have := h1.1 x hx; omega
   · exact h3
  ·
   intro hx
   rcases List.mem_cons.1 ((h x).2 (List.mem_cons_of_mem _ hx)) with e | h3
   · subst e; have := h2.1 x hx; omega
   · exact h3
def stepL (d : Dr) (t : Nat) (l c : Int) : List Int := listB d.s.nd (stepB d t l c)
theorem pushT_bd {d : Dr} (hd : d.Ok) {p : Nat → Int} {t : Nat} {h : Int} {g : Int → Int} {c : Nat} {to : Int} (hc : c < d.s.nd) (hp : pushT d.s p t h g c to = true) : -1 ≤ to ∧ to < d.s.nd := by
 obtain ⟨a, _, h1⟩ := anyTo_iff.1 hp
 simp only [Bool.and_eq_true] at h1
 obtain ⟨f, _, _, h2⟩ := spanTo_iff.1 h1.2
 have h3 := pushN_bd (s := d.s) (t := t) (h := h) (a := a) (g f).toNat c (by rw [← hd.s.nd]; exact hc)
 rw [← hd.s.nd] at h3
 simp only [beq_iff_eq] at h2
 omega
theorem stepH_bd {d : Dr} (hd : d.Ok) {t : Nat} {l h : Int} {c : Nat} {to : Int} (hc : c < d.s.nd) (hp : stepH d t l h c to = true) : -1 ≤ to ∧ to < d.s.nd := by
 unfold stepH at hp
 by_cases h1 : dryB d.s c t h = true
 · rw [if_pos h1] at hp; simp only [beq_iff_eq] at hp; omega
 ·
  rw [if_neg h1] at hp
  obtain ⟨a, _, h2⟩ := anyTo_iff.1 hp
  simp only [Bool.and_eq_true] at h2
  obtain ⟨n, _, _, h3⟩ := spanTo_iff.1 h2.2
  have h4 := pushN_bd (s := d.s) (t := t) (h := h) (a := a) n.toNat c (by rw [← hd.s.nd]; exact hc)
  rw [← hd.s.nd] at h4
  by_cases h5 : pushN d.s t h a n.toNat c < 0
  · rw [if_pos h5] at h3; simp only [beq_iff_eq] at h3; omega
  · rw [if_neg h5] at h3; exact pushT_bd hd (by omega) h3
theorem stepB_bd {d : Dr} (hd : d.Ok) {t : Nat} {l c to : Int} (hc : c < d.s.nd) (hp : stepB d t l c to = true) : -1 ≤ to ∧ to < d.s.nd := by
 unfold stepB at hp
 by_cases h1 : c < 0
 · rw [if_pos h1] at hp; simp only [beq_iff_eq] at hp; omega
 ·
  rw [if_neg h1] at hp
  obtain ⟨h, _, _, h2⟩ := spanTo_iff.1 hp
  exact stepH_bd hd (by omega) h2
theorem mem_stepL {d : Dr} (hd : d.Ok) {t : Nat} {l c x : Int} (hc : c < d.s.nd) : x ∈ stepL d t l c ↔ stepB d t l c x = true := by
 unfold stepL
 rw [mem_listB]
 exact ⟨fun h => h.2, fun h => ⟨stepB_bd hd hc h, h⟩⟩
end Go.Proofs.YtnbeembnnjdmdaaGreatDoor.M
/- Drift, plain: histories, and the cells of all of them. No program. -/
namespace Go.Proofs.YtnbeembnnjdmdaaGreatDoor.M

def anyC (nd : Nat) (p : Int → Bool) : Bool := anyTo (nd + 1) fun i => p ((i : Int) - 1)
theorem anyC_iff {nd : Nat} {p : Int → Bool} : anyC nd p = true ↔ ∃ x : Int, -1 ≤ x ∧ x < nd ∧ p x = true := by
 unfold anyC
 rw [anyTo_iff]
 constructor
 · rintro ⟨i, hi, h⟩; exact ⟨(i : Int) - 1, by omega, by omega, h⟩
 ·
  rintro ⟨x, h1, h2, h⟩
  refine ⟨(x + 1).toNat, by omega, ?_⟩
  rw [show ((x + 1).toNat : Int) - 1 = x by omega]; exact h
theorem listB_ne {nd : Nat} {p : Int → Bool} : listB nd p ≠ [] ↔ anyC nd p = true := by
 rw [anyC_iff]
 constructor
 ·
  intro h
  obtain ⟨x, hx⟩ := List.exists_mem_of_ne_nil _ h
  have := mem_listB.1 hx
  exact ⟨x, this.1.1, this.1.2, this.2⟩
 ·
  rintro ⟨x, h1, h2, h3⟩ e
  have := mem_listB.2 ⟨⟨h1, h2⟩, h3⟩
  rw [e] at this; cases this
section
variable (d : Dr) (at_ : Nat) (l : Int) (X : Int → Bool) (fit : Nat → Int → Bool)
def fw : Nat → Int → Bool
 | 0, c => X c && fit 0 c
 | i + 1, c => anyC d.s.nd (fun b => fw i b && stepB d (at_ + i) l b c) && fit (i + 1) c
def bw (n : Nat) : Nat → Int → Bool
 | 0, c => fw d at_ l X fit n c
 | k + 1, c => fw d at_ l X fit (n - (k + 1)) c && anyC d.s.nd (fun b => stepB d (at_ + (n - (k + 1))) l c b && bw n k b)
def rowB (n i : Nat) : Int → Bool := bw d at_ l X fit n (n - i)
structure Hist (n : Nat) (f : Nat → Int) : Prop where
 bd : ∀ i, i ≤ n → -1 ≤ f i ∧ f i < d.s.nd
 x0 : X (f 0) = true
 fit : ∀ i, i ≤ n → fit i (f i) = true
 go : ∀ i, i < n → stepB d (at_ + i) l (f i) (f (i + 1)) = true
end
section
variable {d : Dr} {at_ : Nat} {l : Int} {X : Int → Bool} {fit : Nat → Int → Bool}
theorem fw_hist {c : Int} : ∀ i, (-1 ≤ c ∧ c < d.s.nd) → fw d at_ l X fit i c = true → ∃ f, Hist d at_ l X fit i f ∧ f i = c
 | 0, hc, h => by
  simp only [fw, Bool.and_eq_true] at h
  exact ⟨fun _ => c, ⟨fun _ _ => hc, h.1, fun i hi => by rw [show i = 0 by omega]; exact h.2, fun i hi => absurd hi (by omega)⟩, rfl⟩
 | i + 1, hc, h => by
  simp only [fw, Bool.and_eq_true] at h
  obtain ⟨b, h1, h2, h3⟩ := anyC_iff.1 h.1
  simp only [Bool.and_eq_true] at h3
  obtain ⟨f, hf, e⟩ := fw_hist (c := b) i ⟨h1, h2⟩ h3.1
  refine ⟨fun k => if k = i + 1 then c else f k, ⟨fun k hk => ?_, ?_, fun k hk => ?_, fun k hk => ?_⟩, by simp⟩
  ·
   by_cases e2 : k = i + 1
   · simp only [e2, if_true]; exact hc
   · simp only [e2, if_false]; exact hf.bd k (by omega)
  · simp only [show ¬ (0 = i + 1) by omega, if_false]; exact hf.x0
  ·
   by_cases e2 : k = i + 1
   · simp only [e2, if_true]; exact h.2
   · simp only [e2, if_false]; exact hf.fit k (by omega)
  ·
   by_cases e2 : k = i
   ·
    subst e2
    simp only [show ¬ (k = k + 1) by omega, if_false, if_true]
    rw [e]; exact h3.2
   · simp only [show ¬ (k = i + 1) by omega, show ¬ (k + 1 = i + 1) by omega, if_false]; exact hf.go k (by omega)
theorem hist_fw {n : Nat} {f : Nat → Int} (hf : Hist d at_ l X fit n f) : ∀ i, i ≤ n → fw d at_ l X fit i (f i) = true
 | 0, _ => by simp only [fw, Bool.and_eq_true]; exact ⟨hf.x0, hf.fit 0 (by omega)⟩
 | i + 1, h => by
  simp only [fw, Bool.and_eq_true]
  have hb := hf.bd i (by omega)
  refine ⟨anyC_iff.2 ⟨f i, hb.1, hb.2, ?_⟩, hf.fit _ h⟩
  simp only [Bool.and_eq_true]
  exact ⟨hist_fw hf i (by omega), hf.go i (by omega)⟩
theorem hist_bw {n : Nat} {f : Nat → Int} (hf : Hist d at_ l X fit n f) : ∀ k, k ≤ n → bw d at_ l X fit n k (f (n - k)) = true
 | 0, _ => hist_fw hf n (Nat.le_refl _)
 | k + 1, h => by
  unfold bw
  simp only [Bool.and_eq_true]
  have hb := hf.bd (n - k) (by omega)
  refine ⟨hist_fw hf _ (by omega), anyC_iff.2 ⟨f (n - k), hb.1, hb.2, ?_⟩⟩
  simp only [Bool.and_eq_true]
  have h2 := hf.go (n - (k + 1)) (by omega)
  rw [show n - (k + 1) + 1 = n - k by omega] at h2
  exact ⟨h2, hist_bw hf k (by omega)⟩
theorem bw_fw {n : Nat} {c : Int} : ∀ k, bw d at_ l X fit n k c = true → fw d at_ l X fit (n - k) c = true
 | 0, h => h
 | k + 1, h => by
  unfold bw at h
  simp only [Bool.and_eq_true] at h
  exact h.1
theorem bw_on {n : Nat} {c : Int} : ∀ k, k ≤ n → (-1 ≤ c ∧ c < d.s.nd) → bw d at_ l X fit n k c = true → ∃ f : Nat → Int, f (n - k) = c ∧ (∀ i, n - k ≤ i → i ≤ n → -1 ≤ f i ∧ f i < d.s.nd) ∧ (∀ i, n - k < i → i ≤ n → fit i (f i) = true) ∧ ∀ i, n - k ≤ i → i < n → stepB d (at_ + i) l (f i) (f (i + 1)) = true
 | 0, _, hc, h => ⟨fun _ => c, rfl, fun _ _ _ => hc, fun i h1 h2 => absurd h1 (by omega), fun i h1 h2 => absurd h1 (by omega)⟩
 | k + 1, hk, hc, h => by
  unfold bw at h
  simp only [Bool.and_eq_true] at h
  obtain ⟨b, h1, h2, h3⟩ := anyC_iff.1 h.2
  simp only [Bool.and_eq_true] at h3
  obtain ⟨f, e, f1, f2, f3⟩ := bw_on (c := b) k (by omega) ⟨h1, h2⟩ h3.2
  have hfit : fit (n - k) b = true := by
   have h4 := bw_fw k h3.2
   rcases Nat.eq_zero_or_pos (n - k) with h5 | h5
   · omega
   ·
    obtain ⟨m, hm⟩ : ∃ m, n - k = m + 1 := ⟨n - k - 1, by omega⟩
    rw [hm] at h4 ⊢
    simp only [fw, Bool.and_eq_true] at h4
    exact h4.2
  refine ⟨fun i => if i = n - (k + 1) then c else f i, by simp, fun i h5 h6 => ?_, fun i h5 h6 => ?_, fun i h5 h6 => ?_⟩
  ·
   by_cases e2 : i = n - (k + 1)
   · simp only [e2, if_true]; exact hc
   · simp only [e2, if_false]; exact f1 i (by omega) h6
  ·
   simp only [show ¬ (i = n - (k + 1)) by omega, if_false]
   by_cases e2 : i = n - k
   · subst e2; rw [e]; exact hfit
   · exact f2 i (by omega) h6
  ·
   by_cases e2 : i = n - (k + 1)
   ·
    subst e2
    simp only [if_true, show ¬ (n - (k + 1) + 1 = n - (k + 1)) by omega, if_false]
    rw [show n - (k + 1) + 1 = n - k by omega, e]; exact h3.1
   · simp only [e2, show ¬ (i + 1 = n - (k + 1)) by omega, if_false]; exact f3 i (by omega) h6
theorem rowB_iff {n i : Nat} {c : Int} (hi : i ≤ n) (hc : -1 ≤ c ∧ c < d.s.nd) : rowB d at_ l X fit n i c = true ↔ ∃ f, Hist d at_ l X fit n f ∧ f i = c := by
 unfold rowB
 constructor
 ·
  intro h
  obtain ⟨g, hg, eg⟩ := fw_hist _ hc (bw_fw _ h)
  obtain ⟨f, e, f1, f2, f3⟩ := bw_on _ (by omega) hc h
  rw [show n - (n - i) = i by omega] at hg eg e f1 f2 f3
  refine ⟨fun k => if k ≤ i then g k else f k, ⟨fun k hk => ?_, ?_, fun k hk => ?_, fun k hk => ?_⟩, by simp only [Nat.le_refl, if_true]; exact eg⟩
  ·
   by_cases e2 : k ≤ i
   · simp only [e2, if_true]; exact hg.bd k e2
   · simp only [e2, if_false]; exact f1 k (by omega) hk
  · simp only [Nat.zero_le, if_true]; exact hg.x0
  ·
   by_cases e2 : k ≤ i
   · simp only [e2, if_true]; exact hg.fit k e2
   · simp only [e2, if_false]; exact f2 k (by omega) hk
  ·
   by_cases e2 : k + 1 ≤ i
   · simp only [show k ≤ i by omega, e2, if_true]; exact hg.go k (by omega)
   ·
    by_cases e3 : k = i
    ·
     subst e3
     simp only [Nat.le_refl, if_true, e2, if_false]
     rw [eg, ← e]; exact f3 k (Nat.le_refl _) hk
    · simp only [show ¬ k ≤ i by omega, e2, if_false]; exact f3 k (by omega) hk
 ·
  rintro ⟨f, hf, rfl⟩
  have := hist_bw hf (n - i) (by omega)
  rwa [show n - (n - i) = i by omega] at this
theorem rowB_some {n i j : Nat} (hi : i ≤ n) (hj : j ≤ n) (h : anyC d.s.nd (rowB d at_ l X fit n i) = true) : anyC d.s.nd (rowB d at_ l X fit n j) = true := by
 obtain ⟨c, h1, h2, h3⟩ := anyC_iff.1 h
 obtain ⟨f, hf, _⟩ := (rowB_iff hi ⟨h1, h2⟩).1 h3
 have hb := hf.bd j hj
 exact anyC_iff.2 ⟨f j, hb.1, hb.2, (rowB_iff hj hb).2 ⟨f, hf, rfl⟩⟩
def posB (d : Dr) (at_ : Nat) (l : Int) (X : Int → Bool) (fit : Nat → Int → Bool) (n : Nat) : Bool := anyC d.s.nd (rowB d at_ l X fit n 0)
theorem posB_iff {n : Nat} : posB d at_ l X fit n = true ↔ ∃ f, Hist d at_ l X fit n f := by
 unfold posB
 rw [anyC_iff]
 constructor
 ·
  rintro ⟨x, h1, h2, h3⟩
  obtain ⟨f, hf, _⟩ := (rowB_iff (Nat.zero_le _) ⟨h1, h2⟩).1 h3
  exact ⟨f, hf⟩
 ·
  rintro ⟨f, hf⟩
  have hb := hf.bd 0 (Nat.zero_le _)
  exact ⟨f 0, hb.1, hb.2, (rowB_iff (Nat.zero_le _) hb).2 ⟨f, hf, rfl⟩⟩
end
end Go.Proofs.YtnbeembnnjdmdaaGreatDoor.M
/- Drift, plain: sightings, and those that leave no history. No program. -/
namespace Go.Proofs.YtnbeembnnjdmdaaGreatDoor.M

structure Sg where
 tk : Int
 has : Int → Bool
 seen : Bool
def agr (x : Sg) (tick c : Int) : Bool := !decide (x.tk = tick) || (x.has c == x.seen)
def agAll (X : Nat → Sg) (n : Nat) (tick c : Int) : Bool := allTo n fun i => agr (X i) tick c
def fixB (ft fc tick c : Int) : Bool := !decide (tick = ft) || decide (c = fc)
def fitF (X : Nat → Sg) (n : Nat) (at_ ft fc : Int) (i : Nat) (c : Int) : Bool := agAll X n (at_ + i) c && fixB ft fc (at_ + i) c
section
variable (g : List Nat → Bool) (n : Nat)
def kp : Nat → List Nat
 | 0 => []
 | i + 1 => if g (kp i ++ List.range' (i + 1) (n - (i + 1))) then kp i ++ [i] else kp i
def lf (i : Nat) : List Nat := kp g n i ++ List.range' i (n - i)
end
section
variable {g : List Nat → Bool} {n : Nat}
theorem kp_lt : ∀ {i x}, x ∈ kp g n i → x < i
 | 0, x, h => by simp [kp] at h
 | i + 1, x, h => by
  simp only [kp] at h
  split at h
  ·
   rw [List.mem_append] at h
   rcases h with h | h
   · have := kp_lt h; omega
   ·
    have : x = i := by simpa using h
    omega
  · have := kp_lt h; omega
theorem lf_succ {i : Nat} (hi : i < n) : lf g n (i + 1) = if g (kp g n i ++ List.range' (i + 1) (n - (i + 1))) then lf g n i else kp g n i ++ List.range' (i + 1) (n - (i + 1)) := by
 unfold lf
 have e : List.range' i (n - i) = i :: List.range' (i + 1) (n - (i + 1)) := by
  rw [show n - i = (n - (i + 1)) + 1 by omega, List.range'_succ]
 by_cases h : g (kp g n i ++ List.range' (i + 1) (n - (i + 1))) = true
 ·
  rw [if_pos h, e]
  simp only [kp, h, if_true]
  simp
 ·
  rw [if_neg h]
  simp only [kp, h]
  simp
theorem lf_end : lf g n n = kp g n n := by unfold lf; simp
theorem kp_sorted : ∀ i, (kp g n i).Pairwise (· < ·)
 | 0 => by simp [kp]
 | i + 1 => by
  simp only [kp]
  split
  ·
   rw [List.pairwise_append]
   refine ⟨kp_sorted i, by simp, fun a ha b hb => ?_⟩
   have : b = i := by simpa using hb
   have := kp_lt ha
   omega
  · exact kp_sorted i
theorem kp_len : ∀ i, (kp g n i).length ≤ i
 | 0 => by simp [kp]
 | i + 1 => by
  have := kp_len i
  simp only [kp]
  split
  · simp; omega
  · omega
end
end Go.Proofs.YtnbeembnnjdmdaaGreatDoor.M
/- Drift, plain: a tick of drift leads somewhere. No program. -/
namespace Go.Proofs.YtnbeembnnjdmdaaGreatDoor.M

theorem bit_nat : ∀ n : Nat, n < 64 → n ≠ 0 → ∃ a, a < 6 ∧ n / 2 ^ a % 2 = 1 := by decide
theorem bit_some {x : Int} (h : 1 ≤ x ∧ x ≤ 63) : ∃ a, a < 6 ∧ bitB x a = true := by
 obtain ⟨a, ha, h1⟩ := bit_nat x.toNat (by omega) (by omega)
 refine ⟨a, ha, ?_⟩
 unfold bitB
 rw [beq_iff_eq]
 have : x = (x.toNat : Int) := by omega
 rw [this]
 exact_mod_cast h1
theorem pushT_some {s : Sea} {p : Nat → Int} (hp : pushB p = true) (t : Nat) (h : Int) (g : Int → Int) (c : Nat) : ∃ x, pushT s p t h g c x = true := by
 have hp := pushB_iff.1 hp
 obtain ⟨a, ha, hb⟩ := bit_some hp.1
 refine ⟨pushN s t h a (g (p 1)).toNat c, anyTo_iff.2 ⟨a, ha, ?_⟩⟩
 rw [hb, Bool.true_and]
 exact spanTo_iff.2 ⟨p 1, Int.le_refl _, hp.2.2.1, by simp⟩
theorem stepH_wet {d : Dr} {t : Nat} {l h : Int} {c : Nat} {to : Int} (hw : dryB d.s c t h = false) : stepH d t l h c to = true ↔
  ∃ x, pushT d.s (d.cu (d.z c).toNat t) t h (fun f => f) c x = true ∧ (if x < 0 then to == -1 else pushT d.s (d.wd t) t h (fun f => f * l / 4) x.toNat to) = true := by
 unfold stepH
 rw [hw, if_neg (by simp)]
 constructor
 ·
  intro h1
  obtain ⟨a, ha, h2⟩ := anyTo_iff.1 h1
  simp only [Bool.and_eq_true] at h2
  obtain ⟨f, hf1, hf2, h3⟩ := spanTo_iff.1 h2.2
  refine ⟨pushN d.s t h a f.toNat c, anyTo_iff.2 ⟨a, ha, ?_⟩, h3⟩
  rw [h2.1, Bool.true_and]
  exact spanTo_iff.2 ⟨f, hf1, hf2, by simp⟩
 ·
  rintro ⟨x, h1, h2⟩
  obtain ⟨a, ha, h3⟩ := anyTo_iff.1 h1
  simp only [Bool.and_eq_true] at h3
  obtain ⟨f, hf1, hf2, h4⟩ := spanTo_iff.1 h3.2
  have e : pushN d.s t h a f.toNat c = x := beq_iff_eq.1 h4
  refine anyTo_iff.2 ⟨a, ha, ?_⟩
  rw [h3.1, Bool.true_and]
  exact spanTo_iff.2 ⟨f, hf1, hf2, by rw [e]; exact h2⟩
theorem stepH_dry {d : Dr} {t : Nat} {l h : Int} {c : Nat} {to : Int} (hw : dryB d.s c t h = true) : stepH d t l h c to = true ↔ to = c := by
 unfold stepH
 rw [if_pos hw, beq_iff_eq]
theorem stepH_some {d : Dr} (hd : d.Ok) {t : Nat} (ht : t + 1 < d.s.nt) {l h : Int} {c : Nat} (hc : c < d.s.nd) : ∃ x, stepH d t l h c x = true := by
 cases hw : dryB d.s c t h
 ·
  have hz := hd.z c hc
  obtain ⟨x, hx⟩ := pushT_some (s := d.s) (hd.cu (d.z c).toNat (by omega) t ht) t h (fun f => f) c
  by_cases h0 : x < 0
  · exact ⟨-1, (stepH_wet hw).2 ⟨x, hx, by rw [if_pos h0]; rfl⟩⟩
  ·
   obtain ⟨y, hy⟩ := pushT_some (s := d.s) (hd.wd t ht) t h (fun f => f * l / 4) x.toNat
   exact ⟨y, (stepH_wet hw).2 ⟨x, hx, by rw [if_neg h0]; exact hy⟩⟩
 · exact ⟨c, (stepH_dry hw).2 rfl⟩
theorem stepB_in {d : Dr} {t c : Nat} {l x : Int} : stepB d t l c x = spanTo (d.s.tide t 0) (d.s.tide t 1) fun h => stepH d t l h c x := by
 unfold stepB
 rw [if_neg (by omega), Int.toNat_natCast]
theorem stepL_ne {d : Dr} (hd : d.Ok) {t c : Nat} (ht : t + 1 < d.s.nt) {l : Int} (hc : c < d.s.nd) : 0 < (stepL d t l c).length := by
 have htd := hd.s.tide t (by omega)
 obtain ⟨x, hx⟩ := stepH_some hd ht (l := l) (h := d.s.tide t 0) hc
 have : x ∈ stepL d t l c := (mem_stepL hd (by omega)).2 (by rw [stepB_in]; exact spanTo_iff.2 ⟨_, Int.le_refl _, htd.2.1, hx⟩)
 exact List.length_pos_of_mem this
theorem asc_len {L : List Int} {nd : Nat} (h : L.Pairwise (· < ·)) (hb : ∀ x, x ∈ L → -1 ≤ x ∧ x < nd) : L.length ≤ nd + 1 := by
 have e : L = listB nd fun x => decide (x ∈ L) := asc_ext h (listB_sorted _ _) fun x => by
  rw [mem_listB, decide_eq_true_eq]
  exact ⟨fun hx => ⟨hb x hx, hx⟩, fun hx => hx.2⟩
 have := listB_len nd fun x => decide (x ∈ L)
 rw [← e] at this
 exact this
end Go.Proofs.YtnbeembnnjdmdaaGreatDoor.M
/- Drift, plain: the rows of tracks, as lists. No program. -/
namespace Go.Proofs.YtnbeembnnjdmdaaGreatDoor.M

theorem listB_congr {nd : Nat} {p q : Int → Bool} (h : ∀ x : Int, -1 ≤ x → x < nd → p x = q x) : listB nd p = listB nd q :=
 asc_ext (listB_sorted _ _) (listB_sorted _ _) fun x => by
  rw [mem_listB, mem_listB]
  exact and_congr_right fun hb => by rw [h x hb.1 hb.2]
theorem listB_filter {nd : Nat} {p q : Int → Bool} : (listB nd p).filter q = listB nd fun x => p x && q x :=
 asc_ext ((listB_sorted _ _).filter _) (listB_sorted _ _) fun x => by
  rw [List.mem_filter, mem_listB, mem_listB, Bool.and_eq_true, and_assoc]
section
variable (d : Dr) (at_ : Nat) (l : Int) (X : Int → Bool) (fit : Nat → Int → Bool)
def fwL (i : Nat) : List Int := listB d.s.nd (fw d at_ l X fit i)
def rwL (n i : Nat) : List Int := listB d.s.nd (rowB d at_ l X fit n i)
def gath (i : Nat) : List Int := listB d.s.nd fun y => anyC d.s.nd fun b => fw d at_ l X fit i b && stepB d (at_ + i) l b y
end
section
variable {d : Dr} {at_ : Nat} {l : Int} {X : Int → Bool} {fit : Nat → Int → Bool}
theorem fwL_zero {xL : List Int} (hx : xL.Pairwise (· < ·)) (hb : ∀ x, x ∈ xL → 0 ≤ x ∧ x < d.s.nd) : xL.filter (fun c => fit 0 c) = fwL d at_ l (fun c => xL.contains c) fit 0 :=
 asc_ext (hx.filter _) (listB_sorted _ _) fun x => by
  rw [List.mem_filter]
  unfold fwL
  rw [mem_listB]
  unfold fw
  rw [Bool.and_eq_true, List.contains_iff_mem]
  exact ⟨fun h => ⟨⟨by have := hb x h.1; omega, (hb x h.1).2⟩, h⟩, fun h => h.2⟩
theorem gath_mem (hd : d.Ok) {i : Nat} {x : Int} : x ∈ (fwL d at_ l X fit i).flatMap (fun c => stepL d (at_ + i) l c) ↔ x ∈ gath d at_ l X fit i := by
 unfold gath fwL
 rw [List.mem_flatMap, mem_listB, anyC_iff]
 constructor
 ·
  rintro ⟨b, hb, hx⟩
  have h1 := mem_listB.1 hb
  rw [mem_stepL hd h1.1.2] at hx
  exact ⟨stepB_bd hd h1.1.2 hx, b, h1.1.1, h1.1.2, by rw [h1.2, hx]; rfl⟩
 ·
  rintro ⟨_, b, h1, h2, h3⟩
  rw [Bool.and_eq_true] at h3
  exact ⟨b, mem_listB.2 ⟨⟨h1, h2⟩, h3.1⟩, (mem_stepL hd h2).2 h3.2⟩
theorem gath_filter {i : Nat} : (gath d at_ l X fit i).filter (fun c => fit (i + 1) c) = fwL d at_ l X fit (i + 1) := by
 unfold gath fwL
 rw [listB_filter]
 rfl
theorem rwL_last {n : Nat} : rwL d at_ l X fit n n = fwL d at_ l X fit n := by
 unfold rwL fwL rowB
 rw [Nat.sub_self]
 rfl
theorem rwL_step (hd : d.Ok) {n i : Nat} (hi : i < n) : (fwL d at_ l X fit i).filter (fun c => (stepL d (at_ + i) l c).any fun k => (rwL d at_ l X fit n (i + 1)).contains k) = rwL d at_ l X fit n i := by
 unfold fwL rwL
 rw [listB_filter]
 refine listB_congr fun x h1 h2 => ?_
 have e : rowB d at_ l X fit n i x = (fw d at_ l X fit i x && anyC d.s.nd fun b => stepB d (at_ + i) l x b && rowB d at_ l X fit n (i + 1) b) := by
  unfold rowB
  obtain ⟨k, rfl⟩ : ∃ k, n = i + 1 + k := ⟨n - (i + 1), by omega⟩
  rw [show i + 1 + k - i = k + 1 by omega, show i + 1 + k - (i + 1) = k by omega]
  unfold bw
  rw [show i + 1 + k - (k + 1) = i by omega]
  cases k <;> rfl
 rw [e]
 congr 1
 rw [Bool.eq_iff_iff, List.any_eq_true, anyC_iff]
 constructor
 ·
  rintro ⟨b, hb, hc⟩
  rw [mem_stepL hd h2] at hb
  rw [List.contains_iff_mem] at hc
  have := mem_listB.1 hc
  exact ⟨b, this.1.1, this.1.2, by rw [hb, this.2]; rfl⟩
 ·
  rintro ⟨b, hb1, hb2, hb3⟩
  rw [Bool.and_eq_true] at hb3
  exact ⟨b, (mem_stepL hd h2).2 hb3.1, by rw [List.contains_iff_mem]; exact mem_listB.2 ⟨⟨hb1, hb2⟩, hb3.2⟩⟩
theorem posB_len {n : Nat} : (rwL d at_ l X fit n 0).length = 0 ↔ posB d at_ l X fit n = false := by
 unfold rwL posB
 rw [List.length_eq_zero_iff]
 have := listB_ne (nd := d.s.nd) (p := rowB d at_ l X fit n 0)
 cases h : anyC d.s.nd (rowB d at_ l X fit n 0)
 ·
  rw [h] at this
  simp only [ne_eq, Bool.false_eq_true, iff_false, Decidable.not_not] at this
  simp [this]
 ·
  rw [h] at this
  simp only [ne_eq, iff_true] at this
  simp [this]
theorem asc_pw {_nd : Nat} {xL : List Int} (h : allTo xL.length (fun i => decide (i = 0) || decide (xL.getD (i - 1) 0 < xL.getD i 0)) = true) : xL.Pairwise (· < ·) := by
 have key : ∀ j i, i < j → j < xL.length → xL.getD i 0 < xL.getD j 0 := by
  intro j
  induction j with
  | zero => intro i hi; omega
  | succ j ih =>
   intro i hi hj
   have := allTo_iff.1 h (j + 1) hj
   simp only [Nat.add_one_sub_one, Bool.or_eq_true, decide_eq_true_eq] at this
   have h2 := this.resolve_left (by omega)
   by_cases e : i = j
   · subst e; exact h2
   · have := ih i (by omega) (by omega); omega
 rw [List.pairwise_iff_getElem]
 intro i j hi hj hij
 have := key j i hij hj
 rwa [List.getD_eq_getElem?_getD, List.getD_eq_getElem?_getD, List.getElem?_eq_getElem hi, List.getElem?_eq_getElem hj, Option.getD_some, Option.getD_some] at this
end
end Go.Proofs.YtnbeembnnjdmdaaGreatDoor.M
