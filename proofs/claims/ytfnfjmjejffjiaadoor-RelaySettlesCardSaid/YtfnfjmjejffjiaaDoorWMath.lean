/- Words: letters, distances, vocabularies, what is possible. Plain, no program. -/
namespace Go.Proofs.YtfnfjmjejffjiaaDoor.M

def sumTo : Nat → (Nat → Int) → Int
  | 0, _ => 0
  | n + 1, f => sumTo n f + f n
def anyTo : Nat → (Nat → Bool) → Bool
  | 0, _ => false
  | n + 1, p => anyTo n p || p n
def allTo : Nat → (Nat → Bool) → Bool
  | 0, _ => true
  | n + 1, p => allTo n p && p n
theorem allTo_iff {n : Nat} {p : Nat → Bool} : allTo n p = true ↔ ∀ i, i < n → p i = true := by
  induction n with
  | zero => exact ⟨fun _ i hi => absurd hi (by omega), fun _ => rfl⟩
  | succ n ih =>
    simp only [allTo, Bool.and_eq_true, ih]
    constructor
    · intro h i hi
      rcases Nat.lt_succ_iff_lt_or_eq.1 hi with h1 | h1
      · exact h.1 i h1
      · subst h1; exact h.2
    · exact fun h => ⟨fun i hi => h i (by omega), h n (by omega)⟩
theorem anyTo_iff {n : Nat} {p : Nat → Bool} : anyTo n p = true ↔ ∃ i, i < n ∧ p i = true := by
  induction n with
  | zero => exact ⟨fun h => (by cases h), fun ⟨i, hi, _⟩ => absurd hi (by omega)⟩
  | succ n ih =>
    simp only [anyTo, Bool.or_eq_true, ih]
    constructor
    · rintro (⟨i, hi, h⟩ | h)
      · exact ⟨i, by omega, h⟩
      · exact ⟨n, by omega, h⟩
    · rintro ⟨i, hi, h⟩
      rcases Nat.lt_succ_iff_lt_or_eq.1 hi with h1 | h1
      · exact .inl ⟨i, h1, h⟩
      · subst h1; exact .inr h
theorem allTo_congr {n : Nat} {p q : Nat → Bool} (h : ∀ i, i < n → p i = q i) : allTo n p = allTo n q := by
  induction n with
  | zero => rfl
  | succ n ih => simp only [allTo]; rw [ih fun i hi => h i (by omega), h n (by omega)]
theorem anyTo_congr {n : Nat} {p q : Nat → Bool} (h : ∀ i, i < n → p i = q i) : anyTo n p = anyTo n q := by
  induction n with
  | zero => rfl
  | succ n ih => simp only [anyTo]; rw [ih fun i hi => h i (by omega), h n (by omega)]
theorem any_all {n : Nat} {p : Nat → Bool} : anyTo n (fun i => !p i) = !allTo n p := by
  induction n with
  | zero => rfl
  | succ n ih => simp only [anyTo, allTo, ih, Bool.not_and]
theorem sumTo_congr {n : Nat} {f g : Nat → Int} (h : ∀ i, i < n → f i = g i) : sumTo n f = sumTo n g := by
  induction n with
  | zero => rfl
  | succ n ih => simp only [sumTo]; rw [ih fun i hi => h i (by omega), h n (by omega)]
theorem sumTo_bd {n : Nat} {f : Nat → Int} {c : Int} (h : ∀ i, i < n → 0 ≤ f i ∧ f i ≤ c) : 0 ≤ sumTo n f ∧ sumTo n f ≤ n * c := by
  induction n with
  | zero => simp [sumTo]
  | succ n ih =>
    have h1 := ih fun i hi => h i (by omega)
    have h2 := h n (by omega)
    have h3 : ((n + 1 : Nat) : Int) * c = n * c + c := by rw [Int.natCast_succ, Int.add_mul, Int.one_mul]
    simp only [sumTo]
    omega

/-- a byte of a string -/
def chr (s : ByteArray) (i : Nat) : Nat := (s.data.toList.getD i 0).toNat
theorem chr_lt (s : ByteArray) (i : Nat) : chr s i < 256 := (s.data.toList.getD i 0).toNat_lt
theorem chr_at (s : ByteArray) (i : Nat) (h : i < s.size) : (s[i]'h).toNat = chr s i := by
  unfold chr
  have h' : i < s.data.toList.length := h
  rw [List.getD_eq_getElem?_getD, List.getElem?_eq_getElem h']
  rfl
theorem ext_chr {a b : ByteArray} (hs : a.size = b.size) (h : ∀ i, i < a.size → chr a i = chr b i) : a = b := by
  have h1 : a.data.toList = b.data.toList := by
    refine List.ext_getElem hs fun i h1 h2 => ?_
    have h3 := h i h1
    unfold chr at h3
    rw [List.getD_eq_getElem?_getD, List.getD_eq_getElem?_getD, List.getElem?_eq_getElem h1, List.getElem?_eq_getElem h2] at h3
    exact UInt8.toNat_inj.1 h3
  have h2 : a.data = b.data := Array.toList_inj.1 h1
  cases a; cases b
  simp only at h2
  rw [h2]
def low (s : ByteArray) : Bool := allTo s.size fun i => decide (97 ≤ chr s i) && decide (chr s i ≤ 122)
def isW (s : ByteArray) : Bool := decide (1 ≤ s.size) && decide (s.size ≤ 12) && low s
def dstTo (n : Nat) (a b : ByteArray) : Int := sumTo n fun i => if chr a i = chr b i then 0 else 1
def dst (a b : ByteArray) : Int := dstTo a.size a b
theorem dstTo_bd (n : Nat) (a b : ByteArray) : 0 ≤ dstTo n a b ∧ dstTo n a b ≤ n := by
  have := sumTo_bd (n := n) (f := fun i => if chr a i = chr b i then 0 else 1) (c := 1) fun i _ => by split <;> omega
  unfold dstTo; omega
/-- one word of a vocabulary, among those before it -/
def vocAt (f : Nat → ByteArray) (i : Nat) : Bool := isW (f i) && decide ((f i).size = (f 0).size) && !(anyTo i fun k => decide (f k = f i))
def isV (n : Nat) (f : Nat → ByteArray) : Bool := decide (n ≤ 20) && allTo n (vocAt f)
def radAt (wn : Nat) (f g : Nat → ByteArray) (i : Nat) : Bool := isW (g i) && decide ((g i).size = (g 0).size) && (decide (wn = 0) || decide ((g i).size = (f 0).size))
def isR (wn : Nat) (f : Nat → ByteArray) (n : Nat) (g : Nat → ByteArray) (e : Int) : Bool := decide (1 ≤ n) && decide (n ≤ 8) && decide (0 ≤ e) && decide (e ≤ 12) && allTo n (radAt wn f g)
def may (n : Nat) (g : Nat → ByteArray) (e : Int) (s : ByteArray) : Bool := allTo n fun k => decide (dst s (g k) ≤ e)
def elP (n : Nat) (P : Nat → Bool) : List Nat := (List.range n).filter P
theorem elP_succ (n : Nat) (P : Nat → Bool) : elP (n + 1) P = elP n P ++ (if P n then [n] else []) := by
  unfold elP
  rw [List.range_succ, List.filter_append]
  cases h : P n <;> simp [h]
theorem elP_len (n : Nat) (P : Nat → Bool) : (elP n P).length ≤ n := by
  have := List.length_filter_le P (List.range n)
  rw [List.length_range] at this
  exact this
theorem mem_elP {n : Nat} {P : Nat → Bool} {i : Nat} : i ∈ elP n P ↔ i < n ∧ P i = true := by
  unfold elP; simp [List.mem_filter]
end Go.Proofs.YtfnfjmjejffjiaaDoor.M
