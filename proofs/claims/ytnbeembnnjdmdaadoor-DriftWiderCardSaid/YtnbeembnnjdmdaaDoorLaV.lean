/- Drift, plain: wider pushes, leeways and first cells lose no history. No program. -/
import Derived.Test.YtnbeembnnjdmdaaDoorLaA
namespace Go.Proofs.YtnbeembnnjdmdaaDoor.M

/-- a push that is wider -/
structure Wid (p q : Nat → Int) : Prop where
  b : ∀ a, a < 6 → bitB (p 0) a = true → bitB (q 0) a = true
  lo : q 1 ≤ p 1
  hi : p 2 ≤ q 2
theorem pushT_wide {s : Sea} {p q : Nat → Int} (hw : Wid p q) {t : Nat} {h : Int} {g : Int → Int} {c : Nat} {x : Int} (h1 : pushT s p t h g c x = true) : pushT s q t h g c x = true := by
  obtain ⟨a, ha, h2⟩ := anyTo_iff.1 h1
  simp only [Bool.and_eq_true] at h2
  obtain ⟨f, hf1, hf2, h3⟩ := spanTo_iff.1 h2.2
  refine anyTo_iff.2 ⟨a, ha, ?_⟩
  simp only [Bool.and_eq_true]
  exact ⟨hw.b a ha h2.1, spanTo_iff.2 ⟨f, Int.le_trans hw.lo hf1, Int.le_trans hf2 hw.hi, h3⟩⟩
/-- the same drift, its pushes others -/
def Dr.with_ (d : Dr) (cu : Nat → Nat → Nat → Int) (wd : Nat → Nat → Int) : Dr := ⟨d.s, d.nz, d.z, cu, wd⟩
theorem stepB_wide {d : Dr} {cu : Nat → Nat → Nat → Int} {wd : Nat → Nat → Int} {t : Nat} (hc : ∀ z, Wid (d.cu z t) (cu z t)) (hw : Wid (d.wd t) (wd t)) {l c x : Int} (h : stepB d t l c x = true) : stepB (d.with_ cu wd) t l c x = true := by
  by_cases h0 : c < 0
  · unfold stepB at *
    rw [if_pos h0] at *
    exact h
  · obtain ⟨k, rfl⟩ : ∃ k : Nat, c = (k : Int) := ⟨c.toNat, by omega⟩
    rw [stepB_in] at *
    obtain ⟨y, h1, h2, h3⟩ := spanTo_iff.1 h
    refine spanTo_iff.2 ⟨y, h1, h2, ?_⟩
    cases hd : dryB d.s k t y
    · obtain ⟨m, h4, h5⟩ := (stepH_wet hd).1 h3
      refine (stepH_wet (d := d.with_ cu wd) hd).2 ⟨m, pushT_wide (hc _) h4, ?_⟩
      by_cases hm : m < 0
      · rw [if_pos hm] at *; exact h5
      · rw [if_neg hm] at *; exact pushT_wide hw h5
    · exact (stepH_dry (d := d.with_ cu wd) hd).2 ((stepH_dry hd).1 h3)
/-- directions that are more -/
def orI (x D : Int) : Int := ((x.toNat ||| D.toNat : Nat) : Int)
theorem bitB_nat (n a : Nat) : bitB (n : Int) a = n.testBit a := by
  unfold bitB
  rw [Nat.testBit_eq_decide_div_mod_eq, Bool.eq_iff_iff, beq_iff_eq, decide_eq_true_eq]
  constructor
  · intro h
    exact_mod_cast h
  · intro h
    exact_mod_cast h
theorem bitB_or {x D : Int} (hx : 0 ≤ x) {a : Nat} (h : bitB x a = true) : bitB (orI x D) a = true := by
  unfold orI
  rw [bitB_nat, Nat.testBit_or, Bool.or_eq_true]
  left
  rw [← bitB_nat, show ((x.toNat : Nat) : Int) = x by omega]
  exact h
theorem orI_bd {x D : Int} (hx : 1 ≤ x ∧ x ≤ 63) (hD : 0 ≤ D ∧ D ≤ 63) : 1 ≤ orI x D ∧ orI x D ≤ 63 := by
  unfold orI
  have h1 : x.toNat ||| D.toNat < 2 ^ 6 := Nat.or_lt_two_pow (by omega) (by omega)
  have h2 : x.toNat ≤ x.toNat ||| D.toNat := Nat.left_le_or
  omega
/-- the wind, widened -/
def widW (p : Nat → Int) (D S : Int) : Nat → Int := fun j => if j = 0 then orI (p 0) D else if j = 2 then max (p 2) S else p j
/-- a current, widened -/
def widC (p : Nat → Int) (D S : Int) : Nat → Int := fun j => if j = 0 then orI (p 0) D else if j = 1 then min (p 1) S else p j
section
variable {p : Nat → Int} {D S : Int}
theorem widW_wid (hp : pushB p = true) : Wid p (widW p D S) := by
  have h := pushB_iff.1 hp
  exact ⟨fun a _ hb => bitB_or (by omega) hb, Int.le_refl _, by show p 2 ≤ max (p 2) S; omega⟩
theorem widC_wid (hp : pushB p = true) : Wid p (widC p D S) := by
  have h := pushB_iff.1 hp
  exact ⟨fun a _ hb => bitB_or (by omega) hb, by show min (p 1) S ≤ p 1; omega, Int.le_refl _⟩
theorem widW_ok (hp : pushB p = true) (hD : 0 ≤ D ∧ D ≤ 63) (hS : 0 ≤ S ∧ S ≤ 3) : pushB (widW p D S) = true := by
  have h := pushB_iff.1 hp
  have := orI_bd h.1 hD
  exact pushB_iff.2 ⟨this, h.2.1, by show p 1 ≤ max (p 2) S; omega, by show max (p 2) S ≤ 3; omega⟩
theorem widC_ok (hp : pushB p = true) (hD : 0 ≤ D ∧ D ≤ 63) (hS : 0 ≤ S ∧ S ≤ 3) : pushB (widC p D S) = true := by
  have h := pushB_iff.1 hp
  have := orI_bd h.1 hD
  exact pushB_iff.2 ⟨this, by show 0 ≤ min (p 1) S; omega, by show min (p 1) S ≤ p 2; omega, by show p 2 ≤ 3; omega⟩
end
/-- the drift, widened -/
def Dr.wide (d : Dr) (D S : Int) : Dr := d.with_ (fun z t => widC (d.cu z t) D S) (fun t => widW (d.wd t) D S)
theorem Dr.Ok.wide {d : Dr} (hd : d.Ok) {D S : Int} (hD : 0 ≤ D ∧ D ≤ 63) (hS : 0 ≤ S ∧ S ≤ 3) : (d.wide D S).Ok :=
  ⟨hd.s, hd.z1, hd.z4, hd.z, fun i hi t ht => widC_ok (hd.cu i hi t ht) hD hS, fun t ht => widW_ok (hd.wd t ht) hD hS⟩
theorem stepB_wider {d : Dr} (hd : d.Ok) {D S : Int} {t : Nat} (ht : t + 1 < d.s.nt) {l c x : Int} (hc : c < d.s.nd) (h : stepB d t l c x = true) : stepB (d.wide D S) t l c x = true := by
  by_cases h0 : c < 0
  · unfold stepB at *
    rw [if_pos h0] at *
    exact h
  · obtain ⟨k, rfl⟩ : ∃ k : Nat, c = (k : Int) := ⟨c.toNat, by omega⟩
    have hz := hd.z k (by omega)
    rw [stepB_in] at *
    obtain ⟨y, h1, h2, h3⟩ := spanTo_iff.1 h
    refine spanTo_iff.2 ⟨y, h1, h2, ?_⟩
    cases hdr : dryB d.s k t y
    · obtain ⟨m, h4, h5⟩ := (stepH_wet hdr).1 h3
      refine (stepH_wet (d := d.wide D S) hdr).2 ⟨m, pushT_wide (widC_wid (hd.cu (d.z k).toNat (by omega) t ht)) h4, ?_⟩
      by_cases hm : m < 0
      · rw [if_pos hm] at *; exact h5
      · rw [if_neg hm] at *; exact pushT_wide (widW_wid (hd.wd t ht)) h5
    · exact (stepH_dry (d := d.wide D S) hdr).2 ((stepH_dry hdr).1 h3)
theorem Hist.wide {d : Dr} (hd : d.Ok) {D S : Int} {at_ n : Nat} (hn : at_ + n < d.s.nt) {l : Int} {X X' : Int → Bool} {fit : Nat → Int → Bool} {f : Nat → Int} (hf : Hist d at_ l X fit n f) (hX : ∀ c, X c = true → X' c = true) : Hist (d.wide D S) at_ l X' fit n f :=
  ⟨hf.bd, hX _ hf.x0, hf.fit, fun i hi => stepB_wider hd (by omega) (hf.bd i (by omega)).2 (hf.go i hi)⟩
/-- the cells from 0 on, below k, of a set -/
def cellK (k : Nat) (p : Int → Bool) : List Int := ((List.range k).map fun (i : Nat) => (i : Int)).filter p
theorem cellK_succ (k : Nat) (p : Int → Bool) : cellK (k + 1) p = cellK k p ++ if p (k : Int) then [(k : Int)] else [] := by
  unfold cellK
  rw [List.range_succ, List.map_append, List.filter_append]
  congr 1
  cases h : p (k : Int) <;> simp [h]
theorem cellK_len (k : Nat) (p : Int → Bool) : (cellK k p).length ≤ k := by
  unfold cellK
  refine Nat.le_trans (List.length_filter_le _ _) ?_
  simp
theorem mem_cellK {k : Nat} {p : Int → Bool} {x : Int} : x ∈ cellK k p ↔ (0 ≤ x ∧ x < k) ∧ p x = true := by
  unfold cellK
  rw [List.mem_filter, List.mem_map]
  constructor
  · rintro ⟨⟨i, hi, rfl⟩, h⟩
    rw [List.mem_range] at hi
    exact ⟨by omega, h⟩
  · rintro ⟨⟨h1, h2⟩, h⟩
    exact ⟨⟨x.toNat, List.mem_range.2 (by omega), by omega⟩, h⟩
theorem cellK_sorted (k : Nat) (p : Int → Bool) : (cellK k p).Pairwise (· < ·) := by
  unfold cellK
  refine List.Pairwise.filter _ ?_
  rw [List.pairwise_map]
  exact List.pairwise_lt_range.imp fun h => by omega
end Go.Proofs.YtnbeembnnjdmdaaDoor.M
