/- Fewer legs, no tow, an empty level. Plain. -/
import Derived.Test.YtkdpmihdhiokkaaDoorLaB
namespace Go.Proofs.YtkdpmihdhiokkaaDoor.M

section
variable {s : Sea} {L L' : Nat → Leg} {n n' : Nat} {r r' : Trip}
theorem hit_sub {lv : Int} {tl : Bool} {p q t : Int} (h : ∀ i, i < n' → ∃ j, j < n ∧ L' i = L j) (hh : hit L' n' lv tl p q t = true) : hit L n lv tl p q t = true := by
  obtain ⟨i, hi, h1⟩ := anyTo_iff.1 hh
  obtain ⟨j, hj, e⟩ := h i hi
  exact anyTo_iff.2 ⟨j, hj, by rw [← e]; exact h1⟩
theorem goes_sub (h : ∀ i, i < n' → ∃ j, j < n ∧ L' i = L j) {p : Int} {q t : Nat} (hg : goes s L n r p q t = true) : goes s L' n' r p q t = true := by
  unfold goes at *
  simp only [Bool.and_eq_true, Bool.not_eq_true'] at *
  refine ⟨hg.1, ?_⟩
  cases hh : hit L' n' r.lv r.tail p q t
  · rfl
  · have := hit_sub (n := n) (L := L) h hh
    rw [hg.2] at this; cases this
theorem goes_light {p : Int} {q t : Nat} (hg : goes s L n r p q t = true) : goes s L n { r with tail := false } p q t = true := by
  unfold goes at *
  simp only [Bool.and_eq_true, Bool.not_eq_true'] at *
  refine ⟨hg.1, ?_⟩
  refine anyTo_false.2 fun i hi => ?_
  have h1 := anyTo_false.1 hg.2 i hi
  cases hc : (decide (0 ≤ atC (L i) t) && clash r.lv (L i).lv false (L i).tail p q (atC (L i) ((t : Int) - 1)) (atC (L i) t))
  · rfl
  · simp only [Bool.and_eq_true] at hc
    have := clash_light (tl := r.tail) hc.2
    rw [hc.1, this] at h1
    cases h1
theorem reach_mono (hat : r'.at_ = r.at_) (hfr : r'.from_ = r.from_) (hg : ∀ p q t, goes s L n r p q t = true → goes s L' n' r' p q t = true) : ∀ {k c}, reach s L n r k c = true → reach s L' n' r' k c = true
  | 0, c, h => by
    simp only [reach, Bool.and_eq_true, decide_eq_true_eq] at *
    rw [hfr, hat]
    exact ⟨h.1, hg _ _ _ h.2⟩
  | k + 1, c, h => by
    simp only [reach] at *
    obtain ⟨b, hb, h1⟩ := anyTo_iff.1 h
    simp only [Bool.and_eq_true] at h1
    refine anyTo_iff.2 ⟨b, hb, ?_⟩
    simp only [Bool.and_eq_true]
    rw [hat]
    exact ⟨⟨reach_mono hat hfr hg h1.1.1, h1.1.2⟩, hg _ _ _ h1.2⟩
theorem endK_mono (hat : r'.at_ = r.at_) (hfr : r'.from_ = r.from_) (hto : r'.to_ = r.to_) (hg : ∀ p q t, goes s L n r p q t = true → goes s L' n' r' p q t = true) (h : endK s L n r < s.nt - r.at_.toNat) : endK s L' n' r' ≤ endK s L n r := by
  unfold endK at *
  rw [hat, hto]
  exact firstTo_lt h (reach_mono hat hfr hg ((firstTo_spec _ (fun k => reach s L n r k r.to_.toNat)).2 h))
/-- an empty level, high up -/
theorem goes_alone (hlv : 0 < r.lv) (hal : ∀ i, i < n → (L i).lv ≠ r.lv) (p : Int) (q t : Nat) : goes s L n r p q t = true := by
  unfold goes can
  rw [decide_eq_true hlv]
  simp only [Bool.true_or, Bool.true_and, Bool.not_eq_true']
  refine anyTo_false.2 fun i hi => ?_
  have : decide (r.lv = (L i).lv) = false := decide_eq_false fun e => hal i hi e.symm
  unfold clash
  rw [this]; simp
/-- all cells so many steps from one -/
def ball (s : Sea) (a : Nat) : Nat → Nat → Bool
  | 0, c => c == a
  | k + 1, c => anyTo s.nd fun b => ball s a k b && adj s.W s.H b c
theorem reach_ball {a : Nat} (hlv : 0 < r.lv) (hal : ∀ i, i < n → (L i).lv ≠ r.lv) (ha : r.from_ = (a : Int)) : ∀ k c, reach s L n r k c = ball s a k c
  | 0, c => by
    simp only [reach, ball]
    rw [goes_alone hlv hal, Bool.and_true, ha]
    apply bool_ext
    simp only [decide_eq_true_eq, beq_iff_eq]
    omega
  | k + 1, c => by
    simp only [reach, ball]
    refine anyTo_congr fun b _ => ?_
    rw [goes_alone hlv hal, Bool.and_true, reach_ball hlv hal ha k b]
theorem ball_self (s : Sea) {a k c : Nat} (hc : c < s.nd) (h : ball s a k c = true) : ball s a (k + 1) c = true :=
  anyTo_iff.2 ⟨c, hc, by simp only [Bool.and_eq_true]; exact ⟨h, adj_iff.2 (.inl rfl)⟩⟩
end
end Go.Proofs.YtkdpmihdhiokkaaDoor.M
