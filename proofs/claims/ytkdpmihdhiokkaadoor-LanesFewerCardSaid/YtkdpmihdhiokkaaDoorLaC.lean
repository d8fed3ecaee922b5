/- Valid legs, as the program tests them. Plain. -/
import Derived.Test.YtkdpmihdhiokkaaDoorLaB
namespace Go.Proofs.YtkdpmihdhiokkaaDoor.M

def legPre (s : Sea) (l : Leg) : Bool := decide (0 < l.n) && (decide (l.n ≤ s.nt) && (inB 0 ((s.nt : Int) - 1) l.at_ && (inB 0 ((s.nt : Int) - 1) (l.at_ + l.n - 1) && (allTo l.n (fun i => inB 0 ((s.nd : Int) - 1) (l.c i)) && unit l.lv l.dr))))
def legGo (s : Sea) (l : Leg) (i : Nat) : Bool := (i == 0 || adj s.W s.H (l.c (i - 1)).toNat (l.c i).toNat) && can s l.lv l.dr (l.c i).toNat (l.at_ + i).toNat
theorem legOk_split (s : Sea) (l : Leg) : legOk s l = (legPre s l && allTo l.n (legGo s l)) := by
  apply bool_ext
  unfold legOk legPre legStep legGo
  simp only [Bool.and_eq_true, decide_eq_true_eq, allTo_iff, inB_iff]
  constructor
  · rintro ⟨⟨⟨⟨⟨h1, h2⟩, h3⟩, h4⟩, h5⟩, h6⟩
    exact ⟨⟨h2, h4, by omega, by omega, fun i hi => (h6 i hi).1.1, h1⟩, fun i hi => ⟨(h6 i hi).2, (h6 i hi).1.2⟩⟩
  · rintro ⟨⟨h2, h4, h3, h5, h7, h1⟩, h6⟩
    exact ⟨⟨⟨⟨⟨h1, h2⟩, by omega⟩, h4⟩, by omega⟩, fun i hi => ⟨⟨h7 i hi, (h6 i hi).2⟩, (h6 i hi).1⟩⟩
theorem unit_if (lv dr : Int) : unit lv dr = if lv = 0 then inB 1 100 dr else (inB 1 3 lv && decide (dr = 0)) := by
  unfold unit
  by_cases h : lv = 0
  · subst h; simp [inB]
  · simp [h]
theorem unit_dr {lv dr : Int} (h : unit lv dr = true) (h0 : lv ≤ 0) : lv = 0 ∧ 1 ≤ dr ∧ dr ≤ 100 := by
  rw [unit_if] at h
  by_cases h1 : lv = 0
  · rw [if_pos h1] at h
    exact ⟨h1, inB_iff.1 h⟩
  · rw [if_neg h1] at h
    simp only [Bool.and_eq_true, inB_iff] at h
    omega
end Go.Proofs.YtkdpmihdhiokkaaDoor.M
