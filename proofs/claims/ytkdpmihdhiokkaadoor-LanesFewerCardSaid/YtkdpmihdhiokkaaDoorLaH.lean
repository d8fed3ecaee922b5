/- What the program keeps for each tick: from where each cell is come to. Plain. -/
import Derived.Test.YtkdpmihdhiokkaaDoorLaD
import Derived.Test.YtkdpmihdhiokkaaDoorLaN
namespace Go.Proofs.YtkdpmihdhiokkaaDoor.M

section
variable (s : Sea) (L : Nat → Leg) (n : Nat) (r : Trip)
/-- from where a cell is come to, so many ticks behind the first; -1: it is not -/
def comeV (k c : Nat) : Int := if reach s L n r k c then (if k = 0 then (c : Int) else (pred s L n r (k - 1) c : Nat)) else -1
def tryB (k c i : Nat) : Bool := reach s L n r k ((nearL s.W s.H c).getD i 0).toNat && goes s L n r ((nearL s.W s.H c).getD i 0) c (r.at_.toNat + (k + 1))
end
section
variable {s : Sea} {L : Nat → Leg} {n : Nat} {r : Trip}
theorem comeV_reach (k c : Nat) : decide (comeV s L n r k c < 0) = !reach s L n r k c := by
  unfold comeV
  cases reach s L n r k c
  · rfl
  · simp only [if_true, Bool.not_true]
    split <;> exact decide_eq_false (by omega)
theorem comeV_zero (c : Nat) (hf : (c : Int) = r.from_) : comeV s L n r 0 c = if goes s L n r (-1) c r.at_.toNat then (c : Int) else -1 := by
  unfold comeV
  have : reach s L n r 0 c = goes s L n r (-1) c r.at_.toNat := by simp [reach, hf]
  rw [this]
  simp
theorem comeV_zero' (c : Nat) (hf : (c : Int) ≠ r.from_) : comeV s L n r 0 c = -1 := by
  unfold comeV
  have : reach s L n r 0 c = false := by simp [reach, hf]
  rw [this]
  simp
theorem comeV_first {k c i : Nat} (hnd : s.nd = s.W * s.H) (hc : c < s.nd) (hi : i < (nearL s.W s.H c).length) (hb : ∀ j, j < i → tryB s L n r k c j = false) (h : tryB s L n r k c i = true) : comeV s L n r (k + 1) c = (nearL s.W s.H c).getD i 0 := by
  obtain ⟨b, e, ha⟩ := nearL_get hi
  have hbn : b < s.nd := by rw [hnd]; exact adj_lt (by rw [← hnd]; exact hc) ha
  unfold tryB at h
  rw [e, Int.toNat_natCast, Bool.and_eq_true] at h
  have hab : adj s.W s.H b c = true := by rw [adj_comm (by rw [← hnd]; exact hbn) (by rw [← hnd]; exact hc)]; exact ha
  have hq : (reach s L n r k b && adj s.W s.H b c && goes s L n r b c (r.at_.toNat + (k + 1))) = true := by rw [h.1, hab, h.2]; rfl
  have hre : reach s L n r (k + 1) c = true := anyTo_iff.2 ⟨b, hbn, hq⟩
  have hle : pred s L n r k c ≤ b := firstTo_lt (p := fun b => reach s L n r k b && adj s.W s.H b c && goes s L n r b c (r.at_.toNat + (k + 1))) hbn hq
  obtain ⟨p1, p2, p3, p4⟩ := pred_spec hre
  rw [adj_comm (by rw [← hnd]; exact p1) (by rw [← hnd]; exact hc)] at p3
  obtain ⟨j, hj, ej⟩ := nearL_idx p3
  unfold comeV
  rw [hre, if_pos rfl, if_neg (by omega), Nat.add_sub_cancel, e]
  rcases Nat.lt_or_ge j i with hji | hji
  · have := hb j hji
    unfold tryB at this
    rw [ej, Int.toNat_natCast, p2, p4] at this
    cases this
  · have := nearL_le hji hj
    rw [e, ej] at this
    omega
theorem comeV_none {k c : Nat} (hnd : s.nd = s.W * s.H) (hc : c < s.nd) (hb : ∀ j, j < (nearL s.W s.H c).length → tryB s L n r k c j = false) : comeV s L n r (k + 1) c = -1 := by
  unfold comeV
  cases hre : reach s L n r (k + 1) c
  · simp
  · obtain ⟨p1, p2, p3, p4⟩ := pred_spec hre
    rw [adj_comm (by rw [← hnd]; exact p1) (by rw [← hnd]; exact hc)] at p3
    obtain ⟨j, hj, ej⟩ := nearL_idx p3
    have := hb j hj
    unfold tryB at this
    rw [ej, Int.toNat_natCast, p2, p4] at this
    cases this
theorem firstTo_eq {m k : Nat} {p : Nat → Bool} (hk : k < m) (h : p k = true) (hb : ∀ j, j < k → p j = false) : firstTo m p = k := by
  have h1 := firstTo_lt hk h
  have h2 := (firstTo_spec m p).2 (by omega)
  rcases Nat.lt_or_ge (firstTo m p) k with h3 | h3
  · rw [hb _ h3] at h2; cases h2
  · omega
theorem firstTo_none {m : Nat} {p : Nat → Bool} (hb : ∀ j, j < m → p j = false) : firstTo m p = m := by
  have h1 := firstTo_le m p
  rcases Nat.lt_or_ge (firstTo m p) m with h3 | h3
  · have h2 := (firstTo_spec m p).2 h3
    rw [hb _ h3] at h2; cases h2
  · omega
theorem endK_eq {k : Nat} (hk : k < s.nt - r.at_.toNat) (h : reach s L n r k r.to_.toNat = true) (hb : ∀ j, j < k → reach s L n r j r.to_.toNat = false) : endK s L n r = k := firstTo_eq hk h hb
theorem endK_none (hb : ∀ j, j < s.nt - r.at_.toNat → reach s L n r j r.to_.toNat = false) : endK s L n r = s.nt - r.at_.toNat := firstTo_none hb
/-- one step back -/
theorem comeV_bk {K j : Nat} (hK : reach s L n r K r.to_.toNat = true) (hj : j < K) : comeV s L n r (K - j) (bk s L n r K j) = (bk s L n r K (j + 1) : Nat) := by
  unfold comeV
  rw [bk_reach hK j (by omega), if_pos rfl, if_neg (by omega), Nat.sub_sub]
  rfl
end
end Go.Proofs.YtkdpmihdhiokkaaDoor.M
