/- The handover of a call: states as functions, its steps, and what always holds. Plain, no program. -/
namespace Go.Proofs.YtfnfjmjejffjiaaDoor

def M.v3 (a b c : Int) : Nat → Int := fun j => if j = 0 then a else if j = 1 then b else c
def M.v4 (a b c d : Int) : Nat → Int := fun j => if j = 0 then a else if j = 1 then b else if j = 2 then c else d
/-- a call: centres (status, with, turn), messages (kind, from, to, turn), and how many of these -/
structure M.St where
  c : Nat → Nat → Int
  m : Nat → Nat → Int
  k : Nat
def M.setC (s : M.St) (i : Nat) (v : Nat → Int) : M.St := ⟨fun a => if a = i then v else s.c a, s.m, s.k⟩
def M.add (s : M.St) (v : Nat → Int) : M.St := ⟨s.c, fun a => if a = s.k then v else s.m a, s.k + 1⟩
def M.send (s : M.St) (kind f o : Int) : M.St := M.add s (M.v4 kind f o (s.c f.toNat 2))
def M.drop (s : M.St) (at_ : Nat) : M.St := ⟨s.c, fun a => if a < at_ then s.m a else if a + 1 < s.k then s.m (a + 1) else fun _ => 0, s.k - 1⟩
def M.handle (s : M.St) (x : Nat → Int) : M.St :=
  if x 0 = 1 ∧ (s.c (x 2).toNat 0 = 0 ∨ s.c (x 2).toNat 0 = 4) ∧ s.c (x 2).toNat 2 < x 3 then M.send (M.setC s (x 2).toNat (M.v3 3 (x 1) (x 3))) 2 (x 2) (x 1)
  else if x 0 = 1 ∧ s.c (x 2).toNat 0 = 3 ∧ s.c (x 2).toNat 1 = x 1 ∧ s.c (x 2).toNat 2 = x 3 then M.send s 2 (x 2) (x 1)
  else if x 0 = 2 ∧ s.c (x 2).toNat 0 = 2 ∧ s.c (x 2).toNat 1 = x 1 ∧ s.c (x 2).toNat 2 = x 3 then M.send (M.setC s (x 2).toNat (M.v3 4 (s.c (x 2).toNat 1) (s.c (x 2).toNat 2))) 3 (x 2) (x 1)
  else if x 0 = 2 ∧ s.c (x 2).toNat 0 = 4 ∧ s.c (x 2).toNat 1 = x 1 ∧ s.c (x 2).toNat 2 = x 3 then M.send s 3 (x 2) (x 1)
  else if x 0 = 3 ∧ s.c (x 2).toNat 0 = 3 ∧ s.c (x 2).toNat 1 = x 1 ∧ s.c (x 2).toNat 2 = x 3 then M.setC s (x 2).toNat (M.v3 1 0 (s.c (x 2).toNat 2))
  else s
def M.offer (n : Nat) (s : M.St) (a b : Int) : Option M.St :=
  if 0 ≤ a ∧ a < n ∧ 0 ≤ b ∧ b < n ∧ a ≠ b ∧ s.k < 6 ∧ s.c a.toNat 0 = 1 ∧ s.c a.toNat 2 < 9 then some (M.send (M.setC s a.toNat (M.v3 2 b (s.c a.toNat 2 + 1))) 1 a b) else none
def M.again (n : Nat) (s : M.St) (a : Int) : Option M.St :=
  if 0 ≤ a ∧ a < n ∧ s.k < 6 then (if s.c a.toNat 0 = 2 then some (M.send s 1 a (s.c a.toNat 1)) else if s.c a.toNat 0 = 3 then some (M.send s 2 a (s.c a.toNat 1)) else none) else none
def M.step (n : Nat) (s : M.St) (k a b : Int) : Option M.St :=
  if k = 1 then M.offer n s a b
  else if b ≠ 0 then none
  else if k = 5 then M.again n s a
  else if ¬ (0 ≤ a ∧ a < s.k) then none
  else if k = 2 then some (M.handle (M.drop s a.toNat) (s.m a.toNat))
  else if k = 3 then some (M.drop s a.toNat)
  else if k = 4 then (if s.k < 6 then some (M.add s (s.m a.toNat)) else none)
  else none
def M.init (first : Int) : M.St := ⟨fun i => if i = first.toNat then M.v3 1 0 0 else fun _ => 0, fun _ _ => 0, 0⟩
def M.go (n : Nat) (s : M.St) (k a b : Int) : M.St := (M.step n s k a b).getD s
def M.runF (n : Nat) (first : Int) (E : Nat → Nat → Int) : Nat → M.St
  | 0 => M.init first
  | i + 1 => M.go n (M.runF n first E i) (E i 0) (E i 1) (E i 2)
def M.done (n : Nat) (first : Int) (E : Nat → Nat → Int) (i : Nat) : Bool := (M.step n (M.runF n first E i) (E i 0) (E i 1) (E i 2)).isSome

/-- every message in flight -/
def M.All (s : M.St) (P : (Nat → Int) → Prop) : Prop := ∀ a, a < s.k → P (s.m a)
section
variable {s : M.St} {P Q : (Nat → Int) → Prop}
theorem M.All.mono (h : M.All s P) (hq : ∀ x, P x → Q x) : M.All s Q := fun a ha => hq _ (h a ha)
theorem M.All.drop (h : M.All s P) {i : Nat} (hi : i < s.k) : M.All (M.drop s i) P := fun a ha => by
  have ha : a < s.k - 1 := ha
  show P (if a < i then s.m a else if a + 1 < s.k then s.m (a + 1) else fun _ => 0)
  split
  · exact h a (by omega)
  · rw [if_pos (by omega)]; exact h _ (by omega)
theorem M.All.add (h : M.All s P) {v : Nat → Int} (hv : P v) : M.All (M.add s v) P := fun a ha => by
  have ha : a < s.k + 1 := ha
  show P (if a = s.k then v else s.m a)
  split
  · exact hv
  · exact h a (by omega)
end
/-- the least that holds of a state of n centres -/
structure M.Wf (n : Nat) (s : M.St) : Prop where
  k6 : s.k ≤ 6
  cen : ∀ i, i < n → 0 ≤ s.c i 0 ∧ s.c i 0 ≤ 4 ∧ 0 ≤ s.c i 1 ∧ s.c i 1 < n ∧ 0 ≤ s.c i 2 ∧ s.c i 2 ≤ 9
  msg : M.All s fun x => 0 ≤ x 0 ∧ x 0 ≤ 3 ∧ 0 ≤ x 1 ∧ x 1 < n ∧ 0 ≤ x 2 ∧ x 2 < n ∧ 0 ≤ x 3 ∧ x 3 ≤ 9
section
variable {n : Nat} {s t : M.St}
theorem M.Wf.setC (h : M.Wf n s) {i : Nat} {v : Nat → Int} (hv : 0 ≤ v 0 ∧ v 0 ≤ 4 ∧ 0 ≤ v 1 ∧ v 1 < n ∧ 0 ≤ v 2 ∧ v 2 ≤ 9) : M.Wf n (M.setC s i v) := by
  refine ⟨h.k6, fun a ha => ?_, h.msg⟩
  simp only [M.setC]
  by_cases e : a = i
  · rw [if_pos e]; exact hv
  · rw [if_neg e]; exact h.cen a ha
theorem M.Wf.add (h : M.Wf n s) {v : Nat → Int} (hk : s.k < 6) (hv : 0 ≤ v 0 ∧ v 0 ≤ 3 ∧ 0 ≤ v 1 ∧ v 1 < n ∧ 0 ≤ v 2 ∧ v 2 < n ∧ 0 ≤ v 3 ∧ v 3 ≤ 9) : M.Wf n (M.add s v) :=
  ⟨hk, h.cen, h.msg.add hv⟩
theorem M.Wf.drop (h : M.Wf n s) {i : Nat} (hi : i < s.k) : M.Wf n (M.drop s i) :=
  ⟨by have := h.k6; show s.k - 1 ≤ 6; omega, h.cen, h.msg.drop hi⟩
theorem M.Wf.send (h : M.Wf n s) {kind f o : Int} (hk : s.k < 6) (h1 : 0 ≤ kind ∧ kind ≤ 3) (hf : 0 ≤ f ∧ f < n) (ho : 0 ≤ o ∧ o < n) : M.Wf n (M.send s kind f o) := by
  have hc := h.cen f.toNat (by omega)
  exact h.add hk ⟨h1.1, h1.2, hf.1, hf.2, ho.1, ho.2, hc.2.2.2.2.1, hc.2.2.2.2.2⟩
theorem M.Wf.handle (h : M.Wf n s) (hk : s.k < 6) {x : Nat → Int} (hx : 0 ≤ x 0 ∧ x 0 ≤ 3 ∧ 0 ≤ x 1 ∧ x 1 < n ∧ 0 ≤ x 2 ∧ x 2 < n ∧ 0 ≤ x 3 ∧ x 3 ≤ 9) : M.Wf n (M.handle s x) := by
  have hc := h.cen (x 2).toNat (by omega)
  unfold M.handle
  split
  · exact M.Wf.send (h.setC (by simp [M.v3]; omega)) hk (by omega) (by omega) (by omega)
  split
  · exact h.send hk (by omega) (by omega) (by omega)
  split
  · exact M.Wf.send (h.setC (by simp [M.v3]; omega)) hk (by omega) (by omega) (by omega)
  split
  · exact h.send hk (by omega) (by omega) (by omega)
  split
  · exact h.setC (by simp [M.v3]; omega)
  · exact h
theorem M.Wf.step (h : M.Wf n s) {k a b : Int} (ht : M.step n s k a b = some t) : M.Wf n t := by
  have h6 := h.k6
  unfold M.step at ht
  split at ht
  · unfold M.offer at ht
    split at ht
    · rename_i hc
      have h1 := h.cen a.toNat (by omega)
      injection ht with ht; subst ht
      exact M.Wf.send (h.setC (by simp [M.v3]; omega)) (by show s.k < 6; omega) (by omega) (by omega) (by omega)
    · cases ht
  split at ht
  · cases ht
  split at ht
  · unfold M.again at ht
    split at ht
    · rename_i hc
      have h1 := h.cen a.toNat (by omega)
      split at ht
      · injection ht with ht; subst ht
        exact h.send (by omega) (by omega) (by omega) (by omega)
      split at ht
      · injection ht with ht; subst ht
        exact h.send (by omega) (by omega) (by omega) (by omega)
      · cases ht
    · cases ht
  split at ht
  · cases ht
  rename_i hr
  have hr : 0 ≤ a ∧ a < s.k := Classical.not_not.1 hr
  split at ht
  · injection ht with ht; subst ht
    exact (h.drop (by omega)).handle (by show s.k - 1 < 6; omega) (h.msg a.toNat (by omega))
  split at ht
  · injection ht with ht; subst ht
    exact h.drop (by omega)
  split at ht
  · split at ht
    · injection ht with ht; subst ht
      exact h.add (by omega) (h.msg a.toNat (by omega))
    · cases ht
  · cases ht
theorem M.Wf.go (h : M.Wf n s) (k a b : Int) : M.Wf n (M.go n s k a b) := by
  unfold M.go
  cases e : M.step n s k a b with
  | none => exact h
  | some t => exact h.step e
theorem M.Wf.init {first : Int} (_hf : 0 ≤ first ∧ first < n) : M.Wf n (M.init first) := by
  refine ⟨by simp [M.init], fun i hi => ?_, fun a ha => by simp [M.init] at ha⟩
  simp only [M.init]
  split
  · simp [M.v3]; omega
  · simp; omega
theorem M.Wf.run {first : Int} (hf : 0 ≤ first ∧ first < n) (E : Nat → Nat → Int) (i : Nat) : M.Wf n (M.runF n first E i) := by
  induction i with
  | zero => exact M.Wf.init hf
  | succ i ih => exact ih.go _ _ _
end
end Go.Proofs.YtfnfjmjejffjiaaDoor
