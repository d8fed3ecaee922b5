/- Every call can be settled by delivering and repeating, in at most six events: plain. No program. -/
import Derived.Test.YtfnfjmjejffjiaaDoorRInv
namespace Go.Proofs.YtfnfjmjejffjiaaDoor

/-- no centre offers or takes -/
def M.Setd (n : Nat) (s : M.St) : Prop := ∀ i, i < n → s.c i 0 ≠ 2 ∧ s.c i 0 ≠ 3
theorem M.send_at (s : M.St) (kind f o : Int) : (M.send s kind f o).m s.k = M.v4 kind f o (s.c f.toNat 2) := if_pos rfl
/-- so many events of Settle lead to a settled state -/
inductive M.Can (n : Nat) : M.St → Nat → Prop
  | done {s : M.St} : M.Setd n s → M.Can n s 0
  | step {s t : M.St} {k : Int} {a m : Nat} : (k = 2 ∨ k = 5) → M.step n s k a 0 = some t → M.Can n t m → M.Can n s (m + 1)
section
variable {n : Nat} {s t : M.St} {h b : Nat} {T : Int}
theorem M.step_two {a : Nat} (ha : a < s.k) : M.step n s 2 a 0 = some (M.handle (M.drop s a) (s.m a)) := by
  unfold M.step
  rw [if_neg (by decide), if_neg (by decide), if_neg (by decide), if_neg (by omega), if_pos rfl]
  simp
theorem M.Can.deliver {a m : Nat} (ha : a < s.k) (hc : M.Can n (M.handle (M.drop s a) (s.m a)) m) : M.Can n s (m + 1) := .step (.inl rfl) (M.step_two ha) hc
/-- one centre takes the call; the other one offers it, or has handed it over -/
structure M.CT (n : Nat) (c : Nat → Nat → Int) (h b : Nat) (T : Int) : Prop where
  hh : h < n
  hb : b < n
  ne : h ≠ b
  h0 : c h 0 = 2 ∨ c h 0 = 4
  h1 : c h 1 = b
  h2 : c h 2 = T
  b0 : c b 0 = 3
  b1 : c b 1 = h
  b2 : c b 2 = T
  rest : ∀ i, i < n → i ≠ h → i ≠ b → c i 0 = 0 ∨ c i 0 = 4
/-- the confirmation is in flight -/
theorem M.can_conf (c : M.CT n s.c h b T) (h4 : s.c h 0 = 4) {i : Nat} (hi : i < s.k) (x0 : s.m i 0 = 3) (x1 : s.m i 1 = h) (x2 : s.m i 2 = b) (x3 : s.m i 3 = T) : M.Can n s 1 := by
  refine M.Can.deliver hi (.done fun j hj => ?_)
  have e : (s.m i 2).toNat = b := by omega
  unfold M.handle
  have d0 : (M.drop s i).c = s.c := rfl
  rw [d0, e, x0, x1, x3]
  rw [if_neg (by simp), if_neg (by simp), if_neg (by simp), if_neg (by simp), if_pos ⟨rfl, c.b0, c.b1, c.b2⟩]
  by_cases e1 : j = b
  · subst e1
    rw [M.set_same]
    exact ⟨by show (1 : Int) ≠ 2; decide, by show (1 : Int) ≠ 3; decide⟩
  · rw [M.set_far _ _ e1]
    show s.c j 0 ≠ 2 ∧ s.c j 0 ≠ 3
    by_cases e2 : j = h
    · subst e2; rw [h4]; decide
    · rcases c.rest j hj e2 e1 with q | q <;> rw [q] <;> decide
/-- the acceptance is in flight -/
theorem M.can_acc (c : M.CT n s.c h b T) {i : Nat} (hi : i < s.k) (x0 : s.m i 0 = 2) (x1 : s.m i 1 = b) (x2 : s.m i 2 = h) (x3 : s.m i 3 = T) : M.Can n s 2 := by
  refine M.Can.deliver hi ?_
  have e : (s.m i 2).toNat = h := by omega
  have d0 : (M.drop s i).c = s.c := rfl
  have dk : (M.drop s i).k = s.k - 1 := rfl
  unfold M.handle
  rw [d0, e, x0, x1, x3]
  rw [if_neg (by simp), if_neg (by simp)]
  rcases c.h0 with q | q
  · rw [if_pos ⟨rfl, q, c.h1, c.h2⟩]
    have hs := M.set_same (M.drop s i) h (M.v3 4 (s.c h 1) (s.c h 2))
    have hf : ∀ j, j ≠ h → (M.setC (M.drop s i) h (M.v3 4 (s.c h 1) (s.c h 2))).c j = s.c j := fun j hj => M.set_far _ _ hj
    refine M.can_conf (h := h) (b := b) (T := T) (i := s.k - 1) ⟨c.hh, c.hb, c.ne, .inr ?_, ?_, ?_, ?_, ?_, ?_, fun j hj h1 h2 => ?_⟩ ?_ (by show s.k - 1 < s.k - 1 + 1; omega) ?_ ?_ ?_ ?_
    · show (M.setC (M.drop s i) h (M.v3 4 (s.c h 1) (s.c h 2))).c h 0 = 4
      rw [hs]; rfl
    · show (M.setC (M.drop s i) h (M.v3 4 (s.c h 1) (s.c h 2))).c h 1 = b
      rw [hs]; exact c.h1
    · show (M.setC (M.drop s i) h (M.v3 4 (s.c h 1) (s.c h 2))).c h 2 = T
      rw [hs]; exact c.h2
    · show (M.setC (M.drop s i) h (M.v3 4 (s.c h 1) (s.c h 2))).c b 0 = 3
      rw [hf b c.ne.symm]; exact c.b0
    · show (M.setC (M.drop s i) h (M.v3 4 (s.c h 1) (s.c h 2))).c b 1 = h
      rw [hf b c.ne.symm]; exact c.b1
    · show (M.setC (M.drop s i) h (M.v3 4 (s.c h 1) (s.c h 2))).c b 2 = T
      rw [hf b c.ne.symm]; exact c.b2
    · show (M.setC (M.drop s i) h (M.v3 4 (s.c h 1) (s.c h 2))).c j 0 = 0 ∨ (M.setC (M.drop s i) h (M.v3 4 (s.c h 1) (s.c h 2))).c j 0 = 4
      rw [hf j h1]; exact c.rest j hj h1 h2
    · show (M.setC (M.drop s i) h (M.v3 4 (s.c h 1) (s.c h 2))).c h 0 = 4
      rw [hs]; rfl
    · exact (congrFun (M.send_at _ _ _ _) 0).trans rfl
    · exact (congrFun (M.send_at _ _ _ _) 1).trans (by exact x2)
    · exact (congrFun (M.send_at _ _ _ _) 2).trans rfl
    · refine (congrFun (M.send_at _ _ _ _) 3).trans ?_
      show (M.setC (M.drop s i) h (M.v3 4 (s.c h 1) (s.c h 2))).c (s.m i 2).toNat 2 = T
      rw [e, hs]; exact c.h2
  · rw [if_neg (by rw [q]; simp), if_pos ⟨rfl, q, c.h1, c.h2⟩]
    refine M.can_conf (h := h) (b := b) (T := T) (i := s.k - 1) c q (by show s.k - 1 < s.k - 1 + 1; omega) ?_ ?_ ?_ ?_
    · exact (congrFun (M.send_at _ _ _ _) 0).trans rfl
    · exact (congrFun (M.send_at _ _ _ _) 1).trans (by exact x2)
    · exact (congrFun (M.send_at _ _ _ _) 2).trans rfl
    · refine (congrFun (M.send_at _ _ _ _) 3).trans ?_
      show s.c (s.m i 2).toNat 2 = T
      rw [e]; exact c.h2
/-- there is room for one more message -/
theorem M.can_room (c : M.CT n s.c h b T) (hk : s.k < 6) : M.Can n s 3 := by
  have e : M.step n s 5 (b : Nat) 0 = some (M.send s 2 b (s.c b 1)) := by
    unfold M.step
    rw [if_neg (by decide), if_neg (by decide), if_pos rfl]
    unfold M.again
    have hb := c.hb
    rw [if_pos ⟨by omega, by omega, hk⟩, Int.toNat_natCast, if_neg (by rw [c.b0]; decide), if_pos c.b0]
  refine .step (.inr rfl) e (M.can_acc (h := h) (b := b) (T := T) (i := s.k) c (by show s.k < s.k + 1; omega) ?_ ?_ ?_ ?_)
  · exact (congrFun (M.send_at _ _ _ _) 0).trans rfl
  · exact (congrFun (M.send_at _ _ _ _) 1).trans rfl
  · exact (congrFun (M.send_at _ _ _ _) 2).trans (by exact c.b1)
  · refine (congrFun (M.send_at _ _ _ _) 3).trans ?_
    show s.c (b : Int).toNat 2 = T
    rw [Int.toNat_natCast]; exact c.b2
/-- the offer is in flight once more -/
theorem M.can_off (c : M.CT n s.c h b T) {i : Nat} (hi : i < s.k) (x0 : s.m i 0 = 1) (x1 : s.m i 1 = h) (x2 : s.m i 2 = b) (x3 : s.m i 3 = T) : M.Can n s 3 := by
  refine M.Can.deliver hi ?_
  have e : (s.m i 2).toNat = b := by omega
  have d0 : (M.drop s i).c = s.c := rfl
  unfold M.handle
  rw [d0, e, x0, x1, x3]
  rw [if_neg (by rw [c.b0]; simp), if_pos ⟨rfl, c.b0, c.b1, c.b2⟩]
  refine M.can_acc (h := h) (b := b) (T := T) (i := s.k - 1) c (by show s.k - 1 < s.k - 1 + 1; omega) ?_ ?_ ?_ ?_
  · exact (congrFun (M.send_at _ _ _ _) 0).trans rfl
  · exact (congrFun (M.send_at _ _ _ _) 1).trans (by exact x2)
  · exact (congrFun (M.send_at _ _ _ _) 2).trans rfl
  · refine (congrFun (M.send_at _ _ _ _) 3).trans ?_
    show s.c (s.m i 2).toNat 2 = T
    rw [e]; exact c.b2
/-- what is old changes no centre: it makes room in at most two deliveries -/
theorem M.make_room {m : Nat} (hk : s.k = 6) (hx : 0 ≤ s.m 0 1 ∧ s.m 0 1 < n ∧ 0 ≤ s.m 0 2 ∧ s.m 0 2 < n) (ho : s.m 0 0 = 1 → s.m 0 3 ≤ s.c (s.m 0 2).toNat 2)
    (h2 : ∀ i, i < n → s.c i 0 = 2 ∨ s.c i 0 = 3 → s.c i 2 ≠ s.m 0 3) (hc : ∀ t : M.St, t.c = s.c → t.k < 6 → M.Can n t m) : ∃ q, q ≤ m + 2 ∧ M.Can n s q := by
  have d0 : (M.drop s 0).c = s.c := rfl
  have g := h2 (s.m 0 2).toNat (by omega)
  by_cases hd : s.m 0 0 = 2 ∧ s.c (s.m 0 2).toNat 0 = 4 ∧ s.c (s.m 0 2).toNat 1 = s.m 0 1 ∧ s.c (s.m 0 2).toNat 2 = s.m 0 3
  · refine ⟨m + 2, Nat.le_refl _, M.Can.deliver (a := 0) (by omega) ?_⟩
    have e : M.handle (M.drop s 0) (s.m 0) = M.send (M.drop s 0) 3 (s.m 0 2) (s.m 0 1) := by
      unfold M.handle
      rw [d0, if_neg (by rw [hd.1]; simp), if_neg (by rw [hd.1]; simp), if_neg (by rw [hd.2.1]; simp), if_pos hd]
    rw [e]
    have ek : (M.send (M.drop s 0) 3 (s.m 0 2) (s.m 0 1)).k = 6 := by show s.k - 1 + 1 = 6; omega
    have em : (M.send (M.drop s 0) 3 (s.m 0 2) (s.m 0 1)).m 5 = M.v4 3 (s.m 0 2) (s.m 0 1) (s.c (s.m 0 2).toNat 2) := by
      show (if 5 = s.k - 1 then _ else _) = _
      rw [if_pos (by omega)]; rfl
    refine M.Can.deliver (a := 5) (by omega) ?_
    rw [em]
    have g2 := h2 (s.m 0 1).toNat (by omega)
    have e2 : M.handle (M.drop (M.send (M.drop s 0) 3 (s.m 0 2) (s.m 0 1)) 5) (M.v4 3 (s.m 0 2) (s.m 0 1) (s.c (s.m 0 2).toNat 2)) = M.drop (M.send (M.drop s 0) 3 (s.m 0 2) (s.m 0 1)) 5 := by
      unfold M.handle
      simp only [M.v4_0, M.v4_1, M.v4_2, M.v4_3]
      have d1 : (M.drop (M.send (M.drop s 0) 3 (s.m 0 2) (s.m 0 1)) 5).c = s.c := rfl
      rw [d1, if_neg (by simp), if_neg (by simp), if_neg (by simp), if_neg (by simp), if_neg]
      rintro ⟨_, q1, _, q2⟩
      exact g2 (.inr q1) (by rw [q2]; exact hd.2.2.2)
    rw [e2]
    exact hc _ rfl (by show s.k - 1 + 1 - 1 < 6; omega)
  · refine ⟨m + 1, by omega, M.Can.deliver (a := 0) (by omega) ?_⟩
    have e : M.handle (M.drop s 0) (s.m 0) = M.drop s 0 := by
      unfold M.handle
      rw [d0, if_neg, if_neg, if_neg, if_neg hd, if_neg]
      · rintro ⟨_, q1, _, q2⟩; exact g (.inr q1) q2
      · rintro ⟨_, q1, _, q2⟩; exact g (.inl q1) q2
      · rintro ⟨_, q1, _, q2⟩; exact g (.inr q1) q2
      · rintro ⟨q0, _, q2⟩; have := ho q0; omega
    rw [e]
    exact hc _ rfl (by show s.k - 1 < 6; omega)
/-- a centre takes the call: at most five events -/
theorem M.can_take (hw : M.Wf n s) (c : M.CT n s.c h b T) (hm : M.All s (M.MD s.c h b T)) (h3 : ∀ a, a < s.k → s.c h 0 = 2 → s.m a 3 = T → s.m a 0 ≠ 3) : ∃ q, q ≤ 5 ∧ M.Can n s q := by
  by_cases hk : s.k < 6
  · exact ⟨3, by omega, M.can_room c hk⟩
  have hk6 : s.k = 6 := by have := hw.k6; omega
  obtain ⟨m1, m2, m3⟩ := hm 0 (by omega)
  have hx := hw.msg 0 (by omega)
  by_cases e : s.m 0 3 = T
  · rcases m2 e with ⟨x0, x1, x2⟩ | ⟨x0, x1, x2⟩ | ⟨x0, x1, x2⟩
    · exact ⟨3, by omega, M.can_off c (i := 0) (by omega) x0 x1 x2 e⟩
    · exact ⟨2, by omega, M.can_acc c (i := 0) (by omega) x0 x1 x2 e⟩
    · rcases c.h0 with q | q
      · exact absurd x0 (h3 0 (by omega) q e)
      · exact ⟨1, by omega, M.can_conf c q (i := 0) (by omega) x0 x1 x2 e⟩
  · refine (M.make_room (m := 3) hk6 ⟨by omega, by omega, by omega, by omega⟩ (fun e0 => m3 e0 e) (fun i hi hs => ?_) fun t tc tk => ?_).imp fun q hq => ⟨by omega, hq.2⟩
    · by_cases e1 : i = h
      · rw [e1, c.h2]; exact fun q => e q.symm
      · by_cases e2 : i = b
        · rw [e2, c.b2]; exact fun q => e q.symm
        · rcases c.rest i hi e1 e2 with q | q <;> rw [q] at hs <;> simp at hs
    · exact M.can_room (h := h) (b := b) (T := T) (by rw [tc]; exact c) tk
/-- the offer is in flight, and has not been heard -/
theorem M.can_heard (c : M.CB n s.c h b T) {i : Nat} (hi : i < s.k) (x0 : s.m i 0 = 1) (x1 : s.m i 1 = h) (x2 : s.m i 2 = b) (x3 : s.m i 3 = T) : M.Can n s 3 := by
  obtain ⟨hh, hb, hne, ⟨c0, c1, c2⟩, ⟨d0', d2⟩, hr⟩ := c
  refine M.Can.deliver hi ?_
  have e : (s.m i 2).toNat = b := by omega
  have d0 : (M.drop s i).c = s.c := rfl
  unfold M.handle
  rw [d0, e, x0, x3, if_pos ⟨rfl, d0', d2⟩]
  have hs := M.set_same (M.drop s i) b (M.v3 3 (s.m i 1) T)
  have hf : ∀ j, j ≠ b → (M.setC (M.drop s i) b (M.v3 3 (s.m i 1) T)).c j = s.c j := fun j hj => M.set_far _ _ hj
  refine M.can_acc (h := h) (b := b) (T := T) (i := s.k - 1) ⟨hh, hb, hne, .inl ?_, ?_, ?_, ?_, ?_, ?_, fun j hj h1 h2 => ?_⟩ (by show s.k - 1 < s.k - 1 + 1; omega) ?_ ?_ ?_ ?_
  · show (M.setC (M.drop s i) b (M.v3 3 (s.m i 1) T)).c h 0 = 2
    rw [hf h hne]; exact c0
  · show (M.setC (M.drop s i) b (M.v3 3 (s.m i 1) T)).c h 1 = b
    rw [hf h hne]; exact c1
  · show (M.setC (M.drop s i) b (M.v3 3 (s.m i 1) T)).c h 2 = T
    rw [hf h hne]; exact c2
  · show (M.setC (M.drop s i) b (M.v3 3 (s.m i 1) T)).c b 0 = 3
    rw [hs]; rfl
  · show (M.setC (M.drop s i) b (M.v3 3 (s.m i 1) T)).c b 1 = h
    rw [hs]; exact x1
  · show (M.setC (M.drop s i) b (M.v3 3 (s.m i 1) T)).c b 2 = T
    rw [hs]; rfl
  · show (M.setC (M.drop s i) b (M.v3 3 (s.m i 1) T)).c j 0 = 0 ∨ (M.setC (M.drop s i) b (M.v3 3 (s.m i 1) T)).c j 0 = 4
    rw [hf j h2]; exact (hr j hj h1 h2).1
  · exact (congrFun (M.send_at _ _ _ _) 0).trans rfl
  · exact (congrFun (M.send_at _ _ _ _) 1).trans x2
  · exact (congrFun (M.send_at _ _ _ _) 2).trans x1
  · refine (congrFun (M.send_at _ _ _ _) 3).trans ?_
    show (M.setC (M.drop s i) b (M.v3 3 (s.m i 1) T)).c (s.m i 2).toNat 2 = T
    rw [e, hs]; rfl
/-- .. and there is room -/
theorem M.can_offer (c : M.CB n s.c h b T) (hk : s.k < 6) : M.Can n s 4 := by
  obtain ⟨hh, hb, hne, ⟨c0, c1, c2⟩, hd, hr⟩ := c
  have e : M.step n s 5 (h : Nat) 0 = some (M.send s 1 h (s.c h 1)) := by
    unfold M.step
    rw [if_neg (by decide), if_neg (by decide), if_pos rfl]
    unfold M.again
    rw [if_pos ⟨by omega, by omega, hk⟩, Int.toNat_natCast, if_pos c0]
  refine .step (.inr rfl) e (M.can_heard (h := h) (b := b) (T := T) (i := s.k) ⟨hh, hb, hne, ⟨c0, c1, c2⟩, hd, hr⟩ (by show s.k < s.k + 1; omega) ?_ ?_ ?_ ?_)
  · exact (congrFun (M.send_at _ _ _ _) 0).trans rfl
  · exact (congrFun (M.send_at _ _ _ _) 1).trans rfl
  · exact (congrFun (M.send_at _ _ _ _) 2).trans c1
  · refine (congrFun (M.send_at _ _ _ _) 3).trans ?_
    show s.c (h : Int).toNat 2 = T
    rw [Int.toNat_natCast]; exact c2
/-- each call can be settled, by at most six events -/
theorem M.can_settle (hw : M.Wf n s) (hI : M.Inv n s) : ∃ q, q ≤ 6 ∧ M.Can n s q := by
  rcases hI with ⟨h, c, m⟩ | ⟨h, b, T, c, m⟩ | ⟨h, b, T, c, m⟩ | ⟨h, b, T, c, m⟩
  · refine ⟨0, by omega, .done fun i hi => ?_⟩
    by_cases e : i = h
    · rw [e, c.2.1]; decide
    · rcases (c.2.2 i hi e).1 with q | q <;> rw [q] <;> decide
  · by_cases hk : s.k < 6
    · exact ⟨4, by omega, M.can_offer c hk⟩
    have hk6 : s.k = 6 := by have := hw.k6; omega
    obtain ⟨m1, m2, m3⟩ := m 0 (by omega)
    have hx := hw.msg 0 (by omega)
    by_cases e : s.m 0 3 = T
    · obtain ⟨x0, x1, x2⟩ := m2 e
      exact ⟨3, by omega, M.can_heard c (i := 0) (by omega) x0 x1 x2 e⟩
    · refine (M.make_room (m := 4) hk6 ⟨by omega, by omega, by omega, by omega⟩ (fun e0 => m3 e0 e) (fun i hi hs => ?_) fun t tc tk => ?_).imp fun q hq => ⟨by omega, hq.2⟩
      · obtain ⟨hh, hb, hne, ⟨c0, c1, c2⟩, ⟨d0, d2⟩, hr⟩ := c
        by_cases e1 : i = h
        · rw [e1, c2]; exact fun q => e q.symm
        · by_cases e2 : i = b
          · rw [e2] at hs; rcases d0 with q | q <;> rw [q] at hs <;> simp at hs
          · rcases (hr i hi e1 e2).1 with q | q <;> rw [q] at hs <;> simp at hs
      · exact M.can_offer (h := h) (b := b) (T := T) (by rw [tc]; exact c) tk
  · obtain ⟨hh, hb, hne, ⟨c0, c1, c2⟩, ⟨d0, d1, d2⟩, hr⟩ := c
    refine (M.can_take hw ⟨hh, hb, hne, .inl c0, c1, c2, d0, d1, d2, fun i hi h1 h2 => (hr i hi h1 h2).1⟩ (fun a ha => ?_) fun a ha _ e => ?_).imp fun q hq => ⟨by omega, hq.2⟩
    · obtain ⟨m1, m2, m3⟩ := m a ha
      exact ⟨m1, fun e => (m2 e).imp id .inl, m3⟩
    · rcases (m a ha).2.1 e with q | q <;> rw [q.1] <;> decide
  · obtain ⟨hh, hb, hne, ⟨c0, c1, c2⟩, ⟨d0, d1, d2⟩, hr⟩ := c
    exact (M.can_take hw ⟨hh, hb, hne, .inr c0, c1, c2, d0, d1, d2, fun i hi h1 h2 => (hr i hi h1 h2).1⟩ m fun a ha q => absurd q (by rw [c0]; decide)).imp fun q hq => ⟨by omega, hq.2⟩
end
end Go.Proofs.YtfnfjmjejffjiaaDoor
/- A breadth-first search, plain: what it has seen, and that the first end it comes to is a nearest one. No program. -/
namespace Go.Proofs.YtfnfjmjejffjiaaDoor.M

/-- what lies behind a state, by which events -/
inductive Pth {α ε : Type} (nx : α → List (ε × α)) (s : α) : List ε → α → Prop
  | nil : Pth nx s [] s
  | snoc {p : List ε} {t u : α} {e : ε} : Pth nx s p t → (e, u) ∈ nx t → Pth nx s (p ++ [e]) u
/-- the states that have been seen, in order, with the ways to them; the first i have been opened -/
structure Bfs {α ε : Type} (nx : α → List (ε × α)) (fin : α → Prop) (s : α) (V : List (α × List ε)) (i : Nat) : Prop where
  first : V[0]? = some (s, [])
  le : i ≤ V.length
  pth : ∀ x, x ∈ V → Pth nx s x.2 x.1
  sorted : ∀ (j j' : Nat) x y, j ≤ j' → V[j]? = some x → V[j']? = some y → x.2.length ≤ y.2.length
  near : ∀ x, V[i]? = some x → ∀ y, y ∈ V → y.2.length ≤ x.2.length + 1
  open_ : ∀ (j : Nat) x, j < i → V[j]? = some x → ¬ fin x.1 ∧ ∀ y, y ∈ nx x.1 → ∃ z, z ∈ V ∧ z.1 = y.2 ∧ z.2.length ≤ x.2.length + 1
  nodup : (V.map Prod.fst).Nodup
section
variable {α ε : Type} {nx : α → List (ε × α)} {fin : α → Prop} {s : α} {V : List (α × List ε)} {i : Nat}
theorem Bfs.start : Bfs nx fin s [(s, [])] 0 :=
  ⟨rfl, Nat.zero_le _, fun x hx => by rw [List.mem_singleton.1 hx]; exact .nil, fun j j' x y _ h1 h2 => by
    have e1 := List.mem_singleton.1 (List.mem_of_getElem? h1)
    have e2 := List.mem_singleton.1 (List.mem_of_getElem? h2)
    rw [e1, e2]; exact Nat.le_refl _, fun x _ y hy => by rw [List.mem_singleton.1 hy]; exact Nat.zero_le _, fun j x h => absurd h (Nat.not_lt_zero _), by simp⟩
/-- each way either leads to what has been seen, no further than it is long; or it is longer than what is to be opened next -/
theorem Bfs.seen (h : Bfs nx fin s V i) {p : List ε} {t : α} (hp : Pth nx s p t) : (∃ (j : Nat) (z : α × List ε), V[j]? = some z ∧ z.1 = t ∧ z.2.length ≤ p.length) ∨ ∃ x, V[i]? = some x ∧ x.2.length + 1 ≤ p.length := by
  induction hp with
  | nil => exact .inl ⟨0, _, h.first, rfl, Nat.le_refl _⟩
  | @snoc p t u e hp he ih =>
    rcases ih with ⟨j, z, hj, e1, hl⟩ | ⟨x, hx, hl⟩
    · by_cases hji : j < i
      · obtain ⟨_, h2⟩ := h.open_ j z hji hj
        obtain ⟨y, hy, e2, hl2⟩ := h2 (e, u) (by rw [e1]; exact he)
        obtain ⟨j2, hj2, e3⟩ := List.getElem_of_mem hy
        refine .inl ⟨j2, y, by rw [List.getElem?_eq_getElem hj2, e3], e2, ?_⟩
        rw [List.length_append]
        show y.2.length ≤ p.length + 1
        omega
      · have hlt := (List.getElem?_eq_some_iff.1 hj).1
        have hi : i < V.length := by omega
        refine .inr ⟨V[i], List.getElem?_eq_getElem hi, ?_⟩
        have := h.sorted i j V[i] z (by omega) (List.getElem?_eq_getElem hi) hj
        rw [List.length_append]
        show V[i].2.length + 1 ≤ p.length + 1
        omega
    · refine .inr ⟨x, hx, ?_⟩
      rw [List.length_append]
      show x.2.length + 1 ≤ p.length + 1
      omega
/-- what is opened next is no further away than any end -/
theorem Bfs.best (h : Bfs nx fin s V i) {x : α × List ε} (hx : V[i]? = some x) {p : List ε} {t : α} (hp : Pth nx s p t) (ht : fin t) : x.2.length ≤ p.length := by
  rcases h.seen hp with ⟨j, z, hj, e, hl⟩ | ⟨y, hy, hl⟩
  · by_cases hji : j < i
    · exact absurd (e ▸ ht) (h.open_ j z hji hj).1
    · have := h.sorted i j x z (by omega) hx hj
      omega
  · rw [hx] at hy
    injection hy with hy
    subst hy
    omega
/-- there is something left to be opened, as long as there is an end -/
theorem Bfs.more (h : Bfs nx fin s V i) {p : List ε} {t : α} (hp : Pth nx s p t) (ht : fin t) : i < V.length := by
  rcases h.seen hp with ⟨j, z, hj, e, hl⟩ | ⟨y, hy, hl⟩
  · by_cases hji : j < i
    · exact absurd (e ▸ ht) (h.open_ j z hji hj).1
    · have := (List.getElem?_eq_some_iff.1 hj).1
      omega
  · exact (List.getElem?_eq_some_iff.1 hy).1
/-- while a state is opened: what was seen before, and the first q states behind it -/
structure Mid (nx : α → List (ε × α)) (fin : α → Prop) (s : α) (V0 V : List (α × List ε)) (i q : Nat) (x : α × List ε) : Prop where
  b : Bfs nx fin s V0 i
  hx : V0[i]? = some x
  nf : ¬ fin x.1
  pre : ∃ W, V = V0 ++ W ∧ ∀ y, y ∈ W → ∃ e, (e, y.1) ∈ nx x.1 ∧ y.2 = x.2 ++ [e]
  all : ∀ y, y ∈ (nx x.1).take q → ∃ z, z ∈ V ∧ z.1 = y.2
  nodup : (V.map Prod.fst).Nodup
theorem Mid.start (h : Bfs nx fin s V i) {x : α × List ε} (hx : V[i]? = some x) (nf : ¬ fin x.1) : Mid nx fin s V V i 0 x :=
  ⟨h, hx, nf, ⟨[], by simp, fun y hy => absurd hy (by simp)⟩, fun y hy => absurd hy (by simp), h.nodup⟩
section
variable {V0 : List (α × List ε)} {q : Nat} {x : α × List ε}
theorem Mid.old (h : Mid nx fin s V0 V i q x) {e : ε} {u : α} (hq : (nx x.1)[q]? = some (e, u)) (hu : ∃ z, z ∈ V ∧ z.1 = u) : Mid nx fin s V0 V i (q + 1) x := by
  refine ⟨h.b, h.hx, h.nf, h.pre, fun y hy => ?_, h.nodup⟩
  rw [List.take_add_one, hq] at hy
  rcases List.mem_append.1 hy with hy | hy
  · exact h.all y hy
  · rw [List.mem_singleton.1 hy]; exact hu
theorem Mid.new (h : Mid nx fin s V0 V i q x) {e : ε} {u : α} (hq : (nx x.1)[q]? = some (e, u)) (hu : ∀ z, z ∈ V → z.1 ≠ u) : Mid nx fin s V0 (V ++ [(u, x.2 ++ [e])]) i (q + 1) x := by
  obtain ⟨W, e1, hW⟩ := h.pre
  refine ⟨h.b, h.hx, h.nf, ⟨W ++ [(u, x.2 ++ [e])], by rw [e1, List.append_assoc], fun y hy => ?_⟩, fun y hy => ?_, ?_⟩
  · rcases List.mem_append.1 hy with hy | hy
    · exact hW y hy
    · rw [List.mem_singleton.1 hy]
      exact ⟨e, List.mem_of_getElem? hq, rfl⟩
  · rw [List.take_add_one, hq] at hy
    rcases List.mem_append.1 hy with hy | hy
    · obtain ⟨z, hz, e2⟩ := h.all y hy
      exact ⟨z, List.mem_append_left _ hz, e2⟩
    · rw [List.mem_singleton.1 hy]
      exact ⟨(u, x.2 ++ [e]), List.mem_append_right _ (by simp), rfl⟩
  · rw [List.map_append]
    refine List.nodup_append.2 ⟨h.nodup, by simp, fun a ha b hb e2 => ?_⟩
    obtain ⟨z, hz, e3⟩ := List.mem_map.1 ha
    have : b = u := by simpa using hb
    exact hu z hz (by rw [e3, e2, this])
theorem Mid.done (h : Mid nx fin s V0 V i q x) (hq : (nx x.1).length ≤ q) : Bfs nx fin s V (i + 1) := by
  obtain ⟨W, rfl, hW⟩ := h.pre
  have hi := (List.getElem?_eq_some_iff.1 h.hx).1
  have hnew : ∀ y, y ∈ W → y.2.length = x.2.length + 1 := fun y hy => by
    obtain ⟨e, _, e2⟩ := hW y hy
    rw [e2, List.length_append]; rfl
  have hlen : ∀ y, y ∈ V0 ++ W → y.2.length ≤ x.2.length + 1 := fun y hy => by
    rcases List.mem_append.1 hy with hy | hy
    · exact h.b.near x h.hx y hy
    · have := hnew y hy; omega
  refine ⟨?_, by rw [List.length_append]; omega, fun y hy => ?_, fun j j' y z hj h1 h2 => ?_, fun y hy z hz => ?_, fun j y hj hy => ?_, h.nodup⟩
  · rw [List.getElem?_append_left (by omega)]; exact h.b.first
  · rcases List.mem_append.1 hy with hy | hy
    · exact h.b.pth y hy
    · obtain ⟨e, h1, h2⟩ := hW y hy
      rw [h2]
      exact .snoc (h.b.pth x (List.mem_of_getElem? h.hx)) h1
  · by_cases hj' : j' < V0.length
    · rw [List.getElem?_append_left hj'] at h2
      rw [List.getElem?_append_left (by omega)] at h1
      exact h.b.sorted j j' y z hj h1 h2
    · rw [List.getElem?_append_right (by omega)] at h2
      have e2 := hnew z (List.mem_of_getElem? h2)
      have e1 := hlen y (List.mem_of_getElem? h1)
      omega
  · have h1 := hlen z hz
    have h2 : x.2.length ≤ y.2.length := by
      by_cases hj' : i + 1 < V0.length
      · rw [List.getElem?_append_left hj'] at hy
        exact h.b.sorted i (i + 1) x y (by omega) h.hx hy
      · rw [List.getElem?_append_right (by omega)] at hy
        have := hnew y (List.mem_of_getElem? hy)
        omega
    omega
  · rw [List.getElem?_append_left (by omega)] at hy
    by_cases e : j = i
    · subst e
      rw [h.hx] at hy
      injection hy with hy
      subst hy
      refine ⟨h.nf, fun z hz => ?_⟩
      obtain ⟨v, hv, e2⟩ := h.all z (by rw [List.take_of_length_le hq]; exact hz)
      exact ⟨v, hv, e2, hlen v hv⟩
    · obtain ⟨h1, h2⟩ := h.b.open_ j y (by omega) hy
      refine ⟨h1, fun z hz => ?_⟩
      obtain ⟨v, hv, e2, e3⟩ := h2 z hz
      exact ⟨v, List.mem_append_left _ hv, e2, e3⟩
end
/-- the states that lie at most so many events behind one -/
def allR (nx : α → List (ε × α)) (s : α) : Nat → List α
  | 0 => [s]
  | m + 1 => allR nx s m ++ (allR nx s m).flatMap fun t => (nx t).map Prod.snd
theorem mem_allR {p : List ε} {t : α} (hp : Pth nx s p t) : ∀ {m : Nat}, p.length ≤ m → t ∈ allR nx s m := by
  induction hp with
  | nil =>
    intro m _
    induction m with
    | zero => exact List.mem_singleton.2 rfl
    | succ m ih => exact List.mem_append_left _ (ih (Nat.zero_le _))
  | @snoc p t u e hp he ih =>
    intro m hm
    rw [List.length_append] at hm
    have hm : p.length + 1 ≤ m := hm
    obtain ⟨m, rfl⟩ : ∃ k, m = k + 1 := ⟨m - 1, by omega⟩
    exact List.mem_append_right _ (List.mem_flatMap.2 ⟨t, ih (by omega), List.mem_map.2 ⟨(e, u), he, rfl⟩⟩)
theorem allR_pth : ∀ {m : Nat} {t : α}, t ∈ allR nx s m → ∃ p, Pth nx s p t ∧ p.length ≤ m
  | 0, t, h => by rw [List.mem_singleton.1 h]; exact ⟨[], .nil, Nat.le_refl _⟩
  | m + 1, t, h => by
    rcases List.mem_append.1 h with h | h
    · obtain ⟨p, h1, h2⟩ := allR_pth h
      exact ⟨p, h1, by omega⟩
    · obtain ⟨u, hu, hx⟩ := List.mem_flatMap.1 h
      obtain ⟨⟨e, t'⟩, hy, rfl⟩ := List.mem_map.1 hx
      obtain ⟨p, h1, h2⟩ := allR_pth hu
      exact ⟨p ++ [e], .snoc h1 hy, by rw [List.length_append]; show p.length + 1 ≤ _; omega⟩
theorem flat_len {B : Nat} : ∀ {l : List α}, (∀ t, t ∈ l → (nx t).length ≤ B) → (l.flatMap fun t => (nx t).map Prod.snd).length ≤ l.length * B
  | [], _ => by simp
  | a :: l, hB => by
    rw [List.flatMap_cons, List.length_append, List.length_map, List.length_cons, Nat.add_mul, Nat.one_mul]
    have h1 := hB a List.mem_cons_self
    have h2 := flat_len (l := l) fun t ht => hB t (List.mem_cons_of_mem _ ht)
    omega
theorem allR_len {B : Nat} (hB : ∀ p t, Pth nx s p t → (nx t).length ≤ B) : ∀ m, (allR nx s m).length ≤ (B + 1) ^ m
  | 0 => Nat.le_refl _
  | m + 1 => by
    show (allR nx s m ++ _).length ≤ _
    rw [List.length_append, Nat.pow_succ, Nat.mul_add, Nat.mul_one]
    have h1 := allR_len hB m
    have h2 := flat_len (l := allR nx s m) fun t ht => by obtain ⟨p, h, _⟩ := allR_pth ht; exact hB p t h
    have h3 := Nat.mul_le_mul_right B h1
    omega
/-- a list without repeats, of the same things -/
theorem once (l : List α) : ∃ r : List α, r.Nodup ∧ (∀ x, x ∈ r ↔ x ∈ l) ∧ r.length ≤ l.length := by
  induction l with
  | nil => exact ⟨[], by simp, fun x => Iff.rfl, Nat.le_refl _⟩
  | cons a l ih =>
    obtain ⟨r, h1, h2, h3⟩ := ih
    by_cases h : a ∈ r
    · exact ⟨r, h1, fun x => by rw [h2, List.mem_cons]; exact ⟨.inr, fun h' => h'.elim (fun e => e ▸ (h2 a).1 h) id⟩, by simp; omega⟩
    · exact ⟨a :: r, List.nodup_cons.2 ⟨h, h1⟩, fun x => by rw [List.mem_cons, List.mem_cons, h2], by simp; omega⟩
theorem sub_len [DecidableEq α] : ∀ {l r : List α}, l.Nodup → (∀ x, x ∈ l → x ∈ r) → l.length ≤ r.length
  | [], _, _, _ => Nat.zero_le _
  | a :: l, r, h, hs => by
    obtain ⟨h1, h2⟩ := List.nodup_cons.1 h
    have h3 := hs a List.mem_cons_self
    have h4 := sub_len (r := r.erase a) h2 fun x hx => (List.mem_erase_of_ne (fun e => h1 (by rw [← e]; exact hx))).2 (hs x (List.mem_cons_of_mem _ hx))
    rw [List.length_erase_of_mem h3] at h4
    have := List.length_pos_of_mem h3
    simp only [List.length_cons]
    omega
/-- how much a search can have seen -/
theorem seen_len {B D : Nat} (hB : ∀ p t, Pth nx s p t → (nx t).length ≤ B) (hn : (V.map Prod.fst).Nodup) (hp : ∀ x, x ∈ V → Pth nx s x.2 x.1 ∧ x.2.length ≤ D) : V.length ≤ (B + 1) ^ D := by
  have : DecidableEq α := fun a b => Classical.propDecidable (a = b)
  have h := sub_len (r := allR nx s D) hn fun t ht => by
    obtain ⟨x, hx, rfl⟩ := List.mem_map.1 ht
    exact mem_allR (hp x hx).1 (hp x hx).2
  rw [List.length_map] at h
  exact Nat.le_trans h (allR_len hB D)
end
end Go.Proofs.YtfnfjmjejffjiaaDoor.M
/- Settling a call: the events that may be tried, the nearest settled state, by breadth and by depth: plain. No program. -/
namespace Go.Proofs.YtfnfjmjejffjiaaDoor

/-- the events that are tried, in order -/
def M.evL (n : Nat) (s : M.St) : List (Int × Nat) := ((List.range (max s.k n)).map fun a => ((2 : Int), a)) ++ (List.range (max s.k n)).map fun a => ((5 : Int), a)
/-- those that are possible, with the states behind them -/
def M.nxt (n : Nat) (s : M.St) : List ((Int × Nat) × M.St) := (M.evL n s).filterMap fun e => (M.step n s e.1 e.2 0).map fun t => (e, t)
section
variable {n : Nat} {s t : M.St}
theorem M.mem_nxt {e : Int × Nat} : (e, t) ∈ M.nxt n s ↔ (e.1 = 2 ∨ e.1 = 5) ∧ M.step n s e.1 e.2 0 = some t := by
  unfold M.nxt
  rw [List.mem_filterMap]
  constructor
  · rintro ⟨e', h1, h2⟩
    rw [Option.map_eq_some_iff] at h2
    obtain ⟨t', h3, h4⟩ := h2
    injection h4 with h4 h5
    subst h4; subst h5
    unfold M.evL at h1
    rcases List.mem_append.1 h1 with h1 | h1
    · obtain ⟨a, _, rfl⟩ := List.mem_map.1 h1
      exact ⟨.inl rfl, h3⟩
    · obtain ⟨a, _, rfl⟩ := List.mem_map.1 h1
      exact ⟨.inr rfl, h3⟩
  · rintro ⟨h1, h2⟩
    refine ⟨e, ?_, by rw [h2]; rfl⟩
    unfold M.evL
    obtain ⟨k, a⟩ := e
    simp only at h1 h2
    have hlt : a < max s.k n := by
      unfold M.step at h2
      rcases h1 with rfl | rfl
      · rw [if_neg (by decide), if_neg (by decide), if_neg (by decide)] at h2
        split at h2
        · cases h2
        · rename_i q
          have := Classical.not_not.1 q
          omega
      · rw [if_neg (by decide), if_neg (by decide), if_pos rfl] at h2
        unfold M.again at h2
        split at h2
        · rename_i q; omega
        · cases h2
    rcases h1 with rfl | rfl
    · exact List.mem_append_left _ (List.mem_map.2 ⟨a, List.mem_range.2 hlt, rfl⟩)
    · exact List.mem_append_right _ (List.mem_map.2 ⟨a, List.mem_range.2 hlt, rfl⟩)
theorem M.nxt_len (hk : s.k ≤ 6) (hn : n ≤ 6) : (M.nxt n s).length ≤ 12 := by
  unfold M.nxt
  refine Nat.le_trans (List.length_filterMap_le _ _) ?_
  unfold M.evL
  rw [List.length_append, List.length_map, List.length_map, List.length_range]
  omega
theorem M.Pth.cons {α ε : Type} {nx : α → List (ε × α)} {s u t : α} {e : ε} {p : List ε} (h1 : (e, u) ∈ nx s) (h2 : M.Pth nx u p t) : M.Pth nx s (e :: p) t := by
  induction h2 with
  | nil => exact .snoc (p := []) .nil h1
  | snoc _ h4 ih => exact .snoc ih h4
theorem M.Can.pth {m : Nat} (h : M.Can n s m) : ∃ p t, M.Pth (M.nxt n) s p t ∧ M.Setd n t ∧ p.length = m := by
  induction h with
  | @done s hs => exact ⟨[], s, .nil, hs, rfl⟩
  | @step s t k a m hk he _ ih =>
    obtain ⟨p, u, h1, h2, h3⟩ := ih
    exact ⟨(k, a) :: p, u, .cons (M.mem_nxt.2 ⟨hk, he⟩) h1, h2, by simp [h3]⟩
/-- where one comes by events -/
def M.along (n : Nat) (s : M.St) (l : List (Int × Nat)) : M.St := l.foldl (fun s e => M.go n s e.1 e.2 0) s
theorem M.along_snoc {l : List (Int × Nat)} {e : Int × Nat} : M.along n s (l ++ [e]) = M.go n (M.along n s l) e.1 e.2 0 := by unfold M.along; rw [List.foldl_append]; rfl
/-- a way is taken event by event -/
theorem M.pth_along {p : List (Int × Nat)} (h : M.Pth (M.nxt n) s p t) : M.along n s p = t ∧ ∀ (i : Nat) (e : Int × Nat), p[i]? = some e → (e.1 = 2 ∨ e.1 = 5) ∧ M.step n (M.along n s (p.take i)) e.1 e.2 0 = some (M.along n s (p.take (i + 1))) := by
  induction h with
  | nil => exact ⟨rfl, fun i e h => by cases h⟩
  | @snoc p t u e hp he ih =>
    obtain ⟨h1, h2⟩ := M.mem_nxt.1 he
    have h3 : M.along n s (p ++ [e]) = u := by rw [M.along_snoc, ih.1]; unfold M.go; rw [h2]; rfl
    refine ⟨h3, fun i e' hi => ?_⟩
    by_cases hlt : i < p.length
    · rw [List.getElem?_append_left hlt] at hi
      rw [List.take_append_of_le_length (by omega), List.take_append_of_le_length (by omega)]
      exact ih.2 i e' hi
    · have hl := (List.getElem?_eq_some_iff.1 hi).1
      rw [List.length_append] at hl
      have hl : i < p.length + 1 := hl
      obtain rfl : i = p.length := by omega
      rw [List.getElem?_append_right (Nat.le_refl _), Nat.sub_self] at hi
      injection hi with hi
      subst hi
      refine ⟨h1, ?_⟩
      rw [List.take_append_of_le_length (Nat.le_refl _), List.take_length, ih.1, List.take_of_length_le (by simp), h3, h2]
/-- the first way of so many events to a settled state, by depth -/
noncomputable def M.reachL (n : Nat) : Nat → M.St → Option (List (Int × Nat))
  | 0, s => by
    classical
    exact if M.Setd n s then some [] else none
  | m + 1, s => (M.nxt n s).findSome? fun x => (M.reachL n m x.2).map fun l => x.1 :: l
theorem M.reach_some : ∀ {m : Nat} {s : M.St} {l : List (Int × Nat)}, M.reachL n m s = some l → l.length = m ∧ ∃ t, M.Pth (M.nxt n) s l t ∧ M.Setd n t
  | 0, s, l, h => by
    unfold M.reachL at h
    split at h
    · rename_i hs
      injection h with h
      subst h
      exact ⟨rfl, s, .nil, hs⟩
    · cases h
  | m + 1, s, l, h => by
    unfold M.reachL at h
    obtain ⟨x, hx, h2⟩ := List.exists_of_findSome?_eq_some h
    rw [Option.map_eq_some_iff] at h2
    obtain ⟨l', h3, h4⟩ := h2
    subst h4
    obtain ⟨h5, t, h6, h7⟩ := M.reach_some h3
    exact ⟨by simp [h5], t, .cons hx h6, h7⟩
theorem M.reach_none : ∀ {m : Nat} {s : M.St}, M.reachL n m s = none → ¬ M.Can n s m
  | 0, s, h, hc => by
    unfold M.reachL at h
    cases hc with
    | done hs => rw [if_pos hs] at h; cases h
  | m + 1, s, h, hc => by
    unfold M.reachL at h
    cases hc with
    | @step _ t k a _ hk he hc =>
      have := List.findSome?_eq_none_iff.1 h _ ((M.mem_nxt (e := (k, a))).2 ⟨hk, he⟩)
      rw [Option.map_eq_none_iff] at this
      exact M.reach_none this hc
theorem M.Pth.can {p : List (Int × Nat)} (h : M.Pth (M.nxt n) s p t) : ∀ {m : Nat}, M.Can n t m → M.Can n s (p.length + m) := by
  induction h with
  | nil => intro m h; simpa using h
  | @snoc p t u e _ he ih =>
    intro m h
    obtain ⟨h1, h2⟩ := M.mem_nxt.1 he
    have := ih (.step h1 h2 h)
    rw [List.length_append]
    show M.Can n s (p.length + 1 + m)
    rw [show p.length + 1 + m = p.length + (m + 1) by omega]
    exact this
/-- the least number of events that settle a call -/
theorem M.least (hw : M.Wf n s) (hI : M.Inv n s) : ∃ D, D ≤ 6 ∧ M.Can n s D ∧ ∀ m, m < D → ¬ M.Can n s m := by
  obtain ⟨q, hq, hc⟩ := M.can_settle hw hI
  induction q using Nat.strongRecOn with
  | _ q ih =>
    by_cases h : ∃ m, m < q ∧ M.Can n s m
    · obtain ⟨m, hm, h2⟩ := h
      exact ih m hm (by omega) h2
    · exact ⟨q, hq, hc, fun m hm h2 => h ⟨m, hm, h2⟩⟩
/-- what a search by breadth comes to first is as near as can be -/
theorem M.bfs_least {V : List (M.St × List (Int × Nat))} {i D : Nat} {x : M.St × List (Int × Nat)} (h : M.Bfs (M.nxt n) (M.Setd n) s V i) (hx : V[i]? = some x) (hf : M.Setd n x.1) (hD : M.Can n s D) (hl : ∀ m, m < D → ¬ M.Can n s m) : x.2.length = D := by
  obtain ⟨p, t, h1, h2, h3⟩ := hD.pth
  have g1 := h.best hx h1 h2
  have g2 := M.Pth.can (h.pth x (List.mem_of_getElem? hx)) (.done hf)
  by_cases e : x.2.length < D
  · exact absurd (by simpa using g2) (hl _ e)
  · omega
end
/-- a state that is told by its numbers alone -/
structure M.Cn (n : Nat) (s : M.St) : Prop where
  c2 : ∀ i j, 2 ≤ j → s.c i j = s.c i 2
  out : ∀ i, n ≤ i → s.c i = fun _ => 0
  m3 : ∀ a j, 3 ≤ j → s.m a j = s.m a 3
  mo : ∀ a, s.k ≤ a → s.m a = fun _ => 0
section
variable {n : Nat} {s t : M.St}
theorem M.Cn.ext_ (h : M.Cn n s) (h' : M.Cn n t) (hk : s.k = t.k) (hc : ∀ i j, i < n → j < 3 → s.c i j = t.c i j) (hm : ∀ a j, a < s.k → j < 4 → s.m a j = t.m a j) : s = t := by
  obtain ⟨c, m, k⟩ := s
  obtain ⟨c', m', k'⟩ := t
  have hk : k = k' := hk
  subst hk
  have e1 : c = c' := by
    funext i j
    by_cases hi : i < n
    · by_cases hj : j < 3
      · exact hc i j hi hj
      · have a1 : c i j = c i 2 := h.c2 i j (by omega)
        have a2 : c' i j = c' i 2 := h'.c2 i j (by omega)
        rw [a1, a2]; exact hc i 2 hi (by decide)
    · have a1 : c i = fun _ => 0 := h.out i (by omega)
      have a2 : c' i = fun _ => 0 := h'.out i (by omega)
      rw [a1, a2]
  have e2 : m = m' := by
    funext a j
    by_cases ha : a < k
    · by_cases hj : j < 4
      · exact hm a j ha hj
      · have a1 : m a j = m a 3 := h.m3 a j (by omega)
        have a2 : m' a j = m' a 3 := h'.m3 a j (by omega)
        rw [a1, a2]; exact hm a 3 ha (by decide)
    · have a1 : m a = fun _ => 0 := h.mo a (by show k ≤ a; omega)
      have a2 : m' a = fun _ => 0 := h'.mo a (by show k ≤ a; omega)
      rw [a1, a2]
  rw [e1, e2]
theorem M.v3_2le (a b c : Int) (j : Nat) (hj : 2 ≤ j) : M.v3 a b c j = M.v3 a b c 2 := by
  unfold M.v3
  rw [if_neg (by omega), if_neg (by omega), if_neg (by decide), if_neg (by decide)]
theorem M.v4_3le (a b c d : Int) (j : Nat) (hj : 3 ≤ j) : M.v4 a b c d j = M.v4 a b c d 3 := by
  unfold M.v4
  rw [if_neg (by omega), if_neg (by omega), if_neg (by omega), if_neg (by decide), if_neg (by decide), if_neg (by decide)]
theorem M.Cn.setC (h : M.Cn n s) {i : Nat} (hi : i < n) {v : Nat → Int} (hv : ∀ j, 2 ≤ j → v j = v 2) : M.Cn n (M.setC s i v) := by
  refine ⟨fun a j hj => ?_, fun a ha => ?_, h.m3, h.mo⟩
  · by_cases e : a = i
    · subst e; rw [M.set_same]; exact hv j hj
    · rw [M.set_far _ _ e]; exact h.c2 a j hj
  · rw [M.set_far _ _ (by omega)]; exact h.out a ha
theorem M.Cn.add (h : M.Cn n s) {v : Nat → Int} (hv : ∀ j, 3 ≤ j → v j = v 3) : M.Cn n (M.add s v) := by
  refine ⟨h.c2, h.out, fun a j hj => ?_, fun a ha => ?_⟩
  · show (if a = s.k then v else s.m a) j = (if a = s.k then v else s.m a) 3
    by_cases e : a = s.k
    · rw [if_pos e]; exact hv j hj
    · rw [if_neg e]; exact h.m3 a j hj
  · have ha : s.k + 1 ≤ a := ha
    show (if a = s.k then v else s.m a) = _
    rw [if_neg (by omega)]; exact h.mo a (by omega)
theorem M.Cn.send (h : M.Cn n s) (kind f o : Int) : M.Cn n (M.send s kind f o) := h.add (M.v4_3le _ _ _ _)
theorem M.Cn.drop (h : M.Cn n s) {i : Nat} (hi : i < s.k) : M.Cn n (M.drop s i) := by
  refine ⟨h.c2, h.out, fun a j hj => ?_, fun a ha => ?_⟩
  · show (if a < i then s.m a else if a + 1 < s.k then s.m (a + 1) else fun _ => 0) j = (if a < i then s.m a else if a + 1 < s.k then s.m (a + 1) else fun _ => 0) 3
    by_cases e : a < i
    · rw [if_pos e]; exact h.m3 a j hj
    · rw [if_neg e]
      by_cases e2 : a + 1 < s.k
      · rw [if_pos e2]; exact h.m3 _ j hj
      · rw [if_neg e2]
  · have ha : s.k - 1 ≤ a := ha
    show (if a < i then s.m a else if a + 1 < s.k then s.m (a + 1) else fun _ => 0) = _
    rw [if_neg (by omega), if_neg (by omega)]
theorem M.Cn.handle (h : M.Cn n s) {x : Nat → Int} (hx : (x 2).toNat < n) : M.Cn n (M.handle s x) := by
  unfold M.handle
  split
  · exact (h.setC hx (M.v3_2le _ _ _)).send _ _ _
  split
  · exact h.send _ _ _
  split
  · exact (h.setC hx (M.v3_2le _ _ _)).send _ _ _
  split
  · exact h.send _ _ _
  split
  · exact h.setC hx (M.v3_2le _ _ _)
  · exact h
theorem M.Cn.step (h : M.Cn n s) (hw : M.Wf n s) {k a b : Int} (ht : M.step n s k a b = some t) : M.Cn n t := by
  unfold M.step at ht
  split at ht
  · unfold M.offer at ht
    split at ht
    · rename_i hc
      injection ht with ht; subst ht
      exact (h.setC (by omega) (M.v3_2le _ _ _)).send _ _ _
    · cases ht
  split at ht
  · cases ht
  split at ht
  · unfold M.again at ht
    split at ht
    · split at ht
      · injection ht with ht; subst ht
        exact h.send _ _ _
      split at ht
      · injection ht with ht; subst ht
        exact h.send _ _ _
      · cases ht
    · cases ht
  split at ht
  · cases ht
  rename_i hr
  have hr : 0 ≤ a ∧ a < s.k := Classical.not_not.1 hr
  split at ht
  · injection ht with ht; subst ht
    have := hw.msg a.toNat (by omega)
    exact (h.drop (by omega)).handle (by omega)
  split at ht
  · injection ht with ht; subst ht
    exact h.drop (by omega)
  split at ht
  · split at ht
    · injection ht with ht; subst ht
      exact h.add (h.m3 _)
    · cases ht
  · cases ht
theorem M.Cn.go (h : M.Cn n s) (hw : M.Wf n s) (k a b : Int) : M.Cn n (M.go n s k a b) := by
  unfold M.go
  cases e : M.step n s k a b with
  | none => exact h
  | some t => exact h.step hw e
theorem M.Cn.init {first : Int} (hf : 0 ≤ first ∧ first < n) : M.Cn n (M.init first) := by
  refine ⟨fun i j hj => ?_, fun i hi => ?_, fun a j _ => rfl, fun a _ => rfl⟩
  · show (if i = first.toNat then M.v3 1 0 0 else fun _ => 0) j = (if i = first.toNat then M.v3 1 0 0 else fun _ => 0) 2
    by_cases e : i = first.toNat
    · rw [if_pos e]; exact M.v3_2le _ _ _ j hj
    · rw [if_neg e]
  · show (if i = first.toNat then M.v3 1 0 0 else fun _ => 0) = _
    rw [if_neg (by omega)]
theorem M.Cn.run {first : Int} (hf : 0 ≤ first ∧ first < n) (E : Nat → Nat → Int) (i : Nat) : M.Cn n (M.runF n first E i) := by
  induction i with
  | zero => exact M.Cn.init hf
  | succ i ih => exact ih.go (M.Wf.run hf E i) _ _ _
end
end Go.Proofs.YtfnfjmjejffjiaaDoor
/- The events that are tried, one after the other: plain. No program. -/
namespace Go.Proofs.YtfnfjmjejffjiaaDoor

/-- of how many events each kind is tried -/
def M.mx (n : Nat) (s : M.St) : Nat := max s.k n
theorem M.mx_val {n : Nat} {s : M.St} : M.mx n s = max s.k n := rfl
/-- the states behind the first q events -/
def M.nxtQ (n : Nat) (s : M.St) (q : Nat) : List ((Int × Nat) × M.St) := ((M.evL n s).take q).filterMap fun e => (M.step n s e.1 e.2 0).map fun t => (e, t)
section
variable {n : Nat} {s t : M.St}
theorem M.evL_len : (M.evL n s).length = M.mx n s + M.mx n s := by
  unfold M.evL M.mx
  rw [List.length_append, List.length_map, List.length_map, List.length_range]
theorem M.evL_two {q : Nat} (hq : q < M.mx n s) : (M.evL n s)[q]? = some (2, q) := by
  unfold M.evL
  have hq : q < max s.k n := hq
  rw [List.getElem?_append_left (by rw [List.length_map, List.length_range]; exact hq), List.getElem?_map, List.getElem?_range hq]
  rfl
theorem M.evL_five {q : Nat} (hq : q < M.mx n s) : (M.evL n s)[M.mx n s + q]? = some (5, q) := by
  unfold M.evL
  have hq : q < max s.k n := hq
  have e : M.mx n s = max s.k n := rfl
  rw [List.getElem?_append_right (by rw [List.length_map, List.length_range]; omega), List.length_map, List.length_range, List.getElem?_map, e, Nat.add_sub_cancel_left, List.getElem?_range hq]
  rfl
theorem M.nxtQ_zero : M.nxtQ n s 0 = [] := rfl
theorem M.nxtQ_no {q : Nat} {e : Int × Nat} (he : (M.evL n s)[q]? = some e) (h : M.step n s e.1 e.2 0 = none) : M.nxtQ n s (q + 1) = M.nxtQ n s q := by
  unfold M.nxtQ
  rw [List.take_add_one, he, List.filterMap_append]
  simp [h]
theorem M.nxtQ_yes {q : Nat} {e : Int × Nat} (he : (M.evL n s)[q]? = some e) (h : M.step n s e.1 e.2 0 = some t) : M.nxtQ n s (q + 1) = M.nxtQ n s q ++ [(e, t)] := by
  unfold M.nxtQ
  rw [List.take_add_one, he, List.filterMap_append]
  simp [h]
theorem M.nxtQ_all : M.nxtQ n s (M.mx n s + M.mx n s) = M.nxt n s := by
  unfold M.nxtQ M.nxt
  rw [← M.evL_len, List.take_length]
theorem M.nxtQ_at {q : Nat} {e : Int × Nat} (he : (M.evL n s)[q]? = some e) (h : M.step n s e.1 e.2 0 = some t) : (M.nxt n s)[(M.nxtQ n s q).length]? = some (e, t) := by
  have h1 : M.nxt n s = M.nxtQ n s (q + 1) ++ ((M.evL n s).drop (q + 1)).filterMap fun e => (M.step n s e.1 e.2 0).map fun t => (e, t) := by
    unfold M.nxtQ M.nxt
    rw [← List.filterMap_append, List.take_append_drop]
  rw [h1, M.nxtQ_yes he h, List.append_assoc, List.getElem?_append_right (Nat.le_refl _), Nat.sub_self]
  rfl
/-- what follows an event, by depth -/
noncomputable def M.tryL (n m : Nat) (s : M.St) (e : Int × Nat) : Option (List (Int × Nat)) := (M.step n s e.1 e.2 0).bind fun t => (M.reachL n m t).map fun l => e :: l
theorem M.find_filter {α β γ : Type} {f : α → Option β} {g : β → Option γ} : ∀ {l : List α}, (l.filterMap f).findSome? g = l.findSome? fun x => (f x).bind g
  | [] => rfl
  | x :: l => by
    cases h : f x with
    | none => rw [List.filterMap_cons_none h, List.findSome?_cons, M.find_filter (l := l), h]; rfl
    | some y =>
      rw [List.filterMap_cons_some h, List.findSome?_cons, List.findSome?_cons, M.find_filter (l := l), h]
      rfl
theorem M.reachL_succ {m : Nat} : M.reachL n (m + 1) s = (M.evL n s).findSome? (M.tryL n m s) := by
  conv => lhs; unfold M.reachL
  unfold M.nxt
  rw [M.find_filter]
  congr 1
  funext e
  unfold M.tryL
  cases M.step n s e.1 e.2 0 <;> rfl
/-- nothing came of the first q events -/
def M.NoneQ (n m : Nat) (s : M.St) (q : Nat) : Prop := ((M.evL n s).take q).findSome? (M.tryL n m s) = none
theorem M.NoneQ.zero {m : Nat} : M.NoneQ n m s 0 := rfl
theorem M.NoneQ.more {m q : Nat} (h : M.NoneQ n m s q) {e : Int × Nat} (he : (M.evL n s)[q]? = some e) (h2 : M.tryL n m s e = none) : M.NoneQ n m s (q + 1) := by
  unfold M.NoneQ
  rw [List.take_add_one, he, List.findSome?_append, show List.findSome? (M.tryL n m s) (List.take q (M.evL n s)) = none from h]
  simp [h2]
theorem M.NoneQ.found {m q : Nat} (h : M.NoneQ n m s q) {e : Int × Nat} {l : List (Int × Nat)} (he : (M.evL n s)[q]? = some e) (h2 : M.tryL n m s e = some l) : M.reachL n (m + 1) s = some l := by
  rw [M.reachL_succ, ← List.take_append_drop q (M.evL n s), List.findSome?_append, show List.findSome? (M.tryL n m s) (List.take q (M.evL n s)) = none from h]
  have hlt := (List.getElem?_eq_some_iff.1 he).1
  have hge := (List.getElem?_eq_some_iff.1 he).2
  rw [List.drop_eq_getElem_cons hlt, hge, List.findSome?_cons, h2]
  rfl
theorem M.NoneQ.all {m : Nat} (h : M.NoneQ n m s (M.mx n s + M.mx n s)) : M.reachL n (m + 1) s = none := by
  unfold M.NoneQ at h
  rw [← M.evL_len, List.take_length] at h
  rw [M.reachL_succ, h]
theorem M.tryL_no {m : Nat} {e : Int × Nat} (h : M.step n s e.1 e.2 0 = none) : M.tryL n m s e = none := by unfold M.tryL; rw [h]; rfl
theorem M.tryL_none {m : Nat} {e : Int × Nat} (h : M.step n s e.1 e.2 0 = some t) (h2 : M.reachL n m t = none) : M.tryL n m s e = none := by unfold M.tryL; rw [h]; show (M.reachL n m t).map _ = none; rw [h2]; rfl
theorem M.tryL_some {m : Nat} {e : Int × Nat} {l : List (Int × Nat)} (h : M.step n s e.1 e.2 0 = some t) (h2 : M.reachL n m t = some l) : M.tryL n m s e = some (e :: l) := by unfold M.tryL; rw [h]; show (M.reachL n m t).map _ = _; rw [h2]; rfl
theorem M.reach_zero {l : List (Int × Nat)} : M.reachL n 0 s = some l ↔ M.Setd n s ∧ l = [] := by
  unfold M.reachL
  by_cases h : M.Setd n s
  · rw [if_pos h]
    constructor
    · intro e; injection e with e; exact ⟨h, e.symm⟩
    · rintro ⟨_, rfl⟩; rfl
  · rw [if_neg h]
    constructor
    · intro e; cases e
    · rintro ⟨h2, _⟩; exact absurd h2 h
/-- by depth, the first length at which something is found is the least one -/
theorem M.reach_least {D : Nat} (hD : M.Can n s D) (hl : ∀ m, m < D → ¬ M.Can n s m) : (∀ m, m < D → M.reachL n m s = none) ∧ ∃ l, M.reachL n D s = some l ∧ l.length = D := by
  constructor
  · intro m hm
    cases h : M.reachL n m s with
    | none => rfl
    | some l =>
      obtain ⟨h1, t, h2, h3⟩ := M.reach_some h
      have := M.Pth.can h2 (.done h3)
      rw [h1] at this
      exact absurd this (hl m hm)
  · cases h : M.reachL n D s with
    | none => exact absurd hD (M.reach_none h)
    | some l => exact ⟨l, rfl, (M.reach_some h).1⟩
end
/-- what holds of all states behind one -/
structure M.Okk (n : Nat) (s : M.St) : Prop where
  wf : M.Wf n s
  cn : M.Cn n s
theorem M.Okk.step {n : Nat} {s t : M.St} (h : M.Okk n s) {k a b : Int} (ht : M.step n s k a b = some t) : M.Okk n t := ⟨h.wf.step ht, h.cn.step h.wf ht⟩
theorem M.Okk.pth {n : Nat} {s t : M.St} {p : List (Int × Nat)} (h : M.Okk n s) (hp : M.Pth (M.nxt n) s p t) : M.Okk n t := by
  induction hp with
  | nil => exact h
  | snoc _ he ih => exact ih.step (M.mem_nxt.1 he).2
theorem M.nxt_bd {n : Nat} {s : M.St} (hn : n ≤ 4) (h : M.Okk n s) (p : List (Int × Nat)) (t : M.St) (hp : M.Pth (M.nxt n) s p t) : (M.nxt n t).length ≤ 12 := M.nxt_len (h.pth hp).wf.k6 (by omega)
/-- the states that a search can come to, without repeats -/
theorem M.univ_ {n : Nat} {s : M.St} (hn : n ≤ 4) (h : M.Okk n s) : ∃ L : List M.St, L.Nodup ∧ L.length ≤ 13 ^ 7 ∧ (∀ t, t ∈ L → M.Okk n t) ∧ ∀ p t, M.Pth (M.nxt n) s p t → p.length ≤ 7 → t ∈ L := by
  obtain ⟨L, h1, h2, h3⟩ := M.once (M.allR (M.nxt n) s 7)
  refine ⟨L, h1, Nat.le_trans h3 (M.allR_len (M.nxt_bd hn h) 7), fun t ht => ?_, fun p t hp hl => (h2 t).2 (M.mem_allR hp hl)⟩
  obtain ⟨p, hp, _⟩ := M.allR_pth ((h2 t).1 ht)
  exact h.pth hp
/-- of all four centres of the program -/
def M.setB (s : M.St) : Bool := !(decide (s.c 0 0 = 2) || decide (s.c 0 0 = 3) || (decide (s.c 1 0 = 2) || decide (s.c 1 0 = 3)) || (decide (s.c 2 0 = 2) || decide (s.c 2 0 = 3)) || (decide (s.c 3 0 = 2) || decide (s.c 3 0 = 3)))
theorem M.setB_iff {n : Nat} {s : M.St} (hc : M.Cn n s) (hn : n ≤ 4) : M.setB s = true ↔ M.Setd n s := by
  have out : ∀ i, n ≤ i → s.c i 0 = 0 := fun i hi => by rw [hc.out i hi]
  unfold M.setB
  simp only [Bool.not_eq_true', Bool.or_eq_false_iff, decide_eq_false_iff_not]
  constructor
  · rintro ⟨⟨⟨h0, h1⟩, h2⟩, h3⟩ i hi
    rcases (show i = 0 ∨ i = 1 ∨ i = 2 ∨ i = 3 by omega) with rfl | rfl | rfl | rfl
    · exact h0
    · exact h1
    · exact h2
    · exact h3
  · intro h
    have g : ∀ i, s.c i 0 ≠ 2 ∧ s.c i 0 ≠ 3 := fun i => by
      by_cases hi : i < n
      · exact h i hi
      · rw [out i (by omega)]; decide
    exact ⟨⟨⟨g 0, g 1⟩, g 2⟩, g 3⟩
end Go.Proofs.YtfnfjmjejffjiaaDoor
