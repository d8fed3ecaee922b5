/- What always holds of a call: who is responsible, and which messages there can be. Plain, no program. -/
import Derived.Test.YtfnfjmjejffjiaaDoorRMath
namespace Go.Proofs.YtfnfjmjejffjiaaDoor

/-- one centre holds the call -/
def M.CA (n : Nat) (c : Nat → Nat → Int) (h : Nat) : Prop := h < n ∧ c h 0 = 1 ∧ ∀ i, i < n → i ≠ h → (c i 0 = 0 ∨ c i 0 = 4) ∧ c i 2 ≤ c h 2
def M.MA (c : Nat → Nat → Int) (h : Nat) (x : Nat → Int) : Prop := x 3 ≤ c h 2 ∧ (x 0 = 1 → x 3 ≤ c (x 2).toNat 2)
def M.rest (n : Nat) (c : Nat → Nat → Int) (h b : Nat) (T : Int) : Prop := ∀ i, i < n → i ≠ h → i ≠ b → (c i 0 = 0 ∨ c i 0 = 4) ∧ c i 2 < T
/-- one centre offers the call, the other one has not heard of it -/
def M.CB (n : Nat) (c : Nat → Nat → Int) (h b : Nat) (T : Int) : Prop := h < n ∧ b < n ∧ h ≠ b ∧ (c h 0 = 2 ∧ c h 1 = b ∧ c h 2 = T) ∧ ((c b 0 = 0 ∨ c b 0 = 4) ∧ c b 2 < T) ∧ M.rest n c h b T
def M.MB (c : Nat → Nat → Int) (h b : Nat) (T : Int) (x : Nat → Int) : Prop := x 3 ≤ T ∧ (x 3 = T → x 0 = 1 ∧ x 1 = h ∧ x 2 = b) ∧ (x 0 = 1 → x 3 ≠ T → x 3 ≤ c (x 2).toNat 2)
/-- .. the other one takes it -/
def M.CC (n : Nat) (c : Nat → Nat → Int) (h b : Nat) (T : Int) : Prop := h < n ∧ b < n ∧ h ≠ b ∧ (c h 0 = 2 ∧ c h 1 = b ∧ c h 2 = T) ∧ (c b 0 = 3 ∧ c b 1 = h ∧ c b 2 = T) ∧ M.rest n c h b T
def M.MC (c : Nat → Nat → Int) (h b : Nat) (T : Int) (x : Nat → Int) : Prop := x 3 ≤ T ∧ (x 3 = T → x 0 = 1 ∧ x 1 = h ∧ x 2 = b ∨ x 0 = 2 ∧ x 1 = b ∧ x 2 = h) ∧ (x 0 = 1 → x 3 ≠ T → x 3 ≤ c (x 2).toNat 2)
/-- .. the first one has handed it over -/
def M.CD (n : Nat) (c : Nat → Nat → Int) (h b : Nat) (T : Int) : Prop := h < n ∧ b < n ∧ h ≠ b ∧ (c h 0 = 4 ∧ c h 1 = b ∧ c h 2 = T) ∧ (c b 0 = 3 ∧ c b 1 = h ∧ c b 2 = T) ∧ M.rest n c h b T
def M.MD (c : Nat → Nat → Int) (h b : Nat) (T : Int) (x : Nat → Int) : Prop := x 3 ≤ T ∧ (x 3 = T → x 0 = 1 ∧ x 1 = h ∧ x 2 = b ∨ x 0 = 2 ∧ x 1 = b ∧ x 2 = h ∨ x 0 = 3 ∧ x 1 = h ∧ x 2 = b) ∧ (x 0 = 1 → x 3 ≠ T → x 3 ≤ c (x 2).toNat 2)
def M.Inv (n : Nat) (s : M.St) : Prop :=
  (∃ h, M.CA n s.c h ∧ M.All s (M.MA s.c h)) ∨ (∃ h b T, M.CB n s.c h b T ∧ M.All s (M.MB s.c h b T)) ∨
  (∃ h b T, M.CC n s.c h b T ∧ M.All s (M.MC s.c h b T)) ∨ (∃ h b T, M.CD n s.c h b T ∧ M.All s (M.MD s.c h b T))

theorem M.v4_0 (a b c d : Int) : M.v4 a b c d 0 = a := rfl
theorem M.v4_1 (a b c d : Int) : M.v4 a b c d 1 = b := rfl
theorem M.v4_2 (a b c d : Int) : M.v4 a b c d 2 = c := rfl
theorem M.v4_3 (a b c d : Int) : M.v4 a b c d 3 = d := rfl
theorem M.v3_0 (a b c : Int) : M.v3 a b c 0 = a := rfl
theorem M.v3_1 (a b c : Int) : M.v3 a b c 1 = b := rfl
theorem M.v3_2 (a b c : Int) : M.v3 a b c 2 = c := rfl
theorem M.set_c (s : M.St) (i : Nat) (v : Nat → Int) (a : Nat) : (M.setC s i v).c a = if a = i then v else s.c a := rfl
theorem M.set_same (s : M.St) (i : Nat) (v : Nat → Int) : (M.setC s i v).c i = v := if_pos rfl
theorem M.set_far (s : M.St) {i a : Nat} (v : Nat → Int) (h : a ≠ i) : (M.setC s i v).c a = s.c a := if_neg h
section
variable {n : Nat} {s : M.St}
theorem M.Inv.of {t : M.St} (h : M.Inv n s) (hc : t.c = s.c) (hm : ∀ P, M.All s P → M.All t P) : M.Inv n t := by
  rcases h with ⟨h, c, m⟩ | ⟨h, b, T, c, m⟩ | ⟨h, b, T, c, m⟩ | ⟨h, b, T, c, m⟩
  · exact .inl ⟨h, by rw [hc]; exact c, by rw [hc]; exact hm _ m⟩
  · exact .inr (.inl ⟨h, b, T, by rw [hc]; exact c, by rw [hc]; exact hm _ m⟩)
  · exact .inr (.inr (.inl ⟨h, b, T, by rw [hc]; exact c, by rw [hc]; exact hm _ m⟩))
  · exact .inr (.inr (.inr ⟨h, b, T, by rw [hc]; exact c, by rw [hc]; exact hm _ m⟩))
/-- the status of a centre in each phase -/
theorem M.rest_far {c : Nat → Nat → Int} {h b : Nat} {T : Int} (hr : M.rest n c h b T) {i : Nat} (hi : i < n) (h0 : c i 0 ≠ 0) (h4 : c i 0 ≠ 4) : i = h ∨ i = b := by
  by_cases e : i = h
  · exact .inl e
  · by_cases e2 : i = b
    · exact .inr e2
    · rcases (hr i hi e e2).1 with h1 | h1
      · exact absurd h1 h0
      · exact absurd h1 h4
theorem M.handle_A {h : Nat} (c : M.CA n s.c h) (m : M.All s (M.MA s.c h)) {x : Nat → Int} (hx : 0 ≤ x 1 ∧ x 1 < n ∧ 0 ≤ x 2 ∧ x 2 < n) (p : M.MA s.c h x) : M.Inv n (M.handle s x) := by
  obtain ⟨hh, h1, ho⟩ := c
  have ht : (x 2).toNat < n := by omega
  have hto : (x 2).toNat = h ∨ ((s.c (x 2).toNat 0 = 0 ∨ s.c (x 2).toNat 0 = 4) ∧ s.c (x 2).toNat 2 ≤ s.c h 2) := by
    by_cases e : (x 2).toNat = h
    · exact .inl e
    · exact .inr (ho _ ht e)
  obtain ⟨p1, p2⟩ := p
  unfold M.handle
  split
  · rename_i q; have := p2 q.1; omega
  split
  · rename_i q
    rcases hto with e | e
    · rw [e, h1] at q; omega
    · omega
  split
  · rename_i q
    rcases hto with e | e
    · rw [e, h1] at q; omega
    · omega
  split
  · rename_i q
    refine .inl ⟨h, ⟨hh, h1, ho⟩, M.All.add m ⟨?_, fun e => ?_⟩⟩
    · show s.c (x 2).toNat 2 ≤ s.c h 2
      rcases hto with e | e
      · rw [e]; exact Int.le_refl _
      · exact e.2
    · exact absurd e (by decide : ¬ (3 : Int) = 1)
  split
  · rename_i q
    rcases hto with e | e
    · rw [e, h1] at q; omega
    · omega
  · exact .inl ⟨h, ⟨hh, h1, ho⟩, m⟩
theorem M.handle_B {h b : Nat} {T : Int} (c : M.CB n s.c h b T) (m : M.All s (M.MB s.c h b T)) {x : Nat → Int} (hx : 0 ≤ x 1 ∧ x 1 < n ∧ 0 ≤ x 2 ∧ x 2 < n) (p : M.MB s.c h b T x) : M.Inv n (M.handle s x) := by
  obtain ⟨hh, hb, hne, ⟨c0, c1, c2⟩, ⟨d0, d2⟩, hr⟩ := c
  have hI : M.CB n s.c h b T := ⟨hh, hb, hne, ⟨c0, c1, c2⟩, ⟨d0, d2⟩, hr⟩
  have ht : (x 2).toNat < n := by omega
  obtain ⟨p1, p2, p3⟩ := p
  have hto : (x 2).toNat = h ∨ ((s.c (x 2).toNat 0 = 0 ∨ s.c (x 2).toNat 0 = 4) ∧ s.c (x 2).toNat 2 < T) := by
    by_cases e : (x 2).toNat = h
    · exact .inl e
    · by_cases e2 : (x 2).toNat = b
      · rw [e2]; exact .inr ⟨d0, d2⟩
      · exact .inr (hr _ ht e e2)
  unfold M.handle
  split
  · rename_i q
    by_cases e : x 3 = T
    · obtain ⟨e0, e1, e2⟩ := p2 e
      have eb : (x 2).toNat = b := by omega
      rw [eb]
      have hf : ∀ i, i ≠ b → (M.setC s b (M.v3 3 (x 1) (x 3))).c i = s.c i := fun i hi => M.set_far s _ hi
      have hs := M.set_same s b (M.v3 3 (x 1) (x 3))
      refine .inr (.inr (.inl ⟨h, b, T, ⟨hh, hb, hne, ?_, ?_, fun i hi h1 h2 => ?_⟩, M.All.add (s := M.setC s b (M.v3 3 (x 1) (x 3))) (fun a ha => ?_) ?_⟩))
      · show (M.setC s b (M.v3 3 (x 1) (x 3))).c h 0 = 2 ∧ (M.setC s b (M.v3 3 (x 1) (x 3))).c h 1 = b ∧ (M.setC s b (M.v3 3 (x 1) (x 3))).c h 2 = T
        rw [hf h hne]; exact ⟨c0, c1, c2⟩
      · show (M.setC s b (M.v3 3 (x 1) (x 3))).c b 0 = 3 ∧ (M.setC s b (M.v3 3 (x 1) (x 3))).c b 1 = h ∧ (M.setC s b (M.v3 3 (x 1) (x 3))).c b 2 = T
        rw [hs]; exact ⟨rfl, e1, e⟩
      · show ((M.setC s b (M.v3 3 (x 1) (x 3))).c i 0 = 0 ∨ (M.setC s b (M.v3 3 (x 1) (x 3))).c i 0 = 4) ∧ (M.setC s b (M.v3 3 (x 1) (x 3))).c i 2 < T
        rw [hf i h2]; exact hr i hi h1 h2
      · obtain ⟨q1, q2, q3⟩ := m a ha
        refine ⟨q1, fun e => .inl (q2 e), fun e e3 => ?_⟩
        have q4 := q3 e e3
        show s.m a 3 ≤ (M.setC s b (M.v3 3 (x 1) (x 3))).c (s.m a 2).toNat 2
        by_cases e4 : (s.m a 2).toNat = b
        · rw [e4, hs]; show s.m a 3 ≤ x 3; omega
        · rw [hf _ e4]; exact q4
      · refine ⟨?_, fun _ => .inr ⟨rfl, e2, e1⟩, fun e => absurd e (by decide : ¬ (2 : Int) = 1)⟩
        show (M.setC s b (M.v3 3 (x 1) (x 3))).c (x 2).toNat 2 ≤ T
        rw [eb, hs]; show x 3 ≤ T; omega
    · have := p3 q.1 e; omega
  split
  · rename_i q
    rcases hto with e | e
    · rw [e, c0] at q; omega
    · omega
  split
  · rename_i q
    rcases hto with e | e
    · rw [e, c2] at q
      have := p2 q.2.2.2.symm
      omega
    · omega
  split
  · rename_i q
    refine .inr (.inl ⟨h, b, T, hI, M.All.add m ⟨?_, fun e => ?_, fun e => absurd e (by decide : ¬ (3 : Int) = 1)⟩⟩)
    · show s.c (x 2).toNat 2 ≤ T
      rcases hto with e | e
      · rw [e]; omega
      · omega
    · have e : s.c (x 2).toNat 2 = T := e
      rcases hto with e3 | e3
      · rw [e3, c0] at q; omega
      · omega
  split
  · rename_i q
    rcases hto with e | e
    · rw [e, c0] at q; omega
    · omega
  · exact .inr (.inl ⟨h, b, T, hI, m⟩)
theorem M.handle_C {h b : Nat} {T : Int} (c : M.CC n s.c h b T) (m : M.All s (M.MC s.c h b T)) {x : Nat → Int} (hx : 0 ≤ x 1 ∧ x 1 < n ∧ 0 ≤ x 2 ∧ x 2 < n) (p : M.MC s.c h b T x) : M.Inv n (M.handle s x) := by
  obtain ⟨hh, hb, hne, ⟨c0, c1, c2⟩, ⟨d0, d1, d2⟩, hr⟩ := c
  have hI : M.CC n s.c h b T := ⟨hh, hb, hne, ⟨c0, c1, c2⟩, ⟨d0, d1, d2⟩, hr⟩
  have ht : (x 2).toNat < n := by omega
  obtain ⟨p1, p2, p3⟩ := p
  have hto : (x 2).toNat = h ∨ (x 2).toNat = b ∨ ((s.c (x 2).toNat 0 = 0 ∨ s.c (x 2).toNat 0 = 4) ∧ s.c (x 2).toNat 2 < T) := by
    by_cases e : (x 2).toNat = h
    · exact .inl e
    · by_cases e2 : (x 2).toNat = b
      · exact .inr (.inl e2)
      · exact .inr (.inr (hr _ ht e e2))
  unfold M.handle
  split
  · rename_i q
    rcases hto with e | e | e
    · rw [e, c0] at q; omega
    · rw [e, d0] at q; omega
    · by_cases e3 : x 3 = T
      · have := p2 e3
        have eb : (x 2).toNat = b := by omega
        rw [eb, d0] at q; omega
      · have := p3 q.1 e3; omega
  split
  · rename_i q
    have eb : (x 2).toNat = b := by
      rcases hto with e | e | e
      · rw [e, c0] at q; omega
      · exact e
      · omega
    rw [eb, d1, d2] at q
    refine .inr (.inr (.inl ⟨h, b, T, hI, M.All.add m ⟨?_, fun _ => .inr ⟨rfl, ?_, ?_⟩, fun e => absurd e (by decide : ¬ (2 : Int) = 1)⟩⟩))
    · show s.c (x 2).toNat 2 ≤ T
      rw [eb, d2]; exact Int.le_refl _
    · show x 2 = b
      omega
    · show x 1 = h
      omega
  split
  · rename_i q
    have eh : (x 2).toNat = h := by
      rcases hto with e | e | e
      · exact e
      · rw [e, d0] at q; omega
      · omega
    rw [eh, c1, c2] at q
    rw [eh]
    have hf : ∀ i, i ≠ h → (M.setC s h (M.v3 4 (s.c h 1) (s.c h 2))).c i = s.c i := fun i hi => M.set_far s _ hi
    have hs := M.set_same s h (M.v3 4 (s.c h 1) (s.c h 2))
    refine .inr (.inr (.inr ⟨h, b, T, ⟨hh, hb, hne, ?_, ?_, fun i hi h1 h2 => ?_⟩, M.All.add (s := M.setC s h (M.v3 4 (s.c h 1) (s.c h 2))) (fun a ha => ?_) ?_⟩))
    · show (M.setC s h (M.v3 4 (s.c h 1) (s.c h 2))).c h 0 = 4 ∧ (M.setC s h (M.v3 4 (s.c h 1) (s.c h 2))).c h 1 = b ∧ (M.setC s h (M.v3 4 (s.c h 1) (s.c h 2))).c h 2 = T
      rw [hs]; exact ⟨rfl, c1, c2⟩
    · show (M.setC s h (M.v3 4 (s.c h 1) (s.c h 2))).c b 0 = 3 ∧ (M.setC s h (M.v3 4 (s.c h 1) (s.c h 2))).c b 1 = h ∧ (M.setC s h (M.v3 4 (s.c h 1) (s.c h 2))).c b 2 = T
      rw [hf b (Ne.symm hne)]; exact ⟨d0, d1, d2⟩
    · show ((M.setC s h (M.v3 4 (s.c h 1) (s.c h 2))).c i 0 = 0 ∨ (M.setC s h (M.v3 4 (s.c h 1) (s.c h 2))).c i 0 = 4) ∧ (M.setC s h (M.v3 4 (s.c h 1) (s.c h 2))).c i 2 < T
      rw [hf i h1]; exact hr i hi h1 h2
    · obtain ⟨q1, q2, q3⟩ := m a ha
      refine ⟨q1, fun e => ?_, fun e e3 => ?_⟩
      · rcases q2 e with h1 | h1
        · exact .inl h1
        · exact .inr (.inl h1)
      have q4 := q3 e e3
      show s.m a 3 ≤ (M.setC s h (M.v3 4 (s.c h 1) (s.c h 2))).c (s.m a 2).toNat 2
      by_cases e4 : (s.m a 2).toNat = h
      · rw [e4, hs]; rw [e4] at q4; exact q4
      · rw [hf _ e4]; exact q4
    · refine ⟨?_, fun _ => .inr (.inr ⟨rfl, ?_, ?_⟩), fun e => absurd e (by decide : ¬ (3 : Int) = 1)⟩
      · show (M.setC s h (M.v3 4 (s.c h 1) (s.c h 2))).c (x 2).toNat 2 ≤ T
        rw [eh, hs]; show s.c h 2 ≤ T; omega
      · show x 2 = h
        omega
      · show x 1 = b
        omega
  split
  · rename_i q
    rcases hto with e | e | e
    · rw [e, c0] at q; omega
    · rw [e, d0] at q; omega
    · refine .inr (.inr (.inl ⟨h, b, T, hI, M.All.add m ⟨?_, fun e3 => ?_, fun e => absurd e (by decide : ¬ (3 : Int) = 1)⟩⟩))
      · show s.c (x 2).toNat 2 ≤ T
        omega
      · have e3 : s.c (x 2).toNat 2 = T := e3
        omega
  split
  · rename_i q
    rcases hto with e | e | e
    · rw [e, c0] at q; omega
    · rw [e, d2] at q
      have := p2 q.2.2.2.symm
      omega
    · omega
  · exact .inr (.inr (.inl ⟨h, b, T, hI, m⟩))
theorem M.handle_D {h b : Nat} {T : Int} (c : M.CD n s.c h b T) (m : M.All s (M.MD s.c h b T)) {x : Nat → Int} (hx : 0 ≤ x 1 ∧ x 1 < n ∧ 0 ≤ x 2 ∧ x 2 < n) (p : M.MD s.c h b T x) : M.Inv n (M.handle s x) := by
  obtain ⟨hh, hb, hne, ⟨c0, c1, c2⟩, ⟨d0, d1, d2⟩, hr⟩ := c
  have hI : M.CD n s.c h b T := ⟨hh, hb, hne, ⟨c0, c1, c2⟩, ⟨d0, d1, d2⟩, hr⟩
  have ht : (x 2).toNat < n := by omega
  obtain ⟨p1, p2, p3⟩ := p
  have hto : (x 2).toNat = h ∨ (x 2).toNat = b ∨ ((s.c (x 2).toNat 0 = 0 ∨ s.c (x 2).toNat 0 = 4) ∧ s.c (x 2).toNat 2 < T) := by
    by_cases e : (x 2).toNat = h
    · exact .inl e
    · by_cases e2 : (x 2).toNat = b
      · exact .inr (.inl e2)
      · exact .inr (.inr (hr _ ht e e2))
  unfold M.handle
  split
  · rename_i q
    by_cases e3 : x 3 = T
    · have := p2 e3
      have eb : (x 2).toNat = b := by omega
      rw [eb, d0] at q; omega
    · have := p3 q.1 e3; omega
  split
  · rename_i q
    have eb : (x 2).toNat = b := by
      rcases hto with e | e | e
      · rw [e, c0] at q; omega
      · exact e
      · omega
    rw [eb, d1, d2] at q
    refine .inr (.inr (.inr ⟨h, b, T, hI, M.All.add m ⟨?_, fun _ => .inr (.inl ⟨rfl, ?_, ?_⟩), fun e => absurd e (by decide : ¬ (2 : Int) = 1)⟩⟩))
    · show s.c (x 2).toNat 2 ≤ T
      rw [eb, d2]; exact Int.le_refl _
    · show x 2 = b
      omega
    · show x 1 = h
      omega
  split
  · rename_i q
    rcases hto with e | e | e
    · rw [e, c0] at q; omega
    · rw [e, d0] at q; omega
    · omega
  split
  · rename_i q
    rcases hto with e | e | e
    · rw [e, c1, c2] at q
      refine .inr (.inr (.inr ⟨h, b, T, hI, M.All.add m ⟨?_, fun _ => .inr (.inr ⟨rfl, ?_, ?_⟩), fun e => absurd e (by decide : ¬ (3 : Int) = 1)⟩⟩))
      · show s.c (x 2).toNat 2 ≤ T
        rw [e, c2]; exact Int.le_refl _
      · show x 2 = h
        omega
      · show x 1 = b
        omega
    · rw [e, d0] at q; omega
    · refine .inr (.inr (.inr ⟨h, b, T, hI, M.All.add m ⟨?_, fun e3 => ?_, fun e => absurd e (by decide : ¬ (3 : Int) = 1)⟩⟩))
      · show s.c (x 2).toNat 2 ≤ T
        omega
      · have e3 : s.c (x 2).toNat 2 = T := e3
        omega
  split
  · rename_i q
    have eb : (x 2).toNat = b := by
      rcases hto with e | e | e
      · rw [e, c0] at q; omega
      · exact e
      · omega
    rw [eb]
    have hf : ∀ i, i ≠ b → (M.setC s b (M.v3 1 0 (s.c b 2))).c i = s.c i := fun i hi => M.set_far s _ hi
    have hs := M.set_same s b (M.v3 1 0 (s.c b 2))
    refine .inl ⟨b, ⟨hb, by rw [hs]; rfl, fun i hi h1 => ?_⟩, fun a ha => ?_⟩
    · rw [hf i h1, hs]
      show (s.c i 0 = 0 ∨ s.c i 0 = 4) ∧ s.c i 2 ≤ s.c b 2
      by_cases e : i = h
      · subst e; exact ⟨.inr c0, by omega⟩
      · have := hr i hi e h1; exact ⟨this.1, by omega⟩
    · obtain ⟨q1, q2, q3⟩ := m a ha
      refine ⟨?_, fun e => ?_⟩
      · show s.m a 3 ≤ (M.setC s b (M.v3 1 0 (s.c b 2))).c b 2
        rw [hs]; show s.m a 3 ≤ s.c b 2; omega
      · have e : s.m a 0 = 1 := e
        show s.m a 3 ≤ (M.setC s b (M.v3 1 0 (s.c b 2))).c (s.m a 2).toNat 2
        by_cases e4 : (s.m a 2).toNat = b
        · rw [e4, hs]; show s.m a 3 ≤ s.c b 2; omega
        · rw [hf _ e4]
          by_cases e5 : s.m a 3 = T
          · have := q2 e5; omega
          · exact q3 e e5
  · exact .inr (.inr (.inr ⟨h, b, T, hI, m⟩))
theorem M.Inv.handle (hI : M.Inv n s) (hw : M.Wf n s) {i : Nat} (hi : i < s.k) : M.Inv n (M.handle (M.drop s i) (s.m i)) := by
  have hx := hw.msg i hi
  have hx' : 0 ≤ s.m i 1 ∧ s.m i 1 < n ∧ 0 ≤ s.m i 2 ∧ s.m i 2 < n := ⟨hx.2.2.1, hx.2.2.2.1, hx.2.2.2.2.1, hx.2.2.2.2.2.1⟩
  rcases hI with ⟨h, c, m⟩ | ⟨h, b, T, c, m⟩ | ⟨h, b, T, c, m⟩ | ⟨h, b, T, c, m⟩
  · exact M.handle_A (s := M.drop s i) c (m.drop hi) hx' (m i hi)
  · exact M.handle_B (s := M.drop s i) c (m.drop hi) hx' (m i hi)
  · exact M.handle_C (s := M.drop s i) c (m.drop hi) hx' (m i hi)
  · exact M.handle_D (s := M.drop s i) c (m.drop hi) hx' (m i hi)
theorem M.Inv.offer (hI : M.Inv n s) {t : M.St} {a b : Int} (ht : M.offer n s a b = some t) : M.Inv n t := by
  unfold M.offer at ht
  split at ht
  · rename_i q
    injection ht with ht; subst ht
    obtain ⟨a, rfl⟩ := Int.eq_ofNat_of_zero_le q.1
    obtain ⟨b, rfl⟩ := Int.eq_ofNat_of_zero_le q.2.2.1
    have e1 : ((a : Int)).toNat = a := Int.toNat_natCast a
    rw [e1] at q ⊢
    rcases hI with ⟨h, ⟨hh, h1, ho⟩, m⟩ | ⟨h, c, T, ⟨hh, hb, hne, ⟨c0, c1, c2⟩, ⟨d0, d2⟩, hr⟩, m⟩ | ⟨h, c, T, ⟨hh, hb, hne, ⟨c0, c1, c2⟩, ⟨d0, d1, d2⟩, hr⟩, m⟩ | ⟨h, c, T, ⟨hh, hb, hne, ⟨c0, c1, c2⟩, ⟨d0, d1, d2⟩, hr⟩, m⟩
    · have ea : a = h := by
        refine Classical.byContradiction fun e => ?_
        have := ho a (by omega) e; omega
      subst ea
      have hf : ∀ i, i ≠ a → (M.setC s a (M.v3 2 (b : Int) (s.c a 2 + 1))).c i = s.c i := fun i hi => M.set_far s _ hi
      have hs := M.set_same s a (M.v3 2 (b : Int) (s.c a 2 + 1))
      have hab : b ≠ a := by omega
      refine .inr (.inl ⟨a, b, s.c a 2 + 1, ⟨hh, by omega, Ne.symm hab, ?_, ?_, fun i hi h1 h2 => ?_⟩, M.All.add (s := M.setC s a (M.v3 2 (b : Int) (s.c a 2 + 1))) (fun i hi => ?_) ?_⟩)
      · show (M.setC s a (M.v3 2 (b : Int) (s.c a 2 + 1))).c a 0 = 2 ∧ (M.setC s a (M.v3 2 (b : Int) (s.c a 2 + 1))).c a 1 = b ∧ (M.setC s a (M.v3 2 (b : Int) (s.c a 2 + 1))).c a 2 = s.c a 2 + 1
        rw [hs]; exact ⟨rfl, rfl, rfl⟩
      · show ((M.setC s a (M.v3 2 (b : Int) (s.c a 2 + 1))).c b 0 = 0 ∨ (M.setC s a (M.v3 2 (b : Int) (s.c a 2 + 1))).c b 0 = 4) ∧ (M.setC s a (M.v3 2 (b : Int) (s.c a 2 + 1))).c b 2 < s.c a 2 + 1
        rw [hf b hab]
        have := ho b (by omega) hab
        exact ⟨this.1, by omega⟩
      · show ((M.setC s a (M.v3 2 (b : Int) (s.c a 2 + 1))).c i 0 = 0 ∨ (M.setC s a (M.v3 2 (b : Int) (s.c a 2 + 1))).c i 0 = 4) ∧ (M.setC s a (M.v3 2 (b : Int) (s.c a 2 + 1))).c i 2 < s.c a 2 + 1
        rw [hf i h1]
        have := ho i hi h1
        exact ⟨this.1, by omega⟩
      · obtain ⟨q1, q2⟩ := m i hi
        refine ⟨?_, fun e => ?_, fun e e3 => ?_⟩
        · show s.m i 3 ≤ s.c a 2 + 1
          omega
        · have e : s.m i 3 = s.c a 2 + 1 := e
          omega
        · have q3 := q2 e
          show s.m i 3 ≤ (M.setC s a (M.v3 2 (b : Int) (s.c a 2 + 1))).c (s.m i 2).toNat 2
          by_cases e4 : (s.m i 2).toNat = a
          · rw [e4, hs]; show s.m i 3 ≤ s.c a 2 + 1; omega
          · rw [hf _ e4]; exact q3
      · refine ⟨?_, fun _ => ⟨rfl, rfl, rfl⟩, fun _ e3 => absurd ?_ e3⟩
        · show (M.setC s a (M.v3 2 (b : Int) (s.c a 2 + 1))).c ((a : Int)).toNat 2 ≤ s.c a 2 + 1
          rw [e1, hs]; exact Int.le_refl _
        · show (M.setC s a (M.v3 2 (b : Int) (s.c a 2 + 1))).c ((a : Int)).toNat 2 = s.c a 2 + 1
          rw [e1, hs]; rfl
    all_goals
      exfalso
      have hn : a < n := by omega
      rcases M.rest_far hr hn (by omega) (by omega) with e | e
      · rw [e, c0] at q; omega
      · rw [e] at q; omega
  · cases ht
theorem M.Inv.again (hI : M.Inv n s) {t : M.St} {a : Int} (ht : M.again n s a = some t) : M.Inv n t := by
  unfold M.again at ht
  split at ht
  · rename_i q
    obtain ⟨a, rfl⟩ := Int.eq_ofNat_of_zero_le q.1
    have e1 : ((a : Int)).toNat = a := Int.toNat_natCast a
    rw [e1] at ht
    have hn : a < n := by omega
    rcases hI with ⟨h, ⟨hh, h1, ho⟩, m⟩ | ⟨h, b, T, ⟨hh, hb, hne, ⟨c0, c1, c2⟩, ⟨d0, d2⟩, hr⟩, m⟩ | ⟨h, b, T, ⟨hh, hb, hne, ⟨c0, c1, c2⟩, ⟨d0, d1, d2⟩, hr⟩, m⟩ | ⟨h, b, T, ⟨hh, hb, hne, ⟨c0, c1, c2⟩, ⟨d0, d1, d2⟩, hr⟩, m⟩
    · exfalso
      by_cases e : a = h
      · subst e
        rw [if_neg (by omega), if_neg (by omega)] at ht; cases ht
      · have := ho a hn e
        rw [if_neg (by omega), if_neg (by omega)] at ht; cases ht
    · split at ht
      · rename_i z
        have ea : a = h := by
          rcases M.rest_far hr hn (by omega) (by omega) with e | e
          · exact e
          · rw [e] at z; omega
        subst ea
        injection ht with ht; subst ht
        refine .inr (.inl ⟨a, b, T, ⟨hh, hb, hne, ⟨c0, c1, c2⟩, ⟨d0, d2⟩, hr⟩, M.All.add m ⟨?_, fun _ => ⟨rfl, rfl, c1⟩, fun _ e3 => absurd ?_ e3⟩⟩)
        · show s.c ((a : Int)).toNat 2 ≤ T
          rw [e1, c2]; exact Int.le_refl _
        · show s.c ((a : Int)).toNat 2 = T
          rw [e1, c2]
      split at ht
      · rename_i z
        exfalso
        rcases M.rest_far hr hn (by omega) (by omega) with e | e
        · rw [e] at z; omega
        · rw [e] at z; omega
      · cases ht
    · split at ht
      · rename_i z
        have ea : a = h := by
          rcases M.rest_far hr hn (by omega) (by omega) with e | e
          · exact e
          · rw [e] at z; omega
        subst ea
        injection ht with ht; subst ht
        refine .inr (.inr (.inl ⟨a, b, T, ⟨hh, hb, hne, ⟨c0, c1, c2⟩, ⟨d0, d1, d2⟩, hr⟩, M.All.add m ⟨?_, fun _ => .inl ⟨rfl, rfl, c1⟩, fun _ e3 => absurd ?_ e3⟩⟩))
        · show s.c ((a : Int)).toNat 2 ≤ T
          rw [e1, c2]; exact Int.le_refl _
        · show s.c ((a : Int)).toNat 2 = T
          rw [e1, c2]
      split at ht
      · rename_i z
        have ea : a = b := by
          rcases M.rest_far hr hn (by omega) (by omega) with e | e
          · rw [e] at z; omega
          · exact e
        subst ea
        injection ht with ht; subst ht
        refine .inr (.inr (.inl ⟨h, a, T, ⟨hh, hb, hne, ⟨c0, c1, c2⟩, ⟨d0, d1, d2⟩, hr⟩, M.All.add m ⟨?_, fun _ => .inr ⟨rfl, rfl, d1⟩, fun e => absurd e (by decide : ¬ (2 : Int) = 1)⟩⟩))
        · show s.c ((a : Int)).toNat 2 ≤ T
          rw [e1, d2]; exact Int.le_refl _
      · cases ht
    · split at ht
      · rename_i z
        exfalso
        rcases M.rest_far hr hn (by omega) (by omega) with e | e
        · rw [e] at z; omega
        · rw [e] at z; omega
      split at ht
      · rename_i z
        have ea : a = b := by
          rcases M.rest_far hr hn (by omega) (by omega) with e | e
          · rw [e] at z; omega
          · exact e
        subst ea
        injection ht with ht; subst ht
        refine .inr (.inr (.inr ⟨h, a, T, ⟨hh, hb, hne, ⟨c0, c1, c2⟩, ⟨d0, d1, d2⟩, hr⟩, M.All.add m ⟨?_, fun _ => .inr (.inl ⟨rfl, rfl, d1⟩), fun e => absurd e (by decide : ¬ (2 : Int) = 1)⟩⟩))
        · show s.c ((a : Int)).toNat 2 ≤ T
          rw [e1, d2]; exact Int.le_refl _
      · cases ht
  · cases ht
theorem M.Inv.go (hI : M.Inv n s) (hw : M.Wf n s) (k a b : Int) : M.Inv n (M.go n s k a b) := by
  unfold M.go
  cases e : M.step n s k a b with
  | none => exact hI
  | some t =>
    show M.Inv n t
    unfold M.step at e
    split at e
    · exact hI.offer e
    split at e
    · cases e
    split at e
    · exact hI.again e
    split at e
    · cases e
    rename_i hr
    have hr : 0 ≤ a ∧ a < s.k := Classical.not_not.1 hr
    split at e
    · injection e with e; subst e
      exact hI.handle hw (by omega)
    split at e
    · injection e with e; subst e
      exact hI.of rfl fun P h => h.drop (by omega)
    split at e
    · split at e
      · injection e with e; subst e
        exact hI.of rfl fun P h => h.add (h a.toNat (by omega))
      · cases e
    · cases e
theorem M.Inv.init {first : Int} (hf : 0 ≤ first ∧ first < n) : M.Inv n (M.init first) := by
  refine .inl ⟨first.toNat, ⟨by omega, ?_, fun i hi h1 => ?_⟩, fun a ha => by simp [M.init] at ha⟩
  · simp [M.init, M.v3]
  · simp [M.init, M.v3, h1]
theorem M.Inv.run {first : Int} (hf : 0 ≤ first ∧ first < n) (E : Nat → Nat → Int) (i : Nat) : M.Inv n (M.runF n first E i) := by
  induction i with
  | zero => exact M.Inv.init hf
  | succ i ih => exact ih.go (M.Wf.run hf E i) _ _ _
end
end Go.Proofs.YtfnfjmjejffjiaaDoor
