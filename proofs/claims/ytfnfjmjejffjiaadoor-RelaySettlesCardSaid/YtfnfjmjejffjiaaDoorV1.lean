/- RelaySettles, walked. -/
import Derived.Test.YtfnfjmjejffjiaaDoorU9
import Derived.Test.YtfnfjmjejffjiaaDoorG3
import Derived.Test.YtfnfjmjejffjiaaDoorF7
import Derived.Test.YtfnfjmjejffjiaaDoorHB
import Derived.Test.YtfnfjmjejffjiaaDoorT10
namespace Go.Proofs.YtfnfjmjejffjiaaDoor
open Go.RowKit Go.Maps

set_option maxRecDepth 100000 in
set_option maxHeartbeats 3200000 in
theorem settle_bad {n o : Int} {A : Option Addr} {en ec : Nat} {w : World} (h : chkE n o en ≠ 0) :
    Calls Tryd.prog 6 #[.int .i64 n, .int .i64 o, .slice A en ec] w fun e w' => e = .returned (.tuple #[.slice none 0 0, .int .i64 (chkE n o en)]) ∧ Below w.heap.size w w' := by
  have HRU := Lib.hid (run_bad n o A en ec w h)
  obtain ⟨r, hr⟩ : ∃ r, r = chkE n o en := ⟨_, rfl⟩
  unfold RunB at HRU
  rw [← hr] at h HRU ⊢
  have hr3 : (r != 0) = true := by simpa using h
  clear hr
  go_enter Tryd.func6, Tryd.ntmps6
  go_wp2_with fail
  refine HRU.out.mono ?_
  rintro e w1 ⟨rfl, hb⟩
  have HB1 := Lib.hid (hb.alloc hb.size (.cells litZ 57))
  have K0 := Lib.hid (Blk.new w1 57 litZ)
  have hz := hb.size
  clear hb
  go_wp2_with (refine wpList_stS rfl (.tmp 8) (.tmp 23) rfl rfl rfl K0.out rfl (litN_sv 0).1 (litN_sv 0).one ?_; intro w2 b2 g2; have HB2 := Lib.hid (HB1.out.grown g2 (by rw [World.size_alloc]; omega) (fun r hr => by injection hr with hr; omega)); clear b2 g2)
  go_ret2
  exact ⟨rfl, HB2.out⟩
theorem M.Okk.take_ {n : Nat} {s t : M.St} {p : List (Int × Nat)} (h : M.Okk n s) (hp : M.Pth (M.nxt n) s p t) : ∀ {i : Nat}, i ≤ p.length → M.Okk n (M.along n s (p.take i)) := by
  obtain ⟨_, hall⟩ := M.pth_along hp
  intro i
  induction i with
  | zero => exact fun _ => h
  | succ i ih =>
    intro hi
    have h1 := (hall i _ (List.getElem?_eq_getElem (show i < p.length by omega))).2
    exact (ih (by omega)).step h1
section
variable (A : Option Addr) (en ec B : Nat) (E : Nat → Nat → Int) (w : World) (hR : Rd w B A 3 en E) (hB : B ≤ w.heap.size)
theorem settles_far (n o : Int) (h1 : farE en = true) :
    Calls Tryd.prog 3 #[.int .i64 n, .int .i64 o, .slice A en ec] w fun e w' => e = .returned (.bool true) ∧ Below w.heap.size w w' := by
  have H1 := Lib.hid h1
  clear h1
  go_enter Tryd.func3, Tryd.ntmps3
  go_wp2_with (first
      | (go_at_call 4; refine (far_any _ _ _ _).mono ?_; rw [H1.out]; rintro e w1 ⟨rfl, rfl⟩)
      | (go_at_call 5; refine (works_any _).mono ?_; rintro en w9 ⟨rfl, hb9⟩; have HB9 := Lib.hid hb9; clear hb9))
  go_ret
  exact ⟨rfl, HB9.out⟩
/-- what the program's search answers -/
def SetQ (k nn : Nat) (s : M.St) (e0 : Int) (w : World) (e : Ending) (w' : World) : Prop :=
  ∃ (l : List (Int × Nat)) (A1 : Option Addr) (c1 : Nat), k = l.length ∧ (e0 = 0 → ∃ t, M.Pth (M.nxt nn) s l t ∧ M.Setd nn t) ∧ e = .returned (.tuple #[.slice A1 k c1, .int .i64 e0]) ∧ Rd w' w'.heap.size A1 3 k (evF l) ∧ Below w.heap.size w w'
/-- what the reference's answers -/
def SetG (l : Nat) (e0 : Int) (w : World) (e : Ending) (w' : World) : Prop :=
  ∃ A1 c1, e = .returned (.tuple #[.slice A1 l c1, .int .i64 e0]) ∧ Below w.heap.size w w'
def RunQ (nn : Nat) (s : M.St) (e0 : Int) (w : World) (e : Ending) (w' : World) : Prop :=
  ∃ v bA bn bc, e = .returned (.tuple #[v, .slice bA bn bc, .int .i64 e0]) ∧ CallV nn s w.heap.size v w' ∧ Below w.heap.size w w'
/-- what is known in the region that applies an event -/
structure ApI (X : World) (nn : Nat) (s : M.St) (base : Nat) (sm : Bool) (b5 b6 b7 b8 b9 b10 b11 : Bool) (x66 x60 x67 x68 x15 x16 : Value) (V : World) : Prop where
  b : Below X.heap.size X V
  h5 : b5 = true → ∃ v, CallV nn s base v V ∧ x66 = .tuple #[v, .bool sm] ∧ (b6 = true → x60 = .tuple #[v, .bool sm]) ∧ (b7 = true → x67 = v) ∧ (b8 = true → x68 = .bool sm) ∧ (b10 = true → ∃ g cs, X.heap.size ≤ g ∧ x15 = .pointer (some ⟨g, 0, none⟩) ∧ v = .agg cs ∧ Blk V g 31 cs)
  h9 : b9 = true → b10 = false → ∃ g, X.heap.size ≤ g ∧ x15 = .pointer (some ⟨g, 0, none⟩) ∧ Blk V g 31 #[.slice none 0 0, .slice none 0 0]
  h11 : b11 = true → x16 = .bool sm
  c6 : b6 = true → b5 = true
  c7 : b7 = true → b6 = true
  c8 : b8 = true → b6 = true
  c10 : b10 = true → b9 = true ∧ b7 = true
  c11 : b11 = true → b10 = true ∧ b8 = true
section
variable {X V V' : World} {nn base : Nat} {s : M.St} {sm b5 b6 b7 b8 b9 b10 b11 : Bool} {x66 x60 x67 x68 x15 x16 v : Value}
theorem ApI.no5 (h : ApI X nn s base sm false b6 b7 b8 b9 b10 b11 x66 x60 x67 x68 x15 x16 V) : b6 = false ∧ b7 = false ∧ b8 = false ∧ b10 = false ∧ b11 = false := by
  have h6 : b6 = false := by
    cases hb : b6
    · rfl
    · exact absurd (h.c6 hb) (by simp)
  subst h6
  have h7 : b7 = false := by
    cases hb : b7
    · rfl
    · exact absurd (h.c7 hb) (by simp)
  have h8 : b8 = false := by
    cases hb : b8
    · rfl
    · exact absurd (h.c8 hb) (by simp)
  subst h7; subst h8
  have h10 : b10 = false := by
    cases hb : b10
    · rfl
    · exact absurd (h.c10 hb).2 (by simp)
  subst h10
  refine ⟨rfl, rfl, rfl, rfl, ?_⟩
  cases hb : b11
  · rfl
  · exact absurd (h.c11 hb).1 (by simp)
theorem ApI.no9 (h : ApI X nn s base sm b5 b6 b7 b8 false b10 b11 x66 x60 x67 x68 x15 x16 V) : b10 = false ∧ b11 = false := by
  have h10 : b10 = false := by
    cases hb : b10
    · rfl
    · exact absurd (h.c10 hb).1 (by simp)
  subst h10
  refine ⟨rfl, ?_⟩
  cases hb : b11
  · rfl
  · exact absurd (h.c11 hb).1 (by simp)
theorem ApI.no10 (h : ApI X nn s base sm b5 b6 b7 b8 b9 false b11 x66 x60 x67 x68 x15 x16 V) : b11 = false := by
  cases hb : b11
  · rfl
  · exact absurd (h.c11 hb).1 (by simp)
theorem ApI.call5 (h : ApI X nn s base sm false false false false b9 false false x66 x60 x67 x68 x15 x16 V) (hv : CallV nn s base v V') (hb : Below V.heap.size V V') : ApI X nn s base sm true false false false b9 false false (.tuple #[v, .bool sm]) x60 x67 x68 x15 x16 V' := by
  refine ⟨h.b.trans (hb.mono h.b.size), fun _ => ⟨v, hv, rfl, fun e => (by cases e), fun e => (by cases e), fun e => (by cases e), fun e => (by cases e)⟩, fun e9 e10 => ?_, fun e => (by cases e), fun _ => rfl, fun e => (by cases e), fun e => (by cases e), fun e => (by cases e), fun e => (by cases e)⟩
  obtain ⟨g, k1, k2, k3⟩ := h.h9 e9 e10
  exact ⟨g, k1, k2, k3.below' hb⟩
theorem ApI.alloc9 (h : ApI X nn s base sm b5 b6 b7 b8 false false false x66 x60 x67 x68 x15 x16 V) : ApI X nn s base sm b5 b6 b7 b8 true false false x66 x60 x67 x68 (.pointer (some ⟨V.heap.size, 0, none⟩)) x16 (V.alloc (.cells #[.slice none 0 0, .slice none 0 0] 31)) := by
  have hb := belowAlloc V (.cells #[.slice none 0 0, .slice none 0 0] 31)
  refine ⟨h.b.trans (hb.mono h.b.size), fun e5 => ?_, fun _ _ => ⟨_, h.b.size, rfl, Blk.new V _ _⟩, h.h11, h.c6, h.c7, h.c8, fun e => (by cases e), fun e => (by cases e)⟩
  obtain ⟨v, k1, k2, k3, k4, k5, k6⟩ := h.h5 e5
  exact ⟨v, k1.below hb, k2, k3, k4, k5, fun e => (by cases e)⟩
theorem ApI.no6 (h : ApI X nn s base sm b5 false b7 b8 b9 b10 b11 x66 x60 x67 x68 x15 x16 V) : b7 = false ∧ b8 = false ∧ b10 = false ∧ b11 = false := by
  have h7 : b7 = false := by
    cases hb : b7
    · rfl
    · exact absurd (h.c7 hb) (by simp)
  have h8 : b8 = false := by
    cases hb : b8
    · rfl
    · exact absurd (h.c8 hb) (by simp)
  subst h7; subst h8
  have h10 : b10 = false := by
    cases hb : b10
    · rfl
    · exact absurd (h.c10 hb).2 (by simp)
  subst h10
  exact ⟨rfl, rfl, rfl, h.no10⟩
theorem ApI.no7 (h : ApI X nn s base sm b5 b6 false b8 b9 b10 b11 x66 x60 x67 x68 x15 x16 V) : b10 = false ∧ b11 = false := by
  have h10 : b10 = false := by
    cases hb : b10
    · rfl
    · exact absurd (h.c10 hb).2 (by simp)
  subst h10
  exact ⟨rfl, h.no10⟩
theorem ApI.no8 (h : ApI X nn s base sm b5 b6 b7 false b9 b10 b11 x66 x60 x67 x68 x15 x16 V) : b11 = false := by
  cases hb : b11
  · rfl
  · exact absurd (h.c11 hb).2 (by simp)
theorem ApI.mv6 (h : ApI X nn s base sm true false false false b9 false false x66 x60 x67 x68 x15 x16 V) : ApI X nn s base sm true true false false b9 false false x66 x66 x67 x68 x15 x16 V := by
  refine ⟨h.b, fun e5 => ?_, h.h9, h.h11, fun _ => rfl, fun e => (by cases e), fun e => (by cases e), fun e => (by cases e), fun e => (by cases e)⟩
  obtain ⟨v, k1, k2, k3, k4, k5, k6⟩ := h.h5 e5
  exact ⟨v, k1, k2, fun _ => k2, fun e => (by cases e), fun e => (by cases e), fun e => (by cases e)⟩
theorem ApI.ex7 (h : ApI X nn s base sm true true false b8 b9 false false (.tuple #[v, .bool sm]) x60 x67 x68 x15 x16 V) : ApI X nn s base sm true true true b8 b9 false false (.tuple #[v, .bool sm]) x60 v x68 x15 x16 V := by
  refine ⟨h.b, fun e5 => ?_, h.h9, h.h11, h.c6, fun _ => rfl, h.c8, fun e => (by cases e), fun e => (by cases e)⟩
  obtain ⟨v', k1, k2, k3, k4, k5, k6⟩ := h.h5 e5
  injection k2 with k2
  have k2 : v = v' := by simpa using k2
  subst k2
  exact ⟨v, k1, rfl, k3, fun _ => rfl, k5, fun e => (by cases e)⟩
theorem ApI.ex8 (h : ApI X nn s base sm true true b7 false b9 b10 false x66 x60 x67 x68 x15 x16 V) : ApI X nn s base sm true true b7 true b9 b10 false x66 x60 x67 (.bool sm) x15 x16 V := by
  refine ⟨h.b, fun e5 => ?_, h.h9, h.h11, h.c6, h.c7, fun _ => rfl, h.c10, fun e => (by cases e)⟩
  obtain ⟨v', k1, k2, k3, k4, k5, k6⟩ := h.h5 e5
  exact ⟨v', k1, k2, k3, k4, fun _ => rfl, k6⟩
theorem ApI.as11 (h : ApI X nn s base sm b5 b6 b7 true b9 true false x66 x60 x67 x68 x15 x16 V) : ApI X nn s base sm b5 b6 b7 true b9 true true x66 x60 x67 x68 x15 (.bool sm) V :=
  ⟨h.b, h.h5, h.h9, fun _ => rfl, h.c6, h.c7, h.c8, h.c10, fun _ => ⟨rfl, rfl⟩⟩
theorem CallV.setG {cs0 : Array Value} {g q : Nat} {u : Value} (h : CallV nn s base v V) (hk : Blk V g 31 cs0) : CallV nn s base v (V.setCell ⟨g, q, none⟩ u) := by
  have hne : ∀ {b t m n : Nat} {u : Value} {F : Nat → Nat → Value}, Own V b t m u n F → t ≠ 31 → u.ownBlock ≠ some g := fun {b t m n u F} ho ht e => by
    obtain ⟨_, ⟨e1, _⟩ | ⟨g', c, cur, e1, _, e2, _⟩⟩ := ho
    · subst e1; cases e
    · subst e1
      injection e with e
      have e : g' = g := e
      subst e
      exact Blk.ne_type (show Blk V g' t cur from e2) hk ht rfl
  obtain ⟨a1, a2, a3, a4, a5, o1, o2⟩ := h
  exact ⟨a1, a2, a3, a4, a5, o1.setCell (hne o1 (by decide)) _, o2.setCell (hne o2 (by decide)) _⟩
theorem ApI.store10 {y0 y1 : Value} {g : Nat} (h : ApI X nn s base sm b5 b6 true b8 true false false x66 x60 (.agg #[y0, y1]) x68 x15 x16 V) (hg : x15 = .pointer (some ⟨g, 0, none⟩)) : ApI X nn s base sm b5 b6 true b8 true true false x66 x60 (.agg #[y0, y1]) x68 x15 x16 ((V.setCell ⟨g, 0, none⟩ y0).setCell ⟨g, 1, none⟩ y1) := by
  obtain ⟨g', k1, k2, k3⟩ := h.h9 rfl rfl
  rw [hg] at k2
  injection k2 with k2; injection k2 with k2; injection k2 with k2
  subst k2
  have hB : Below X.heap.size V ((V.setCell ⟨g, 0, none⟩ y0).setCell ⟨g, 1, none⟩ y1) := ((Below.refl _ V).setCell k1 _).setCell k1 _
  have hne : ∀ {b t m n : Nat} {u : Value} {F : Nat → Nat → Value}, Own V b t m u n F → t ≠ 31 → u.ownBlock ≠ some g := fun {b t m n u F} ho ht e => by
    obtain ⟨_, ⟨e1, _⟩ | ⟨g', c, cur, e1, _, e2, _⟩⟩ := ho
    · subst e1; cases e
    · subst e1
      injection e with e
      have e : g' = g := e
      subst e
      exact Blk.ne_type (show Blk V g' t cur from e2) k3 ht rfl
  refine ⟨h.b.trans hB, fun e5 => ?_, fun _ e => (by cases e), fun e => (by cases e), h.c6, h.c7, h.c8, fun _ => ⟨rfl, rfl⟩, fun e => (by cases e)⟩
  obtain ⟨v, ⟨a1, a2, a3, a4, a5, o1, o2⟩, j2, j3, j4, j5, j6⟩ := h.h5 e5
  exact ⟨v, ⟨a1, a2, a3, a4, a5, (o1.setCell (hne o1 (by decide)) _).setCell (hne o1 (by decide)) _, (o2.setCell (hne o2 (by decide)) _).setCell (hne o2 (by decide)) _⟩, j2, j3, j4, j5, fun _ => ⟨g, #[y0, y1], k1, hg, (j4 rfl).symm, (k3.set_ 0 y0).set_ 1 y1⟩⟩
end
include hR hB
set_option maxRecDepth 100000 in
set_option maxHeartbeats 12800000 in
theorem settles_walk (n o e0 : Int) (nn k : Nat) (s : M.St) (hen : en ≤ 300) (hl7 : k ≤ 6) (h1 : farE en = false) (hbad : e0 ≠ 0 → k = 0)
    (hok : e0 = 0 → (2 ≤ nn ∧ nn ≤ 4) ∧ M.Okk nn s)
    (hset : ∀ W A' c', Rd W W.heap.size A' 3 en E → Calls Tryd.prog 6 #[.int .i64 n, .int .i64 o, .slice A' en c'] W (SetQ k nn s e0 W))
    (hrset : ∀ W A' c', Rd W W.heap.size A' 3 en E → Calls Tryd.prog 7 #[.int .i64 n, .int .i64 o, .slice A' en c'] W (SetG k e0 W))
    (hrrun : ∀ W A' c', Rd W W.heap.size A' 3 en E → Calls Tryd.prog 8 #[.int .i64 n, .int .i64 o, .slice A' en c'] W (RunQ nn s e0 W)) :
    Calls Tryd.prog 3 #[.int .i64 n, .int .i64 o, .slice A en ec] w fun e w' => e = .returned (.bool true) ∧ Below w.heap.size w w' := by
  have HSet := Lib.hid hset
  have HRSet := Lib.hid hrset
  have HRRun := Lib.hid hrrun
  have HR := Lib.hid hR
  have H1 := Lib.hid h1
  have HOK := Lib.hid hok
  have HBAD := Lib.hid hbad
  obtain ⟨si, hi, hz0, hz1, hz2⟩ := info_parts evt_info
  have SI := Lib.hid (And.intro hi (And.intro hz0 (And.intro hz1 hz2)))
  have f1 : (e0 != e0) = false := by simp
  have f2 : ((k : Int) != (k : Int)) = false := by simp
  clear hi hz0 hz1 hz2 hset hrset hrrun hR h1 hok hbad
  go_enter Tryd.func3, Tryd.ntmps3
  go_upto_region 4 with (first
    | (go_at_call 4; refine (far_any _ _ _ _).mono ?_; rw [H1.out]; rintro e w1 ⟨rfl, rfl⟩)
    | (go_at_call 6; go_must (refine (HSet.out _ _ _ HRd1.out).mono ?_); rintro e w2 ⟨l, A1, c1, hkl, hpt, rfl, hrr, hb2⟩; have HK := Lib.hid hkl; have HPT := Lib.hid hpt; clear hkl hpt; have RR2 := Lib.hid hrr; have HB2 := Lib.hid (HB1.out.trans (hb2.mono HB1.out.size)); clear hrr hb2)
    | (at_builtin; refine wpList_copy rfl (.tmp 23) (.tmp 24) 22 rfl 38 si _ 3 24 Tryd.underlying22 SI.out.1 SI.out.2.1 SI.out.2.2.1 SI.out.2.2.2 rfl (by omega) (by omega) rfl (by exact Blk.new _ _ _) (F := ints2 E) (fun _ _ => rfl) rfl (HR.out.below ((belowAlloc w _).mono hB)).v (by omega) ?_; intro A3 d1 w1 ho1 hb1; have HRd1 := Lib.hid ho1.rdI; have HB1 := Lib.hid ((belowAlloc w (.cells #[] 38)).trans (hb1.mono (by simp))); clear ho1 hb1))
  have HR2 := Lib.hid (show Rd w2 w2.heap.size A 3 en E from (HR.out.below (HB2.out.mono hB)).more (Nat.le_trans hB HB2.out.size))
  go_upto_region 7 with (go_at_call 7; go_must (refine (HRSet.out _ _ _ HR2.out).mono ?_); rintro e w3 ⟨A4, c4, rfl, hb3⟩; have RR3 := Lib.hid (RR2.out.below hb3); have HB3 := Lib.hid (HB2.out.trans (hb3.mono HB2.out.size)); have HZ3 := Lib.hid hb3.size; clear hb3)
  have HR3 := Lib.hid (show Rd w3 w3.heap.size A 3 en E from (HR.out.below (HB3.out.mono hB)).more (Nat.le_trans hB HB3.out.size))
  have RQ3 := Lib.hid (RR3.out.more HZ3.out)
  clear RR2 RR3 HZ3 HRd1 HR2 HB2 HB1
  go_upto_region 8 with (go_at_call 8; go_must (refine (HRRun.out _ _ _ HR3.out).mono ?_); rintro e w4 ⟨v4, bA, bn, bc, rfl, hcv, hb4⟩; obtain ⟨CA, cc, CM, cm, rfl, o1, o2⟩ := hcv; have HO1 := Lib.hid o1; have HO2 := Lib.hid o2; have HB4 := Lib.hid hb4; clear o1 o2 hb4)
  have HX := Lib.hid (show Below w3.heap.size w3 (w4.alloc (.cells #[.slice CA nn cc, .slice CM s.k cm] 31)) from HB4.out.alloc HB4.out.size _)
  have D4 := Lib.hid (Blk.new w4 31 #[.slice CA nn cc, .slice CM s.k cm])
  have CV := Lib.hid (CallV.below (show CallV nn s w3.heap.size (.agg #[.slice CA nn cc, .slice CM s.k cm]) w4 from ⟨_, _, _, _, rfl, HO1.out, HO2.out⟩) (belowAlloc w4 (.cells #[.slice CA nn cc, .slice CM s.k cm] 31)))
  obtain ⟨G, hG⟩ : ∃ G, G = w4.heap.size := ⟨_, rfl⟩
  have HG3 := Lib.hid (show w3.heap.size ≤ G from by rw [hG]; exact HB4.out.size)
  rw [← hG] at D4
  rw [← hG]
  have RX := Lib.hid (RQ3.out.below HX.out)
  have HWX := Lib.hid (HB3.out.trans (HX.out.mono HB3.out.size))
  have HX3 := Lib.hid (show w3.heap.size ≤ (w4.alloc (.cells #[.slice CA nn cc, .slice CM s.k cm] 31)).heap.size from HX.out.size)
  obtain ⟨Z3, hZ3⟩ : ∃ z, z = w3.heap.size := ⟨_, rfl⟩
  have HWZ := Lib.hid (show w.heap.size ≤ w3.heap.size from HB3.out.size)
  rw [← hZ3] at CV RX HG3 HX3 HWZ
  clear hG hZ3 HX HO1 HO2 HB4 RQ3 HR3 HB3
  generalize w4.alloc (.cells #[.slice CA nn cc, .slice CM s.k cm] 31) = X at D4 CV RX HWX HX3 ⊢
  go_wp2_with fail
  go_loopw [14] (fun i wr => ∃ j : Nat, j ≤ k ∧ i = .int .i64 (j : Int) ∧ Hid (Below w.heap.size w wr ∧ Rd wr Z3 A1 3 k (evF l) ∧ Z3 ≤ wr.heap.size ∧ ∃ cs, Blk wr G 31 cs ∧ CallV nn (M.along nn s (l.take j)) Z3 (.agg cs) wr)) (fun i _ => k - (intOf i).toNat)
  case atStart => exact ⟨0, Nat.zero_le _, rfl, Lib.hid ⟨HWX.out, RX.out, HX3.out, _, D4.out, CV.out⟩⟩
  case round =>
    obtain ⟨j, hj, rfl, HI⟩ := hrel
    clear D4 CV RX HWX HX3
    by_cases hlt : j < k
    · have he0 : e0 = 0 := Classical.byContradiction fun h => by
        have := HBAD.out h
        omega
      subst he0
      obtain ⟨hnn, hok⟩ := HOK.out rfl
      obtain ⟨tE, hp, hte⟩ := HPT.out rfl
      obtain ⟨hend, hall⟩ := M.pth_along hp
      obtain ⟨⟨ek, ea⟩, hej⟩ : ∃ e, l[j]? = some e := ⟨_, List.getElem?_eq_getElem (by rw [← HK.out]; exact hlt)⟩
      obtain ⟨hk25, hstep⟩ := hall j _ hej
      have hk25 : ek = 2 ∨ ek = 5 := hk25
      obtain ⟨hbw, hrd, hz3, cs, hG, hcv⟩ := HI.out
      have hsc : ∃ sc, sc = M.along nn s (l.take j) := ⟨_, rfl⟩
      obtain ⟨sc, hsc⟩ := hsc
      obtain ⟨sc', hsc'⟩ : ∃ sc', sc' = M.along nn s (l.take (j + 1)) := ⟨_, rfl⟩
      rw [← hsc] at hcv hstep
      rw [← hsc'] at hstep
      have hstep : M.step nn sc ek ea 0 = some sc' := hstep
      have hokc : M.Okk nn sc := by
        rw [hsc]
        exact M.Okk.take_ hok hp (by rw [← HK.out]; omega)
      have ev0 : evF l j 0 = ek := by unfold evF; rw [if_pos rfl, List.getD_eq_getElem?_getD, hej]; rfl
      have ev1 : evF l j 1 = (ea : Int) := by unfold evF; rw [if_neg (by decide), if_pos rfl, List.getD_eq_getElem?_getD, hej]; rfl
      obtain ⟨ab, ao, rfl, hab, a0, a1, a2⟩ := hrd.at3 hlt
      rw [ev0] at a0
      rw [ev1] at a1
      have a2 : wr.cell? ⟨ab, ao + j * 3 + 2, none⟩ = some (.int .i64 0) := a2
      obtain ⟨DA, dc, DM, dm, hcs, o1, o2⟩ := hcv
      injection hcs with hcs
      subst hcs
      have HAP := Lib.hid (fun (V : World) (hV : Below wr.heap.size wr V) => rapply_any nn Z3 sc (.agg #[.slice DA nn dc, .slice DM sc.k dm]) ek (ea : Int) 0 V (CallV.below ⟨_, _, _, _, rfl, o1, o2⟩ hV) (Nat.le_trans hz3 hV.size) hnn hokc.wf)
      rw [hstep] at HAP
      have hgo : M.go nn sc ek (ea : Int) 0 = sc' := by unfold M.go; rw [hstep]; rfl
      rw [hgo] at HAP
      have HE := Lib.hid (And.intro hsc' hend)
      have HGB := Lib.hid hG
      have HA := Lib.hid (show ∀ V, Below wr.heap.size wr V → V.cell? ⟨ab, ao + j * 3, none⟩ = some (.int .i64 ek) ∧ V.cell? ⟨ab, ao + j * 3 + 1, none⟩ = some (.int .i64 (ea : Int)) ∧ V.cell? ⟨ab, ao + j * 3 + 2, none⟩ = some (.int .i64 0) from fun V hV => ⟨(World.cell?_of_block (hV.block ab (by omega))).trans a0, (World.cell?_of_block (hV.block ab (by omega))).trans a1, (World.cell?_of_block (hV.block ab (by omega))).trans a2⟩)
      have HB := Lib.hid (And.intro hbw (And.intro hrd hz3))
      have HAB := Lib.hid hab
      have k4 : decide (k ≤ j) = false := decide_eq_false (by omega)
      have k5 : decide (j < k) = true := decide_eq_true hlt
      have k6 : decide ((j : Int) < (k : Int)) = true := decide_eq_true (by omega)
      clear HI o1 o2 hstep hgo hsc' hend hall hp hte hok hokc a0 a1 a2 hbw hrd hz3 hab hG hej ev0 ev1 hsc
      go_wp2_with fail
      refine (wpIn_wide (n := 4)).1 ?_
      refine wpIn_region_TI 11 (fun Z => Below wr.heap.size wr Z) (by kernel_rfl) (Below.refl _ _).drew ?_
      intro hS
      refine wpAnyTI_takeP (i := 0) (v := ?_) (PlainOps.of_nd (by kernel_rfl)) rfl (by kernel_rfl) (by kernel_rfl) (by kernel_rfl) (by kernel_rfl) (by kernel_rfl) (fun _ _ _ h => h) (.inl ⟨by kernel_rfl, ?_⟩) (fun _ => rfl) hS ?_
      rotate_left
      · (intro w' hw; have q0 := (HGB.out.below' hw).cell 0; have q1 := (HGB.out.below' hw).cell 1; go_simp; try with_reducible rfl)
      try simp only [put_laws]
      refine wpAnyTI_takeP (i := 1) (v := ?_) (PlainOps.of_nd (by kernel_rfl)) rfl (by kernel_rfl) (by kernel_rfl) (by kernel_rfl) (by kernel_rfl) (by kernel_rfl) (fun _ _ _ h => h) (.inl ⟨by kernel_rfl, ?_⟩) (fun _ => rfl) hS ?_
      rotate_left
      · (intro w' hw; go_simp; try with_reducible rfl)
      try simp only [put_laws]
      refine wpAnyTI_takeP (i := 2) (v := ?_) (PlainOps.of_nd (by kernel_rfl)) rfl (by kernel_rfl) (by kernel_rfl) (by kernel_rfl) (by kernel_rfl) (by kernel_rfl) (fun _ _ _ h => h) (.inl ⟨by kernel_rfl, ?_⟩) (fun _ => rfl) hS ?_
      rotate_left
      · (intro w' hw; go_simp; try with_reducible rfl)
      try simp only [put_laws]
      refine wpAnyTI_takeP (i := 3) (v := ?_) (PlainOps.of_nd (by kernel_rfl)) rfl (by kernel_rfl) (by kernel_rfl) (by kernel_rfl) (by kernel_rfl) (by kernel_rfl) (fun _ _ _ h => h) (.inl ⟨by kernel_rfl, ?_⟩) (fun _ => rfl) hS ?_
      rotate_left
      · (intro w' hw; go_simp; try with_reducible rfl)
      try simp only [put_laws]
      refine wpAnyTI_takeP (i := 4) (v := ?_) (PlainOps.of_nd (by kernel_rfl)) rfl (by kernel_rfl) (by kernel_rfl) (by kernel_rfl) (by kernel_rfl) (by kernel_rfl) (fun _ _ _ h => h) (.inl ⟨by kernel_rfl, ?_⟩) (fun _ => rfl) hS ?_
      rotate_left
      · (intro w' hw; obtain ⟨q0, q1, q2⟩ := HA.out w' hw; go_simp; try with_reducible rfl)
      try simp only [put_laws]
      refine wpAnyTI_inv (fun listed aa Z => ∃ (b5 b6 b7 b8 b9 b10 b11 : Bool) (x66 x60 x67 x68 x15 x16 : Value), listed = #[true, true, true, true, true, b5, b6, b7, b8, b9, b10, b11] ∧ aa = { tmps := List.toArray (.int .i64 n :: .int .i64 o :: .slice A en ec :: undef :: undef :: undef :: u6 :: .slice (some ⟨ab, ao, none⟩) k c1 :: .int .i64 0 :: .slice A4 k c4 :: .int .i64 0 :: .pointer (some ⟨G, 0, none⟩) :: .slice bA bn bc :: .int .i64 0 :: .int .i64 (j : Int) :: x15 :: x16 :: .slice A en ec :: .bool false :: undef :: .tuple #[.slice (some ⟨ab, ao, none⟩) k c1, .int .i64 0] :: .int .i64 n :: .int .i64 o :: .slice (some ⟨w.heap.size, 0, none⟩) 0 0 :: .slice A en ec :: .slice A3 en d1 :: .tuple #[.slice (some ⟨ab, ao, none⟩) k c1, .int .i64 0] :: .slice (some ⟨ab, ao, none⟩) k c1 :: .int .i64 0 :: .tuple #[.slice A4 k c4, .int .i64 0] :: .int .i64 n :: .int .i64 o :: .slice A en ec :: .tuple #[.slice A4 k c4, .int .i64 0] :: .slice A4 k c4 :: .int .i64 0 :: .int .i64 0 :: .int .i64 0 :: .bool false :: .bool false :: .slice (some ⟨ab, ao, none⟩) k c1 :: .int .i64 (k : Int) :: .slice A4 k c4 :: .int .i64 (k : Int) :: .bool false :: .bool false :: .tuple #[.agg #[.slice CA nn cc, .slice CM s.k cm], .slice bA bn bc, .int .i64 0] :: .int .i64 n :: .int .i64 o :: .slice A en ec :: .tuple #[.agg #[.slice CA nn cc, .slice CM s.k cm], .slice bA bn bc, .int .i64 0] :: .agg #[.slice CA nn cc, .slice CM s.k cm] :: .slice bA bn bc :: .int .i64 0 :: .int .i64 (j : Int) :: .slice (some ⟨ab, ao, none⟩) k c1 :: .int .i64 (k : Int) :: .bool true :: u58 :: u59 :: x60 :: .agg #[.slice DA nn dc, .slice DM sc.k dm] :: .slice (some ⟨ab, ao, none⟩) k c1 :: .int .i64 (j : Int) :: .pointer (some ⟨ab, ao + j * 3, none⟩) :: .agg #[.int .i64 ek, .int .i64 (ea : Int), .int .i64 0] :: x66 :: x67 :: x68 :: u69 :: u70 :: u71 :: u72 :: u73 :: u74 :: u75 :: u76 :: u77 :: u78 :: u79 :: u80 :: u81 :: u82 :: u83 :: u84 :: u85 :: u86 :: u87 :: undef :: undef :: undef :: undef :: undef :: undef :: undef :: undef :: undef :: []), defers := [] } ∧ ApI wr nn sc' Z3 true b5 b6 b7 b8 b9 b10 b11 x66 x60 x67 x68 x15 x16 Z) ?_ ?_ _ _ _ _ (of_decide_eq_true (by kernel_rfl)) ?_
      rotate_left 2
      · exact ⟨false, false, false, false, false, false, false, u66, u60, u67, u68, u15, u16, rfl, rfl, ⟨hS, fun h => (by cases h), fun h => (by cases h), fun h => (by cases h), fun h => (by cases h), fun h => (by cases h), fun h => (by cases h), fun h => (by cases h), fun h => (by cases h)⟩⟩
      rotate_left
      · skip
        rintro listed aa Z i o' hlt2 hun hall ho ⟨b5, b6, b7, b8, b9, b10, b11, x66, x60, x67, x68, x15, x16, rfl, rfl, hI⟩ K' hK'
        have hi : i = 0 ∨ i = 1 ∨ i = 2 ∨ i = 3 ∨ i = 4 ∨ i = 5 ∨ i = 6 ∨ i = 7 ∨ i = 8 ∨ i = 9 ∨ i = 10 ∨ i = 11 := by have hlt' : i < 12 := hlt2; omega
        rcases hi with rfl | rfl | rfl | rfl | rfl | rfl | rfl | rfl | rfl | rfl | rfl | rfl
        · exact absurd hun (by simp)
        · exact absurd hun (by simp)
        · exact absurd hun (by simp)
        · exact absurd hun (by simp)
        · exact absurd hun (by simp)
        · skip
          obtain rfl : b5 = false := hun
          have ho' := Option.some.inj ho
          subst ho'
          obtain ⟨rfl, rfl, rfl, rfl, rfl⟩ := hI.no5
          have HB5 := Lib.hid hI.b
          have HAZ := Lib.hid (HAP.out Z hI.b)
          go_simp
          refine ⟨trivial, (callsIn_wide.2 HAZ.out).mono ?_⟩
          rintro e5 Z1 ⟨⟨v5, rfl, hv5⟩, hb5⟩
          try simp only [put_laws]
          exact hK'.out _ _ (.inr ((hI.call5 hv5 hb5).b)) ⟨true, false, false, false, b9, false, false, _, _, _, _, _, _, rfl, rfl, hI.call5 hv5 hb5⟩
        · skip
          obtain rfl : b6 = false := hun
          have ho' := Option.some.inj ho
          subst ho'
          have hc5 : b5 = true := hall _ (Array.mem_of_getElem? (i := 0) rfl) rfl
          subst hc5
          obtain ⟨rfl, rfl, rfl, rfl⟩ := hI.no6
          go_simp
          try simp only [put_laws]
          exact hK'.out _ _ (.inr ((hI.mv6).b)) ⟨true, true, false, false, b9, false, false, _, _, _, _, _, _, rfl, rfl, hI.mv6⟩
        · skip
          obtain rfl : b7 = false := hun
          have ho' := Option.some.inj ho
          subst ho'
          have hc6 : b6 = true := hall _ (Array.mem_of_getElem? (i := 0) rfl) rfl
          subst hc6
          obtain ⟨rfl, rfl⟩ := hI.no7
          obtain rfl := hI.c6 rfl
          obtain ⟨v5, q1, rfl, q3, _⟩ := hI.h5 rfl
          obtain rfl := q3 rfl
          go_simp
          try simp only [put_laws]
          exact hK'.out _ _ (.inr ((hI.ex7).b)) ⟨true, true, true, b8, b9, false, false, _, _, _, _, _, _, rfl, rfl, hI.ex7⟩
        · skip
          obtain rfl : b8 = false := hun
          have ho' := Option.some.inj ho
          subst ho'
          have hc6 : b6 = true := hall _ (Array.mem_of_getElem? (i := 0) rfl) rfl
          subst hc6
          obtain rfl := hI.no8
          obtain rfl := hI.c6 rfl
          obtain ⟨v5, q1, rfl, q3, _⟩ := hI.h5 rfl
          obtain rfl := q3 rfl
          go_simp
          try simp only [put_laws]
          exact hK'.out _ _ (.inr ((hI.ex8).b)) ⟨true, true, b7, true, b9, b10, false, _, _, _, _, _, _, rfl, rfl, hI.ex8⟩
        · skip
          obtain rfl : b9 = false := hun
          have ho' := Option.some.inj ho
          subst ho'
          obtain ⟨rfl, rfl⟩ := hI.no9
          go_simp
          try simp only [put_laws]
          exact hK'.out _ _ (.inr ((hI.alloc9).b)) ⟨b5, b6, b7, b8, true, false, false, _, _, _, _, _, _, rfl, rfl, hI.alloc9⟩
        · skip
          obtain rfl : b10 = false := hun
          have ho' := Option.some.inj ho
          subst ho'
          obtain rfl := hI.no10
          have hc9 : b9 = true := hall _ (Array.mem_of_getElem? (i := 0) rfl) rfl
          have hc7 : b7 = true := hall _ (Array.mem_of_getElem? (i := 1) rfl) rfl
          subst hc9
          subst hc7
          obtain ⟨v5, ⟨a1, a2, a3, a4, rfl, -⟩, -, -, q4, -⟩ := hI.h5 (hI.c6 (hI.c7 rfl))
          obtain rfl := q4 rfl
          obtain ⟨g, hgx, rfl, hbk⟩ := hI.h9 rfl rfl
          have q0 := hbk.cell 0
          have q1 := hbk.cell 1
          have r0 := hbk.frz 0
          have r1 := hbk.frz 1
          have hgl := hbk.lt
          go_simp
          try simp only [put_laws]
          exact hK'.out _ _ (.inr ((hI.store10 rfl).b)) ⟨b5, b6, true, b8, true, true, false, _, _, _, _, _, _, rfl, rfl, hI.store10 rfl⟩
        · skip
          obtain rfl : b11 = false := hun
          have ho' := Option.some.inj ho
          subst ho'
          have hc8 : b8 = true := hall _ (Array.mem_of_getElem? (i := 0) rfl) rfl
          have hc10 : b10 = true := hall _ (Array.mem_of_getElem? (i := 1) rfl) rfl
          subst hc8
          subst hc10
          obtain ⟨v5, -, -, -, -, q5, -⟩ := hI.h5 (hI.c6 (hI.c8 rfl))
          obtain rfl := q5 rfl
          go_simp
          try simp only [put_laws]
          exact hK'.out _ _ (.inl rfl) ⟨b5, b6, b7, true, b9, true, true, _, _, _, _, _, _, rfl, rfl, hI.as11⟩
      rintro listed aa Z hr ⟨b5, b6, b7, b8, b9, b10, b11, x66, x60, x67, x68, x15, x16, rfl, rfl, hI⟩
      have hall2 : b5 = true ∧ b6 = true ∧ b7 = true ∧ b8 = true ∧ b9 = true ∧ b10 = true ∧ b11 = true := by
        clear hI
        cases b5 <;> cases b6 <;> cases b7 <;> cases b8 <;> cases b9 <;> cases b10 <;> cases b11 <;> first | exact ⟨rfl, rfl, rfl, rfl, rfl, rfl, rfl⟩ | exact absurd hr (of_decide_eq_false (by kernel_rfl))
      obtain ⟨rfl, rfl, rfl, rfl, rfl, rfl, rfl⟩ := hall2
      obtain ⟨v5, hcv5, rfl, q3, q4, q5, q6⟩ := hI.h5 rfl
      obtain rfl := q3 rfl
      obtain rfl := q4 rfl
      obtain rfl := q5 rfl
      obtain ⟨g15, cs15, hg15, rfl, rfl, hk15⟩ := q6 rfl
      obtain rfl := hI.h11 rfl
      have HBZ := Lib.hid hI.b
      have HCZ := Lib.hid hcv5
      have HKZ := Lib.hid hk15
      have HGZ := Lib.hid hg15
      clear hI hcv5 q3 q4 q5 q6 hk15 hg15 hr hS HAP
      obtain ⟨EA, ee, EM, em, hee, p1, p2⟩ := HCZ.out
      injection hee with hee
      subst hee
      clear p1 p2
      have HGZ2 := Lib.hid (HGB.out.below' HBZ.out)
      have q0 := HKZ.out.cell 0
      have q1 := HKZ.out.cell 1
      have r0 := HGZ2.out.cell 0
      have r1 := HGZ2.out.cell 1
      have s0 := HGZ2.out.frz 0
      have s1 := HGZ2.out.frz 1
      obtain ⟨a0, a1, a2⟩ := HA.out Z HBZ.out
      have HFIN := Lib.hid (show Below w.heap.size w ((Z.setCell ⟨G, 0, none⟩ (.slice EA nn ee)).setCell ⟨G, 1, none⟩ (.slice EM sc'.k em)) ∧ Rd ((Z.setCell ⟨G, 0, none⟩ (.slice EA nn ee)).setCell ⟨G, 1, none⟩ (.slice EM sc'.k em)) Z3 (some ⟨ab, ao, none⟩) 3 k (evF l) ∧ Z3 ≤ ((Z.setCell ⟨G, 0, none⟩ (.slice EA nn ee)).setCell ⟨G, 1, none⟩ (.slice EM sc'.k em)).heap.size ∧ ∃ cs, Blk ((Z.setCell ⟨G, 0, none⟩ (.slice EA nn ee)).setCell ⟨G, 1, none⟩ (.slice EM sc'.k em)) G 31 cs ∧ CallV nn (M.along nn s (l.take (j + 1))) Z3 (.agg cs) ((Z.setCell ⟨G, 0, none⟩ (.slice EA nn ee)).setCell ⟨G, 1, none⟩ (.slice EM sc'.k em)) from by
        obtain ⟨hbw, hrd, hz3⟩ := HB.out
        have hzw := hbw.size
        have hg := HG3.out
        have hw := HWZ.out
        refine ⟨((hbw.trans (HBZ.out.mono hzw)).setCell (p := ⟨G, 0, none⟩) (show w.heap.size ≤ G by omega) _).setCell (p := ⟨G, 1, none⟩) (show w.heap.size ≤ G by omega) _, (hrd.below (HBZ.out.mono hz3)).below (((Below.refl Z3 Z).setCell (p := ⟨G, 0, none⟩) hg _).setCell (p := ⟨G, 1, none⟩) hg _), ?_, _, (HGZ2.out.set_ 0 _).set_ 1 _, ?_⟩
        · have := HBZ.out.size; have e : ((Z.setCell ⟨G, 0, none⟩ (.slice EA nn ee)).setCell ⟨G, 1, none⟩ (.slice EM sc'.k em)).heap.size = Z.heap.size := by simp [World.setCell]
          rw [e]; omega
        · rw [← HE.out.1]
          exact CallV.setG (CallV.setG HCZ.out HGZ2.out) (HGZ2.out.set_ 0 _))
      clear HCZ HKZ HBZ HGZ2 HGB HA HB HE HGZ
      rcases hk25 with rfl | rfl
      · go_wp2_with fail
        exact ⟨⟨j + 1, by omega, by go_num, HFIN⟩, by simp [intOf]; omega⟩
      · go_wp2_with fail
        exact ⟨⟨j + 1, by omega, by go_num, HFIN⟩, by simp [intOf]; omega⟩
    · obtain rfl : j = k := by omega
      obtain ⟨hbw, hrd, hz3, cs, hG, hcv⟩ := HI.out
      have k4 : decide (j < j) = false := decide_eq_false (by omega)
      have k5 : decide ((j : Int) < (j : Int)) = false := decide_eq_false (by omega)
      have HBW := Lib.hid hbw
      have HCV := Lib.hid hcv
      have HGB := Lib.hid hG
      clear HI hbw hrd hz3 hG hcv
      by_cases he : e0 = 0
      · subst he
        obtain ⟨hnn, hokn⟩ := HOK.out rfl
        obtain ⟨tE, hp, hte⟩ := HPT.out rfl
        have hst := rsettled_any HCV.out hnn.2
        rw [HK.out, List.take_length, (M.pth_along hp).1, M.setN_iff.2 hte] at hst
        have HST := Lib.hid hst
        obtain ⟨CA', cc', CM', cm', hcs, p1, p2⟩ := HCV.out
        injection hcs with hcs
        subst hcs
        have d0 := HGB.out.cell 0
        have d1 := HGB.out.cell 1
        clear hst hp hte hokn p1 p2 HOK HCV
        go_wp2_with (first | (go_at_call 10; go_must (refine HST.out.mono ?_); rintro e w7 ⟨rfl, hb7⟩; have HB7 := Lib.hid (HBW.out.trans (hb7.mono HBW.out.size)); clear hb7) | (go_at_call 5; go_must (refine (works_any _).mono ?_); rintro e w9 ⟨rfl, hb9⟩; have HB9 := Lib.hid (HB7.out.trans (hb9.mono HB7.out.size)); clear hb9))
        go_ret
        exact ⟨rfl, HB9.out⟩
      · have g0 : (e0 != 0) = true := by simpa using he
        go_wp2_with (go_at_call 5; go_must (refine (works_any _).mono ?_); rintro e w9 ⟨rfl, hb9⟩; have HB9 := Lib.hid (HBW.out.trans (hb9.mono HBW.out.size)); clear hb9)
        go_ret
        exact ⟨rfl, HB9.out⟩
/-- RelaySettles answers true -/
theorem relaySettles_any (n o : Int) :
    Calls Tryd.prog 3 #[.int .i64 n, .int .i64 o, .slice A en ec] w fun e w' => e = .returned (.bool true) ∧ Below w.heap.size w w' := by
  cases h1 : farE en
  · have hen : en ≤ 300 := by
      unfold farE at h1
      simp at h1
      omega
    by_cases h2 : chkE n o en = 0
    · obtain ⟨n', o', rfl, rfl, a, b, c, d⟩ := fit_of_chk h1 h2
      have hof : (0 : Int) ≤ o' ∧ (o' : Int) < n' := by omega
      have hwf := M.Wf.run (n := n') (first := (o' : Int)) hof E en
      obtain ⟨D, hD6, hD, hl⟩ := M.least hwf (M.Inv.run (n := n') (first := (o' : Int)) hof E en)
      refine settles_walk A en ec B E w hR hB n' o' 0 n' D (M.runF n' o' E en)  hen hD6 h1 (fun h => absurd rfl h) (fun _ => ⟨⟨a, b⟩, hwf, M.Cn.run hof E en⟩) ?_ ?_ ?_
      · refine fun W A' c' hr => (settle_ok n' o' A' en c' W.heap.size D E W ⟨a, b⟩ c (by omega) hr (Nat.le_refl _) hD hD6 hl).mono fun e w' h => ?_
        obtain ⟨hb, l, u, hlD, rfl, hu, t, hp, ht⟩ := h
        obtain ⟨A1, c1, rfl⟩ := hu.form
        refine ⟨l, A1, c1, hlD.symm, fun _ => ⟨t, hp, ht⟩, by rw [hlD], ?_, hb⟩
        rw [← hlD]
        exact hu.rdI
      · refine fun W A' c' hr => (rSettle_ok (ec := c') ⟨a, b⟩ c (by omega) hr (Nat.le_refl _) hD hD6 hl).mono fun e w' h => ?_
        obtain ⟨hb, l, u, hlD, rfl, hu⟩ := h
        obtain ⟨A1, c1, rfl⟩ := hu.form
        exact ⟨A1, c1, by rw [hlD], hb⟩
      · refine fun W A' c' hr => (rRun_ok n' o' A' en c' W.heap.size E W ⟨a, b⟩ c (by omega) hr (Nat.le_refl _)).mono fun e w' h => ?_
        obtain ⟨⟨v, bv, rfl, hv, ob⟩, hb⟩ := h
        obtain ⟨bA, bc, rfl⟩ := ob.form
        exact ⟨v, bA, en, bc, rfl, hv, hb⟩
    · refine settles_walk A en ec B E w hR hB n o (chkE n o en) 0 0 zeroS  hen (by omega) h1 (fun _ => rfl) (fun h => absurd h h2) ?_ ?_ ?_
      · exact fun W A' c' _ => (settle_bad (A := A') (ec := c') (w := W) h2).mono fun e w' h => ⟨[], none, 0, rfl, fun h => absurd h h2, h.1, .inl rfl, h.2⟩
      · exact fun W A' c' _ => (rSettle_bad (A := A') (ec := c') (w := W) h2).mono fun e w' h => ⟨none, 0, h.1, h.2⟩
      · exact fun W A' c' _ => (rRun_bad n o A' en c' W h2).mono fun e w' h => ⟨_, none, 0, 0, h.1, ⟨none, 0, none, 0, rfl, Own.nil_, Own.nil_⟩, h.2⟩
  · exact settles_far A en ec w n o h1

end
end Go.Proofs.YtfnfjmjejffjiaaDoor
