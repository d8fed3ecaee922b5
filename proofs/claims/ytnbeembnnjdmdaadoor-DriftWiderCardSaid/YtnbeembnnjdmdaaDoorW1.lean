/- A drift that a call has made, its pushes written in place. -/
import Derived.Test.YtnbeembnnjdmdaaDoorE9
import Derived.Test.YtnbeembnnjdmdaaDoorLaV
namespace Go.Proofs.YtnbeembnnjdmdaaDoor
open Go.RowKit Go.Maps

/-- a table of numbers with one number anew -/
def setI (f : Nat → Nat → Int) (k j : Nat) (u : Int) : Nat → Nat → Int := fun a b => if a = k ∧ b = j then u else f a b
theorem upd2_ints2 (f : Nat → Nat → Int) (k j : Nat) (u : Int) : upd2 (ints2 f) k j (.int .i64 u) = ints2 (setI f k j u) := by
  funext a b
  unfold upd2 ints2 setI
  split <;> rfl
section
variable {V : World} {b dc tc sc zc cc wc nd nt ns zn cn wn : Nat} {dA tA sA zA cA wA : Option Addr} {dep : Nat → Int} {tide : Nat → Nat → Int} {sw z : Nat → Int} {cl : Nat → Nat} {cu : Nat → Nat → Nat → Int} {wd : Nat → Nat → Int} {R : Nat → Value}
/-- the wind's block -/
theorem OwnD.windb (h : OwnD V b dA dc tA tc sA sc zA zc cA cc wA wc nd nt ns zn cn wn dep tide sw z cl cu wd R) (h0 : 0 < wn) : ∃ g, wA = some ⟨g, 0, none⟩ ∧ b ≤ g ∧ g < V.heap.size := by
  obtain ⟨g, c, e⟩ := Own.nz h.w h0
  cases e
  exact ⟨g, rfl, Own.block (g := g) h.w rfl⟩
/-- a zone's block -/
theorem OwnD.curb (h : OwnD V b dA dc tA tc sA sc zA zc cA cc wA wc nd nt ns zn cn wn dep tide sw z cl cu wd R) {k : Nat} (hk : k < cn) (h0 : 0 < cl k) : ∃ g c, R k = .slice (some ⟨g, 0, none⟩) (cl k) c ∧ b ≤ g ∧ g < V.heap.size := by
  obtain ⟨g, c, e⟩ := Own.nz (h.r k hk) h0
  exact ⟨g, c, e, Own.block (g := g) (h.r k hk) (by rw [e]; rfl)⟩
/-- a number of the wind, written -/
theorem OwnD.setw {g : Nat} (h : OwnD V b dA dc tA tc sA sc zA zc cA cc (some ⟨g, 0, none⟩) wc nd nt ns zn cn wn dep tide sw z cl cu wd R) (k : Nat) {j : Nat} (hj : j < 3) (u : Int) :
    OwnD (V.setCell ⟨g, k * 3 + j, none⟩ (.int .i64 u)) b dA dc tA tc sA sc zA zc cA cc (some ⟨g, 0, none⟩) wc nd nt ns zn cn wn dep tide sw z cl cu (setI wd k j u) R := by
  obtain ⟨cs, hb⟩ := Own.blk h.w
  have hr : ∀ i, i < cn → (R i).ownBlock ≠ some g := fun i hi e => h.dis.2 i hi g e rfl
  exact ⟨h.d.setCell (Own.ne_blk h.d hb (by decide)) _, h.t.setCell (Own.ne_blk h.t hb (by decide)) _, h.s.setCell (Own.ne_blk h.s hb (by decide)) _, h.z.setCell (Own.ne_blk h.z hb (by decide)) _, h.c.setCell (Own.ne_blk h.c hb (by decide)) _, fun i hi => (h.r i hi).setCell (hr i hi) _, by rw [← upd2_ints2]; exact Own.setm h.w hj _, h.dis⟩
/-- a number of a current, written -/
theorem OwnD.setc {g c q : Nat} (h : OwnD V b dA dc tA tc sA sc zA zc cA cc wA wc nd nt ns zn cn wn dep tide sw z cl cu wd R) (hq : q < cn) (hg : R q = .slice (some ⟨g, 0, none⟩) (cl q) c) (k : Nat) {j : Nat} (hj : j < 3) (u : Int) :
    OwnD (V.setCell ⟨g, k * 3 + j, none⟩ (.int .i64 u)) b dA dc tA tc sA sc zA zc cA cc wA wc nd nt ns zn cn wn dep tide sw z cl (fun i => if i = q then setI (cu i) k j u else cu i) wd R := by
  have h5 := h.r q hq
  rw [hg] at h5
  obtain ⟨cs, hb⟩ := Own.blk h5
  have ho : (R q).ownBlock = some g := by rw [hg]; rfl
  refine ⟨h.d.setCell (Own.ne_blk h.d hb (by decide)) _, h.t.setCell (Own.ne_blk h.t hb (by decide)) _, h.s.setCell (Own.ne_blk h.s hb (by decide)) _, h.z.setCell (Own.ne_blk h.z hb (by decide)) _, h.c.setCell (Own.ne_blk h.c hb (by decide)) _, fun i hi => ?_, h.w.setCell (fun e => h.dis.2 q hq g ho e) _, h.dis⟩
  by_cases e : i = q
  · subst e
    rw [if_pos rfl, hg, ← upd2_ints2]
    exact Own.setm h5 hj _
  · rw [if_neg e]
    exact (h.r i hi).setCell (h.dis.1 q i hq hi (fun e2 => e e2.symm) g ho) _
theorem OwnD.cong {cu' : Nat → Nat → Nat → Int} {wd' : Nat → Nat → Int} (h : OwnD V b dA dc tA tc sA sc zA zc cA cc wA wc nd nt ns zn cn wn dep tide sw z cl cu wd R) (hc : ∀ i, i < cn → ∀ a, a < cl i → ∀ j, j < 3 → cu i a j = cu' i a j) (hw : ∀ a, a < wn → ∀ j, j < 3 → wd a j = wd' a j) :
    OwnD V b dA dc tA tc sA sc zA zc cA cc wA wc nd nt ns zn cn wn dep tide sw z cl cu' wd' R :=
  ⟨h.d, h.t, h.s, h.z, h.c, fun i hi => (h.r i hi).congr fun a j ha hj => by unfold ints2; rw [hc i hi a ha j hj], h.w.congr fun a j ha hj => by unfold ints2; rw [hw a ha j hj], h.dis⟩
end
/-- the wind, widened below t -/
def wT (wd : Nat → Nat → Int) (D S : Int) (t : Nat) : Nat → Nat → Int := fun a => if a < t then M.widW (wd a) D S else wd a
/-- the currents, widened below t, and at t below the zone k -/
def cT (cu : Nat → Nat → Nat → Int) (D S : Int) (t k : Nat) : Nat → Nat → Nat → Int := fun i a => if a < t ∨ (a = t ∧ i < k) then M.widC (cu i a) D S else cu i a
theorem wT_zero (wd : Nat → Nat → Int) (D S : Int) : wT wd D S 0 = wd := by
  funext a
  unfold wT
  rw [if_neg (by omega)]
theorem cT_zero (cu : Nat → Nat → Nat → Int) (D S : Int) : cT cu D S 0 0 = cu := by
  funext i a
  unfold cT
  rw [if_neg (by omega)]
theorem wT_at (wd : Nat → Nat → Int) (D S : Int) (t : Nat) : wT wd D S t t = wd t := by
  unfold wT
  rw [if_neg (by omega)]
theorem cT_at (cu : Nat → Nat → Nat → Int) (D S : Int) (t k : Nat) : cT cu D S t k k t = cu k t := by
  unfold cT
  rw [if_neg (by omega)]
theorem wT_next (wd : Nat → Nat → Int) (D S : Int) (t : Nat) : setI (setI (wT wd D S t) t 0 (M.orI (wd t 0) D)) t 2 (max (wd t 2) S) = wT wd D S (t + 1) := by
  funext a j
  unfold setI wT M.widW
  by_cases h : a = t
  · subst h
    by_cases h0 : j = 0
    · subst h0; simp
    · by_cases h2 : j = 2
      · subst h2; simp
      · simp [h0, h2]
  · have h3 : (a < t + 1) = (a < t) := propext (by omega)
    simp only [h, false_and, if_false, h3]
theorem cT_next (cu : Nat → Nat → Nat → Int) (D S : Int) (t k : Nat) : (fun i => if i = k then setI ((fun i => if i = k then setI (cT cu D S t k i) t 0 (M.orI (cu k t 0) D) else cT cu D S t k i) i) t 1 (min (cu k t 1) S) else (fun i => if i = k then setI (cT cu D S t k i) t 0 (M.orI (cu k t 0) D) else cT cu D S t k i) i) = cT cu D S t (k + 1) := by
  funext i a j
  by_cases hi : i = k
  · subst hi
    by_cases h : a = t
    · subst h
      by_cases h0 : j = 0
      · subst h0; simp [setI, cT, M.widC]
      · by_cases h2 : j = 1
        · subst h2; simp [setI, cT, M.widC]
        · simp [setI, cT, M.widC, h0, h2]
    · simp [setI, cT, h]
  · simp only [if_neg hi]
    unfold cT
    by_cases h1 : a < t ∨ (a = t ∧ i < k)
    · rw [if_pos h1, if_pos (by omega)]
    · rw [if_neg h1, if_neg (by omega)]
theorem cT_row {cu : Nat → Nat → Nat → Int} {D S : Int} {t cn i a : Nat} (hi : i < cn) : cT cu D S t cn i a = cT cu D S (t + 1) 0 i a := by
  unfold cT
  by_cases h : a < t ∨ (a = t ∧ i < cn)
  · rw [if_pos h, if_pos (by omega)]
  · rw [if_neg h, if_neg (by omega)]
theorem bits_orI {x D : Int} (hx : 0 ≤ x ∧ x ≤ 63) (hD : 0 ≤ D ∧ D ≤ 63) : bits .or .i64 x D = M.orI x D := by
  obtain ⟨a, rfl⟩ : ∃ n : Nat, x = (n : Int) := ⟨x.toNat, by omega⟩
  obtain ⟨c, rfl⟩ : ∃ n : Nat, D = (n : Int) := ⟨D.toNat, by omega⟩
  rw [i64_or_nat a c (by omega) (by omega)]
  unfold M.orI
  rw [Int.toNat_natCast, Int.toNat_natCast]
end Go.Proofs.YtnbeembnnjdmdaaDoor
