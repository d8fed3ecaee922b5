/- Events put behind others: a loss, a copy, a delivery; a message and its duplicate. Plain, no program. -/
import Derived.Test.YtbjggnecfppjgaaDoorNMath
namespace Go.Proofs.YtbjggnecfppjgaaDoor
open Go.RowKit

/-- events behind others -/
def catE (n : Nat) (E G : Nat → Nat → Int) : Nat → Nat → Int := fun i => if i < n then E i else G (i - n)
theorem catE_lt {n : Nat} {E G : Nat → Nat → Int} {i : Nat} (h : i < n) : catE n E G i = E i := if_pos h
theorem catE_ge {n : Nat} {E G : Nat → Nat → Int} (i : Nat) : catE n E G (n + i) = G i := by
  unfold catE
  rw [if_neg (by omega), Nat.add_sub_cancel_left]
section
variable {n : Nat} {first : Int} {E : Nat → Nat → Int}
theorem run_cat0 (en : Nat) (G : Nat → Nat → Int) : M.runF n first (catE en E G) en = M.runF n first E en := M.run_congr fun k hk j _ => by rw [catE_lt hk]
theorem run_catS (en i : Nat) (G : Nat → Nat → Int) : M.runF n first (catE en E G) (en + i + 1) = M.go n (M.runF n first (catE en E G) (en + i)) (G i 0) (G i 1) (G i 2) := by
  show M.go n (M.runF n first (catE en E G) (en + i)) (catE en E G (en + i) 0) (catE en E G (en + i) 1) (catE en E G (en + i) 2) = _
  rw [catE_ge]
theorem done_catS (en i : Nat) (G : Nat → Nat → Int) : M.done n first (catE en E G) (en + i) = (M.step n (M.runF n first (catE en E G) (en + i)) (G i 0) (G i 1) (G i 2)).isSome := by
  unfold M.done
  rw [catE_ge]
theorem go_of {n : Nat} {s t : M.St} {k a b : Int} (h : M.step n s k a b = some t) : M.go n s k a b = t := by unfold M.go; rw [h]; rfl
/-- one delivery behind the events -/
def onceG (a : Int) : Nat → Nat → Int := fun _ => M.v3 2 a 0
/-- a copy, and two deliveries -/
def twiceG (a k : Int) : Nat → Nat → Int := fun i => if i = 0 then M.v3 4 a 0 else if i = 1 then M.v3 2 a 0 else M.v3 2 (k - 1) 0
theorem twice_run {en a : Nat} (ha : a < (M.runF n first E en).k) (hk : (M.runF n first E en).k < 6) :
    M.done n first (catE en E (twiceG a (M.runF n first E en).k)) en = true ∧ M.done n first (catE en E (twiceG a (M.runF n first E en).k)) (en + 1) = true ∧ M.done n first (catE en E (twiceG a (M.runF n first E en).k)) (en + 2) = true ∧
      (M.runF n first (catE en E (twiceG a (M.runF n first E en).k)) (en + 3)).c = (M.runF n first (catE en E (onceG a)) (en + 1)).c := by
  obtain ⟨s, hs⟩ : ∃ s, s = M.runF n first E en := ⟨_, rfl⟩
  rw [← hs] at ha hk ⊢
  obtain ⟨s1, s2, s3, h1, h2, h3, hc⟩ := M.twice (n := n) ha hk
  have r0 : M.runF n first (catE en E (twiceG a s.k)) en = s := by rw [run_cat0, hs]
  have r1 : M.runF n first (catE en E (twiceG a s.k)) (en + 1) = s1 := by
    have h := run_catS (n := n) (first := first) (E := E) en 0 (twiceG a s.k)
    rw [show en + 0 = en from rfl, r0] at h
    rw [show en + 1 = en + 0 + 1 from rfl, h]
    exact go_of h1
  have r2 : M.runF n first (catE en E (twiceG a s.k)) (en + 2) = s2 := by
    have := run_catS (n := n) (first := first) (E := E) en 1 (twiceG a s.k)
    rw [r1] at this
    rw [show en + 2 = en + 1 + 1 from rfl, this]
    exact go_of h2
  have e3 : ((s.k - 1 : Nat) : Int) = (s.k : Int) - 1 := by omega
  rw [e3] at h3
  have r3 : M.runF n first (catE en E (twiceG a s.k)) (en + 3) = s3 := by
    have := run_catS (n := n) (first := first) (E := E) en 2 (twiceG a s.k)
    rw [r2] at this
    rw [show en + 3 = en + 2 + 1 from rfl, this]
    exact go_of h3
  have q1 : M.runF n first (catE en E (onceG a)) (en + 1) = M.handle (M.drop s a) (s.m a) := by
    have h := run_catS (n := n) (first := first) (E := E) en 0 (onceG a)
    rw [show en + 0 = en from rfl, run_cat0, ← hs] at h
    rw [h]
    exact go_of (M.step_deliver ha)
  refine ⟨?_, ?_, ?_, ?_⟩
  · have := done_catS (n := n) (first := first) (E := E) en 0 (twiceG a s.k)
    rw [show en + 0 = en from rfl, r0] at this
    rw [this]
    show (M.step n s 4 a 0).isSome = true
    rw [h1]; rfl
  · have := done_catS (n := n) (first := first) (E := E) en 1 (twiceG a s.k)
    rw [r1] at this
    rw [this]
    show (M.step n s1 2 a 0).isSome = true
    rw [h2]; rfl
  · have := done_catS (n := n) (first := first) (E := E) en 2 (twiceG a s.k)
    rw [r2] at this
    rw [this]
    show (M.step n s2 2 ((s.k : Int) - 1) 0).isSome = true
    rw [h3]; rfl
  · rw [r3, q1]; exact hc
/-- one event behind the events -/
def oneG (a b c : Int) : Nat → Nat → Int := fun _ => M.v3 a b c
theorem one_run (en : Nat) (a b c : Int) : M.runF n first (catE en E (oneG a b c)) (en + 1) = M.go n (M.runF n first E en) a b c ∧ M.done n first (catE en E (oneG a b c)) en = (M.step n (M.runF n first E en) a b c).isSome := by
  constructor
  · have h := run_catS (n := n) (first := first) (E := E) en 0 (oneG a b c)
    rw [show en + 0 = en from rfl, run_cat0] at h
    exact h
  · have := done_catS (n := n) (first := first) (E := E) en 0 (oneG a b c)
    rw [show en + 0 = en from rfl, run_cat0] at this
    exact this
end
end Go.Proofs.YtbjggnecfppjgaaDoor
