/- What GiftsReserve calls, in the form in which it calls it. -/
import Derived.Test.YtaljmlkapbojeaaV1
import Derived.Test.YtaljmlkapbojeaaV2
import Derived.Test.YtaljmlkapbojeaaL1
namespace Go.Proofs.Ytaljmlkapbojeaa
open Go.RowKit

theorem KeptY.both {w W : World} {A : Option Addr} {n c : Nat} {r le : Int} (h : KeptY w A n c r le W) : KeptY w A n c r le W ∧ KeptY w A n c r le W.drew := ⟨h, h.drew⟩
theorem lastsL_any (r le once mo : Int) (A fA : Option Addr) (n c fn fc B : Nat) (m f : Nat → Nat → Int) (w : World) (hR : Rd w B A 4 n m) (hF : Rd w w.heap.size fA 2 fn f) (hB : B ≤ w.heap.size) (hok : M.okY r le n m = true)
    (h0 : 0 ≤ once) (h1 : once ≤ 100000000) (h2 : 0 ≤ mo) (h3 : mo ≤ 100000000) :
    Calls Try.prog 20 #[.agg #[.int .i64 r, .int .i64 le, .slice A n c], .slice fA fn fc, .int .i64 once, .int .i64 mo] w fun e w' => e = .returned (LastR r le n fn m f once mo) ∧ Below w.heap.size w w' := by
  by_cases e : fn = n
  · subst e
    exact lastsL_eq r le once mo A fA fn c fc w.heap.size m f w (hR.more hB) hF (Nat.le_refl _) hok h0 h1 h2 h3
  · refine (lastsL_ne r le once mo A fA n c fn fc w e).mono fun e' w' h => ⟨?_, h.2⟩
    rw [h.1]; unfold LastR; rw [if_neg (fun h => e h.1)]
theorem lastsL_res (r le once mo : Int) (A fA : Option Addr) (n c fn fc B : Nat) (m f : Nat → Nat → Int) (w : World) (hR : Rd w B A 4 n m) (hF : Rd w w.heap.size fA 2 fn f) (hB : B ≤ w.heap.size) (hok : M.okY r le n m = true)
    (h0 : 0 ≤ once) (h1 : once ≤ 100000000) (h2 : 0 ≤ mo) (h3 : mo ≤ 100000000) (hs : fn = n ∧ M.spansOk n m f = true) (res : Nat) (h : M.fLast r le n f once mo = res) :
    Calls Try.prog 20 #[.agg #[.int .i64 r, .int .i64 le, .slice A n c], .slice fA fn fc, .int .i64 once, .int .i64 mo] w fun e w' => e = .returned (.tuple #[.int .i64 (res : Nat), .bool true]) ∧ Below w.heap.size w w' := by
  refine (lastsL_any r le once mo A fA n c fn fc B m f w hR hF hB hok h0 h1 h2 h3).mono fun e' w' h' => ⟨?_, h'.2⟩
  rw [h'.1]; unfold LastR; rw [if_pos hs, h]
theorem lastsL_not (r le once mo : Int) (A fA : Option Addr) (n c fn fc B : Nat) (m f : Nat → Nat → Int) (w : World) (hR : Rd w B A 4 n m) (hF : Rd w w.heap.size fA 2 fn f) (hB : B ≤ w.heap.size) (hok : M.okY r le n m = true)
    (h0 : 0 ≤ once) (h1 : once ≤ 100000000) (h2 : 0 ≤ mo) (h3 : mo ≤ 100000000) (hs : ¬ (fn = n ∧ M.spansOk n m f = true)) :
    Calls Try.prog 20 #[.agg #[.int .i64 r, .int .i64 le, .slice A n c], .slice fA fn fc, .int .i64 once, .int .i64 mo] w fun e w' => e = .returned (.tuple #[.int .i64 0, .bool false]) ∧ Below w.heap.size w w' := by
  refine (lastsL_any r le once mo A fA n c fn fc B m f w hR hF hB hok h0 h1 h2 h3).mono fun e' w' h' => ⟨?_, h'.2⟩
  rw [h'.1]; unfold LastR; rw [if_neg hs]
theorem spans_flF {r le : Int} {n : Nat} {m : Nat → Nat → Int} (hok : M.okY r le n m = true) (b : Bool) : n = n ∧ M.spansOk n m (M.flF b m) = true := by
  refine ⟨rfl, M.allTo_iff.2 fun i hi => M.inSpan_iff.2 ?_⟩
  have := (M.okY_iff.1 hok).2.2.2.2.2 i hi
  cases b <;> simp [M.flF] <;> omega
theorem over_bd {r le : Int} {n : Nat} {m : Nat → Nat → Int} (hok : M.okY r le n m = true) : ∀ i, i < n → -60000000 ≤ M.over (r - le) (M.worst m) i := by
  have ok := M.okY_iff.1 hok
  intro i hi
  have h := M.sumTo_bd2 (n := i + 1) (f := M.worst m) (c := 1000000) fun j hj => by have := ok.2.2.2.2.2 j (by omega); unfold M.worst; omega
  unfold M.over
  have := ok.2.2.2.2.1
  have := ok.2.2.2.1
  omega
theorem onceTo_bd {o : Nat → Int} {c : Int} {n : Nat} (hc : 0 ≤ c) (h : ∀ i, i < n → -c ≤ o i) : 0 ≤ M.onceTo o n ∧ M.onceTo o n ≤ c := by
  induction n with
  | zero => exact ⟨Int.le_refl _, hc⟩
  | succ n ih =>
    have h1 := ih fun i hi => h i (by omega)
    have h2 := h n (by omega)
    simp only [M.onceTo, M.lackOf]
    omega
theorem monTo_bd2 {o : Nat → Int} {c : Int} {n : Nat} (hc : 0 ≤ c) (h : ∀ i, i < n → -c ≤ o i) : 0 ≤ M.monTo o n ∧ M.monTo o n ≤ c := by
  have h' := M.monTo_bd (o := fun i => if i < n then o i else 0) hc (fun i => by by_cases e : i < n <;> simp only [e, if_true, if_false] <;> first | exact h i e | (show -c ≤ 0; omega)) n
  have e : ∀ k, k ≤ n → M.monTo (fun i => if i < n then o i else 0) k = M.monTo o k := by
    intro k
    induction k with
    | zero => intro _; rfl
    | succ k ih => intro hk; simp only [M.monTo, ih (by omega), M.lackOf, show k < n by omega, if_true]
  rw [e n (Nat.le_refl _)] at h'
  exact h'
end Go.Proofs.Ytaljmlkapbojeaa
