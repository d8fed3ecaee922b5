/- A region that draws its order: first operations that can only come one by one (calls too), then reads in any order, then what can only come one by one. -/
import Derived.Test.YtkdpmihdhiokkaaDoorBase
import Derived.StillTail
import Derived.BigQuiet
namespace Go.Proofs.YtkdpmihdhiokkaaDoor
open Go.RowKit

section
variable {P : Program} {ops : Array Oper} {md : Region.Mode}

/-- the post between the pieces -/
def midPost (R : Act → World → Prop) (Q : Exit → Act → World → Prop) : Exit → Act → World → Prop
  | .normal, a, w => R a w
  | e, a, w => Q e a w
theorem midPost.lets {R : Act → World → Prop} {Q : Exit → Act → World → Prop} (h : LetsOut (midPost R Q)) : LetsOut Q := h

theorem Oper.wp_mid {o : Oper} {a : Act} {w : World} {K K' : Act → World → Prop} {R : Act → World → Prop} {Q : Exit → Act → World → Prop} (h : ∀ a w, K a w → K' a w) (hh : o.wp P a w K (midPost R Q)) : o.wp P a w K' Q := by
  unfold Oper.wp at *
  generalize (execOp a.eval o).run P w = r at *
  cases r with
  | ok n w' =>
    cases n <;> simp only [Oper.upon] at hh ⊢ <;>
      first
        | exact h _ _ hh
        | exact Calls.mono hh (fun e w'' he => by cases e <;> first | exact h _ _ he | exact he)
        | exact Rows.mono hh (fun v w'' he => h _ _ he)
  | halt x w' => cases x <;> exact hh

/-- the operations from k on come one by one -/
def preB (md : Region.Mode) (ops : Array Oper) (fin : Array Bool → Bool) : Nat → Nat → Array Bool → Bool
  | 0, _, listed => fin listed
  | g + 1, k, listed => decide (Region.ready md ops listed = [k]) && preB md ops fin g (k + 1) (listed.setIfInBounds k true)

theorem wpAny_pre {n g : Nat} {fin : Array Bool → Bool} {R : Act → World → Prop} {Q : Exit → Act → World → Prop}
    (hR : ∀ listed a w, HeadInv md ops n listed → fin listed = true → R a w → wpAny P md ops Q g listed a w) :
    ∀ (l : List Oper) (k : Nat) (listed : Array Bool) (a : Act) (w : World), (∀ j, j < l.length → l[j]? = ops[k + j]?) → k + l.length ≤ n → HeadInv md ops n listed → preB md ops fin l.length k listed = true →
      wpList P ops (midPost R Q) l a w → wpAny P md ops Q (l.length + g) listed a w
  | [], k, listed, a, w, _, _, inv, hB, h => by
    rw [List.length_nil, Nat.zero_add]
    exact hR listed a w inv hB h
  | o :: l, k, listed, a, w, hl, hk, inv, hB, h => by
    have h0 : ops[k]? = some o := by simpa using (hl 0 (by simp)).symm
    simp only [List.length_cons, preB, Bool.and_eq_true, decide_eq_true_eq] at hB
    simp only [List.length_cons] at hk
    rw [List.length_cons, show l.length + 1 + g = (l.length + g) + 1 by omega]
    refine ⟨fun h1 => (by rw [hB.1] at h1; cases h1), fun i hi => ?_⟩
    have hik : i = k := by rw [hB.1] at hi; simpa using hi
    subst hik
    have next : ∀ a' w', wpList P ops (midPost R Q) l a' w' → wpAny P md ops Q (l.length + g) (listed.setIfInBounds i true) a' w' := fun a' w' h' =>
      wpAny_pre hR l (i + 1) _ a' w' (fun j hj => by have := hl (j + 1) (by simp; omega); simpa [Nat.add_assoc, Nat.add_comm 1 j] using this) (by omega) (inv.set hi (by omega)) hB.2 h'
    unfold wpOp
    simp only [h0]
    unfold wpList at h
    split
    · rename_i hw
      simp only [hw, if_true] at h
      exact h.imp (Oper.wp_mid next) (fun h => ⟨h.1, midPost.lets h.2⟩)
    · rename_i hw
      simp only [hw] at h
      exact next _ _ h

def seqStillB (ops : Array Oper) (k0 n : Nat) : Bool :=
  Region.noSelect ops && decide (n < ops.size) && decide (k0 ≤ n) && Region.sinkB .any ops n && Region.chainB .any ops n &&
    preB .any ops (fun listed => Region.lexHead .any ops (ops.size - n) (n - k0) k0 listed) k0 0 (Array.replicate ops.size false)

theorem wp_region_seq_still {id : Nat} {Q : Exit → Act → World → Prop} {a : Act} {w : World} {l : List Oper} (k0 n : Nat) (hm : P.follows .mixedOrders = true) (hB : seqStillB l.toArray k0 n = true)
    (h : wpList P l.toArray (midPost (fun a' w' => wpStill P l.toArray w' (fun a'' => wpList P l.toArray Q (l.drop n) a'' w') ((l.take n).drop k0) a') Q) (l.take k0) a w.drew) : (Code.region id l.toArray true).wp P Q a w := by
  simp only [seqStillB, Bool.and_eq_true, decide_eq_true_eq] at hB
  obtain ⟨⟨⟨⟨⟨hsel, hn⟩, hk⟩, hs⟩, hc⟩, hpre⟩ := hB
  have hn' : n < l.length := by simpa using hn
  have htk : (l.take k0).length = k0 := by simp; omega
  have htl : ((l.take n).drop k0).length = n - k0 := by simp; omega
  have hdl : (l.drop n).length = l.toArray.size - n := by simp
  have inv0 : HeadInv .any l.toArray n (Array.replicate l.toArray.size false) :=
    ⟨by simp, fun j oj _ hl => (by rw [getD_replicate_false] at hl; cases hl), fun t _ ht => getD_in (by simpa using ht) (getD_replicate_false _ _)⟩
  refine wp_region_any hm ?_
  have := wpAny_pre (md := .any) (Q := Q) (n := n) (g := (n - k0) + (l.toArray.size - n)) (fin := fun listed => Region.lexHead .any l.toArray (l.toArray.size - n) (n - k0) k0 listed)
    (R := fun a' w' => wpStill P l.toArray w' (fun a'' => wpList P l.toArray Q (l.drop n) a'' w') ((l.take n).drop k0) a')
    (fun listed a' w' inv hB hS => by
      have H := wpAnyL_lex (md := .any) (g := l.toArray.size - n) hsel hs hc hn ((l.take n).drop k0) k0 listed a' (fun j hj => by
        have hj' : j < n - k0 := by rw [htl] at hj; exact hj
        simp [List.getElem?_drop, show k0 + j < n by omega]) (by rw [htl]; omega) inv (by rw [htl]; exact hB) hS
      have := wpAny_of_head (Q' := Q) (g := l.toArray.size - n) (fun listed a' hL => by
        have := wpAny_of_seq (md := .any) (Q' := Q) (l.drop n) n listed a' w' (fun j => by simp [List.getElem?_drop]) (by rw [hdl]; exact hL.1) hL.2
        rwa [hdl] at this) _ _ _ H
      rw [htl] at this
      exact this) (l.take k0) 0 _ a w.drew (fun j hj => by
        have hj' : j < k0 := by rw [htk] at hj; exact hj
        simp [hj']) (by rw [htk]; omega) inv0 (by rw [htk]; exact hpre) h
  rw [htk, show k0 + ((n - k0) + (l.toArray.size - n)) = l.toArray.size by omega] at this
  exact this
theorem still_of_quiet1 {o : Oper} {a : Act} {w : World} {K : Act → Prop} (h : o.quiet P a (fun x => x = w) K) : o.still P a w K := by
  obtain ⟨v, h1, h2⟩ := h
  have h3 := h1 w rfl
  unfold Oper.quietAt at h3
  unfold Oper.still
  generalize (execOp a.eval o).run P w = r at *
  cases r with
  | ok n w' =>
    cases n <;> simp only [Oper.quietUpon, Oper.stillUpon] at h3 ⊢
    case value u => exact ⟨h3.1, by rw [h3.2]; exact h2⟩
    case skip => exact ⟨h3.1, by rw [← h3.2]; exact h2⟩
    case enter f args => exact ⟨h3.1, v, by obtain ⟨rfl, h4⟩ := h3; exact h4, h2⟩
  | halt x w' => exact h3
theorem still_of_quiet {w : World} {K : Act → Prop} : ∀ {l : List Oper} {a : Act}, wpQuiet P ops (fun x => x = w) K l a → wpStill P ops w K l a
  | [], _, h => h
  | o :: l, a, h => by
    unfold wpQuiet at h
    unfold wpStill
    split
    · rename_i hw
      simp only [hw, if_true] at h
      exact Oper.still_mono (fun a' h' => still_of_quiet h') (still_of_quiet1 h)
    · rename_i hw
      simp only [hw] at h
      exact still_of_quiet h
/-- the same, what comes behind kept out of sight, the reads in the cheap form -/
theorem wp_region_seq {id : Nat} {Q : Exit → Act → World → Prop} {a : Act} {w : World} {l : List Oper} (k0 n : Nat) (hm : P.follows .mixedOrders = true) (hB : seqStillB l.toArray k0 n = true)
    (h : ∀ R : Act → World → Prop, (∀ a' w', wpQuiet P l.toArray (fun x => x = w') (fun a'' => wpList P l.toArray Q (l.drop n) a'' w') ((l.take n).drop k0) a' → R a' w') → wpList P l.toArray (midPost R Q) (l.take k0) a w.drew) : (Code.region id l.toArray true).wp P Q a w :=
  wp_region_seq_still k0 n hm hB (h _ fun _ _ h => still_of_quiet h)
end
end Go.Proofs.YtkdpmihdhiokkaaDoor
