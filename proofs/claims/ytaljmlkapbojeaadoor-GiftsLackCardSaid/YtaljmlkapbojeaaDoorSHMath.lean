/- Which shops are opened. Plain, no program. -/
import Derived.Test.YtaljmlkapbojeaaDoorEMath
namespace Go.Proofs.YtaljmlkapbojeaaDoor.M
def okShop (S : Nat → Nat → Int) (i : Nat) : Bool := within (S i 0) (-1000000) (S i 1) && !decide (1000000 < S i 1) && within (S i 2) 0 100
def chkS (n : Nat) (st : Int) (S : Nat → Nat → Int) : Int := if 12 < n then 2 else if allTo n (okShop S) = false then 112 else if within st 0 1200 = false then 1 else 0
/-- the sum of a column over the first k of a list -/
def colTo (S : Nat → Nat → Int) (j : Nat) (l : List Nat) (k : Nat) : Int := sumTo k fun i => S (l.getD i 0) j
def brings (n : Nat) (S : Nat → Nat → Int) (s : Nat) : Int := colTo S 0 (elL n s) (elL n s).length
def staffs (n : Nat) (S : Nat → Nat → Int) (s : Nat) : Int := colTo S 2 (elL n s) (elL n s).length
def soonS (n s t : Nat) : Bool := soonB (elL n s).length (elL n t).length (fun i => ((elL n s).getD i 0 : Nat)) (fun i => ((elL n t).getD i 0 : Nat))
/-- is the set s taken in the place of t, which brings b? -/
def takes (n : Nat) (S : Nat → Nat → Int) (st : Int) (s t : Nat) (b : Int) : Bool := decide (staffs n S s ≤ st) && (decide (b < brings n S s) || (decide (brings n S s = b) && soonS n s t))
def shTo (n : Nat) (S : Nat → Nat → Int) (st : Int) : Nat → Nat × Int
  | 0 => (0, 0)
  | s + 1 => if takes n S st s (shTo n S st s).1 (shTo n S st s).2 then (s, brings n S s) else shTo n S st s
theorem shTo_lt {n : Nat} {S : Nat → Nat → Int} {st : Int} : ∀ q, q ≤ 2 ^ n → (shTo n S st q).1 < 2 ^ n
  | 0, _ => Nat.two_pow_pos n
  | q + 1, h => by
    simp only [shTo]
    split
    · show q < 2 ^ n; omega
    · exact shTo_lt q (by omega)
theorem shop_bd {n : Nat} {S : Nat → Nat → Int} (h : allTo n (okShop S) = true) {i : Nat} (hi : i < n) : -1000000 ≤ S i 0 ∧ S i 0 ≤ 1000000 ∧ 0 ≤ S i 2 ∧ S i 2 ≤ 100 := by
  have := allTo_iff.1 h i hi
  simp only [okShop, within, Bool.and_eq_true, decide_eq_true_eq, Bool.not_eq_true', decide_eq_false_iff_not] at this
  omega
theorem colTo_bd {n s j : Nat} {S : Nat → Nat → Int} {c : Int} (h : ∀ i, i < n → -c ≤ S i j ∧ S i j ≤ c) {k : Nat} (hk : k ≤ (elL n s).length) : -(k * c) ≤ colTo S j (elL n s) k ∧ colTo S j (elL n s) k ≤ k * c := by
  unfold colTo
  induction k with
  | zero => simp [sumTo]
  | succ k ih =>
    have h1 := ih (by omega)
    have h2 := h _ (elL_lt (n := n) (c := s) (i := k) (by omega))
    simp only [sumTo]
    have : ((k + 1 : Nat) : Int) * c = k * c + c := by rw [Int.natCast_add, Int.add_mul]; simp
    omega
end Go.Proofs.YtaljmlkapbojeaaDoor.M
