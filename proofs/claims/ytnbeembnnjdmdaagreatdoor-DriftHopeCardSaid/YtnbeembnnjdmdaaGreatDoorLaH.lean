/- Drift, plain: what Conflict, Struck, Places, Leeways and History answer. -/
import Derived.Test.YtnbeembnnjdmdaaGreatDoorD31
namespace Go.Proofs.YtnbeembnnjdmdaaGreatDoor
open Go.RowKit

section
variable {d : M.Dr} {ta n hn : Nat} {xL : List Int} {Xs : Nat → SgV} {lo hi ft fc : Int}
/-- where it can be i ticks behind At -/
def plcB (d : M.Dr) (ta n hn : Nat) (xL : List Int) (Xs : Nat → SgV) (lo hi : Int) (i : Nat) (c : Int) : Bool := M.spanTo lo hi fun l => M.rowB d ta l (fun c => xL.contains c) (trFit Xs hn ta (-1) 0) (n - 1) i c
theorem plcB_iff {i : Nat} {c : Int} (hi' : i < n) (hc : -1 ≤ c ∧ c < d.s.nd) : plcB d ta n hn xL Xs lo hi i c = true ↔ ∃ l f, (lo ≤ l ∧ l ≤ hi) ∧ M.Hist d ta l (fun c => xL.contains c) (trFit Xs hn ta (-1) 0) (n - 1) f ∧ f i = c := by
  unfold plcB
  rw [M.spanTo_iff]
  constructor
  · rintro ⟨l, h1, h2, h3⟩
    obtain ⟨f, hf, e⟩ := (M.rowB_iff (by omega) hc).1 h3
    exact ⟨l, f, ⟨h1, h2⟩, hf, e⟩
  · rintro ⟨l, f, h1, hf, e⟩
    exact ⟨l, h1.1, h1.2, (M.rowB_iff (by omega) hc).2 ⟨f, hf, e⟩⟩
/-- the row of Places -/
def plcL (d : M.Dr) (ta n hn : Nat) (xL : List Int) (Xs : Nat → SgV) (lo hi : Int) (i : Nat) : List Int := M.listB d.s.nd (plcB d ta n hn xL Xs lo hi i)
end
end Go.Proofs.YtnbeembnnjdmdaaGreatDoor
