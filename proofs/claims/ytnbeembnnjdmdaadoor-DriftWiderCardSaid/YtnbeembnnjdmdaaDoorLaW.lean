/- With wider pushes, a wider leeway and more cells at first: plain laws of DriftWider. -/
import Derived.Test.YtnbeembnnjdmdaaDoorLaV
import Derived.Test.YtnbeembnnjdmdaaDoorLaH
namespace Go.Proofs.YtnbeembnnjdmdaaDoor
open Go.RowKit Go.Maps

section
variable {d : M.Dr} {ta hn n j : Nat} {lo hi lo' hi' D S : Int} {xL xL' : List Int} {Xs : Nat → SgV}
/-- no place is lost -/
theorem plc_wider (hd : d.Ok) (hn1 : ta + n = d.s.nt) (hlo : lo' ≤ lo) (hhi : hi ≤ hi') (hx : ∀ c, c ∈ xL → c ∈ xL') (hj : j < n) {x : Int} (h : x ∈ plcL d ta n hn xL Xs lo hi j) : x ∈ plcL (d.wide D S) ta n hn xL' Xs lo' hi' j := by
  unfold plcL at *
  obtain ⟨h1, h2⟩ := M.mem_listB.1 h
  obtain ⟨l, f, h3, h4, h5⟩ := (plcB_iff hj h1).1 h2
  exact M.mem_listB.2 ⟨h1, (plcB_iff (d := d.wide D S) hj h1).2 ⟨l, f, ⟨by omega, by omega⟩, h4.wide hd (by omega) (fun c hc => by rw [List.contains_iff_mem] at *; exact hx c hc), h5⟩⟩
/-- if something is possible, it is with wider ones -/
theorem strP_wider (hd : d.Ok) (hta : ta < d.s.nt) (hlo : lo' ≤ lo) (hhi : hi ≤ hi') (hx : ∀ c, c ∈ xL → c ∈ xL') {c t : Int} (h : strP d (ta : Int) lo hi xL hn Xs c t = true) : strP (d.wide D S) (ta : Int) lo' hi' xL' hn Xs c t = true := by
  unfold strP leeP at *
  rw [Int.toNat_natCast] at *
  obtain ⟨l, f, h1, h2⟩ := spanTo_posB.1 h
  exact spanTo_posB.2 ⟨l, f, ⟨by omega, by omega⟩, h2.wide hd (by omega) (fun c hc => by rw [List.contains_iff_mem] at *; exact hx c hc)⟩
end
end Go.Proofs.YtnbeembnnjdmdaaDoor
