/- What the listed tables give the walks; the door's own heap meets the rows' condition. -/
import Derived.Test.YtaljmlkapbojeaaDoorTie
import Derived.Test.YtaljmlkapbojeaaDoorD1
import Derived.ProofKit
import Derived.LaidMore
import Derived.OpenShut
import Derived.Stop.Joined
namespace Go.Proofs.YtaljmlkapbojeaaDoor
open Go.ChangeShapes Go.WideShapes Go.ChangeAt Go.RowKit

def laidL : List (String × DataW Unit) := [("math/bits.deBruijn32tab", Rows.laid_math_bits_deBruijn32tab), ("math/bits.deBruijn64tab", Rows.laid_math_bits_deBruijn64tab)]
theorem g64 : Tryd.prog.globalNamed "math/bits.deBruijn64tab" = some 1 := by kernel_rfl
theorem t64 : (Tryd.prog.globals[1]?).map (·.type) = some 103 := by kernel_rfl
theorem laid64_eq {H : Type} : (Rows.laid_math_bits_deBruijn64tab : DataW H) = .agg (Lib.deBruijn64tab.map fun v : Nat => .lit (.int .u8 (v : Int))) := rfl
theorem tab_of_trod {H : Type} {enc : TypeId × Value → H} {W : World} {base : Nat} {spare : Nat → Bool} {held : Bool} {fuel : Nat} {cs : List Value} {q : List MemPlace}
    (h : DataW.trod enc Tryd.prog W base spare held fuel 103 cs = some (Rows.laid_math_bits_deBruijn64tab, q)) : ∀ j, j < 64 → cs[j]? = some (.int .u8 ((Lib.deBruijn64tab.getD j 0 : Nat) : Int)) := by
  obtain ⟨xs, m, rfl, hx, _, hn, hel⟩ := DataW.trod_array Tryd.underlying103 h
  have c5 : Tryd.prog.cellsOf 5 = 1 := by kernel_rfl
  rw [c5] at hel
  simp only [Prod.mk.injEq] at hx
  obtain ⟨h1, _⟩ := hx
  rw [laid64_eq] at h1
  injection h1 with h1
  intro j hj
  have h3 := hel j hj
  have h4 : (xs.map (·.1))[j]? = some (.lit (.int .u8 ((Lib.deBruijn64tab.getD j 0 : Nat) : Int))) := by
    rw [← h1, List.getElem?_map, List.getD_eq_getElem?_getD, List.getElem?_eq_getElem (show j < Lib.deBruijn64tab.length from hj)]
    rfl
  rw [List.getElem?_map] at h4
  cases hxj : xs[j]? with
  | none => rw [hxj] at h4; cases h4
  | some x =>
    rw [hxj] at h3 h4
    obtain ⟨k, e1, e2, _⟩ := DataW.trod_int Tryd.underlying5 h3
    subst e2
    simp only [Option.map_some, Option.some.injEq, DataW.lit.injEq, Lit.int.injEq, true_and] at h4
    subst h4
    have h5 : cs[j]? = ((cs.drop (j * 1)).take 1)[0]? := by simp [List.getElem?_drop]
    rw [h5, e1]
    rfl
theorem tab_of_laid {W : World} (h : laidMetH Tryd.prog laidL W) : TabAt 1 Lib.deBruijn64tab W ∧ 1 < W.heap.size := by
  rw [MakeChecks.laidMetH_plain _ _ _ (by kernel_rfl)] at h
  obtain ⟨ps, ⟨_, _, _, _, _, _, _, _, _, _, ⟨g1, t1, cs1, f1, p1, q1, hg1, ht1, hv1, hd1, _, _⟩, _⟩, _, _⟩ := h
  obtain rfl := Option.some.inj (g64.symm.trans hg1)
  obtain rfl := Option.some.inj (t64.symm.trans ht1)
  have ht := tab_of_trod hd1
  have hT : TabAt 1 Lib.deBruijn64tab W := fun j hj => by
    have := World.var?_cell hg1 hv1 j
    rw [this, ← Array.getElem?_toList]
    exact ht j hj
  exact ⟨hT, World.block_lt_of_cell? W _ (hT 0 (by decide))⟩
/-- the door's own heap meets the condition -/
theorem door_met (os : Os) (args : Array Value) : laidMetH Tryd.prog laidL ((World.doorLaid Tryd.prog 400 os).forCall (fun _ _ => 0) ⟨#[], args, []⟩).memory :=
  laidMetH_of_parts3 (fuel := 8) (laidMet_of_run' 8 (by kernel_rfl) (by kernel_rfl)) (by kernel_rfl) (by kernel_rfl)
end Go.Proofs.YtaljmlkapbojeaaDoor
