/- What the listed tables give the walks; the door's own heap meets the rows' condition. -/
import Derived.Test.YtnbeembnnjdmdaaGreatDoorTie
import Derived.Test.YtnbeembnnjdmdaaGreatDoorK4
import Derived.Test.YtnbeembnnjdmdaaGreatDoorD31
import Derived.ProofKit
import Derived.LaidMore
import Derived.OpenShut
import Derived.ChangeArms
import Derived.Stop.Joined
namespace Go.Proofs.YtnbeembnnjdmdaaGreatDoor
open Go.ChangeShapes Go.WideShapes Go.ChangeAt Go.RowKit

def laidL : List (String × DataW Unit) := [("coble/chart.ways", Rows.laid_coble_chart_ways), ("coble/drift.free", Rows.laid_coble_drift_free)]
theorem gWays : Tryz.prog.globalNamed "coble/chart.ways" = some 1 := by kernel_rfl
theorem tWays : (Tryz.prog.globals[1]?).map (·.type) = some 208 := by kernel_rfl
def wayD (H : Type) (i : Nat) : DataW H := .agg [.lit (.int .i64 (M.wayF i 0)), .lit (.int .i64 (M.wayF i 1)), .lit (.int .i64 (M.wayF i 2))]
theorem laid_eq {H : Type} : (Rows.laid_coble_chart_ways : DataW H) = .agg ((List.range 6).map (wayD H)) := rfl
set_option maxRecDepth 100000 in
theorem ways_of_trod {H : Type} {enc : TypeId × Value → H} {W : World} {base : Nat} {spare : Nat → Bool} {held : Bool} {fuel : Nat} {cs : List Value} {q : List MemPlace}
  (h : DataW.trod enc Tryz.prog W base spare held fuel 208 cs = some (Rows.laid_coble_chart_ways, q)) : ∀ i j, i < 6 → j < 3 → cs[i * 3 + j]? = some (.int .i64 (M.wayF i j)) := by
 obtain ⟨xs, m, rfl, hx, _, hn, hel⟩ := DataW.trod_array Tryz.underlying208 h
 have c3 : Tryz.prog.cellsOf 207 = 3 := by kernel_rfl
 have c1 : Tryz.prog.cellsOf 3 = 1 := by kernel_rfl
 rw [c3] at hel
 simp only [Prod.mk.injEq] at hx
 obtain ⟨h1, _⟩ := hx
 rw [laid_eq] at h1
 injection h1 with h1
 intro i j hi hj
 have h3 := hel i hi
 have h4 : (xs.map (·.1))[i]? = some (wayD H i) := by rw [← h1]; simp [hi]
 rw [List.getElem?_map] at h4
 cases hxi : xs[i]? with
 | none => rw [hxi] at h4; cases h4
 | some x =>
  rw [hxi] at h3 h4
  obtain ⟨ys, k, hk, rfl, _, hylen, hf⟩ := DataW.trod_struct Tryz.underlying207 h3
  simp only [Option.map_some, Option.some.injEq] at h4
  unfold wayD at h4
  injection h4 with h4
  have key : ∀ (j o : Nat) (hj : j < 3), DataW.trod enc Tryz.prog W base spare held k 3 ((((cs.drop (i * 3)).take 3).drop j).take 1) = ys[j]? → cs[i * 3 + j]? = some (.int .i64 (M.wayF i j)) := by
   intro j o hj hq
   have h5 : (ys.map (·.1))[j]? = some (.lit (.int .i64 (M.wayF i j))) := by
    rw [h4]
    obtain rfl | rfl | rfl : j = 0 ∨ j = 1 ∨ j = 2 := by omega
    all_goals rfl
   rw [List.getElem?_map] at h5
   cases hyj : ys[j]? with
   | none => rw [hyj] at h5; cases h5
   | some y =>
    rw [hyj] at hq h5
    obtain ⟨v, e1, e2, _⟩ := DataW.trod_int Tryz.underlying3 hq
    subst e2
    simp only [Option.map_some, Option.some.injEq, DataW.lit.injEq, Lit.int.injEq, true_and] at h5
    subst h5
    have h6 : cs[i * 3 + j]? = ((((cs.drop (i * 3)).take 3).drop j).take 1)[0]? := by
     simp [List.getElem?_drop, hj]
    rw [h6, e1]
    rfl
  have hf0 : DataW.trod enc Tryz.prog W base spare held k 3 ((((cs.drop (i * 3)).take 3).drop 0).take (Tryz.prog.cellsOf 3)) = ys[0]? := hf 0 _ rfl
  rw [c1] at hf0
  have hf1 : DataW.trod enc Tryz.prog W base spare held k 3 ((((cs.drop (i * 3)).take 3).drop 1).take (Tryz.prog.cellsOf 3)) = ys[1]? := hf 1 _ rfl
  rw [c1] at hf1
  have hf2 : DataW.trod enc Tryz.prog W base spare held k 3 ((((cs.drop (i * 3)).take 3).drop 2).take (Tryz.prog.cellsOf 3)) = ys[2]? := hf 2 _ rfl
  rw [c1] at hf2
  obtain rfl | rfl | rfl : j = 0 ∨ j = 1 ∨ j = 2 := by omega
  · exact key 0 0 (by omega) hf0
  · exact key 1 1 (by omega) hf1
  · exact key 2 2 (by omega) hf2
theorem ways_of_laid {W : World} (h : laidMetH Tryz.prog laidL W) : Ways W := by
 rw [MakeChecks.laidMetH_plain _ _ _ (by kernel_rfl)] at h
 obtain ⟨ps, ⟨g1, t1, cs1, f1, p1, q1, hg1, ht1, hv1, hd1, _⟩, _, _⟩ := h
 obtain rfl := Option.some.inj (gWays.symm.trans hg1)
 obtain rfl := Option.some.inj (tWays.symm.trans ht1)
 have ht := ways_of_trod hd1
 have hc : ∀ i j, i < 6 → j < 3 → W.cell? ⟨1, 0 + (i * 3 + j), none⟩ = some (.int .i64 (M.wayF i j)) := fun i j hi hj => by
  have := World.var?_cell hg1 hv1 (i * 3 + j)
  rw [Nat.zero_add, this, ← Array.getElem?_toList]
  exact ht i j hi hj
 exact ⟨.inr ⟨1, 0, rfl, Nat.lt_succ_self _, hc⟩, World.block_lt_of_cell? W _ (hc 0 0 (by decide) (by decide))⟩
theorem gFree : Tryz.prog.globalNamed "coble/drift.free" = some 0 := by kernel_rfl
theorem tFree : (Tryz.prog.globals[0]?).map (·.type) = some 96 := by kernel_rfl
set_option maxRecDepth 100000 in
theorem free_of_trod {H : Type} {enc : TypeId × Value → H} {W : World} {base : Nat} {spare : Nat → Bool} {held : Bool} {fuel : Nat} {cs : List Value} {q : List MemPlace}
  (h : DataW.trod enc Tryz.prog W base spare held fuel 96 cs = some (Rows.laid_coble_drift_free, q)) : cs[0]? = some (.int .i64 0) ∧ cs[1]? = some (.int .i64 (-1)) ∧ cs[2]? = some (.int .i64 0) := by
 obtain ⟨ys, k, hk, hx, _, hylen, hf⟩ := DataW.trod_struct Tryz.underlying96 h
 simp only [Prod.mk.injEq] at hx
 obtain ⟨h1, _⟩ := hx
 unfold Rows.laid_coble_drift_free at h1
 injection h1 with h4
 have c1 : Tryz.prog.cellsOf 3 = 1 := by kernel_rfl
 have key : ∀ (j : Nat) (v0 : Int), (ys.map (·.1))[j]? = some (.lit (.int .i64 v0)) → DataW.trod enc Tryz.prog W base spare held k 3 ((cs.drop j).take 1) = ys[j]? → cs[j]? = some (.int .i64 v0) := by
  intro j v0 h5 hq
  rw [List.getElem?_map] at h5
  cases hyj : ys[j]? with
  | none => rw [hyj] at h5; cases h5
  | some y =>
   rw [hyj] at hq h5
   obtain ⟨v, e1, e2, _⟩ := DataW.trod_int Tryz.underlying3 hq
   subst e2
   simp only [Option.map_some, Option.some.injEq, DataW.lit.injEq, Lit.int.injEq, true_and] at h5
   subst h5
   have h6 : cs[j]? = ((cs.drop j).take 1)[0]? := by simp [List.getElem?_drop]
   rw [h6, e1]
   rfl
 have hf0 : DataW.trod enc Tryz.prog W base spare held k 3 ((cs.drop 0).take (Tryz.prog.cellsOf 3)) = ys[0]? := hf 0 _ rfl
 rw [c1] at hf0
 have hf1 : DataW.trod enc Tryz.prog W base spare held k 3 ((cs.drop 1).take (Tryz.prog.cellsOf 3)) = ys[1]? := hf 1 _ rfl
 rw [c1] at hf1
 have hf2 : DataW.trod enc Tryz.prog W base spare held k 3 ((cs.drop 2).take (Tryz.prog.cellsOf 3)) = ys[2]? := hf 2 _ rfl
 rw [c1] at hf2
 exact ⟨key 0 0 (by rw [← h4]; rfl) hf0, key 1 (-1) (by rw [← h4]; rfl) hf1, key 2 0 (by rw [← h4]; rfl) hf2⟩
theorem free_of_laid {W : World} (h : laidMetH Tryz.prog laidL W) : Fre W := by
 rw [MakeChecks.laidMetH_plain _ _ _ (by kernel_rfl)] at h
 obtain ⟨ps, ⟨_, _, _, _, _, _, _, _, _, _, ⟨g1, t1, cs1, f1, p1, q1, hg1, ht1, hv1, hd1, _⟩, _⟩, _, _⟩ := h
 obtain rfl := Option.some.inj (gFree.symm.trans hg1)
 obtain rfl := Option.some.inj (tFree.symm.trans ht1)
 obtain ⟨h0, h1, h2⟩ := free_of_trod hd1
 have hc : ∀ i v, cs1.toList[i]? = some v → W.cell? ⟨0, 0 + i, none⟩ = some v := fun i v e => by
  have := World.var?_cell hg1 hv1 i
  rw [Nat.zero_add, this, ← Array.getElem?_toList]
  exact e
 exact ⟨hc 0 _ h0, hc 1 _ h1, hc 2 _ h2⟩
theorem door_met (os : Os) (args : Array Value) : laidMetH Tryz.prog laidL ((World.doorLaid Tryz.prog 400 os).forCall (fun _ _ => 0) ⟨#[], args, []⟩).memory :=
 laidMetH_of_parts3 (fuel := 8) (laidMet_of_run' 8 (by kernel_rfl) (by kernel_rfl)) (by kernel_rfl) (by kernel_rfl)
end Go.Proofs.YtnbeembnnjdmdaaGreatDoor
