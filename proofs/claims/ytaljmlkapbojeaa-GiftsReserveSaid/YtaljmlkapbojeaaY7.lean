/- gifts.Lasts. -/
import Derived.Test.YtaljmlkapbojeaaY4
import Derived.Deep.RegionHeld3
import Derived.Deep.DrawnRows
namespace Go.Proofs.Ytaljmlkapbojeaa
open Go.RowKit

def dF (f : FuncId) (m : Nat → Nat → Int) : Nat → Int := if f = 37 then M.worst m else M.best m
theorem lasts_f (f : FuncId) (hf : f = 37 ∨ f = 38) (r le : Int) (A : Option Addr) (n c B : Nat) (m : Nat → Nat → Int) (w : World) (hR : Rd w B A 4 n m) (hB : B ≤ w.heap.size) (hok : M.okY r le n m = true) :
    Calls Try.prog 36 #[.agg #[.int .i64 r, .int .i64 le, .slice A n c], .func (.func f) #[] #[]] w fun e w' => e = .returned (.int .i64 (M.lastTo (M.over (r - le) (dF f m)) n : Nat)) ∧ Below w.heap.size w w' := by
  rcases hf with rfl | rfl
  · exact lasts_any false r le A n c B m w hR hB hok
  · exact lasts_any true r le A n c B m w hR hB hok
section
variable {w W w1 : World} {A : Option Addr} {n c : Nat} {r le : Int}
def KeptY (w : World) (A : Option Addr) (n c : Nat) (r le : Int) (w' : World) : Prop :=
  w'.cell? ⟨w.heap.size, 0, none⟩ = some (.int .i64 r) ∧ w'.cell? ⟨w.heap.size, 1, none⟩ = some (.int .i64 le) ∧ w'.cell? ⟨w.heap.size, 2, none⟩ = some (.slice A n c) ∧ Below w.heap.size w w' ∧ w.heap.size + 1 ≤ w'.heap.size
theorem KeptY.keep (h : KeptY w A n c r le W) (hb : Below W.heap.size W w1) : KeptY w A n c r le w1 := by
  obtain ⟨h1, h2, h3, h4, h5⟩ := h
  have hs := hb.size
  have f : ∀ a : Addr, a.block < W.heap.size → w1.cell? a = W.cell? a := fun a ha => hb.cell ha
  exact ⟨(f _ (by show w.heap.size < _; omega)).trans h1, (f _ (by show w.heap.size < _; omega)).trans h2, (f _ (by show w.heap.size < _; omega)).trans h3, h4.trans (hb.mono (by omega)), by omega⟩
theorem KeptY.drew (h : KeptY w A n c r le W) : KeptY w A n c r le W.drew := ⟨h.1, h.2.1, h.2.2.1, h.2.2.2.1.drew, h.2.2.2.2⟩
end

set_option maxRecDepth 100000 in
set_option maxHeartbeats 4000000 in
theorem glasts_bad (r le : Int) (A : Option Addr) (n c B : Nat) (m : Nat → Nat → Int) (w : World) (hn : n ≤ maxLen) (hR : Rd w B A 4 n m) (hB : B ≤ w.heap.size) (hok : M.okY r le n m = false) :
    Calls Try.prog 15 #[.agg #[.int .i64 r, .int .i64 le, .slice A n c]] w fun e w' => e = .returned (.tuple #[.int .i64 0, .int .i64 0, .int .i64 111]) ∧ Below w.heap.size w w' := by
  have hk : M.chkY r le n m = 111 := by simp [M.chkY, hok]
  go_enter Try.func15, Try.ntmps15
  go_wp2_with (go_at_call 35; refine (checkYear_any _ _ _ _ _ B m _ hn (by exact hR.below ((belowAlloc _ _).mono hB)) (by simp; omega)).mono ?_; rw [hk]; rintro e w1 ⟨rfl, hb1⟩; have HB1 := Lib.hid hb1; clear hb1)
  go_ret3
  exact ⟨rfl, (belowAlloc _ _).trans (HB1.out.mono (by simp))⟩
set_option maxRecDepth 100000 in
set_option maxHeartbeats 4000000 in
theorem glasts_ok (r le : Int) (A : Option Addr) (n c B : Nat) (m : Nat → Nat → Int) (w : World) (hR : Rd w B A 4 n m) (hB : B ≤ w.heap.size) (hok : M.okY r le n m = true) :
    Calls Try.prog 15 #[.agg #[.int .i64 r, .int .i64 le, .slice A n c]] w fun e w' =>
      e = .returned (.tuple #[.int .i64 (M.lastTo (M.over (r - le) (M.worst m)) n : Nat), .int .i64 (M.lastTo (M.over (r - le) (M.best m)) n : Nat), .int .i64 0]) ∧ Below w.heap.size w w' := by
  have hk : M.chkY r le n m = 0 := by simp [M.chkY, hok]
  have hn := (M.okY_iff.1 hok).2.2.2.2.1
  go_enter Try.func15, Try.ntmps15
  go_wp2_with (go_at_call 35; refine (checkYear_any _ _ _ _ _ B m _ (by unfold maxLen; omega) (by exact hR.below ((belowAlloc _ _).mono hB)) (by simp; omega)).mono ?_; rw [hk]; rintro e w1 ⟨rfl, hb1⟩; have HB1 := Lib.hid hb1; clear hb1)
  have k1 := (Blk.new w 43 #[.int .i64 r, .int .i64 le, .slice A n c]).below HB1.out (by simp)
  have ky : KeptY w A n c r le w1 := ⟨k1.cell 0, k1.cell 1, k1.cell 2, (belowAlloc _ _).trans (HB1.out.mono (by simp)), k1.lt⟩
  clear k1 HB1
  have kd := ky.drew
  clear ky
  go_region_held3 (fun w' => w'.cell? ⟨w.heap.size, 0, none⟩ = some (.int .i64 r) ∧ w'.cell? ⟨w.heap.size, 1, none⟩ = some (.int .i64 le) ∧ w'.cell? ⟨w.heap.size, 2, none⟩ = some (.slice A n c) ∧ Below w.heap.size w w' ∧ w.heap.size + 1 ≤ w'.heap.size)
    (first
      | assumption
      | exact KeptY.keep (w := w) (by assumption) hbx
      | fail)
    (first
      | (go_at_call 36; refine (lasts_f _ (by decide) r le A n c B m _ (hR.below (Below.mono (by go_split_ands; assumption) hB)) (by go_split_ands; omega) hok).mono ?_; rintro e w2 ⟨rfl, hbx⟩))
  go_split_ands
  go_wp2
  go_ret3
  exact ⟨rfl, by assumption⟩
end Go.Proofs.Ytaljmlkapbojeaa
