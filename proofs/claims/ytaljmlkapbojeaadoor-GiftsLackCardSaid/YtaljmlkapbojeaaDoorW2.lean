/- The contract of works: it answers true. -/
import Derived.Test.YtaljmlkapbojeaaDoorW1
import Derived.Test.YtaljmlkapbojeaaDoorE1
import Derived.Test.YtaljmlkapbojeaaDoorG10
namespace Go.Proofs.YtaljmlkapbojeaaDoor
open Go.RowKit

theorem RowsOk.rr {w : World} {lo hi n m : Nat} {v : Value} {F : Nat → Nat → Value} {f : Nat → Nat → Int} (h : RowsOk w lo hi v n m F f) : ∃ A c, v = .slice A n c ∧ RR w w.heap.size A n (fun _ => m) f := by
  obtain ⟨A, c, rfl⟩ := h.1.form
  refine ⟨A, c, rfl, ?_⟩
  rcases Nat.eq_zero_or_pos n with hn | hn
  · exact .inl hn
  · obtain ⟨g, c', he⟩ := h.1.nz hn
    obtain ⟨rfl, rfl⟩ : A = some ⟨g, 0, none⟩ ∧ c = c' := by injection he with h1 h2 h3; exact ⟨h1, h3⟩
    refine .inr ⟨g, 0, rfl, (h.1.block rfl).2, fun i hi => ?_⟩
    obtain ⟨A', c', e, ho, _⟩ := h.2.2 i hi
    obtain ⟨A'', c'', e', hr⟩ := ho.rd1
    obtain ⟨rfl, rfl⟩ : A' = A'' ∧ c' = c'' := by injection e' with h1 h2 h3; exact ⟨h1, h3⟩
    refine ⟨A', c', ?_, hr⟩
    rw [Nat.zero_add, h.1.cell1 hi, e]

def exRows : Nat → Nat → Int := fun i j => ([90, 0, 0, 0, 40, 0, 0, 0, 30] : List Int).getD (i * 3 + j) 0
theorem ex_ok : M.okF 3 3 exG exH = true := by decide
theorem ex_lpd : lpd 3 3 exG exH = true := by decide
theorem ex_pay : ∀ i, i < 3 → ∀ j, j < 3 → M.payAt 3 3 (s0 exG exH 3) i j = exRows i j := by decide
theorem ex_year : M.okY 100 20 5 exM = true := by decide
theorem ex_once : M.onceTo (M.over (100 - 20) (M.worst exM)) 5 = 70 := by decide
theorem ex_mon : M.monTo (M.over (100 - 20) (M.worst exM)) 5 = 14 := by decide
theorem ex_same : sameRF 3 3 (fun _ => 3) (fun _ => 3) (M.payAt 3 3 (s0 exG exH 3)) exRows = true := by
  unfold sameRF sameF
  simp only [decide_true, Bool.true_and]
  refine M.allTo_iff.2 fun i hi => M.allTo_iff.2 fun j hj => ?_
  exact decide_eq_true (ex_pay i hi j hj)

theorem exRows_rd {W : World} {g k : Nat} {cs : Array Value} (h : Blk W g 3 cs) (hc : ∀ j, j < 3 → cs[0 + j]? = some (.int .i64 (exRows k j))) : Rd1 W W.heap.size (some ⟨g, 0, none⟩) 3 (exRows k) :=
  .inr ⟨g, 0, rfl, h.lt, fun j hj => (h.cell _).trans (hc j hj)⟩
theorem j3 {P : Nat → Prop} (h0 : P 0) (h1 : P 1) (h2 : P 2) : ∀ j, j < 3 → P j := by
  intro j hj
  obtain rfl | rfl | rfl : j = 0 ∨ j = 1 ∨ j = 2 := by omega
  · exact h0
  · exact h1
  · exact h2
def rowsW (W : World) : World := (((W.alloc (.cells #[.int .i64 90, .int .i64 0, .int .i64 0] 3)).alloc (.cells #[.int .i64 0, .int .i64 40, .int .i64 0] 3)).alloc (.cells #[.int .i64 0, .int .i64 0, .int .i64 30] 3)).alloc
  (.cells #[.slice (some ⟨W.heap.size, 0, none⟩) 3 3, .slice (some ⟨W.heap.size + 1, 0, none⟩) 3 3, .slice (some ⟨W.heap.size + 1 + 1, 0, none⟩) 3 3] 33)
theorem ex_rr (W : World) : RR (rowsW W) (rowsW W).heap.size (some ⟨W.heap.size + 1 + 1 + 1, 0, none⟩) 3 (fun _ => 3) exRows := by
  have b0 : Blk (rowsW W) W.heap.size 3 #[.int .i64 90, .int .i64 0, .int .i64 0] := (((Blk.new _ _ _).alloc _).alloc _).alloc _
  have b1 : Blk (rowsW W) (W.heap.size + 1) 3 #[.int .i64 0, .int .i64 40, .int .i64 0] := ((Blk.new1 _ _ _ _).alloc _).alloc _
  have b2 : Blk (rowsW W) (W.heap.size + 1 + 1) 3 #[.int .i64 0, .int .i64 0, .int .i64 30] := (Blk.new2 _ _ _ _ _).alloc _
  have b3 : Blk (rowsW W) (W.heap.size + 1 + 1 + 1) 33 #[.slice (some ⟨W.heap.size, 0, none⟩) 3 3, .slice (some ⟨W.heap.size + 1, 0, none⟩) 3 3, .slice (some ⟨W.heap.size + 1 + 1, 0, none⟩) 3 3] := Blk.new3 _ _ _ _ _ _
  refine .inr ⟨_, 0, rfl, b3.lt, ?_⟩
  refine j3 ⟨_, 3, b3.cell _, exRows_rd b0 (j3 rfl rfl rfl)⟩ ⟨_, 3, b3.cell _, exRows_rd b1 (j3 rfl rfl rfl)⟩ ⟨_, 3, b3.cell _, exRows_rd b2 (j3 rfl rfl rfl)⟩

set_option maxRecDepth 100000 in
set_option maxHeartbeats 3200000 in
theorem works_any (w : World) : Calls Tryd.prog 8 #[] w fun e w' => e = .returned (.bool true) ∧ Below w.heap.size w w' := by
  go_enter Tryd.func8, Tryd.ntmps8
  go_wp2_with (go_at_call 23; refine (example_any _).mono ?_; rintro e w1 ⟨A1, A2, A3, c3, rfl, hr1, hr2, hb1⟩; have HB1 := Lib.hid hb1; have HR1 := Lib.hid hr1; have HR2 := Lib.hid hr2; clear hb1 hr1 hr2)
  go_wp2_with (go_at_call 10; refine (pay_ok _ _ _ _ _ _ w1.heap.size exG exH _ (by exact HR1.out.below (belowAlloc2 _ _ _)) (by simp; omega) ex_ok ex_lpd).mono ?_; rintro e w2 ⟨v, F, rfl, hro, hb2⟩; obtain ⟨A4, c4, rfl, hrr⟩ := hro.rr; obtain ⟨hc, hf⟩ := bcell hb2; have HB2 := Lib.hid hb2; have HRR := Lib.hid hrr; clear hb2 hrr hro)
  have hz2 : w1.heap.size + 2 ≤ w2.heap.size := by have := HB2.out.size; simpa using this
  have W2 : Below w1.heap.size w1 w2 := (belowAlloc2 _ _ _).trans (HB2.out.mono (by simp; omega))
  go_wp2_with (go_at_call 24; refine (appeal_ok _ _ _ _ _ w1.heap.size exM _ (by exact HR2.out.below W2) (by omega) ex_year).mono ?_; rw [ex_once, ex_mon]; rintro e w3 ⟨rfl, hb3⟩; have HB3 := Lib.hid hb3; clear hb3)
  go_wp2_with (go_at_call 16; refine (sameRows_any _ _ _ _ _ _ (rowsW w3).heap.size (fun _ => 3) (fun _ => 3) (M.payAt 3 3 (s0 exG exH 3)) exRows _ (by unfold maxLen; omega) (by unfold maxLen; omega) (by intros; unfold maxLen; omega) (by intros; unfold maxLen; omega) (by exact ((HRR.out.below HB3.out).more HB3.out.size |>.below ((((belowAlloc2 _ _ _).alloc (by simp; omega) _).alloc (by simp; omega) _))).more (by simp [rowsW]; omega)) (by exact ex_rr w3) (by exact Nat.le_refl _)).mono ?_; rw [ex_same]; rintro e w4 ⟨rfl, hb4⟩; have HB4 := Lib.hid hb4; clear hb4)
  go_ret
  refine ⟨rfl, ?_⟩
  have z1 := HB1.out.size
  have z3 := HB3.out.size
  exact (HB1.out.trans (W2.mono z1)).trans ((HB3.out.mono (by omega)).trans (((((belowAlloc2 _ _ _).alloc (by simp; omega) _).alloc (by simp; omega) _).mono (by omega)).trans (HB4.out.mono (by simp; omega))))
end Go.Proofs.YtaljmlkapbojeaaDoor
