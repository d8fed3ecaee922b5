/- The contract of Example. -/
import Derived.Test.YtaljmlkapbojeaaDoorR2
import Derived.Test.YtaljmlkapbojeaaDoorY3
namespace Go.Proofs.YtaljmlkapbojeaaDoor
open Go.RowKit

def exG : Nat → Nat → Int := fun i j => ([1, 0, 100, 3, 0, 50, 7, 10, 80] : List Int).getD (i * 3 + j) 0
def exH : Nat → Nat → Int := fun i j => ([0, 5, 90, 1, 5, 40, 2, 20, 30] : List Int).getD (i * 3 + j) 0
def exM : Nat → Nat → Int := fun _ j => ([10, 20, 30, 40] : List Int).getD j 0
theorem month_info : (Tryd.prog.info? 82).map (fun i => (i.zero, i.size, i.bytes)) = some (some (.agg #[.int .i64 0, .int .i64 0, .int .i64 0, .int .i64 0]), 4, 32) := by kernel_rfl

theorem blk_at (w : World) {n : Nat} {t : TypeId} {cs : Array Value} (h : n = w.heap.size) : Blk (w.alloc (.cells cs t)) n t cs := by subst h; exact Blk.new _ _ _
theorem exM_cells (W : World) (k : Nat) : ∀ j, j < 4 → (W.alloc (.cells #[.int .i64 10, .int .i64 20, .int .i64 30, .int .i64 40] 82)).cell? ⟨W.heap.size, j, none⟩ = some (ints2 exM k j) := by
  intro j hj
  have h := (Blk.new W 82 #[.int .i64 10, .int .i64 20, .int .i64 30, .int .i64 40]).cell j
  rw [h]
  match j, hj with
  | 0, _ => rfl
  | 1, _ => rfl
  | 2, _ => rfl
  | 3, _ => rfl
theorem exG_cells {i j : Nat} (hi : i < 3) (hj : j < 3) : (#[.int .i64 1, .int .i64 0, .int .i64 100, .int .i64 3, .int .i64 0, .int .i64 50, .int .i64 7, .int .i64 10, .int .i64 80] : Array Value)[0 + (i * 3 + j)]? = some (.int .i64 (exG i j)) := by
  obtain rfl | rfl | rfl : i = 0 ∨ i = 1 ∨ i = 2 := by omega
  all_goals
    obtain rfl | rfl | rfl : j = 0 ∨ j = 1 ∨ j = 2 := by omega
    all_goals rfl
theorem exH_cells {i j : Nat} (hi : i < 3) (hj : j < 3) : (#[.int .i64 0, .int .i64 5, .int .i64 90, .int .i64 1, .int .i64 5, .int .i64 40, .int .i64 2, .int .i64 20, .int .i64 30] : Array Value)[0 + (i * 3 + j)]? = some (.int .i64 (exH i j)) := by
  obtain rfl | rfl | rfl : i = 0 ∨ i = 1 ∨ i = 2 := by omega
  all_goals
    obtain rfl | rfl | rfl : j = 0 ∨ j = 1 ∨ j = 2 := by omega
    all_goals rfl
def Exemplar (w : World) (e : Ending) (w' : World) : Prop :=
  ∃ A1 A2 A3 c3, e = .returned (.tuple #[.agg #[.slice A1 3 3, .slice A2 3 3], .agg #[.int .i64 100, .int .i64 20, .slice A3 5 c3]]) ∧ BookRd w' w'.heap.size A1 3 exG A2 3 exH ∧ Rd w' w'.heap.size A3 4 5 exM ∧ Below w.heap.size w w'

set_option maxRecDepth 100000 in
set_option maxHeartbeats 3200000 in
theorem example_any (w : World) : Calls Tryd.prog 23 #[] w (Exemplar w) := by
  obtain ⟨gi, hi, hz0, hz1, hz2⟩ := info_parts month_info
  have MI := Lib.hid (And.intro hi (And.intro hz0 (And.intro hz1 hz2)))
  clear hi hz0 hz1 hz2
  go_enter Tryd.func23, Tryd.ntmps23
  go_wp2_with fail
  obtain ⟨W, hW⟩ : ∃ W, W = ((((((w.alloc (.cells #[.slice none 0 0, .slice none 0 0] 25)).alloc (.cells #[.int .i64 0, .int .i64 0, .slice none 0 0] 58)).alloc (.cells #[.int .i64 1, .int .i64 0, .int .i64 100, .int .i64 3, .int .i64 0, .int .i64 50, .int .i64 7, .int .i64 10, .int .i64 80] 44)).alloc (.cells #[.int .i64 0, .int .i64 5, .int .i64 90, .int .i64 1, .int .i64 5, .int .i64 40, .int .i64 2, .int .i64 20, .int .i64 30] 41)).alloc (.cells #[.slice (some ⟨w.heap.size + 1 + 1, 0, none⟩) 3 3, .slice (some ⟨w.heap.size + 1 + 1 + 1, 0, none⟩) 3 3] 25)).alloc (.cells #[.int .i64 100, .int .i64 20, .slice none 0 0] 58)) := ⟨_, rfl⟩
  rw [← hW]
  have k0 : Blk W w.heap.size 25 #[.slice none 0 0, .slice none 0 0] := by rw [hW]; exact (((((Blk.new _ _ _).alloc _).alloc _).alloc _).alloc _).alloc _
  have k1 : Blk W (w.heap.size + 1) 58 #[.int .i64 0, .int .i64 0, .slice none 0 0] := by rw [hW]; exact ((((Blk.new1 _ _ _ _).alloc _).alloc _).alloc _).alloc _
  have k2 : Blk W (w.heap.size + 1 + 1) 44 #[.int .i64 1, .int .i64 0, .int .i64 100, .int .i64 3, .int .i64 0, .int .i64 50, .int .i64 7, .int .i64 10, .int .i64 80] := by rw [hW]; exact (((Blk.new2 _ _ _ _ _).alloc _).alloc _).alloc _
  have k3 : Blk W (w.heap.size + 1 + 1 + 1) 41 #[.int .i64 0, .int .i64 5, .int .i64 90, .int .i64 1, .int .i64 5, .int .i64 40, .int .i64 2, .int .i64 20, .int .i64 30] := by rw [hW]; exact ((Blk.new3 _ _ _ _ _ _).alloc _).alloc _
  have k4 : Blk W (w.heap.size + 1 + 1 + 1 + 1) 25 #[.slice (some ⟨w.heap.size + 1 + 1, 0, none⟩) 3 3, .slice (some ⟨w.heap.size + 1 + 1 + 1, 0, none⟩) 3 3] := by
    rw [hW]
    refine Blk.alloc ?_ _
    exact blk_at _ (by simp)
  have k5 : Blk W (w.heap.size + 1 + 1 + 1 + 1 + 1) 58 #[.int .i64 100, .int .i64 20, .slice none 0 0] := by rw [hW]; exact blk_at _ (by simp)
  have hWb : Below w.heap.size w W := by rw [hW]; exact ((((((Below.refl _ _).alloc (by simp) _).alloc (by simp) _).alloc (by simp; omega) _).alloc (by simp; omega) _).alloc (by simp; omega) _).alloc (by simp; omega) _
  have hz : w.heap.size + 6 = W.heap.size := by rw [hW]; simp
  clear hW
  obtain ⟨S, hS⟩ : ∃ S, S = w.heap.size := ⟨_, rfl⟩
  simp only [← hS] at k0 k1 k2 k3 k4 k5 hWb hz ⊢
  have HS := Lib.hid hS
  clear hS
  go_loopw [4] (fun i wr => ∃ k : Nat, k ≤ 5 ∧ i = .int .i64 k ∧ ∃ v, Blk wr S 25 #[.slice none 0 0, .slice none 0 0] ∧ Blk wr (S + 1) 58 #[.int .i64 0, .int .i64 0, .slice none 0 0] ∧ Blk wr (S + 1 + 1) 44 #[.int .i64 1, .int .i64 0, .int .i64 100, .int .i64 3, .int .i64 0, .int .i64 50, .int .i64 7, .int .i64 10, .int .i64 80] ∧
      Blk wr (S + 1 + 1 + 1) 41 #[.int .i64 0, .int .i64 5, .int .i64 90, .int .i64 1, .int .i64 5, .int .i64 40, .int .i64 2, .int .i64 20, .int .i64 30] ∧ Blk wr (S + 1 + 1 + 1 + 1) 25 #[.slice (some ⟨S + 1 + 1, 0, none⟩) 3 3, .slice (some ⟨S + 1 + 1 + 1, 0, none⟩) 3 3] ∧
      Blk wr (S + 1 + 1 + 1 + 1 + 1) 58 #[.int .i64 100, .int .i64 20, v] ∧ Own wr (S + 6) 82 4 v k (ints2 exM) ∧ Below S w wr) (fun i _ => 5 - (intOf i).toNat)
  case atStart => exact ⟨0, Nat.zero_le _, rfl, _, k0, k1, k2, k3, k4, k5, Own.nil_, hWb⟩
  case round =>
    clear k0 k1 k2 k3 k4 k5 hWb hz
    obtain ⟨k, hk, rfl, v, k0, k1, k2, k3, k4, k5, ho, hWb⟩ := hrel
    obtain ⟨A, c, rfl⟩ := ho.form
    by_cases hlt : k < 5
    · have q2 := k5.cell 2
      have hs5 := k5.lt
      have K := Lib.hid (And.intro k0 (And.intro k1 (And.intro k2 (And.intro k3 (And.intro k4 (And.intro k5 hWb))))))
      clear k0 k1 k2 k3 k4 k5 hWb
      go_wp2_with (at_builtin; refine wpList_app rfl (.tmp 20) (.tmp 24) 56 rfl (S + 6) 82 4 32 Tryd.underlying56 MI.out.1 MI.out.2.1 MI.out.2.2.1 MI.out.2.2.2 rfl (by decide) (by decide) (ho.alloc _) rfl (by omega) (by simp; omega) wr.heap.size 1 (fun j => ints2 exM k j) rfl (exM_cells wr k) (fun _ _ => rfl) ?_; intro v2 w2 o2 hg2 _; obtain ⟨A2, z2, rfl⟩ := o2.form; have l2 := (K.out.2.2.2.2.2.1.alloc _).grown hg2 (ho.ne_ (by omega)); have lc := l2.cell 2; have lf := l2.frz 2; have L2 := Lib.hid l2; clear l2; have HG2 := Lib.hid hg2; clear hg2)
      go_roundw
      case rel =>
        have hne : ∀ q, q < S + 6 → some q ≠ Value.ownBlock (.slice A k c) := fun q hq => ho.ne_ hq
        refine ⟨k + 1, by omega, by go_num, _, ?_, ?_, ?_, ?_, ?_, L2.out.set_ 2 _, ?_, ?_⟩
        · exact ((K.out.1.alloc _).grown HG2.out (hne _ (by omega))).far (by simp; omega) _
        · exact ((K.out.2.1.alloc _).grown HG2.out (hne _ (by omega))).far (by simp) _
        · exact ((K.out.2.2.1.alloc _).grown HG2.out (hne _ (by omega))).far (by simp) _
        · exact ((K.out.2.2.2.1.alloc _).grown HG2.out (hne _ (by omega))).far (by simp) _
        · exact ((K.out.2.2.2.2.1.alloc _).grown HG2.out (hne _ (by omega))).far (by simp) _
        · rw [show (upd (ints2 exM) k fun j => ints2 exM k j) = ints2 exM from upd_self _ k] at o2
          exact o2.setCell (Ne.symm (o2.ne_ (by simp))) _
        · exact ((K.out.2.2.2.2.2.2.alloc (by omega) _).grown HG2.out (by simp; omega) (fun g hg => by have := (ho.block hg).1; omega)).setCell (by simp; omega) _
      case measure => simp [intOf]; omega
    · obtain rfl : k = 5 := by omega
      have q40 := k4.cell 0
      have q41 := k4.cell 1
      have q50 := k5.cell 0
      have q51 := k5.cell 1
      have q52 := k5.cell 2
      have f00 := k0.frz 0
      have f01 := k0.frz 1
      have f10 := k1.frz 0
      have f11 := k1.frz 1
      have f12 := k1.frz 2
      have r00 := k0.cell 0
      have r01 := k0.cell 1
      have r10 := k1.cell 0
      have r11 := k1.cell 1
      have r12 := k1.cell 2
      have K := Lib.hid (And.intro k0 (And.intro k1 (And.intro k2 (And.intro k3 (And.intro k4 (And.intro k5 hWb))))))
      clear k0 k1 k2 k3 k4 k5 hWb
      go_wp2_with fail
      go_region
      go_wp2
      have far : ∀ {g : Nat} {t : TypeId} {cs : Array Value}, S + 1 < g → Blk wr g t cs → Blk ((((((wr.setCell ⟨S, 0, none⟩ (.slice (some ⟨S + 1 + 1, 0, none⟩) 3 3)).setCell ⟨S, 1, none⟩ (.slice (some ⟨S + 1 + 1 + 1, 0, none⟩) 3 3)).setCell ⟨S + 1, 0, none⟩ (.int .i64 100)).setCell ⟨S + 1, 1, none⟩ (.int .i64 20)).setCell ⟨S + 1, 2, none⟩ (.slice A 5 c)).drew) g t cs := fun hg h =>
        blk_drew (((((h.far (by simp; omega) _).far (by simp; omega) _).far (by simp; omega) _).far (by simp; omega) _).far (by simp; omega) _)
      have m0 := blk_drew ((((((K.out.1.set_ 0 (.slice (some ⟨S + 1 + 1, 0, none⟩) 3 3)).set_ 1 (.slice (some ⟨S + 1 + 1 + 1, 0, none⟩) 3 3)).far (p := ⟨S + 1, 0, none⟩) (by simp) (.int .i64 100)).far (p := ⟨S + 1, 1, none⟩) (by simp) (.int .i64 20)).far (p := ⟨S + 1, 2, none⟩) (by simp) (.slice A 5 c)))
      have m1 := blk_drew ((((((K.out.2.1.far (p := ⟨S, 0, none⟩) (by simp) (.slice (some ⟨S + 1 + 1, 0, none⟩) 3 3)).far (p := ⟨S, 1, none⟩) (by simp) (.slice (some ⟨S + 1 + 1 + 1, 0, none⟩) 3 3)).set_ 0 (.int .i64 100)).set_ 1 (.int .i64 20)).set_ 2 (.slice A 5 c)))
      have m2 := far (by omega) K.out.2.2.1
      have m3 := far (by omega) K.out.2.2.2.1
      have ho' := (((((ho.setCell (p := ⟨S, 0, none⟩) (Ne.symm (ho.ne_ (by simp))) (.slice (some ⟨S + 1 + 1, 0, none⟩) 3 3)).setCell (p := ⟨S, 1, none⟩) (Ne.symm (ho.ne_ (by simp))) (.slice (some ⟨S + 1 + 1 + 1, 0, none⟩) 3 3)).setCell (p := ⟨S + 1, 0, none⟩) (Ne.symm (ho.ne_ (by simp))) (.int .i64 100)).setCell (p := ⟨S + 1, 1, none⟩) (Ne.symm (ho.ne_ (by simp))) (.int .i64 20)).setCell (p := ⟨S + 1, 2, none⟩) (Ne.symm (ho.ne_ (by simp))) (.slice A 5 c)).drew
      have hB := (((((K.out.2.2.2.2.2.2.setCell (p := ⟨S, 0, none⟩) (by simp) (.slice (some ⟨S + 1 + 1, 0, none⟩) 3 3)).setCell (p := ⟨S, 1, none⟩) (by simp) (.slice (some ⟨S + 1 + 1 + 1, 0, none⟩) 3 3)).setCell (p := ⟨S + 1, 0, none⟩) (by simp) (.int .i64 100)).setCell (p := ⟨S + 1, 1, none⟩) (by simp) (.int .i64 20)).setCell (p := ⟨S + 1, 2, none⟩) (by simp) (.slice A 5 c)).drew
      clear K far q40 q41 q50 q51 q52 f00 f01 f10 f11 f12 r00 r01 r10 r11 r12 ho
      generalize (((((wr.setCell ⟨S, 0, none⟩ (.slice (some ⟨S + 1 + 1, 0, none⟩) 3 3)).setCell ⟨S, 1, none⟩ (.slice (some ⟨S + 1 + 1 + 1, 0, none⟩) 3 3)).setCell ⟨S + 1, 0, none⟩ (.int .i64 100)).setCell ⟨S + 1, 1, none⟩ (.int .i64 20)).setCell ⟨S + 1, 2, none⟩ (.slice A 5 c)).drew = X at *
      have r00 := m0.cell 0
      have r01 := m0.cell 1
      have r10 := m1.cell 0
      have r11 := m1.cell 1
      have r12 := m1.cell 2
      obtain ⟨A', c', e', hrd⟩ := ho'.rd
      obtain ⟨rfl, rfl⟩ : A = A' ∧ c = c' := by injection e' with h1 h2 h3; exact ⟨h1, h3⟩
      refine bodyPost_ret (v := .tuple #[.agg #[.slice (some ⟨S + 1 + 1, 0, none⟩) 3 3, .slice (some ⟨S + 1 + 1 + 1, 0, none⟩) 3 3], .agg #[.int .i64 100, .int .i64 20, .slice A 5 c]]) ?_ rfl ⟨_, _, _, _, rfl, ⟨?_, ?_⟩, hrd, by rw [HS.out] at hB; exact hB⟩
      · simp [results, Tryd.results23, go_sem, r00, r01, r10, r11, r12]
      · exact .inr ⟨_, _, rfl, m2.lt, fun i j hi hj => (m2.cell _).trans (exG_cells hi hj)⟩
      · exact .inr ⟨_, _, rfl, m3.lt, fun i j hi hj => (m3.cell _).trans (exH_cells hi hj)⟩
end Go.Proofs.YtaljmlkapbojeaaDoor
