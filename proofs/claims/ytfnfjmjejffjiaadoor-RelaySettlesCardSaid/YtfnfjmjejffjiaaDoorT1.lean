/- The state of a call in the program's memory; room, send. -/
import Derived.Test.YtfnfjmjejffjiaaDoorOwn
import Derived.Test.YtfnfjmjejffjiaaDoorRMath
import Derived.Deep.RegionHeld3
namespace Go.Proofs.YtfnfjmjejffjiaaDoor
open Go.RowKit

/-- a state block, cell by cell -/
def Sf (w : World) (g : Nat) (F : Nat → Int) : Prop := ∃ cs : Array Value, Blk w g 57 cs ∧ cs.size = 38 ∧ ∀ i, i < 38 → cs[i]? = some (.int .i64 (F i))
/-- a state's cells: n, four centres, six messages, how many -/
def stF (n : Nat) (s : M.St) : Nat → Int := fun i => if i = 0 then n else if i < 13 then s.c ((i - 1) / 3) ((i - 1) % 3) else if i < 37 then s.m ((i - 13) / 4) ((i - 13) % 4) else s.k
section
variable {w w' : World} {g n : Nat} {F F' : Nat → Int} {s : M.St}
theorem Sf.lt (h : Sf w g F) : g < w.heap.size := by obtain ⟨cs, h, _⟩ := h; exact h.lt
theorem Sf.cell (h : Sf w g F) {i : Nat} (hi : i < 38) : w.cell? ⟨g, i, none⟩ = some (.int .i64 (F i)) := by
  obtain ⟨cs, h, _, hc⟩ := h
  exact (h.cell i).trans (hc i hi)
theorem Sf.frz (h : Sf w g F) (i : Nat) : w.frozen? ⟨g, i, none⟩ = false := by obtain ⟨cs, h, _⟩ := h; exact h.frz i
theorem Sf.congr (h : Sf w g F) (hF : ∀ i, i < 38 → F i = F' i) : Sf w g F' := by
  obtain ⟨cs, h, hs, hc⟩ := h
  exact ⟨cs, h, hs, fun i hi => by rw [← hF i hi]; exact hc i hi⟩
theorem Sf.set_ (h : Sf w g F) {i : Nat} (hi : i < 38) (v : Int) : Sf (w.setCell ⟨g, i, none⟩ (.int .i64 v)) g (fun j => if j = i then v else F j) := by
  obtain ⟨cs, h, hs, hc⟩ := h
  refine ⟨_, h.set_ i _, by simpa using hs, fun j hj => ?_⟩
  by_cases e : j = i
  · subst e; simp [hs, hj]
  · show _ = some (Value.int .i64 (if j = i then v else F j))
    rw [if_neg e, Array.getElem?_setIfInBounds, if_neg fun e2 => e e2.symm]; exact hc j hj
theorem Sf.drew (h : Sf w g F) : Sf w.drew g F := h
theorem Sf.below {B : Nat} (h : Sf w g F) (hb : Below B w w') (hg : g < B) : Sf w' g F := by
  obtain ⟨cs, h, hs, hc⟩ := h
  exact ⟨cs, h.below hb hg, hs, hc⟩
theorem Sf.grown {row : Option Nat} (h : Sf w g F) (hb : w.grownBy w' row) (hg : some g ≠ row) : Sf w' g F := by
  obtain ⟨cs, h, hs, hc⟩ := h
  exact ⟨cs, h.grown hb hg, hs, hc⟩
theorem Sf.alloc (h : Sf w g F) (o : Obj) : Sf (w.alloc o) g F := h.below (belowAlloc w o) h.lt
theorem Sf.cn (h : Sf w g (stF n s)) : w.cell? ⟨g, 0, none⟩ = some (.int .i64 (n : Int)) := h.cell (by omega)
theorem Sf.ck (h : Sf w g (stF n s)) : w.cell? ⟨g, 37, none⟩ = some (.int .i64 (s.k : Int)) := h.cell (by omega)
theorem stF_c (n : Nat) (s : M.St) {a j : Nat} (ha : a < 4) (hj : j < 3) : stF n s (1 + a * 3 + j) = s.c a j := by
  unfold stF
  rw [if_neg (by omega), if_pos (by omega), show (1 + a * 3 + j - 1) / 3 = a by omega, show (1 + a * 3 + j - 1) % 3 = j by omega]
theorem stF_m (n : Nat) (s : M.St) {a j : Nat} (ha : a < 6) (hj : j < 4) : stF n s (13 + a * 4 + j) = s.m a j := by
  unfold stF
  rw [if_neg (by omega), if_neg (by omega), if_pos (by omega), show (13 + a * 4 + j - 13) / 4 = a by omega, show (13 + a * 4 + j - 13) % 4 = j by omega]
theorem Sf.cen (h : Sf w g (stF n s)) {a : Nat} (ha : a < 4) : w.cell? ⟨g, 1 + a * 3, none⟩ = some (.int .i64 (s.c a 0)) ∧ w.cell? ⟨g, 1 + a * 3 + 1, none⟩ = some (.int .i64 (s.c a 1)) ∧ w.cell? ⟨g, 1 + a * 3 + 2, none⟩ = some (.int .i64 (s.c a 2)) :=
  ⟨by rw [← stF_c n s ha (show 0 < 3 by omega)]; exact h.cell (by omega), by rw [← stF_c n s ha (show 1 < 3 by omega)]; exact h.cell (by omega), by rw [← stF_c n s ha (show 2 < 3 by omega)]; exact h.cell (by omega)⟩
theorem Sf.msg (h : Sf w g (stF n s)) {a : Nat} (ha : a < 6) : w.cell? ⟨g, 13 + a * 4, none⟩ = some (.int .i64 (s.m a 0)) ∧ w.cell? ⟨g, 13 + a * 4 + 1, none⟩ = some (.int .i64 (s.m a 1)) ∧ w.cell? ⟨g, 13 + a * 4 + 2, none⟩ = some (.int .i64 (s.m a 2)) ∧ w.cell? ⟨g, 13 + a * 4 + 3, none⟩ = some (.int .i64 (s.m a 3)) :=
  ⟨by rw [← stF_m n s ha (show 0 < 4 by omega)]; exact h.cell (by omega), by rw [← stF_m n s ha (show 1 < 4 by omega)]; exact h.cell (by omega), by rw [← stF_m n s ha (show 2 < 4 by omega)]; exact h.cell (by omega), by rw [← stF_m n s ha (show 3 < 4 by omega)]; exact h.cell (by omega)⟩
end
theorem grown_set (w : World) (g i : Nat) (u : Value) : w.grownBy (w.setCell ⟨g, i, none⟩ u) (some g) :=
  ⟨rfl, rfl, rfl, by simp, fun k _ hk => Below.heap_setCell w ⟨g, i, none⟩ u k (fun e => hk (by rw [e]))⟩
theorem grown_drew (w : World) (g : Nat) : w.grownBy w.drew (some g) := ⟨rfl, rfl, rfl, Nat.le_refl _, fun _ _ _ => rfl⟩
theorem add_off (b off o : Nat) : (⟨b, off, none⟩ : Addr).add o = ⟨b, off + o, none⟩ := by
  unfold Addr.add
  split
  · subst_vars; rfl
  · rfl
theorem idx_cen (g a : Nat) (ha : a < 4) (W : World) : (Instr.indexAt 52 (.pointer (some ⟨g, 1, none⟩)) (.int .i64 (a : Int))).run Tryd.prog W = .ok (.pointer (some ⟨g, 1 + a * 3, none⟩)) W := by
  rw [run_indexAt_array (P := Tryd.prog) W 52 ⟨g, 1, none⟩ .i64 (a : Int) (by kernel_rfl)]
  rw [show Tryd.prog.arrayLen 52 = 4 by kernel_rfl, show Tryd.prog.elem 52 = 51 by kernel_rfl, if_pos (by omega), Tryd.sizeOf51]
  simp [add_off]
theorem idx_msg (g a : Nat) (ha : a < 6) (W : World) : (Instr.indexAt 55 (.pointer (some ⟨g, 13, none⟩)) (.int .i64 (a : Int))).run Tryd.prog W = .ok (.pointer (some ⟨g, 13 + a * 4, none⟩)) W := by
  rw [run_indexAt_array (P := Tryd.prog) W 55 ⟨g, 13, none⟩ .i64 (a : Int) (by kernel_rfl)]
  rw [show Tryd.prog.arrayLen 55 = 6 by kernel_rfl, show Tryd.prog.elem 55 = 54 by kernel_rfl, if_pos (by omega), Tryd.sizeOf54]
  simp [add_off]
theorem split_at {i : Nat} (h : i < 38) : i = 0 ∨ (∃ a j, a < 4 ∧ j < 3 ∧ i = 1 + a * 3 + j) ∨ (∃ a j, a < 6 ∧ j < 4 ∧ i = 13 + a * 4 + j) ∨ i = 37 := by
  by_cases h0 : i = 0
  · exact .inl h0
  · by_cases h1 : i < 13
    · exact .inr (.inl ⟨(i - 1) / 3, (i - 1) % 3, by omega, by omega, by omega⟩)
    · by_cases h2 : i < 37
      · exact .inr (.inr (.inl ⟨(i - 13) / 4, (i - 13) % 4, by omega, by omega, by omega⟩))
      · exact .inr (.inr (.inr (by omega)))
theorem stF_0 (n : Nat) (s : M.St) : stF n s 0 = n := rfl
theorem stF_37 (n : Nat) (s : M.St) : stF n s 37 = s.k := rfl
theorem stF_add (n : Nat) (s : M.St) (v : Nat → Int) (hk : s.k < 6) (i : Nat) (hi : i < 38) :
    (if i = 37 then (s.k : Int) + 1 else if i = 13 + s.k * 4 + 3 then v 3 else if i = 13 + s.k * 4 + 2 then v 2 else if i = 13 + s.k * 4 + 1 then v 1 else if i = 13 + s.k * 4 then v 0 else stF n s i) = stF n (M.add s v) i := by
  rcases split_at hi with rfl | ⟨a, j, ha, hj, rfl⟩ | ⟨a, j, ha, hj, rfl⟩ | rfl
  · rw [if_neg (by omega), if_neg (by omega), if_neg (by omega), if_neg (by omega), if_neg (by omega)]; rfl
  · rw [if_neg (by omega), if_neg (by omega), if_neg (by omega), if_neg (by omega), if_neg (by omega), stF_c n s ha hj, stF_c n _ ha hj]; rfl
  · rw [stF_m n (M.add s v) ha hj, if_neg (by omega)]
    show _ = (if a = s.k then v else s.m a) j
    by_cases e : a = s.k
    · subst e
      rw [if_pos rfl]
      obtain rfl | rfl | rfl | rfl : j = 0 ∨ j = 1 ∨ j = 2 ∨ j = 3 := by omega
      · rw [if_neg (by omega), if_neg (by omega), if_neg (by omega), if_pos (by omega)]
      · rw [if_neg (by omega), if_neg (by omega), if_pos (by omega)]
      · rw [if_neg (by omega), if_pos (by omega)]
      · rw [if_pos (by omega)]
    · rw [if_neg e, if_neg (by omega), if_neg (by omega), if_neg (by omega), if_neg (by omega), stF_m n s ha hj]
  · rw [if_pos rfl, stF_37]; show _ = ((s.k + 1 : Nat) : Int); omega
set_option maxHeartbeats 400000 in
theorem room_any (n g : Nat) (s : M.St) (w : World) (h : Sf w g (stF n s)) :
    Calls Tryd.prog 41 #[.pointer (some ⟨g, 0, none⟩)] w fun e w' => e = .returned (.bool (decide (s.k < 6))) ∧ w = w' := by
  have hk := h.ck
  go_enter Tryd.func41, Tryd.ntmps41
  go_wp2_with fail
  go_ret
  exact ⟨ret_bool (by rw [decide_eq_decide]; omega), rfl⟩
set_option maxRecDepth 100000 in
set_option maxHeartbeats 1600000 in
theorem send_any (n g : Nat) (s : M.St) (kind f o : Int) (w : World) (h : Sf w g (stF n s)) (hf : 0 ≤ f ∧ f < 4) (hk6 : s.k < 6) :
    Calls Tryd.prog 47 #[.pointer (some ⟨g, 0, none⟩), .int .i64 kind, .int .i64 f, .int .i64 o] w fun e w' => (∃ v, e = .returned v) ∧ Sf w' g (stF n (M.send s kind f o)) ∧ w.grownBy w' (some g) := by
  have hk := h.ck
  obtain ⟨f, rfl⟩ := Int.eq_ofNat_of_zero_le hf.1
  obtain ⟨c0, c1, c2⟩ := h.cen (a := f) (by omega)
  obtain ⟨m0, m1, m2, m3⟩ := h.msg (a := s.k) hk6
  have hg := h.lt
  have z0 := h.frz (13 + s.k * 4)
  have z1 := h.frz (13 + s.k * 4 + 1)
  have z2 := h.frz (13 + s.k * 4 + 2)
  have z3 := h.frz (13 + s.k * 4 + 3)
  have zk := h.frz 37
  have H := Lib.hid h
  have hf4 : f < 4 := by omega
  have x1 := idx_cen g f hf4
  have x2 := idx_msg g s.k hk6
  clear h hf
  go_enter Tryd.func47, Tryd.ntmps47
  go_wp2_with fail
  go_still_tail 18, (by kernel_rfl)
  change wpList _ _ _ _ _ w.drew
  go_wp2_with fail
  go_end0
  refine ⟨⟨_, rfl⟩, ?_, ?_⟩
  · exact ((((((H.out.set_ (i := 13 + s.k * 4) (by omega) kind).set_ (i := 13 + s.k * 4 + 1) (by omega) f).set_ (i := 13 + s.k * 4 + 2) (by omega) o).set_ (i := 13 + s.k * 4 + 3) (by omega) (s.c f 2)).set_ (i := 37) (by omega) (s.k + 1)).congr fun i hi => stF_add n s (M.v4 kind f o (s.c f 2)) hk6 i hi).drew
  · exact (((((grown_set w g (13 + s.k * 4) _).trans (grown_set _ g (13 + s.k * 4 + 1) _)).trans (grown_set _ g (13 + s.k * 4 + 2) _)).trans (grown_set _ g (13 + s.k * 4 + 3) _)).trans (grown_set _ g 37 _)).trans (grown_drew _ g)
end Go.Proofs.YtfnfjmjejffjiaaDoor
