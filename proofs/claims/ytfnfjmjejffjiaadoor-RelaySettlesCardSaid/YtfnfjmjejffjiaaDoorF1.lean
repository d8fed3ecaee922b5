/- The reference's Copy, send, without, initial. -/
import Derived.Test.YtfnfjmjejffjiaaDoorT12
import Derived.Test.YtfnfjmjejffjiaaDoorC3
import Derived.Test.YtfnfjmjejffjiaaDoorMix
namespace Go.Proofs.YtfnfjmjejffjiaaDoor
open Go.RowKit

theorem CallV.below {n base : Nat} {s : M.St} {v : Value} {w w' : World} (h : CallV n s base v w) (hb : Below w.heap.size w w') : CallV n s base v w' := by
  obtain ⟨A, c, A', c', rfl, o1, o2⟩ := h
  exact ⟨A, c, A', c', rfl, o1.below hb, o2.below hb⟩
section
variable {w W W' : World} {row : Option Nat}
theorem gr_refl : w.grownBy w row := ⟨rfl, rfl, rfl, Nat.le_refl _, fun _ _ _ => rfl⟩
theorem gr_alloc (h : w.grownBy W row) (o : Obj) : w.grownBy (W.alloc o) row := h.trans (World.grownBy_alloc W o row)
theorem gr_drew (h : w.grownBy W row) : w.grownBy W.drew row := ⟨h.os, h.tape, h.output, h.size, h.block⟩
theorem gr_set (h : w.grownBy W row) {p : Addr} (hp : w.heap.size ≤ p.block) (u : Value) : w.grownBy (W.setCell p u) row :=
  ⟨h.os, h.tape, h.output, by simpa using h.size, fun k hk hr => (Below.heap_setCell W p u k (fun e => by omega)).trans (h.block k hk hr)⟩
theorem gr_below (h : w.grownBy W row) (hb : Below W.heap.size W W') : w.grownBy W' row := h.trans (below_grown hb row)
end
/-- what each world of the region keeps -/
def Kept0 (w : World) (gA bA : Option Addr) (gn gc bn bc : Nat) (w' : World) : Prop :=
  w'.cell? ⟨w.heap.size, 0, none⟩ = some (.slice gA gn gc) ∧ w'.cell? ⟨w.heap.size, 1, none⟩ = some (.slice bA bn bc) ∧ Below w.heap.size w w' ∧ w.heap.size + 1 + 1 ≤ w'.heap.size ∧
    w'.cell? ⟨w.heap.size + 1, 0, none⟩ = some (cur w' ⟨w.heap.size + 1, 0, none⟩) ∧ w'.cell? ⟨w.heap.size + 1, 1, none⟩ = some (cur w' ⟨w.heap.size + 1, 1, none⟩) ∧ w'.frozen? ⟨w.heap.size + 1, 0, none⟩ = false ∧ w'.frozen? ⟨w.heap.size + 1, 1, none⟩ = false
section
variable {w W w1 : World} {gA bA : Option Addr} {gn gc bn bc : Nat}
theorem Kept0.keep (h : Kept0 w gA bA gn gc bn bc W) (hb : Below W.heap.size W w1) : Kept0 w gA bA gn gc bn bc w1 := by
  obtain ⟨h1, h2, h3, h4, h5, h6, h7, h8⟩ := h
  have hs := hb.size
  have c : ∀ a : Addr, a.block < W.heap.size → w1.cell? a = W.cell? a := fun a ha => hb.cell ha
  have f : ∀ a : Addr, a.block < W.heap.size → w1.frozen? a = W.frozen? a := fun a ha => hb.frozen ha
  exact ⟨(c _ (by show w.heap.size < _; omega)).trans h1, (c _ (by show w.heap.size < _; omega)).trans h2, h3.trans (hb.mono (by omega)), by omega,
    cur_of ((c _ (by show w.heap.size + 1 < _; omega)).trans h5), cur_of ((c _ (by show w.heap.size + 1 < _; omega)).trans h6),
    (f _ (by show w.heap.size + 1 < _; omega)).trans h7, (f _ (by show w.heap.size + 1 < _; omega)).trans h8⟩
theorem Kept0.alloc (h : Kept0 w gA bA gn gc bn bc W) (o : Obj) : Kept0 w gA bA gn gc bn bc (W.alloc o) := h.keep (belowAlloc W o)
theorem Kept0.alloc_drew {o : Obj} (h : Kept0 w gA bA gn gc bn bc W.drew) : Kept0 w gA bA gn gc bn bc (W.alloc o).drew := (h.alloc o : Kept0 w gA bA gn gc bn bc (W.drew.alloc o))
theorem Kept0.store (h : Kept0 w gA bA gn gc bn bc W) (u v : Value) : Kept0 w gA bA gn gc bn bc ((W.setCell ⟨w.heap.size + 1, 0, none⟩ u).setCell ⟨w.heap.size + 1, 1, none⟩ v) := by
  obtain ⟨h1, h2, h3, h4, h5, h6, h7, h8⟩ := h
  refine ⟨st_cell h1 (by simp) (by simp), st_cell h2 (by simp) (by simp), (h3.setCell (by simp) _).setCell (by simp) _, by simpa using h4, ?_, ?_, ?_, ?_⟩
  · exact cur_of (x := u) (by rw [World.cell?_setCell_other _ _ _ _ (by simp), World.cell?_setCell_same' _ _ _ (by rw [h5]; rfl)])
  · exact cur_of (x := v) (by rw [World.cell?_setCell_same' _ _ _ (by rw [World.cell?_setCell_other _ _ _ _ (by simp), h6]; rfl)])
  · rw [World.frozen?_setCell, World.frozen?_setCell]; exact h7
  · rw [World.frozen?_setCell, World.frozen?_setCell]; exact h8
theorem Kept0.start : Kept0 w gA bA gn gc bn bc ((w.alloc (.cells #[.slice gA gn gc, .slice bA bn bc] 31)).alloc (.cells #[.slice none 0 0, .slice none 0 0] 31)).drew := by
  have k := Blk.new1 w (.cells #[.slice gA gn gc, .slice bA bn bc] 31) 31 #[.slice none 0 0, .slice none 0 0]
  have k0 := (Blk.new w 31 #[.slice gA gn gc, .slice bA bn bc]).alloc (.cells #[.slice none 0 0, .slice none 0 0] 31)
  exact ⟨k0.cell 0, k0.cell 1, (belowAlloc2 _ _ _).drew, by simp, cur_of (k.cell 0), cur_of (k.cell 1), k.frz 0, k.frz 1⟩
end
def restA (g a c : Nat) : Option Addr := some (if c = a + 1 then ⟨g, 0, none⟩ else ⟨g, (a + 1) * 4, none⟩)
theorem slice_rest (g k c a : Nat) (ha : a < k) (W : World) : (Instr.sliceAt 29 (.slice (some ⟨g, 0, none⟩) k c) (some (.int .i64 ((a : Int) + 1))) none none).run Tryd.prog W = .ok (.slice (restA g a c) (k - (a + 1)) (c - (a + 1))) W := by
  rw [run_sliceAt_slice (P := Tryd.prog) W 29 _ _ _ _ (by kernel_rfl), run_slice_l (P := Tryd.prog) W 29 (some ⟨g, 0, none⟩) k c (by kernel_rfl) .i64 ((a : Int) + 1) (by omega) (by omega)]
  rw [show Tryd.prog.elem 29 = 54 by kernel_rfl, Tryd.sizeOf54]
  simp only [Result.andThen, sliced, show ((a : Int) + 1).toNat = a + 1 by omega]
  unfold restA
  by_cases e : c = a + 1
  · rw [if_pos e, if_pos e]
  · rw [if_neg e, if_neg e]; simp [add_off]
theorem slice_head (g k c a : Nat) (ha : a ≤ c) (W : World) : (Instr.sliceAt 29 (.slice (some ⟨g, 0, none⟩) k c) none (some (.int .i64 (a : Int))) none).run Tryd.prog W = .ok (.slice (some ⟨g, 0, none⟩) a c) W := by
  rw [run_sliceAt_slice (P := Tryd.prog) W 29 _ _ _ _ (by kernel_rfl), run_slice_h (P := Tryd.prog) W 29 (some ⟨g, 0, none⟩) k c (by kernel_rfl) .i64 (a : Int) (by omega) (by omega)]
  rw [show Tryd.prog.elem 29 = 54 by kernel_rfl, Tryd.sizeOf54]
  simp only [Result.andThen, sliced, Int.toNat_natCast]
  by_cases e : c = 0
  · rw [if_pos e]; simp
  · rw [if_neg e]; simp [Addr.add]
theorem rest_rd {w : World} {B g k c a : Nat} {m : Nat → Nat → Int} (h : Rd w B (some ⟨g, 0, none⟩) 4 k m) (hc : k ≤ c) (hg : g < B) : Rd w B (restA g a c) 4 (k - (a + 1)) (fun i => m (a + 1 + i)) := by
  unfold restA
  by_cases e : c = a + 1
  · exact .inl (by omega)
  · rw [if_neg e]
    rcases h with h | ⟨b, off, ee, hb, hh⟩
    · exact .inl (by omega)
    · injection ee with ee
      injection ee with e1 e2 _
      subst e1; subst e2
      refine .inr ⟨g, (a + 1) * 4, rfl, hg, fun i j hi hj => ?_⟩
      have := hh (a + 1 + i) j (by omega) hj
      rw [← this]
      congr 2
      omega

def KeptB (w w' : World) : Prop := Below w.heap.size w w' ∧ w.heap.size ≤ w'.heap.size
theorem KeptB.start {w : World} : KeptB w w.drew := ⟨(Below.refl _ _).drew, Nat.le_refl _⟩
theorem KeptB.alloc {w W : World} (h : KeptB w W) (o : Obj) : KeptB w (W.alloc o) := ⟨h.1.alloc h.2 o, by have := h.2; simp; omega⟩
theorem KeptB.alloc_drew {w W : World} {o : Obj} (h : KeptB w W.drew) : KeptB w (W.alloc o).drew := (h.alloc o : KeptB w (W.drew.alloc o))
theorem KeptB.below {w W W' : World} (h : KeptB w W) (hb : Below W.heap.size W W') : KeptB w W' := ⟨h.1.trans (hb.mono h.2), Nat.le_trans h.2 hb.size⟩
theorem KeptB.grown {w W W' : World} {row : Option Nat} (h : KeptB w W) (hg : W.grownBy W' row) (hr : ∀ q, row = some q → w.heap.size ≤ q) : KeptB w W' := ⟨Below.grown h.1 hg h.2 hr, Nat.le_trans h.2 hg.size⟩
/-- the messages, one more -/
theorem cat_send (s : M.St) (kind f o : Int) : ∀ i j, i < s.k + 1 → j < 4 → catF s.k (ints2 s.m) (ints2 fun _ => M.v4 kind f o (s.c f.toNat 2)) i j = ints2 (M.send s kind f o).m i j := by
  intro i j hi _
  show catF s.k (ints2 s.m) (ints2 fun _ => M.v4 kind f o (s.c f.toNat 2)) i j = .int .i64 ((if i = s.k then M.v4 kind f o (s.c f.toNat 2) else s.m i) j)
  unfold catF
  by_cases h : i < s.k
  · rw [if_pos h, if_neg (by omega)]
  · rw [if_neg h, if_pos (by omega)]
/-- what send leaves -/
def SendV (n base g c : Nat) (t : M.St) (row : Option Nat) (w : World) (e : Ending) (w' : World) : Prop :=
  ∃ A c', e = .returned (.agg #[.slice (some ⟨g, 0, none⟩) n c, .slice A t.k c']) ∧ Own w' base 51 3 (.slice (some ⟨g, 0, none⟩) n c) n (ints2 t.c) ∧ Own w' base 54 4 (.slice A t.k c') t.k (ints2 t.m) ∧ w.grownBy w' row
theorem call_size : (Tryd.prog.info? 31).map (·.size) = some 2 := by kernel_rfl
set_option maxRecDepth 100000 in
set_option maxHeartbeats 3200000 in
theorem rsend_any (n base g c c' : Nat) (A' : Option Addr) (s : M.St) (kind f o : Int) (w : World) (o1 : Own w base 51 3 (.slice (some ⟨g, 0, none⟩) n c) n (ints2 s.c)) (o2 : Own w base 54 4 (.slice A' s.k c') s.k (ints2 s.m)) (hb : base ≤ w.heap.size) (hk : s.k < 6) (hf : 0 ≤ f ∧ f < n) :
    Calls Tryd.prog 23 #[.agg #[.slice (some ⟨g, 0, none⟩) n c, .slice A' s.k c'], .int .i64 kind, .int .i64 f, .int .i64 o] w (SendV n base g c (M.send s kind f o) (Value.slice A' s.k c').ownBlock w) := by
  obtain ⟨f, rfl⟩ := Int.eq_ofNat_of_zero_le hf.1
  have c2 : w.cell? ⟨g, f * 3 + 2, none⟩ = some (.int .i64 (s.c f 2)) := o1.cell (by omega) (by omega)
  have hgw : g < w.heap.size := (o1.block rfl).2
  have O1 := Lib.hid o1
  have O2 := Lib.hid o2
  obtain ⟨si, hi, hz0, hz1, hz2⟩ := info_parts msg_info3
  have SI := Lib.hid (And.intro hi (And.intro hz0 (And.intro hz1 hz2)))
  have k1 : decide (n ≤ f) = false := decide_eq_false (by omega)
  have hfn : f < n := by omega
  obtain ⟨row, hrow⟩ : ∃ row, row = (Value.slice A' s.k c').ownBlock := ⟨_, rfl⟩
  have HROW := Lib.hid hrow
  rw [← hrow]
  have D0 := Lib.hid ((Blk.new w 31 #[.slice (some ⟨g, 0, none⟩) n c, .slice A' s.k c']).alloc (.cells #[.slice none 0 0, .slice none 0 0] 31))
  have D1 := Lib.hid (Blk.new1 w (.cells #[.slice (some ⟨g, 0, none⟩) n c, .slice A' s.k c'] 31) 31 #[.slice none 0 0, .slice none 0 0])
  have b1 := Lib.hid (gr_alloc (gr_alloc (gr_refl (w := w) (row := row)) (.cells #[.slice (some ⟨g, 0, none⟩) n c, .slice A' s.k c'] 31)) (.cells #[.slice none 0 0, .slice none 0 0] 31))
  clear hi hz0 hz1 hz2 o1 o2 hf hrow
  go_enter Tryd.func23, Tryd.ntmps23
  go_wp2_with fail
  refine wp_region_T 14 (fun w' => w'.cell? ⟨w.heap.size, 1, none⟩ = some (.slice A' s.k c') ∧ w'.cell? ⟨w.heap.size, 0, none⟩ = some (.slice (some ⟨g, 0, none⟩) n c) ∧ w'.cell? ⟨g, f * 3 + 2, none⟩ = some (.int .i64 (s.c f 2))) (by kernel_rfl) ⟨(blk_dr.2 D0.out).cell 1, (blk_dr.2 D0.out).cell 0, ((O1.out.alloc _).alloc _).drew.cell (by omega) (by omega)⟩ ?_
  intro hS
  refine wpAnyT_take (i := 0) (v := ?_) rfl (by kernel_rfl) (by kernel_rfl) (by kernel_rfl) (by kernel_rfl) (by kernel_rfl) (fun _ _ _ h => h) (.inl ⟨by rfl, ?_⟩) hS ?_
  rotate_left
  · (intro w hw; obtain ⟨h1, h2, h3⟩ := hw; go_simp; try with_reducible rfl)
  try simp only [Act.put, List.setIfInBounds_toArray, List.set_cons_zero, List.set_cons_succ]
  refine wpAnyT_take (i := 1) (v := ?_) rfl (by kernel_rfl) (by kernel_rfl) (by kernel_rfl) (by kernel_rfl) (by kernel_rfl) (fun _ _ _ h => h) (.inl ⟨by rfl, ?_⟩) hS ?_
  rotate_left
  · (intro w hw; obtain ⟨h1, h2, h3⟩ := hw; go_simp; try with_reducible rfl)
  try simp only [Act.put, List.setIfInBounds_toArray, List.set_cons_zero, List.set_cons_succ]
  refine wpAnyT_take (i := 2) (v := ?_) rfl (by kernel_rfl) (by kernel_rfl) (by kernel_rfl) (by kernel_rfl) (by kernel_rfl) (fun _ _ _ h => h) (.inl ⟨by rfl, ?_⟩) hS ?_
  rotate_left
  · (intro w hw; obtain ⟨h1, h2, h3⟩ := hw; go_simp; try with_reducible rfl)
  try simp only [Act.put, List.setIfInBounds_toArray, List.set_cons_zero, List.set_cons_succ]
  refine wpAnyT_take (i := 3) (v := ?_) rfl (by kernel_rfl) (by kernel_rfl) (by kernel_rfl) (by kernel_rfl) (by kernel_rfl) (fun _ _ _ h => h) (.inl ⟨by rfl, ?_⟩) hS ?_
  rotate_left
  · (intro w hw; obtain ⟨h1, h2, h3⟩ := hw; go_simp; try with_reducible rfl)
  try simp only [Act.put, List.setIfInBounds_toArray, List.set_cons_zero, List.set_cons_succ]
  refine wpAnyT_take (i := 4) (v := ?_) rfl (by kernel_rfl) (by kernel_rfl) (by kernel_rfl) (by kernel_rfl) (by kernel_rfl) (fun _ _ _ h => h) (.inl ⟨by rfl, ?_⟩) hS ?_
  rotate_left
  · (intro w hw; obtain ⟨h1, h2, h3⟩ := hw; go_simp; try with_reducible rfl)
  try simp only [Act.put, List.setIfInBounds_toArray, List.set_cons_zero, List.set_cons_succ]
  refine wpAnyT_take (i := 5) (v := ?_) rfl (by kernel_rfl) (by kernel_rfl) (by kernel_rfl) (by kernel_rfl) (by kernel_rfl) (fun _ _ _ h => h) (.inl ⟨by rfl, ?_⟩) hS ?_
  rotate_left
  · (intro w hw; obtain ⟨h1, h2, h3⟩ := hw; go_simp; try with_reducible rfl)
  try simp only [Act.put, List.setIfInBounds_toArray, List.set_cons_zero, List.set_cons_succ]
  refine wpAnyT_take (i := 6) (v := ?_) rfl (by kernel_rfl) (by kernel_rfl) (by kernel_rfl) (by kernel_rfl) (by kernel_rfl) (fun _ _ _ h => h) (.inl ⟨by rfl, ?_⟩) hS ?_
  rotate_left
  · (intro w hw; obtain ⟨h1, h2, h3⟩ := hw; go_simp; try with_reducible rfl)
  try simp only [Act.put, List.setIfInBounds_toArray, List.set_cons_zero, List.set_cons_succ]
  refine wpAnyT_take (i := 7) (v := ?_) rfl (by kernel_rfl) (by kernel_rfl) (by kernel_rfl) (by kernel_rfl) (by kernel_rfl) (fun _ _ _ h => h) (.inl ⟨by rfl, ?_⟩) hS ?_
  rotate_left
  · (intro w hw; obtain ⟨h1, h2, h3⟩ := hw; go_simp; try with_reducible rfl)
  try simp only [Act.put, List.setIfInBounds_toArray, List.set_cons_zero, List.set_cons_succ]
  refine wpAnyT_take (i := 8) (v := ?_) rfl (by kernel_rfl) (by kernel_rfl) (by kernel_rfl) (by kernel_rfl) (by kernel_rfl) (fun _ _ _ h => h) (.inl ⟨by rfl, ?_⟩) hS ?_
  rotate_left
  · (intro w hw; obtain ⟨h1, h2, h3⟩ := hw; go_simp; try with_reducible rfl)
  try simp only [Act.put, List.setIfInBounds_toArray, List.set_cons_zero, List.set_cons_succ]
  refine wpAnyT_take (i := 9) (v := ?_) rfl (by kernel_rfl) (by kernel_rfl) (by kernel_rfl) (by kernel_rfl) (by kernel_rfl) (fun _ _ _ h => h) (.inl ⟨by rfl, ?_⟩) hS ?_
  rotate_left
  · (intro w hw; obtain ⟨h1, h2, h3⟩ := hw; go_simp; try with_reducible rfl)
  try simp only [Act.put, List.setIfInBounds_toArray, List.set_cons_zero, List.set_cons_succ]
  refine wpAnyT_take (i := 10) (v := ?_) rfl (by kernel_rfl) (by kernel_rfl) (by kernel_rfl) (by kernel_rfl) (by kernel_rfl) (fun _ _ _ h => h) (.inl ⟨by rfl, ?_⟩) hS ?_
  rotate_left
  · (intro w hw; obtain ⟨h1, h2, h3⟩ := hw; go_simp; try with_reducible rfl)
  try simp only [Act.put, List.setIfInBounds_toArray, List.set_cons_zero, List.set_cons_succ]
  refine wpAnyT_take (i := 11) (v := ?_) rfl (by kernel_rfl) (by kernel_rfl) (by kernel_rfl) (by kernel_rfl) (by kernel_rfl) (fun _ _ _ h => h) (.inl ⟨by rfl, ?_⟩) hS ?_
  rotate_left
  · (intro w hw; obtain ⟨h1, h2, h3⟩ := hw; go_simp; try with_reducible rfl)
  try simp only [Act.put, List.setIfInBounds_toArray, List.set_cons_zero, List.set_cons_succ]
  refine wpAnyT_one (i := 12) (by kernel_rfl) rfl ?_
  intro K hK
  go_simp
  refine hK.out _ _ (.inr ⟨(blk_dr.2 (D0.out.alloc _)).cell 1, (blk_dr.2 (D0.out.alloc _)).cell 0, (((O1.out.alloc _).alloc _).alloc _).drew.cell (by omega) (by omega)⟩) ?_
  clear hK K hS
  refine wpAnyT_one (i := 13) (by kernel_rfl) rfl ?_
  intro K hK
  refine step_cat (by rfl) (.tmp 10) (.tmp 21) 29 (by rfl) 54 si _ 4 32 Tryd.underlying29 SI.out.1 SI.out.2.1 SI.out.2.2.1 SI.out.2.2.2 rfl (by omega) (by omega) (by rfl) (((O2.out.alloc _).alloc _).alloc _).drew (by omega) (by simp; omega) (k := 1) (G := ints2 fun _ => M.v4 kind f o (s.c f 2)) (fun _ _ => rfl) (by rfl) (rdV_blk (blk_dr.2 (Blk.new2 w _ _ _ _)) (fun i j hi hj => by obtain rfl : i = 0 := (by omega); obtain rfl | rfl | rfl | rfl : j = 0 ∨ j = 1 ∨ j = 2 ∨ j = 3 := (by omega); all_goals rfl)) (by omega) ?_
  intro v' w4 ho2 hg2 hat
  obtain ⟨A4, d4, rfl⟩ := ho2.form
  have hg5 := hg2
  rw [← HROW.out] at hg5
  have hS2 := (gr_drew (gr_alloc b1.out _)).trans hg5
  have M0 := Blk.grown_own (blk_dr.2 (D0.out.alloc _)) (((O2.out.alloc _).alloc _).alloc _).drew (by decide) hg2
  have M1 := Blk.grown_own (blk_dr.2 (D1.out.alloc _)) (((O2.out.alloc _).alloc _).alloc _).drew (by decide) hg2
  have OC := Lib.hid (Own.apart_grown (((O1.out.alloc _).alloc _).alloc _).drew (u := .slice A' s.k c') (Own.apart_type O2.out O1.out (by decide)) hg2)
  have MM0 := Lib.hid M0
  have MM1 := Lib.hid M1
  have HO2 := Lib.hid ho2
  have p0 := M0.cell 0
  have p1 := M0.cell 1
  have f1 := M0.frz 1
  have r0 := M1.cell 0
  have r1 := M1.cell 1
  have q0 := M1.frz 0
  have q1 := M1.frz 1
  have hz4 := hS2.size
  clear M0 M1 hat ho2 hg2 hg5
  refine hK.out _ _ (.inr ⟨p1, p0, OC.out.cell (by omega) (by omega)⟩) ?_
  clear hK K
  try simp only [Act.put, List.setIfInBounds_toArray, List.set_cons_zero, List.set_cons_succ]
  refine wpAnyT_one (i := 14) (by kernel_rfl) rfl ?_
  intro K hK
  go_simp
  refine hK.out _ _ (.inl rfl) ?_
  clear hK K
  refine wpAnyT_one (i := 15) (by kernel_rfl) rfl ?_
  intro K hK
  go_simp
  refine hK.out _ _ (.inl rfl) ?_
  clear hK K
  refine wpAnyT_done (by kernel_rfl) ?_ _
  have NB := Lib.hid (HO2.out.ne_blk MM0.out (by decide))
  have NC := Lib.hid (OC.out.ne_blk MM0.out (by decide))
  have F0 := Lib.hid (MM0.out.set_ 1 (.slice A4 (s.k + 1) d4))
  have F1 := Lib.hid (MM1.out.far (p := ⟨w.heap.size, 1, none⟩) (by simp) (.slice A4 (s.k + 1) d4))
  have x0 := F0.out.cell 0
  have x1 := F0.out.cell 1
  have x2 := F1.out.cell 0
  have x3 := F1.out.cell 1
  have x4 := F1.out.frz 0
  have x5 := F1.out.frz 1
  clear p0 p1 f1 r0 r1 q0 q1
  go_wp2_with fail
  refine bodyPost_ret (results_cell_row rfl _ _ (w.heap.size + 1) 31 #[.slice (some ⟨g, 0, none⟩) n c, .slice A4 (s.k + 1) d4] (0, 0) _ rfl ((F1.out.set_ 0 _).set_ 1 _) Tryd.underlying31 rfl call_size) rfl ⟨A4, d4, rfl, ?_, ?_, ?_⟩
  · exact (OC.out.setCell (p := ⟨w.heap.size, 1, none⟩) NC.out _).set2 F1.out (by decide) _ _
  · exact ((HO2.out.setCell (p := ⟨w.heap.size, 1, none⟩) NB.out _).set2 F1.out (by decide) _ _).congr (cat_send s kind f o)
  · exact gr_set (gr_set (gr_set hS2 (by simp) _) (by simp) _) (by simp) _
end Go.Proofs.YtfnfjmjejffjiaaDoor
