/- Small lemmas for GiftsKept. -/
import Derived.Test.YtaljmlkapbojeaaK0
import Derived.Test.YtaljmlkapbojeaaDMath
import Derived.Test.YtaljmlkapbojeaaM6
namespace Go.Proofs.Ytaljmlkapbojeaa
open Go.RowKit
theorem first_set (G : Nat → Nat → Int) (k : Nat) : set2 (fun j c => if j = 0 then G k c else G (j - 1) c) (k + 1) 2 0 = firstG G k := by
  funext j c
  unfold set2 firstG
  by_cases e : j = 0
  · subst e; simp
  · simp [e]
theorem served_len {G H : Nat → Nat → Int} {g : Nat} (n : Nat) : (servedTo G H g n).length ≤ n := by
  have := List.length_filter_le (fun i => M.srv G H g i) (List.range n)
  simpa [servedTo] using this
theorem others_len {G H : Nat → Nat → Int} {g : Nat} (n : Nat) : (othersTo G H g n).length ≤ n := by
  have := List.length_filter_le (fun i => !M.srv G H g i) (List.range n)
  simpa [othersTo] using this
theorem served_succ {G H : Nat → Nat → Int} {g : Nat} (n : Nat) : servedTo G H g (n + 1) = servedTo G H g n ++ (if M.srv G H g n then [n] else []) := by
  unfold servedTo
  rw [List.range_succ, List.filter_append]
  cases h : M.srv G H g n <;> simp [h]
theorem others_succ {G H : Nat → Nat → Int} {g : Nat} (n : Nat) : othersTo G H g (n + 1) = othersTo G H g n ++ (if M.srv G H g n then [] else [n]) := by
  unfold othersTo
  rw [List.range_succ, List.filter_append]
  cases h : M.srv G H g n <;> simp [h]
theorem app_list {H : Nat → Nat → Int} {l : List Nat} {n j : Nat} (i : Nat) (hi : i < l.length + 1) : upd (ints2 fun a c => H (l.getD a 0) c) l.length (fun j => ints2 (fun _ c => H n c) 0 j) i j = ints2 (fun a c => H ((l ++ [n]).getD a 0) c) i j := by
  unfold upd
  split
  · subst_vars
    simp
  · rename_i h
    have h2 : i < l.length := by omega
    simp [List.getElem?_append_left h2]
theorem cat_first {G H : Nat → Nat → Int} {g bn : Nat} (i j : Nat) : catF (servedTo G H g bn).length (ints2 fun a c => H ((servedTo G H g bn).getD a 0) c) (ints2 fun a c => H ((othersTo G H g bn).getD a 0) c) i j = ints2 (firstH G H g bn) i j := by
  unfold catF firstH idxOf
  split
  · rename_i h
    simp only [ints2, List.getD_eq_getElem?_getD, List.getElem?_append_left h]
  · rename_i h
    simp only [ints2, List.getD_eq_getElem?_getD, List.getElem?_append_right (Nat.le_of_not_lt h)]
theorem cells3 (W : World) (g : Nat) (t : TypeId) (hg : g = W.heap.size) (F : Nat → Nat → Int) (x y z : Int) (h0 : F 0 0 = x) (h1 : F 0 1 = y) (h2 : F 0 2 = z) : ∀ j, j < 3 → (W.alloc (.cells #[.int .i64 x, .int .i64 y, .int .i64 z] t)).cell? ⟨g, j, none⟩ = some (ints2 F 0 j) := by
  subst hg
  intro j hj
  rw [(Blk.new W t #[.int .i64 x, .int .i64 y, .int .i64 z]).cell j]
  obtain rfl | rfl | rfl : j = 0 ∨ j = 1 ∨ j = 2 := by omega
  · show some (Value.int .i64 x) = some (.int .i64 (F 0 0)); rw [h0]
  · show some (Value.int .i64 y) = some (.int .i64 (F 0 1)); rw [h1]
  · show some (Value.int .i64 z) = some (.int .i64 (F 0 2)); rw [h2]
theorem set2_twice (F : Nat → Nat → Int) (k j : Nat) (x y : Int) : set2 (set2 F k j x) k j y = set2 F k j y := by
  funext a b
  unfold set2
  split
  · rfl
  · rfl
/-- what each world of the first book's making keeps -/
def KeptF (w Y : World) (gb go k g gc : Nat) (G : Nat → Nat → Int) (w' : World) : Prop :=
  w'.cell? ⟨w.heap.size, 0, none⟩ = some (.slice (some ⟨gb, go, none⟩) g gc) ∧ w'.cell? ⟨gb, go + k * 3, none⟩ = some (.int .i64 (G k 0)) ∧ w'.cell? ⟨gb, go + k * 3 + 1, none⟩ = some (.int .i64 (G k 1)) ∧ w'.cell? ⟨gb, go + k * 3 + 2, none⟩ = some (.int .i64 (G k 2)) ∧ Below Y.heap.size Y w'
section
variable {w Y W W' : World} {gb go k g gc : Nat} {G : Nat → Nat → Int}
theorem KeptF.keep (h : KeptF w Y gb go k g gc G W) (h1 : w.heap.size < Y.heap.size) (h2 : gb < Y.heap.size) (hb : Below Y.heap.size W W') : KeptF w Y gb go k g gc G W' := by
  obtain ⟨a, b, c, d, e⟩ := h
  exact ⟨(hb.cell (p := ⟨w.heap.size, 0, none⟩) h1).trans a, (hb.cell (p := ⟨gb, go + k * 3, none⟩) h2).trans b, (hb.cell (p := ⟨gb, go + k * 3 + 1, none⟩) h2).trans c, (hb.cell (p := ⟨gb, go + k * 3 + 2, none⟩) h2).trans d, e.trans hb⟩
theorem KeptF.start (h : KeptF w Y gb go k g gc G W) : KeptF w Y gb go k g gc G W.drew := ⟨h.1, h.2.1, h.2.2.1, h.2.2.2.1, h.2.2.2.2.drew⟩
theorem KeptF.alloc (h : KeptF w Y gb go k g gc G W) (h1 : w.heap.size < Y.heap.size) (h2 : gb < Y.heap.size) (o : Obj) : KeptF w Y gb go k g gc G (W.alloc o) := h.keep h1 h2 ((belowAlloc W o).mono h.2.2.2.2.size)
theorem KeptF.alloc_drew {o : Obj} (h : KeptF w Y gb go k g gc G W.drew) (h1 : w.heap.size < Y.heap.size) (h2 : gb < Y.heap.size) : KeptF w Y gb go k g gc G (W.alloc o).drew := (h.alloc h1 h2 o : KeptF w Y gb go k g gc G (W.drew.alloc o))
theorem KeptF.store {P : Nat} (h : KeptF w Y gb go k g gc G W) (h1 : w.heap.size < Y.heap.size) (h2 : gb < Y.heap.size) (hP : Y.heap.size ≤ P) (u v : Value) : KeptF w Y gb go k g gc G ((W.setCell ⟨P, 0, none⟩ u).setCell ⟨P, 1, none⟩ v) :=
  h.keep h1 h2 (((Below.refl _ _).setCell (p := ⟨P, 0, none⟩) hP u).setCell (p := ⟨P, 1, none⟩) hP v)
theorem KeptF.grown {row : Option Nat} (h : KeptF w Y gb go k g gc G W) (h1 : w.heap.size < Y.heap.size) (h2 : gb < Y.heap.size) (hg : W.grownBy W' row) (hr : ∀ q, row = some q → Y.heap.size ≤ q) : KeptF w Y gb go k g gc G W' :=
  h.keep h1 h2 (Below.grown (Below.refl _ _) hg h.2.2.2.2.size hr)
end
end Go.Proofs.Ytaljmlkapbojeaa
