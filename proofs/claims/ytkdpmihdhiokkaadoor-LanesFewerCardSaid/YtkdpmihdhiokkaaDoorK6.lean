/- Lists of numbers of the call's own: made of one, sorted, asked. -/
import Derived.Test.YtkdpmihdhiokkaaDoorShelf
import Derived.Test.YtkdpmihdhiokkaaDoorK5
import Derived.Test.YtkdpmihdhiokkaaDoorLaN
import Derived.Sort.OwnSortedInts
namespace Go.Proofs.YtkdpmihdhiokkaaDoor
open Go.RowKit

abbrev lst (L : List Int) : Nat → Nat → Value := fun i _ => .int .i64 (L.getD i 0)
theorem cells_lst (L : List Int) : cellsOf L.length 1 (lst L) = L.map (Value.int .i64) := by
  apply List.ext_getElem?
  intro j
  by_cases h : j < L.length
  · simp [cellsOf, h, Nat.mod_one, List.getD]
  · simp [cellsOf, h]
theorem own_one {w : World} {g t : Nat} {u : Value} (h : Blk w g t #[u]) (F : Nat → Nat → Value) (hF : F 0 0 = u) : Own w g t 1 (.slice (some ⟨g, 0, none⟩) 1 1) 1 F := by
  have e : cellsOf 1 1 F = [u] := by simp [cellsOf, hF]
  refine ⟨by simp [cellsOf], .inr ⟨g, 1, #[u], rfl, Nat.le_refl _, h, Nat.le_refl _, by decide, by simp, by rw [e]; simp⟩⟩
theorem lst_app (L : List Int) (x : Int) : ∀ i j, i < L.length + 1 → j < 1 → upd (lst L) L.length (fun _ => .int .i64 x) i j = lst (L ++ [x]) i j := by
  intro i j hi _
  unfold upd lst
  by_cases h : i = L.length
  · subst h; simp
  · rw [if_neg h]
    have : i < L.length := by omega
    simp [List.getElem?_append_left this]
theorem sort_own (L : List Int) (base : Nat) (v : Value) (w : World) (h : Own w base 3 1 v L.length (lst L)) (hn : 0 < L.length) (hn2 : L.length ≤ 1048576) :
    Calls Tryd.prog 72 #[v] w fun e w' => e = .returned (.tuple #[]) ∧ Own w' base 3 1 v L.length (lst (L.mergeSort M.leI)) ∧ w.grownBy w' v.ownBlock := by
  have h' := h
  unfold Own at h'
  rw [cells_lst] at h'
  rcases h'.2 with ⟨_, h0⟩ | ⟨g, cap, cur, rfl, hb0, hb, h1, h2, h3, h4⟩
  · omega
  · have hl : L.map (Value.int .i64) = L.map (Value.int .i64) := rfl
    rw [Nat.mul_one] at h4
    have hc := Tryd.slices_Sort_int g 0 cap L w (holds_of_blockI hb h4) (Array.getElem?_eq_some_iff.1 hb).1 (by omega)
    refine hc.mono ?_
    rintro e w' ⟨rfl, n, os, rfl⟩
    refine ⟨rfl, ?_, grownBy_sortedI _⟩
    have hls : (L.mergeSort M.leI).length = L.length := List.length_mergeSort _
    have := ownsRow_sortedI (n := n) (os := os) (ss := L) (ts := L.mergeSort M.leI) hls hb0 hb h1 h2 h3
    unfold Own
    rw [← hls, cells_lst, hls]
    exact this
/-- is a number among those of a list -/
theorem contains_own (L : List Int) (A : Option Addr) (B c : Nat) (x : Int) (w : World) (hL : L.length ≤ 1048576) (hR : Rd1 w B A L.length (fun i => L.getD i 0)) (hn : 0 < L.length) :
    Calls Tryd.prog 98 #[.slice A L.length c, .int .i64 x] w fun e w' => e = .returned (.bool (L.contains x)) ∧ w' = w := by
  obtain ⟨b, off, rfl, hb, hc⟩ := hR.resolve_left (by omega)
  have := Tryd.slices_Contains_int b off L.length c L x w (Nat.le_refl _) (by omega) hc
  rw [List.take_length] at this
  exact this
theorem nearL_has {W H c b : Nat} : (M.nearL W H c).contains (b : Int) = M.adj W H c b := by
  apply M.bool_ext
  rw [List.contains_iff_mem, M.nearL_mem]
  constructor
  · rintro ⟨b', h1, h2⟩
    have : b = b' := by omega
    subst this; exact h2
  · intro h; exact ⟨b, rfl, h⟩
end Go.Proofs.YtkdpmihdhiokkaaDoor
