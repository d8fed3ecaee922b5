/- The program's search: the queue of states, and the map of ways. -/
import Derived.Test.YtfnfjmjejffjiaaDoorU3
import Derived.Test.YtfnfjmjejffjiaaDoorC1
import Derived.Great.BuildSlice
import Derived.Shelf.Strings.SlTrimAscii
import Derived.Test.YtfnfjmjejffjiaaDoorG2
import Derived.Test.YtfnfjmjejffjiaaDoorT12
import Derived.Great.FillDense
namespace Go.Proofs.YtfnfjmjejffjiaaDoor
open Go.RowKit Go.Maps

/-- many cells written in a row -/
theorem Blk.setCells_ {t g : Nat} : ∀ (vs : List Value) (o : Nat) (W : World) (cs : Array Value), Blk W g t cs → o + vs.length ≤ cs.size → ∃ cs', Blk (W.setCells g o vs) g t cs' ∧ cs'.size = cs.size ∧ (∀ k, k < o ∨ o + vs.length ≤ k → cs'[k]? = cs[k]?) ∧ (∀ j, j < vs.length → cs'[o + j]? = vs[j]?) ∧ W.grownBy (W.setCells g o vs) (some g)
  | [], o, W, cs, h, _ => ⟨cs, h, rfl, fun _ _ => rfl, fun j hj => absurd hj (Nat.not_lt_zero _), ⟨rfl, rfl, rfl, Nat.le_refl _, fun _ _ _ => rfl⟩⟩
  | v :: vs, o, W, cs, h, hs => by
    have hs : o + (vs.length + 1) ≤ cs.size := hs
    obtain ⟨cs', h1, h2, h3, h4, h5⟩ := Blk.setCells_ vs (o + 1) (W.setCell ⟨g, o, none⟩ v) _ (h.set_ o v) (by rw [Array.size_setIfInBounds]; omega)
    rw [Array.size_setIfInBounds] at h2
    refine ⟨cs', h1, h2, fun k hk => ?_, fun j hj => ?_, ?_⟩
    · have hk : k < o ∨ o + (vs.length + 1) ≤ k := hk
      rw [h3 k (by omega), Array.getElem?_setIfInBounds, if_neg (by omega)]
    · cases j with
      | zero =>
        rw [Nat.add_zero, h3 o (by omega), Array.getElem?_setIfInBounds, if_pos rfl, if_pos (by omega)]; rfl
      | succ j =>
        have hj : j + 1 < vs.length + 1 := hj
        rw [show o + (j + 1) = o + 1 + j by omega, h4 j (by omega)]; rfl
    · refine World.grownBy.trans ?_ h5
      exact ⟨rfl, rfl, rfl, (KeepsWalks.setCell W ⟨g, o, none⟩ v).size, fun k _ hk => Below.heap_setCell _ _ _ k (fun e => hk (by rw [e]))⟩
/-- the cells of some states -/
def qF (n : Nat) (l : List M.St) : Nat → Nat → Value := fun i j => .int .i64 (stF n (l.getD i zeroS) j)
/-- a queue of states: a slice that may begin within its block -/
def QuS (W : World) (B n qb : Nat) (qv : Value) (l : List M.St) : Prop := ∃ qo cap cs, qv = .slice (some ⟨qb, qo, none⟩) l.length cap ∧ B ≤ qb ∧ Blk W qb 57 cs ∧ qo + cap * 38 ≤ cs.size ∧ l.length ≤ cap ∧ ∀ i t, l[i]? = some t → ∀ j, j < 38 → cs[qo + i * 38 + j]? = (stV n t)[j]?
section
variable {W W' : World} {B n qb : Nat} {qv : Value} {l : List M.St} {t : M.St}
theorem stV_size : (stV n t).size = 38 := (stV_sv n t).1
theorem QuS.blk (h : QuS W B n qb qv l) : ∃ cs, Blk W qb 57 cs := by obtain ⟨_, _, cs, _, _, h, _⟩ := h; exact ⟨cs, h⟩
theorem QuS.grown {row : Option Nat} (h : QuS W B n qb qv l) (hg : W.grownBy W' row) (hne : some qb ≠ row) : QuS W' B n qb qv l := by
  obtain ⟨qo, cap, cs, h1, h2, h3, h4⟩ := h
  exact ⟨qo, cap, cs, h1, h2, h3.grown hg hne, h4⟩
/-- the first state's cells -/
theorem QuS.head (h : QuS W B n qb qv (t :: l)) : ∃ qo cap, qv = .slice (some ⟨qb, qo, none⟩) (l.length + 1) cap ∧ ∀ j, j < 38 → W.cell? ⟨qb, qo + j, none⟩ = (stV n t)[j]? := by
  obtain ⟨qo, cap, cs, h1, h2, h3, h4, h5, h6⟩ := h
  refine ⟨qo, cap, h1, fun j hj => ?_⟩
  have := h6 0 t rfl j hj
  rw [h3.cell, show qo + j = qo + 0 * 38 + j by omega]
  exact this
/-- all but the first -/
theorem QuS.tail {qo cap : Nat} (h : QuS W B n qb (.slice (some ⟨qb, qo, none⟩) (l.length + 1) cap) (t :: l)) : 1 ≤ cap ∧ QuS W B n qb (.slice (some ⟨qb, qo + 38, none⟩) l.length (cap - 1)) l := by
  obtain ⟨qo', cap', cs, h1, h2, h3, h4, h5, h6⟩ := h
  injection h1 with h1 _ h1c
  injection h1 with h1
  injection h1 with _ h1
  subst h1; subst h1c
  have h5 : l.length + 1 ≤ cap := h5
  refine ⟨by omega, qo + 38, cap - 1, cs, rfl, h2, h3, by omega, by omega, fun i u hi j hj => ?_⟩
  rw [show qo + 38 + i * 38 + j = qo + (i + 1) * 38 + j by omega]
  exact h6 (i + 1) u hi j hj
/-- one state in a new row -/
theorem QuS.one (h : Blk W qb 57 (stV n t)) (hB : B ≤ qb) : QuS W B n qb (.slice (some ⟨qb, 0, none⟩) 1 1) [t] := by
  refine ⟨0, 1, _, rfl, hB, h, by rw [stV_size]; decide, Nat.le_refl _, fun i u hi j hj => ?_⟩
  cases i with
  | zero => injection hi with hi; subst hi; rw [Nat.zero_mul, Nat.zero_add]
  | succ i => cases hi
theorem state_inf : (Tryd.prog.info? 57).map (fun i => (i.zero, i.size, i.bytes)) = some (some (.agg litZ), 38, 304) := by kernel_rfl
theorem litZ_cells : (Value.agg litZ).cells.size = 38 := by kernel_rfl
theorem stV_get {j : Nat} {u : Value} (h : (stV n t).toList[j]? = some u) : (stV n t)[j]? = some u := by simpa using h
theorem stV_len : (stV n t).toList.length = 38 := by rw [Array.length_toList, stV_size]
theorem stV_one : ∀ u, u ∈ (stV n t).toList → u.oneCell' = true := fun u hu => (Array.all_eq_true_iff_forall_mem.1 (stV_sv n t).one) u (by simpa using hu)
set_option maxRecDepth 100000 in
/-- append of a state -/
theorem QuS.push (ty : TypeId) (h : QuS W B n qb qv l) {b1 c : Nat} (hb : Blk W b1 57 (stV n t)) (hl : l.length ≤ 100000000) (hB : B ≤ W.heap.size) :
    ∃ qv' W' qb', (Builtin.append_ #[61, 61] ty #[qv, .slice (some ⟨b1, 0, none⟩) 1 c]).run Tryd.prog W = .ok qv' W' ∧ QuS W' B n qb' qv' (l ++ [t]) ∧ (qb' = qb ∨ W.heap.size ≤ qb') ∧ W.grownBy W' (some qb) := by
  obtain ⟨qo, cap, cs, rfl, h2, h3, h4, h5, h6⟩ := h
  obtain ⟨si, i1, i2, i3, i4⟩ := info_parts state_inf
  have hnews : ∀ j u, (stV n t).toList[j]? = some u → W.cell? ((⟨b1, 0, none⟩ : Addr).add j) = some u := fun j u hu => by
    rw [Addr.add_lit, hb.cell, Nat.zero_add]; exact stV_get hu
  have hln : (stV n t).toList.length = 1 * si.size := by rw [stV_len, i3]
  by_cases hr : l.length + 1 ≤ cap
  · have hs : qo + l.length * 38 + 38 ≤ cs.size := by
      have : l.length * 38 + 38 ≤ cap * 38 := by omega
      omega
    have hrun := run_append_room_cells (P := Tryd.prog) W 61 ty 57 si Tryd.underlying61 i1 qb qo l.length cap ⟨b1, 0, none⟩ 1 c (stV n t).toList hln hnews stV_one hr
      (fun j hj => by
        rw [stV_len] at hj
        rw [i3, h3.cell, Array.getElem?_eq_getElem (show qo + l.length * 38 + j < cs.size by omega)]; rfl) (fun j _ => h3.frz _)
    rw [i3] at hrun
    obtain ⟨cs', k1, k2, k3, k4, k5⟩ := Blk.setCells_ (stV n t).toList (qo + l.length * 38) W cs h3 (by rw [stV_len]; exact hs)
    refine ⟨_, _, qb, hrun, ⟨qo, cap, cs', by rw [List.length_append]; rfl, h2, k1, by rw [k2]; exact h4, by rw [List.length_append]; exact hr, fun i u hi j hj => ?_⟩, .inl rfl, k5⟩
    by_cases hlt : i < l.length
    · rw [List.getElem?_append_left hlt] at hi
      rw [k3 _ (.inl (by omega))]
      exact h6 i u hi j hj
    · have hl' := (List.getElem?_eq_some_iff.1 hi).1
      rw [List.length_append] at hl'
      have hl' : i < l.length + 1 := hl'
      obtain rfl : i = l.length := by omega
      rw [List.getElem?_append_right (Nat.le_refl _), Nat.sub_self] at hi
      obtain rfl : t = u := by simpa using hi
      rw [k4 j (by rw [stV_len]; exact hj)]
      simp
  · have hq : ∀ i j, i < l.length → j < 38 → cs[qo + i * 38 + j]? = some (qF n l i j) := fun i j hi hj => by
      rw [h6 i l[i] (List.getElem?_eq_getElem hi) j hj, (stV_sv n l[i]).2 j hj]
      unfold qF
      rw [List.getD_eq_getElem?_getD, List.getElem?_eq_getElem hi]; rfl
    obtain ⟨v', w', hrun, r1, r2⟩ := run_append_arg_grows (P := Tryd.prog) W 61 ty 57 si (.agg litZ) 38 304 Tryd.underlying61 i1 i2 i3 i4 litZ_cells (by decide) ⟨qb, qo, none⟩ l.length cap (cellsOf l.length 38 (qF n l))
      (length_cellsOf _ _ _)
      (fun j u hu => by
        have hj := (List.getElem?_eq_some_iff.1 hu).1
        rw [length_cellsOf] at hj
        have e : j / 38 * 38 + j % 38 = j := Nat.div_add_mod' j 38
        have h7 : j / 38 < l.length := by omega
        have h8 : j % 38 < 38 := by omega
        rw [← e, get_cellsOf h7 h8] at hu
        rw [Addr.add_lit, h3.cell, show qo + j = qo + j / 38 * 38 + j % 38 by omega, hq _ _ h7 h8]
        exact hu) ⟨b1, 0, none⟩ 1 c (stV n t).toList (by rw [stV_len]) hnews (by omega) (by unfold maxLen; omega) (by omega)
    obtain ⟨hle, ⟨e1, e2⟩ | ⟨g, c', cur, e1, e2, e3, e4, e5, e6, e7⟩⟩ := r1
    · omega
    · subst e1
      refine ⟨_, w', g, hrun, ⟨0, c', cur, by rw [List.length_append]; rfl, by omega, e3, by omega, by rw [List.length_append]; exact e4, fun i u hi j hj => ?_⟩, .inr e2, grown_of_below (grown_below r2)⟩
      rw [Nat.zero_add]
      have hlt := (List.getElem?_eq_some_iff.1 hi).1
      rw [List.length_append] at hlt
      have hlt : i < l.length + 1 := hlt
      have h8 : cellsOf l.length 38 (qF n l) ++ (stV n t).toList = cellsOf (l.length + 1) 38 (qF n (l ++ [t])) := by
        have h9 := cellsOf_succ l.length 38 (qF n l) (fun j => .int .i64 (stF n t j))
        rw [show (stV n t).toList = (List.range 38).map fun j => Value.int .i64 (stF n t j) from by unfold stV; rfl, h9]
        refine cellsOf_congr fun i j hi hj => ?_
        unfold upd qF
        by_cases e : i = l.length
        · subst e; rw [if_pos rfl, List.getD_eq_getElem?_getD, List.getElem?_append_right (Nat.le_refl _), Nat.sub_self]; rfl
        · rw [if_neg e, List.getD_eq_getElem?_getD, List.getD_eq_getElem?_getD, List.getElem?_append_left (by omega)]
      rw [h8] at e7
      have h9 : cur[i * 38 + j]? = some (qF n (l ++ [t]) i j) := by
        have h10 := get_cellsOf (F := qF n (l ++ [t])) hlt hj
        rw [← e7, List.getElem?_take, if_pos (by omega)] at h10
        simpa using h10
      rw [h9, (stV_sv n u).2 j hj]
      unfold qF
      rw [List.getD_eq_getElem?_getD, hi]; rfl
end
end Go.Proofs.YtfnfjmjejffjiaaDoor
/- The program's search: the map of ways, keyed by states. -/
namespace Go.Proofs.YtfnfjmjejffjiaaDoor
open Go.RowKit Go.Maps

/-- cells that are numbers -/
def AllN (cs : List Value) : Prop := ∀ v, v ∈ cs → ∃ x, v = .int .i64 x ∧ (Lit.int .i64 x).wf = true
theorem AllN.part {cs : List Value} (h : AllN cs) (a b : Nat) : AllN ((cs.drop a).take b) := fun v hv => h v (List.mem_of_mem_drop (List.mem_of_mem_take hv))
theorem mapM_ex {α β : Type} {f : α → Option β} : ∀ {l : List α}, (∀ x, x ∈ l → ∃ y, f x = some y) → ∃ ys, l.mapM f = some ys
  | [], _ => ⟨[], rfl⟩
  | x :: l, h => by
    obtain ⟨y, hy⟩ := h x List.mem_cons_self
    obtain ⟨ys, hys⟩ := mapM_ex (l := l) fun z hz => h z (List.mem_cons_of_mem _ hz)
    exact ⟨y :: ys, by rw [List.mapM_cons, hy, hys]; rfl⟩
theorem len_part {cs : List Value} {a b : Nat} (h : a + b ≤ cs.length) : ((cs.drop a).take b).length = b := by rw [List.length_take, List.length_drop]; omega
theorem cells_cen : Tryd.prog.cellsOf 51 = 3 := by kernel_rfl
theorem cells_msg : Tryd.prog.cellsOf 54 = 4 := by kernel_rfl
theorem cells_cens : Tryd.prog.cellsOf 52 = 12 := by kernel_rfl
theorem cells_msgs : Tryd.prog.cellsOf 55 = 24 := by kernel_rfl
theorem cells_int : Tryd.prog.cellsOf 3 = 1 := by kernel_rfl
theorem cells_state : Tryd.prog.cellsOf 57 = 38 := by kernel_rfl
theorem lits_one {m : Nat} {cs : List Value} (h : AllN cs) (hl : cs.length = 1) : ∃ ls, Tryd.prog.keyLits (m + 1) 3 cs = some ls := by
  match cs, hl with
  | [v], _ =>
    obtain ⟨x, rfl, hx⟩ := h v List.mem_cons_self
    exact ⟨[.int .i64 x], by simp only [Program.keyLits, Tryd.underlying3, hx, and_self, if_true]⟩
theorem lits_cen {m : Nat} {cs : List Value} (h : AllN cs) (hl : cs.length = 3) : ∃ ls, Tryd.prog.keyLits (m + 2) 51 cs = some ls := by
  obtain ⟨a, ha⟩ := lits_one (m := m) (h.part 0 1) (len_part (by omega))
  obtain ⟨b, hb⟩ := lits_one (m := m) (h.part 1 1) (len_part (by omega))
  obtain ⟨c, hc⟩ := lits_one (m := m) (h.part 2 1) (len_part (by omega))
  rw [List.drop_zero] at ha
  rw [List.drop_one] at hb
  unfold Program.keyLits
  simp only [Tryd.underlying51, cells_cen, hl]
  simp [cells_int, ha, hb, hc]
theorem lits_msg {m : Nat} {cs : List Value} (h : AllN cs) (hl : cs.length = 4) : ∃ ls, Tryd.prog.keyLits (m + 2) 54 cs = some ls := by
  obtain ⟨a, ha⟩ := lits_one (m := m) (h.part 0 1) (len_part (by omega))
  obtain ⟨b, hb⟩ := lits_one (m := m) (h.part 1 1) (len_part (by omega))
  obtain ⟨c, hc⟩ := lits_one (m := m) (h.part 2 1) (len_part (by omega))
  obtain ⟨d, hd⟩ := lits_one (m := m) (h.part 3 1) (len_part (by omega))
  rw [List.drop_zero] at ha
  rw [List.drop_one] at hb
  unfold Program.keyLits
  simp only [Tryd.underlying54, cells_msg, hl]
  simp [cells_int, ha, hb, hc, hd]
theorem lits_cens {m : Nat} {cs : List Value} (h : AllN cs) (hl : cs.length = 12) : ∃ ls, Tryd.prog.keyLits (m + 3) 52 cs = some ls := by
  obtain ⟨ys, hys⟩ := mapM_ex (f := fun i => Tryd.prog.keyLits (m + 2) 51 ((cs.drop (i * 3)).take 3)) (l := List.range 4) fun i hi => lits_cen (h.part _ _) (len_part (by have := List.mem_range.1 hi; omega))
  unfold Program.keyLits
  simp only [Tryd.underlying52, cells_cens, cells_cen, hl, if_true, hys]
  exact ⟨_, rfl⟩
theorem lits_msgs {m : Nat} {cs : List Value} (h : AllN cs) (hl : cs.length = 24) : ∃ ls, Tryd.prog.keyLits (m + 3) 55 cs = some ls := by
  obtain ⟨ys, hys⟩ := mapM_ex (f := fun i => Tryd.prog.keyLits (m + 2) 54 ((cs.drop (i * 4)).take 4)) (l := List.range 6) fun i hi => lits_msg (h.part _ _) (len_part (by have := List.mem_range.1 hi; omega))
  unfold Program.keyLits
  simp only [Tryd.underlying55, cells_msgs, cells_msg, hl, if_true, hys]
  exact ⟨_, rfl⟩
theorem lits_state {m : Nat} {cs : List Value} (h : AllN cs) (hl : cs.length = 38) : ∃ ls, Tryd.prog.keyLits (m + 4) 57 cs = some ls := by
  obtain ⟨a, ha⟩ := lits_one (m := m + 2) (h.part 0 1) (len_part (by omega))
  obtain ⟨b, hb⟩ := lits_cens (m := m) (h.part 1 12) (len_part (by omega))
  obtain ⟨c, hc⟩ := lits_msgs (m := m) (h.part 13 24) (len_part (by omega))
  obtain ⟨d, hd⟩ := lits_one (m := m + 2) (h.part 37 1) (len_part (by omega))
  rw [List.drop_zero] at ha
  rw [List.drop_one] at hb
  unfold Program.keyLits
  simp only [Tryd.underlying57, cells_state, hl]
  simp [cells_int, cells_cens, cells_msgs, ha, hb, hc, hd]
theorem keyS_ty : Tryd.prog.keyType 57 = true := by kernel_rfl
theorem types_size4 : ∃ m, Tryd.prog.types.size + 1 = m + 4 := ⟨Tryd.prog.types.size - 3, by have h : 3 < Tryd.prog.types.size := of_decide_eq_true (by kernel_rfl); omega⟩
theorem stF_bd {n : Nat} {s : M.St} (hn : n ≤ 4) (h : M.Okk n s) {i : Nat} (hi : i < 38) : 0 ≤ stF n s i ∧ stF n s i ≤ 9 := by
  have hk6 := h.wf.k6
  unfold stF
  by_cases h0 : i = 0
  · rw [if_pos h0]; omega
  rw [if_neg h0]
  by_cases h1 : i < 13
  · rw [if_pos h1]
    by_cases h2 : (i - 1) / 3 < n
    · obtain ⟨a1, a2, a3, a4, a5, a6⟩ := h.wf.cen _ h2
      rcases (show (i - 1) % 3 = 0 ∨ (i - 1) % 3 = 1 ∨ (i - 1) % 3 = 2 by omega) with e | e | e <;> rw [e] <;> omega
    · rw [h.cn.out _ (by omega)]; exact ⟨Int.le_refl _, (by decide : (0 : Int) ≤ 9)⟩
  rw [if_neg h1]
  by_cases h2 : i < 37
  · rw [if_pos h2]
    by_cases h3 : (i - 13) / 4 < s.k
    · obtain ⟨a1, a2, a3, a4, a5, a6, a7, a8⟩ := h.wf.msg _ h3
      rcases (show (i - 13) % 4 = 0 ∨ (i - 13) % 4 = 1 ∨ (i - 13) % 4 = 2 ∨ (i - 13) % 4 = 3 by omega) with e | e | e | e <;> rw [e] <;> omega
    · rw [h.cn.mo _ (by omega)]; exact ⟨Int.le_refl _, (by decide : (0 : Int) ≤ 9)⟩
  · rw [if_neg h2]; omega
theorem stV_all {n : Nat} {s : M.St} (hn : n ≤ 4) (h : M.Okk n s) : AllN (stV n s).toList := fun v hv => by
  unfold stV at hv
  simp only [List.mem_map, List.mem_range] at hv
  obtain ⟨i, hi, rfl⟩ := hv
  have := stF_bd hn h hi
  exact ⟨_, rfl, WalkArith.wf_i64 (by omega)⟩
theorem stV_key {n : Nat} {s : M.St} (hn : n ≤ 4) (h : M.Okk n s) : ∃ l, keyOf Tryd.prog 57 (.agg (stV n s)) = some l := by
  obtain ⟨m, hm⟩ := types_size4
  obtain ⟨ls, hls⟩ := lits_state (m := m) (stV_all hn h) (by rw [Array.length_toList, stV_size])
  have hf : (Value.agg (stV n s)).formed Tryd.prog 57 = true := by
    simp only [Value.formed, Tryd.underlying57, cells_state, stV_size]; rfl
  unfold keyOf
  rw [Tryd.underlying57]
  simp only [keyS_ty, hf, Bool.and_self, if_true]
  rw [hm]
  simp only [Value.cells, hls, Option.map_some]
  exact ⟨_, rfl⟩
theorem mapT : Tryd.prog.underlying 60 = some (.map 57 22) := Tryd.underlying60
theorem mapZ (w : World) : (zeroValue 22).run Tryd.prog w = .ok (.slice none 0 0) w := by kernel_rfl
/-- how a slice reads, as an element of a map: as it stands -/
def sliceR (v : Value) : Option (DataW Unit × List MemPlace) :=
  match v with
  | .slice none 0 0 => some (.agg [], [])
  | .slice (some ⟨b, off, none⟩) n c => some (.agg [.lit (.int .i64 b), .lit (.int .i64 off), .lit (.int .i64 n), .lit (.int .i64 c)], [])
  | _ => none
theorem sliceR_inj {u v : Value} {y : DataW Unit} {p q : List MemPlace} (h : sliceR u = some (y, p)) (h' : sliceR v = some (y, q)) : u = v := by
  unfold sliceR at h h'
  split at h
  · injection h with h; injection h with h _
    subst h
    split at h'
    · rfl
    · simp at h'
    · cases h'
  · injection h with h; injection h with h _
    subst h
    split at h'
    · simp at h'
    · simp only [Option.some.injEq, Prod.mk.injEq, DataW.agg.injEq, List.cons.injEq, DataW.lit.injEq, Lit.int.injEq, true_and, and_true] at h'
      obtain ⟨⟨h1, h2, h3, h4⟩, _⟩ := h'
      have e1 := Int.ofNat.inj h1
      have e2 := Int.ofNat.inj h2
      have e3 := Int.ofNat.inj h3
      have e4 := Int.ofNat.inj h4
      subst e1; subst e2; subst e3; subst e4
      rfl
    · cases h'
  · cases h
theorem sliceR_own {W : World} {b t m n : Nat} {v : Value} {F : Nat → Nat → Value} (h : Own W b t m v n F) : ∃ y, sliceR v = some (y, []) := by
  obtain ⟨_, ⟨e, _⟩ | ⟨g, c, cur, e, _⟩⟩ := h
  · subst e; exact ⟨_, rfl⟩
  · subst e; exact ⟨_, rfl⟩
theorem nodup_inj {α : Type} : ∀ {l : List α}, l.Nodup → ∀ {i j : Nat} {x : α}, l[i]? = some x → l[j]? = some x → i = j
  | [], _, i, j, x, h, _ => by cases h
  | a :: l, hd, i, j, x, h, h' => by
    obtain ⟨h1, h2⟩ := List.nodup_cons.1 hd
    cases i with
    | zero =>
      have e : a = x := by simpa using h
      cases j with
      | zero => rfl
      | succ j => exact absurd (List.mem_of_getElem? (show l[j]? = some x by simpa using h')) (e ▸ h1)
    | succ i =>
      cases j with
      | zero =>
        have e : a = x := by simpa using h'
        exact absurd (List.mem_of_getElem? (show l[i]? = some x by simpa using h)) (e ▸ h1)
      | succ j => rw [nodup_inj h2 (show l[i]? = some x by simpa using h) (show l[j]? = some x by simpa using h')]
/-- the map of ways -/
def WayM (W : World) (n : Nat) (L : List M.St) (B m : Nat) (V : List (M.St × List (Int × Nat))) : Prop :=
  ∃ v : Nat → Option (DataW Unit), MemoM W Tryd.prog 57 sliceR m L.length (fun i => .agg (stV n (L.getD i zeroS))) v ∧
    (∀ i t, L[i]? = some t → ∀ y, v i = some y → ∃ p u, (t, p) ∈ V ∧ sliceR u = some (y, []) ∧ Own W B 38 3 u p.length (ints2 (evF p))) ∧ ∀ x, x ∈ V → ∃ i, L[i]? = some x.1 ∧ (v i).isSome = true
section
variable {W W' : World} {n B m : Nat} {L : List M.St} {V : List (M.St × List (Int × Nat))} {t : M.St}
theorem WayM.kept {row : Option Nat} (h : WayM W n L B m V) (hg : W.grownBy W' row) (hr : ∀ r, row = some r → r ≠ m ∧ ∀ cs, ¬ Blk W r 38 cs) : WayM W' n L B m V := by
  obtain ⟨v, h1, h2, h3⟩ := h
  refine ⟨v, h1.kept hg (fun e => (hr m e.symm).1 rfl), fun i t hi y hy => ?_, h3⟩
  obtain ⟨p, u, k1, k2, k3⟩ := h2 i t hi y hy
  refine ⟨p, u, k1, k2, k3.grown hg ?_⟩
  cases hu : u.ownBlock with
  | none => exact .inl rfl
  | some g =>
    refine .inr fun e => ?_
    obtain ⟨_, ⟨e1, _⟩ | ⟨g', c, cur, e1, _, e2, _⟩⟩ := k3
    · subst e1; cases hu
    · subst e1
      injection hu with hu
      have hu : g' = g := hu
      subst hu
      exact (hr g' e.symm).2 cur e2
theorem WayM.more {V' : List (M.St × List (Int × Nat))} (h : WayM W n L B m V) (he : V = V') : WayM W n L B m V' := he ▸ h
theorem getD_of {L : List M.St} {i : Nat} {t : M.St} (h : L[i]? = some t) : L.getD i zeroS = t := by rw [List.getD_eq_getElem?_getD, h]; rfl
theorem WayM.start (W : World) (n : Nat) (L : List M.St) (B : Nat) : WayM (W.alloc (.map #[] 0)) n L B W.heap.size [] :=
  ⟨_, MemoM.made W _ _ _ _ _, fun _ _ _ _ h => (by cases h), fun x hx => (by cases hx)⟩
/-- what has not been seen -/
theorem WayM.look_no (h : WayM W n L B m V) (hn : n ≤ 4) (hL : ∀ t, t ∈ L → M.Okk n t) (ht : t ∈ L) (hV : ∀ z, z ∈ V → z.1 ≠ t) :
    (Instr.lookup 60 (.map (some m)) (.agg (stV n t)) true).run Tryd.prog W = .ok (.tuple #[.slice none 0 0, .bool false]) W := by
  obtain ⟨v, h1, h2, h3⟩ := h
  obtain ⟨i, hi, rfl⟩ := List.getElem_of_mem ht
  have hi' : L[i]? = some L[i] := List.getElem?_eq_getElem hi
  obtain ⟨x, ps, hrun, hx⟩ := h1.look stateK mapT (mapZ W) (zd := .agg []) (zp := []) rfl hi (by rw [getD_of hi']; exact stV_key hn (hL _ ht))
  rw [getD_of hi'] at hrun
  have hv : v i = none := by
    cases hv : v i with
    | none => rfl
    | some y =>
      obtain ⟨p, u, k1, _⟩ := h2 i _ hi' y hv
      exact absurd rfl (hV _ k1)
  rw [hv] at hrun hx
  rw [hrun, sliceR_inj hx (v := .slice none 0 0) (q := []) rfl]
  rfl
/-- what has been seen -/
theorem WayM.look_yes (h : WayM W n L B m V) (hn : n ≤ 4) (hL : ∀ t, t ∈ L → M.Okk n t) {p : List (Int × Nat)} (ht : (t, p) ∈ V) (hV : (V.map Prod.fst).Nodup) :
    ∃ u, Own W B 38 3 u p.length (ints2 (evF p)) ∧ (Instr.lookup 60 (.map (some m)) (.agg (stV n t)) true).run Tryd.prog W = .ok (.tuple #[u, .bool true]) W ∧
      (Instr.lookup 60 (.map (some m)) (.agg (stV n t)) false).run Tryd.prog W = .ok u W := by
  obtain ⟨v, h1, h2, h3⟩ := h
  obtain ⟨i, hi, hs⟩ := h3 _ ht
  have hi : L[i]? = some t := hi
  have hlt := (List.getElem?_eq_some_iff.1 hi).1
  have hmem : t ∈ L := List.mem_of_getElem? hi
  obtain ⟨y, hy⟩ := Option.isSome_iff_exists.1 hs
  obtain ⟨p', u, k1, k2, k3⟩ := h2 i t hi y hy
  have hp : p' = p := by
    obtain ⟨a, ha, e1⟩ := List.getElem_of_mem k1
    obtain ⟨b, hb, e2⟩ := List.getElem_of_mem ht
    have hab : a = b := by
      exact nodup_inj hV (x := t) (by rw [List.getElem?_map, List.getElem?_eq_getElem ha, e1]; rfl) (by rw [List.getElem?_map, List.getElem?_eq_getElem hb, e2]; rfl)
    subst hab
    rw [e1] at e2
    injection e2
  subst hp
  obtain ⟨x, ps, hrun, hx⟩ := h1.look stateK mapT (mapZ W) (zd := .agg []) (zp := []) rfl hlt (by rw [getD_of hi]; exact stV_key hn (hL _ hmem))
  obtain ⟨x', ps', hrun', hx'⟩ := h1.look1 stateK mapT (mapZ W) (zd := .agg []) (zp := []) rfl hlt (by rw [getD_of hi]; exact stV_key hn (hL _ hmem)) hy
  rw [getD_of hi] at hrun hrun'
  rw [hy] at hrun hx
  rw [sliceR_inj hx k2] at hrun
  rw [sliceR_inj hx' k2] at hrun'
  exact ⟨u, k3, hrun, hrun'⟩
/-- a new way -/
theorem WayM.store (h : WayM W n L B m V) (hn : n ≤ 4) (hL : ∀ t, t ∈ L → M.Okk n t) (hd : L.Nodup) (hlen : L.length < maxLen) (ht : t ∈ L) (hV : ∀ z, z ∈ V → z.1 ≠ t) {p : List (Int × Nat)} {u : Value} (hu : Own W B 38 3 u p.length (ints2 (evF p))) :
    ∃ W', (Instr.mapUpdate 60 (.map (some m)) (.agg (stV n t)) u).run Tryd.prog W = .ok () W' ∧ WayM W' n L B m (V ++ [(t, p)]) ∧ W.grownBy W' (some m) := by
  obtain ⟨v, h1, h2, h3⟩ := h
  obtain ⟨i, hi, rfl⟩ := List.getElem_of_mem ht
  have hi' : L[i]? = some L[i] := List.getElem?_eq_getElem hi
  have hv : v i = none := by
    cases hv : v i with
    | none => rfl
    | some y =>
      obtain ⟨p, u, k1, _⟩ := h2 i _ hi' y hv
      exact absurd rfl (hV _ k1)
  obtain ⟨y, hy⟩ := sliceR_own hu
  obtain ⟨W', hrun, k1, k2⟩ := h1.store stateK mapT hlen hi (fun j hj => by rw [getD_of (List.getElem?_eq_getElem hj)]; exact stV_key hn (hL _ (List.getElem_mem hj))) (fun j hj e => by
    rw [getD_of (List.getElem?_eq_getElem hj), getD_of hi'] at e
    injection e with e
    have h5 := stV_inj hn (hL _ (List.getElem_mem hj)) (hL _ ht) e
    exact nodup_inj hd (x := L[i]) (by rw [List.getElem?_eq_getElem hj, h5]) hi') hv hy
  rw [getD_of hi'] at hrun
  obtain ⟨es, cl, hmap⟩ := h1.map
  have hkeep : ∀ {u : Value} {k : Nat} {F : Nat → Nat → Value}, Own W B 38 3 u k F → Own W' B 38 3 u k F := fun {u k F} ho => by
    refine ho.grown k2 ?_
    obtain ⟨_, ⟨e1, _⟩ | ⟨g', c, cur, e1, _, e2, _⟩⟩ := ho
    · subst e1; exact .inl rfl
    · subst e1
      refine .inr fun e => ?_
      injection e with e
      have e : g' = m := e
      subst e
      rw [hmap] at e2; cases e2
  refine ⟨W', hrun, ⟨_, k1, fun j t hj y' hy' => ?_, fun x hx => ?_⟩, k2⟩
  · by_cases e : j = i
    · subst e
      simp only [if_true, Option.some.injEq] at hy'
      subst hy'
      rw [hi'] at hj
      obtain rfl : L[j] = t := by simpa using hj
      exact ⟨p, u, List.mem_append_right _ List.mem_cons_self, hy, hkeep hu⟩
    · simp only [if_neg e] at hy'
      obtain ⟨p', u', a1, a2, a3⟩ := h2 j t hj y' hy'
      exact ⟨p', u', List.mem_append_left _ a1, a2, hkeep a3⟩
  · rcases List.mem_append.1 hx with hx | hx
    · obtain ⟨j, a1, a2⟩ := h3 x hx
      refine ⟨j, a1, ?_⟩
      by_cases e : j = i
      · subst e; rw [hv] at a2; cases a2
      · simp only [if_neg e]; exact a2
    · rw [List.mem_singleton.1 hx]
      exact ⟨i, hi', by simp⟩
end
end Go.Proofs.YtfnfjmjejffjiaaDoor
/- The program's search: its operations in a fence, the clone of a way, what a search holds. -/
namespace Go.Proofs.YtfnfjmjejffjiaaDoor
open Go.RowKit Go.Maps

theorem ex_ldS {P : Program} {W : World} {g : Nat} {cs : Array Value} {o : Oper} {ρ : Operand → Value} (x : Operand) (ho : o.op = .load 57 x) (hx : ρ x = .pointer (some ⟨g, 0, none⟩)) (hP : P = Tryd.prog) (h : Blk W g 57 cs) (hs : cs.size = 38) : (execOp ρ o).run P W = .ok (.value (.agg cs)) W := by
  subst hP
  simp only [execOp, ho, hx, Sem.run_bind, run_ldS h hs, Result.andThen_ok, Sem.run_pure]
theorem ex_look {P : Program} {W : World} {o : Oper} {ρ : Operand → Value} {t : TypeId} {vm vk u : Value} {b : Bool} (m k : Operand) (ho : o.op = .lookup t m k b) (hm : ρ m = vm) (hk : ρ k = vk) (hr : (Instr.lookup t vm vk b).run P W = .ok u W) : (execOp ρ o).run P W = .ok (.value u) W := by
  simp only [execOp, ho, hm, hk, Sem.run_bind, hr, Result.andThen_ok, Sem.run_pure]
theorem fill_one {cs base : Array Value} (hs : cs.size = 38) (hb : base.size = 38) : Instr.fill (fun i => some (i * 38, 38)) base [(0, .agg cs)] = some cs := by
  have h := Great.fill_whole (s := 38) (by decide) [.agg cs] base (fun v hv => by rw [List.mem_singleton.1 hv]; exact hs) (by rw [hb]; rfl)
  simpa [Value.cells] using h
set_option maxRecDepth 100000 in
theorem run_bsS {W : World} {cs : Array Value} (hs : cs.size = 38) : (Instr.buildSlice 61 1 #[(0, .agg cs)]).run Tryd.prog W = .ok (.slice (some ⟨W.heap.size, 0, none⟩) 1 1) (W.alloc (.cells cs 57)) := by
  obtain ⟨si, i1, i2, i3, i4⟩ := info_parts state_inf
  refine run_buildSlice W 61 57 1 _ cs si (.agg litZ) Tryd.underlying61 i1 i2 (by rw [i3]; decide) (by rw [i3]; decide) ?_
  rw [i3]
  exact fill_one hs (by simp)
section
variable {F : Fence} {n : Nat} {P : Program} {ops : Array Oper} {Q : Exit → Act → World → Prop} {b : Act} {rest : List Oper} {o : Oper} {W W' : World} {K : Act → World → Prop}
theorem opIn_app {v1 v2 v' : Value} (s x : Operand) (t : TypeId) (ho : o.op = .call { callee := .builtin .append, args := #[s, x], argTypes := #[t, t] }) (hs : b.eval s = v1) (hx : b.eval x = v2) (hr : (Builtin.append_ #[t, t] o.type #[v1, v2]).run P W = .ok v' W') (h : K (b.put o.dst v') W') : Oper.wpIn F n P o b W K Q := by
  unfold Oper.wpIn
  refine ⟨by simp [Oper.about, ho, resolve, Target.leads, Sem.run_pure], ?_⟩
  rw [Oper.semAt_plain F _ _ (by rw [ho]; intro c hc'; cases hc')]
  simp only [execOp, ho, resolve, invoke, builtin, Sem.run_bind, Sem.run_pure, Result.andThen_ok, List.map_toArray, List.map_cons, List.map_nil, hs, hx, hr]
  exact h
theorem opIn_upd {vm vk v : Value} (m k x : Operand) (t : TypeId) (ho : o.op = .mapUpdate t m k x) (hm : b.eval m = vm) (hk : b.eval k = vk) (hx : b.eval x = v) (hr : (Instr.mapUpdate t vm vk v).run P W = .ok () W') (h : K (b.put o.dst undef) W') : Oper.wpIn F n P o b W K Q := by
  unfold Oper.wpIn
  refine ⟨by simp [Oper.about, ho], ?_⟩
  rw [Oper.semAt_plain F _ _ (by rw [ho]; intro c hc'; cases hc')]
  simp only [execOp, ho, hm, hk, hx, Sem.run_bind, hr, Result.andThen_ok, Sem.run_pure]
  exact h
theorem wpListIn_app (hg : o.guard = none) {v1 v2 v' : Value} (s x : Operand) (t : TypeId) (ho : o.op = .call { callee := .builtin .append, args := #[s, x], argTypes := #[t, t] }) (hs : b.eval s = v1) (hx : b.eval x = v2) (hr : (Builtin.append_ #[t, t] o.type #[v1, v2]).run P W = .ok v' W') (h : wpListIn F n P ops Q rest (b.put o.dst v') W') : wpListIn F n P ops Q (o :: rest) b W :=
  wpListIn_plain hg fun K hK => opIn_app s x t ho hs hx hr (hK _ _ h)
theorem wpListIn_look (hg : o.guard = none) {vm vk u : Value} {t : TypeId} {c : Bool} (m k : Operand) (ho : o.op = .lookup t m k c) (hm : b.eval m = vm) (hk : b.eval k = vk) (hr : (Instr.lookup t vm vk c).run P W = .ok u W) (h : wpListIn F n P ops Q rest (b.put o.dst u) W) : wpListIn F n P ops Q (o :: rest) b W :=
  wpListIn_plain hg fun K hK => by
    unfold Oper.wpIn
    refine ⟨by simp [Oper.about, ho], ?_⟩
    rw [Oper.semAt_plain F _ _ (by rw [ho]; intro c hc'; cases hc'), ex_look m k ho hm hk hr]
    exact hK _ _ h
theorem wpListIn_bsS {cs : Array Value} (hg : o.guard = none) (x : Operand) (ho : o.op = .buildSlice 61 1 #[(0, x)]) (hx : b.eval x = .agg cs) (hs : cs.size = 38) (h : wpListIn F n Tryd.prog ops Q rest (b.put o.dst (.slice (some ⟨W.heap.size, 0, none⟩) 1 1)) (W.alloc (.cells cs 57))) : wpListIn F n Tryd.prog ops Q (o :: rest) b W :=
  wpListIn_plain hg fun K hK => by
    unfold Oper.wpIn
    refine ⟨by simp [Oper.about, ho], ?_⟩
    rw [Oper.semAt_plain F _ _ (by rw [ho]; intro c hc'; cases hc')]
    simp only [execOp, ho, List.map_toArray, List.map_cons, List.map_nil, hx, Sem.run_bind, run_bsS hs, Result.andThen_ok, Sem.run_pure]
    exact hK _ _ h
end
theorem some_nil_e (a : Addr) (l c : Nat) (W : World) : (binOp .eql 22 (.slice (some a) l c) (.slice none 0 0)).run Tryd.prog W = .ok (.bool false) W :=
  Lib.run_eql_slice_nil W 22 38 (some a) l c 0 0 Tryd.underlying22
theorem nil_nil_e (W : World) : (binOp .eql 22 (.slice none 0 0) (.slice none 0 0)).run Tryd.prog W = .ok (.bool true) W :=
  Lib.run_eql_slice_nil W 22 38 none 0 0 0 0 Tryd.underlying22
set_option maxHeartbeats 1600000 in
theorem clone_e {u : Value} {n B : Nat} {F : Nat → Nat → Int} {w : World} (hn : n ≤ 100) (hR : Own w B 38 3 u n (ints2 F)) :
    Calls Tryd.prog 18 #[u] w (OwnV 38 3 n (ints2 F) w) := by
  have hR' := hR
  obtain ⟨_, ⟨e1, e2⟩ | ⟨g, c, cur, e1, e2, e3, _⟩⟩ := hR'
  · subst e1; subst e2
    have hs := nil_nil_e
    clear hR
    go_enter Tryd.func18, Tryd.ntmps18
    go_wp2_with fail
    go_ret
    exact ⟨none, 0, rfl, Own.nil_, Below.refl _ _⟩
  · subst e1
    obtain ⟨si, hi, hz0, hz1, hz2⟩ := info_parts evt_info
    have SI := Lib.hid (And.intro hi (And.intro hz0 (And.intro hz1 hz2)))
    have HR := Lib.hid hR.rdV
    have hs := some_nil_e
    clear hi hz0 hz1 hz2 hR e2 e3
    go_enter Tryd.func18, Tryd.ntmps18
    go_wp2_with (at_builtin; go_must (refine wpList_copy rfl (.tmp 5) (.tmp 6) 22 rfl 38 si _ 3 24 Tryd.underlying22 SI.out.1 SI.out.2.1 SI.out.2.2.1 SI.out.2.2.2 rfl (by omega) (by omega) rfl (by exact Blk.new _ _ _) (F := ints2 F) (fun _ _ => rfl) rfl (HR.out.below (belowAlloc w _)) (by omega) ?_); intro A1 c1 w1 ho1 hb1; have HO1 := Lib.hid ho1; have HB1 := Lib.hid ((belowAlloc w _).trans (hb1.mono (by simp))); clear ho1 hb1)
    go_ret
    exact ⟨A1, c1, rfl, HO1.out, HB1.out⟩
theorem grownBy_setCellQ (W : World) (p : Addr) (v : Value) : W.grownBy (W.setCell p v) (some p.block) :=
  ⟨rfl, rfl, rfl, (KeepsWalks.setCell W p v).size, fun k _ hk => Below.heap_setCell _ _ _ k (fun e => hk (by rw [e]))⟩
/-- what a search holds: its box of the map, the map, the box of the queue, the queue -/
structure SeI (n : Nat) (L : List M.St) (w0 : World) (b11 m p12 qb : Nat) (qv : Value) (V : List (M.St × List (Int × Nat))) (l : List M.St) (ds : List Nat) (W : World) : Prop where
  bl : Below w0.heap.size w0 W
  hb : Blk W b11 60 #[.map (some m)]
  ways : WayM W n L w0.heap.size m V
  hp : Blk W p12 61 #[qv]
  q : QuS W w0.heap.size n qb qv l
  mks : Marks w0.heap.size W ds
  b0 : w0.heap.size ≤ b11 ∧ w0.heap.size ≤ m ∧ w0.heap.size ≤ p12
section
variable {n : Nat} {L : List M.St} {w0 : World} {b11 m p12 qb : Nat} {qv : Value} {V : List (M.St × List (Int × Nat))} {l : List M.St} {ds : List Nat} {W W' : World}
theorem WayM.map {B : Nat} (h : WayM W n L B m V) : ∃ es cl, W.heap[m]? = some (.map es cl) := by
  obtain ⟨v, h1, _⟩ := h
  exact h1.map
theorem WayM.ne {B : Nat} (h : WayM W n L B m V) {b t : Nat} {cs : Array Value} (hb : Blk W b t cs) : b ≠ m := fun e => by
  obtain ⟨es, cl, hm⟩ := h.map
  subst e
  rw [show W.heap[b]? = _ from hb] at hm; cases hm
theorem SeI.dne (h : SeI n L w0 b11 m p12 qb qv V l ds W) {D : Nat} (hD : D ∈ ds) {b t : Nat} {cs : Array Value} (hb : Blk W b t cs) : D ≠ b := fun e => by
  subst e
  have := (h.mks.lt D hD).2.2
  rw [show W.heap[D]? = _ from hb] at this; cases this
theorem SeI.dnm (h : SeI n L w0 b11 m p12 qb qv V l ds W) {D : Nat} (hD : D ∈ ds) : D ≠ m := fun e => by
  subst e
  have := (h.mks.lt D hD).2.2
  obtain ⟨es, cl, hm⟩ := h.ways.map
  rw [hm] at this; cases this
theorem SeI.kept {row : Option Nat} (h : SeI n L w0 b11 m p12 qb qv V l ds W) (hg : W.grownBy W' row) (hr : ∀ r, row = some r → w0.heap.size ≤ r ∧ r ≠ m ∧ r ≠ b11 ∧ r ≠ p12 ∧ r ≠ qb ∧ (∀ cs, ¬ Blk W r 38 cs) ∧ ∀ D, D ∈ ds → D ≠ r) : SeI n L w0 b11 m p12 qb qv V l ds W' :=
  ⟨h.bl.grown hg h.bl.size fun r e => (hr r e).1, h.hb.grown hg fun e => (hr _ e.symm).2.2.1 rfl, h.ways.kept hg fun r e => ⟨(hr r e).2.1, (hr r e).2.2.2.2.2.1⟩, h.hp.grown hg fun e => (hr _ e.symm).2.2.2.1 rfl, h.q.grown hg fun e => (hr _ e.symm).2.2.2.2.1 rfl,
    h.mks.kept fun D hD => hg.block D (h.mks.lt D hD).2.1 fun e => (hr D e.symm).2.2.2.2.2.2 D hD rfl, h.b0⟩
theorem SeI.below (h : SeI n L w0 b11 m p12 qb qv V l ds W) (hb : Below W.heap.size W W') : SeI n L w0 b11 m p12 qb qv V l ds W' := h.kept (below_grown hb none) fun _ e => by cases e
theorem SeI.notes {row : Option Nat} {lo : Nat} (h : SeI n L w0 b11 m p12 qb qv V l ds W) (hm : m < lo) (hds : ∀ D, D ∈ ds → D < lo) (hw : w0.heap.size ≤ lo) (hg : W.grownBy W' row) (hr : ∀ r, row = some r → lo ≤ r ∧ ∃ o : Obj, W.heap[r]? = some o ∧ o.isCells = false) : SeI n L w0 b11 m p12 qb qv V l ds W' :=
  h.kept hg fun r e => by
    obtain ⟨h1, o, ho, hc⟩ := hr r e
    have hne : ∀ {b t : Nat} {cs : Array Value}, Blk W b t cs → r ≠ b := fun hb e => by
      subst e
      rw [show W.heap[r]? = _ from hb] at ho
      cases ho; cases hc
    obtain ⟨cs, hqb⟩ := h.q.blk
    exact ⟨by omega, by omega, hne h.hb, hne h.hp, hne hqb, fun cs hb => hne hb rfl, fun D hD e => by have := hds D hD; omega⟩
theorem SeI.seen_in (h : SeI n L w0 b11 m p12 qb qv V l ds W) {x : M.St × List (Int × Nat)} (hx : x ∈ V) : x.1 ∈ L := by
  obtain ⟨v, _, _, h3⟩ := h.ways
  obtain ⟨j, hj, _⟩ := h3 x hx
  exact List.mem_of_getElem? hj
/-- a way has been kept -/
theorem SeI.stored {V' : List (M.St × List (Int × Nat))} (h : SeI n L w0 b11 m p12 qb qv V l ds W) (hw : WayM W' n L w0.heap.size m V') (hg : W.grownBy W' (some m)) : SeI n L w0 b11 m p12 qb qv V' l ds W' := by
  obtain ⟨cs, hqb⟩ := h.q.blk
  exact ⟨h.bl.grown hg h.bl.size fun r e => (by injection e with e; subst e; exact h.b0.2.1), h.hb.grown hg fun e => (by injection e with e; exact h.ways.ne h.hb e), hw, h.hp.grown hg fun e => (by injection e with e; exact h.ways.ne h.hp e), h.q.grown hg fun e => (by injection e with e; exact h.ways.ne hqb e),
    h.mks.kept fun D hD => hg.block D (h.mks.lt D hD).2.1 fun e => (by injection e with e; exact h.dnm hD e), h.b0⟩
/-- a state has been queued -/
theorem SeI.pushed {qb' : Nat} {qv' : Value} {l' : List M.St} (h : SeI n L w0 b11 m p12 qb qv V l ds W) (hq : QuS W' w0.heap.size n qb' qv' l') (hg : W.grownBy W' (some qb)) (hqb' : qb' = qb ∨ W.heap.size ≤ qb') : SeI n L w0 b11 m p12 qb' qv' V l' ds (W'.setCell ⟨p12, 0, none⟩ qv') ∧ ∀ k, k < W.heap.size → k ≠ qb → k ≠ p12 → (W'.setCell ⟨p12, 0, none⟩ qv').heap[k]? = W.heap[k]? := by
  obtain ⟨cs, hqb⟩ := h.q.blk
  have hq0 : w0.heap.size ≤ qb := by obtain ⟨_, _, _, _, h, _⟩ := h.q; exact h
  have hg2 := grownBy_setCellQ W' ⟨p12, 0, none⟩ qv'
  have hpq : p12 ≠ qb := Blk.ne_type h.hp hqb (by decide)
  have hbp : b11 ≠ p12 := Blk.ne_type h.hb h.hp (by decide)
  have hp' : Blk W' p12 61 #[qv] := h.hp.grown hg (fun e => by injection e with e; exact hpq e)
  have hw' : WayM W' n L w0.heap.size m V := h.ways.kept hg fun r e => by
    injection e with e; subst e
    exact ⟨h.ways.ne hqb, fun cs' hb => Blk.ne_type hb hqb (by decide) rfl⟩
  have hq'p : some qb' ≠ some p12 := fun e => by
    injection e with e
    obtain ⟨cs', hb'⟩ := hq.blk
    exact Blk.ne_type hb' hp' (by decide) e
  refine ⟨⟨(h.bl.grown hg h.bl.size fun r e => (by injection e with e; subst e; exact hq0)).setCell h.b0.2.2 _, ?_, ?_, hp'.set_ 0 _, hq.grown hg2 hq'p, ?_, h.b0⟩, fun k hk h1 h2 => ?_⟩
  · exact (h.hb.grown hg (fun e => by injection e with e; exact Blk.ne_type h.hb hqb (by decide) e)).grown hg2 (fun e => by injection e with e; exact hbp e)
  · exact hw'.kept hg2 fun r e => by
      injection e with e; subst e
      exact ⟨hw'.ne hp', fun cs' hb => Blk.ne_type hb hp' (by decide) rfl⟩
  · refine (h.mks.kept fun D hD => hg.block D (h.mks.lt D hD).2.1 fun e => ?_).kept fun D hD => hg2.block D ?_ fun e => ?_
    · injection e with e; exact h.dne hD hqb e
    · exact Nat.lt_of_lt_of_le (h.mks.lt D hD).2.1 hg.size
    · injection e with e; exact h.dne hD h.hp e
  · rw [hg2.block k (Nat.lt_of_lt_of_le hk hg.size) (fun e => by injection e with e; exact h2 e)]
    exact hg.block k hk fun e => by injection e with e; exact h1 e
end
end Go.Proofs.YtfnfjmjejffjiaaDoor
