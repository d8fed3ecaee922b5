/- slices.Repeat of one number: a slice of the call's own. -/
import Derived.Test.YtkdpmihdhiokkaaDoorK14
import Derived.Test.YtkdpmihdhiokkaaDoorLaH
import Derived.Test.YtkdpmihdhiokkaaDoorShelfB
import Derived.Laws.CopyOwn
import Derived.Test.YtkdpmihdhiokkaaDoorMix
namespace Go.Proofs.YtkdpmihdhiokkaaDoor
open Go.RowKit

theorem list_lay {α : Type} (cur : List α) (off : Nat) (cs : List α) (h : off + cs.length ≤ cur.length) (q : Nat) : (cur.take off ++ cs ++ cur.drop (off + cs.length))[q]? = if off ≤ q ∧ q < off + cs.length then cs[q - off]? else cur[q]? := by
  have ht : (cur.take off).length = off := by simp; omega
  by_cases h1 : q < off
  · rw [if_neg (by omega), List.append_assoc, List.getElem?_append_left (by omega), List.getElem?_take, if_pos h1]
  · by_cases h2 : q < off + cs.length
    · rw [if_pos ⟨by omega, h2⟩, List.append_assoc, List.getElem?_append_right (by omega), ht, List.getElem?_append_left (by omega)]
    · rw [if_neg (by omega), List.getElem?_append_right (by rw [List.length_append]; omega), List.length_append, ht, List.getElem?_drop]
      congr 1
      omega
section
variable {P : Program}
/-- copy into a slice of the call's own, elements of one cell -/
theorem run_fill (w : World) (dT sT ty elem : TypeId) (hu : P.underlying dT = some (.slice elem)) (hsz : (P.info? elem).map (·.size) = some 1) {base t n c G off dL dC S so sL sC : Nat} {F : Nat → Nat → Value} {X : Nat → Value} (h : Own w base t 1 (.slice (some ⟨G, 0, none⟩) n c) n F)
    (hfit : off + Nat.min sL dL ≤ n) (hsrc : ∀ j, j < Nat.min sL dL → w.cell? ⟨S, so + j, none⟩ = some (X j)) (h1 : ∀ j, (X j).oneCell' = true) :
    ∃ w', (Builtin.copy_ #[dT, sT] ty #[.slice (some ⟨G, off, none⟩) dL dC, .slice (some ⟨S, so, none⟩) sL sC]).run P w = .ok (goInt (Nat.min sL dL)) w' ∧ Own w' base t 1 (.slice (some ⟨G, 0, none⟩) n c) n (fun i j => if off ≤ i ∧ i < off + Nat.min sL dL then X (i - off) else F i j) ∧ w.grownBy w' (some G) := by
  obtain ⟨hl, ⟨he, _⟩ | ⟨g, cap, cur, he, hb, hh, hc1, hc2, hc3, hc4⟩⟩ := h
  · cases he
  · injection he with e1 _ e3
    injection e1 with e1
    injection e1 with e1
    subst e1; subst e3
    obtain ⟨k, hk⟩ : ∃ k, k = Nat.min sL dL := ⟨_, rfl⟩
    rw [← hk] at hfit hsrc ⊢
    have hlen : ((List.range k).map X).length = k := by simp
    have hrun := run_copy_row (P := P) w dT sT ty elem G off dL dC ⟨S, so, none⟩ sL sC cur t ((List.range k).map X) hu hsz hh (by rw [hlen, hk]) (by
      intro j v hj
      by_cases hjk : j < k
      · simp [hjk] at hj
        subst hj
        rw [add_off]
        exact hsrc j hjk
      · simp [hjk] at hj) (by rw [hlen]; omega) (by
      intro v hv
      simp at hv
      obtain ⟨j, _, rfl⟩ := hv
      exact h1 j)
    rw [hlen] at hrun
    refine ⟨_, hrun, ⟨by simp [cellsOf], .inr ⟨G, c, _, rfl, hb, setRow_heap w G _ _ t _ hh, hc1, hc2, ?_, ?_⟩⟩, ⟨rfl, rfl, rfl, by simp [World.setRow], fun k' _ hk' => setRow_other w G k' _ fun e => hk' (by rw [e])⟩⟩
    · simp
      omega
    · apply List.ext_getElem?
      intro q
      rw [List.getElem?_take]
      simp only [Nat.mul_one] at hc3 hc4 ⊢
      have h2 := list_lay cur.toList off ((List.range k).map X) (by rw [hlen]; simp; omega) q
      rw [hlen] at h2
      by_cases hq : q < n
      · rw [if_pos hq]
        show (cur.toList.take off ++ (List.range k).map X ++ cur.toList.drop (off + k))[q]? = _
        rw [h2]
        have h3 : cur.toList[q]? = some (F q 0) := by
          have : (cur.toList.take n)[q]? = (cellsOf n 1 F)[q]? := by rw [hc4]
          rw [List.getElem?_take, if_pos hq] at this
          rw [this]
          have := get_cellsOf (F := F) hq (show 0 < 1 by omega)
          rw [Nat.mul_one, Nat.add_zero] at this
          exact this
        have h4 := get_cellsOf (F := fun i j => if off ≤ i ∧ i < off + k then X (i - off) else F i j) hq (show 0 < 1 by omega)
        rw [Nat.mul_one, Nat.add_zero] at h4
        rw [h4]
        by_cases hin : off ≤ q ∧ q < off + k
        · rw [if_pos hin, if_pos hin]
          simp [show q - off < k by omega]
        · rw [if_neg hin, if_neg hin]
          exact h3
      · rw [if_neg hq]
        simp [cellsOf, hq]
theorem wpList_fill {ops : Array Oper} {rest : List Oper} {o : Oper} {a : Act} {Q : Exit → Act → World → Prop} {w : World} (hgd : o.guard = none) (d s : Operand) (dT sT : TypeId) (ho : o.op = .call { callee := .builtin .copy, args := #[d, s], argTypes := #[dT, sT] })
    (elem : TypeId) (hu : P.underlying dT = some (.slice elem)) (hsz : (P.info? elem).map (·.size) = some 1) {base t n c G off dL dC S so sL sC : Nat} {F : Nat → Nat → Value} {X : Nat → Value} (hd : a.eval d = .slice (some ⟨G, off, none⟩) dL dC) (hs : a.eval s = .slice (some ⟨S, so, none⟩) sL sC) (h : Own w base t 1 (.slice (some ⟨G, 0, none⟩) n c) n F)
    (hfit : off + Nat.min sL dL ≤ n) (hsrc : ∀ j, j < Nat.min sL dL → w.cell? ⟨S, so + j, none⟩ = some (X j)) (h1 : ∀ j, (X j).oneCell' = true) (k : Nat) (hk : Nat.min sL dL = k)
    (hK : ∀ w', Own w' base t 1 (.slice (some ⟨G, 0, none⟩) n c) n (fun i j => if off ≤ i ∧ i < off + k then X (i - off) else F i j) → w.grownBy w' (some G) → wpList P ops Q rest (a.put o.dst (goInt k)) w') : wpList P ops Q (o :: rest) a w := by
  refine wpList_plain hgd fun K hK' => ?_
  obtain ⟨w', hr, h2, h3⟩ := run_fill (P := P) w dT sT o.type elem hu hsz (dC := dC) (sC := sC) h hfit hsrc h1
  rw [hk] at hr h2
  unfold Oper.wp execOp
  simp only [ho, resolve, invoke, builtin, Sem.run_bind, Sem.run_pure, Result.andThen_ok, List.map_toArray, List.map_cons, List.map_nil, hs, hd, hr]
  exact hK' _ _ (hK w' h2 h3)
theorem step_fill {ops : Array Oper} {o : Oper} {a : Act} {K : Act → World → Prop} {Q : Exit → Act → World → Prop} {E : Prop} {w : World} (hgd : o.guard = none) (d s : Operand) (dT sT : TypeId) (ho : o.op = .call { callee := .builtin .copy, args := #[d, s], argTypes := #[dT, sT] })
    (elem : TypeId) (hu : P.underlying dT = some (.slice elem)) (hsz : (P.info? elem).map (·.size) = some 1) {base t n c G off dL dC S so sL sC : Nat} {F : Nat → Nat → Value} {X : Nat → Value} (hd : a.eval d = .slice (some ⟨G, off, none⟩) dL dC) (hs : a.eval s = .slice (some ⟨S, so, none⟩) sL sC) (h : Own w base t 1 (.slice (some ⟨G, 0, none⟩) n c) n F)
    (hfit : off + Nat.min sL dL ≤ n) (hsrc : ∀ j, j < Nat.min sL dL → w.cell? ⟨S, so + j, none⟩ = some (X j)) (h1 : ∀ j, (X j).oneCell' = true) (k : Nat) (hk : Nat.min sL dL = k)
    (hK : ∀ w', Own w' base t 1 (.slice (some ⟨G, 0, none⟩) n c) n (fun i j => if off ≤ i ∧ i < off + k then X (i - off) else F i j) → w.grownBy w' (some G) → K (a.put o.dst (goInt k)) w') :
    if Region.wanted o (yielded ops a.tmps) = true then Oper.wp P o a w K Q else E := by
  have hw : Region.wanted o (yielded ops a.tmps) = true := by simp [Region.wanted, hgd]
  rw [if_pos hw]
  obtain ⟨w', hr, h2, h3⟩ := run_fill (P := P) w dT sT o.type elem hu hsz (dC := dC) (sC := sC) h hfit hsrc h1
  rw [hk] at hr h2
  unfold Oper.wp execOp
  simp only [ho, resolve, invoke, builtin, Sem.run_bind, Sem.run_pure, Result.andThen_ok, List.map_toArray, List.map_cons, List.map_nil, hs, hd, hr]
  exact hK w' h2 h3
end
theorem int_one : (Tryd.prog.info? 3).map (·.size) = some 1 := by kernel_rfl
/-- the row that Repeat makes, filled up to m -/
def fillF (x : Int) (m : Nat) : Nat → Int := fun i => if i < m then x else 0
theorem mul_one_any (n : Nat) (hn : n ≤ 1048576) (W : World) : Calls Tryd.prog 86 #[.int .u64 1, .int .u64 (n : Int)] W fun e w' => e = .returned (.tuple #[.int .u64 0, .int .u64 (n : Int)]) ∧ w' = W := by
  have h := Tryd.bits_Mul 1 n (by omega) (by omega) W
  rw [Nat.one_mul, Nat.div_eq_of_lt (by omega), Nat.mod_eq_of_lt (by omega)] at h
  exact h
set_option maxRecDepth 100000 in
set_option maxHeartbeats 3200000 in
theorem repeat_any (g c n : Nat) (x : Int) (w : World) (hx : Blk w g 3 #[.int .i64 x]) (h1 : 1 ≤ n) (hn : n ≤ 1048576) :
    Calls Tryd.prog 65 #[.slice (some ⟨g, 0, none⟩) 1 c, .int .i64 (n : Int)] w fun e w' => ∃ v, e = .returned v ∧ Own w' w.heap.size 3 1 v n (ints fun _ => x) ∧ Below w.heap.size w w' := by
  have HX := Lib.hid hx
  have HM := Lib.hid (mul_one_any n hn)
  have hgl := hx.lt
  obtain ⟨i0, hi, hz0, hz1, hz2⟩ := info_parts int_info
  have MI := Lib.hid (And.intro hi (And.intro hz0 (And.intro hz1 hz2)))
  clear hx hi hz0 hz1 hz2
  go_enter Tryd.func65, Tryd.ntmps65
  go_upto_region 7 with (first
    | (go_at_call 86; refine (HM.out _).mono ?_; rintro e w1 ⟨rfl, rfl⟩)
    | (at_make; refine wpList_make_full _ rfl (.tmp 29) (.tmp 29) 22 rfl w1.heap.size 3 i0 (.int .i64 0) 1 Tryd.underlying22 MI.out.1 MI.out.2.1 MI.out.2.2.1 .i64 .i64 n n n rfl rfl rfl rfl (by rw [MI.out.2.2.2]; omega) (by unfold maxLen; omega) (Nat.le_refl _) ?_; intro w3 hm hg3; have HM3 := Lib.hid (own_made hm); have HG3 := Lib.hid (grown_below hg3); clear hm hg3))
  go_wp2_with ((refine wpList_fill rfl (.tmp 31) (.tmp 32) 22 22 rfl 3 Tryd.underlying22 int_one (off := 0) (so := 0) (X := fun _ => .int .i64 x) rfl rfl HM3.out (by rw [Nat.zero_add]; exact Nat.min_le_right _ _) (fun j hj => by
        obtain rfl : j = 0 := by have := Nat.lt_of_lt_of_le hj (Nat.min_le_left _ _); omega
        exact (HX.out.below' HG3.out).cell 0) (fun _ => rfl) 1 (Nat.min_eq_left h1) ?_); intro w4 o4 g4; have O4 := Lib.hid (o4.congr (F' := ints (fillF x 1)) (fun i j hi _ => by unfold ints fillF; by_cases e : i = 0 <;> simp [e])); have HB4 := Lib.hid (Below.grown HG3.out g4 HG3.out.size (fun q hq => by injection hq with hq; omega)); clear o4 g4)
  have hbase : w1.heap.size < w4.heap.size := (O4.out.block rfl).2
  obtain ⟨S, hS⟩ : ∃ S, S = w1.heap.size := ⟨_, rfl⟩
  have HS := Lib.hid hS
  rw [← hS] at O4 hbase
  rw [← hS]
  clear hS
  go_loopw [8] (fun m wr => ∃ k : Nat, 1 ≤ k ∧ k ≤ n ∧ m = .int .i64 k ∧ Own wr S 3 1 (.slice (some ⟨S, 0, none⟩) n n) n (ints (fillF x k)) ∧ Below S w1 wr) (fun m _ => n - (intOf m).toNat)
  case atStart => exact ⟨1, Nat.le_refl _, h1, rfl, O4.out, by rw [HS.out]; exact HB4.out⟩
  case round =>
    obtain ⟨k, hk1, hk, rfl, ho, hbw⟩ := hrel
    have HO := Lib.hid ho
    have HW := Lib.hid hbw
    have hSr : S < wr.heap.size := (ho.block rfl).2
    clear ho hbw
    by_cases hlt : k < n
    · obtain ⟨q, hq⟩ : ∃ q, q = Nat.min k (n - k) := ⟨_, rfl⟩
      have hq1 : k + q ≤ n ∧ 1 ≤ q := by
        rcases Nat.le_total k (n - k) with h | h
        · have : q = k := hq.trans (Nat.min_eq_left h); omega
        · have : q = n - k := hq.trans (Nat.min_eq_right h); omega
      have hqk : q ≤ k := by rw [hq]; exact Nat.min_le_left _ _
      have HQ := Lib.hid hq
      clear hq
      have hkn : ¬ n = k := by omega
      have hwr : IntKind.i64.wrap ((k : Int) + (q : Int)) = (k : Int) + (q : Int) := by rw [IntKind.wrap_i64]; omega
      go_upto_region 9 with fail
      refine wp_region_T 8 (fun _ => True) (by kernel_rfl) trivial ?_
      intro hS
      refine wpAnyT_take (i := 0) (v := ?_) rfl (by kernel_rfl) (by kernel_rfl) (by kernel_rfl) (by kernel_rfl) (by kernel_rfl) (fun _ _ _ h => h) (.inl ⟨by rfl, ?_⟩) hS ?_
      rotate_left
      · (intro w hw; have h1 := hw; go_simp; try with_reducible rfl)
      try simp only [Act.put, List.setIfInBounds_toArray, List.set_cons_zero, List.set_cons_succ]
      refine wpAnyT_take (i := 1) (v := ?_) rfl (by kernel_rfl) (by kernel_rfl) (by kernel_rfl) (by kernel_rfl) (by kernel_rfl) (fun _ _ _ h => h) (.inl ⟨by rfl, ?_⟩) hS ?_
      rotate_left
      · (intro w hw; have h1 := hw; go_simp; try with_reducible rfl)
      try simp only [Act.put, List.setIfInBounds_toArray, List.set_cons_zero, List.set_cons_succ]
      refine wpAnyT_take (i := 2) (v := ?_) rfl (by kernel_rfl) (by kernel_rfl) (by kernel_rfl) (by kernel_rfl) (by kernel_rfl) (fun _ _ _ h => h) (.inl ⟨by rfl, ?_⟩) hS ?_
      rotate_left
      · (intro w hw; have h1 := hw; go_simp; try with_reducible rfl)
      try simp only [Act.put, List.setIfInBounds_toArray, List.set_cons_zero, List.set_cons_succ]
      refine wpAnyT_take (i := 3) (v := ?_) rfl (by kernel_rfl) (by kernel_rfl) (by kernel_rfl) (by kernel_rfl) (by kernel_rfl) (fun _ _ _ h => h) (.inl ⟨by rfl, ?_⟩) hS ?_
      rotate_left
      · (intro w hw; have h1 := hw; go_simp; try with_reducible rfl)
      try simp only [Act.put, List.setIfInBounds_toArray, List.set_cons_zero, List.set_cons_succ]
      refine wpAnyT_take (i := 4) (v := ?_) rfl (by kernel_rfl) (by kernel_rfl) (by kernel_rfl) (by kernel_rfl) (by kernel_rfl) (fun _ _ _ h => h) (.inl ⟨by rfl, ?_⟩) hS ?_
      rotate_left
      · (intro w hw; have h1 := hw; go_simp; try with_reducible rfl)
      try simp only [Act.put, List.setIfInBounds_toArray, List.set_cons_zero, List.set_cons_succ]
      refine wpAnyT_take (i := 5) (v := ?_) rfl (by kernel_rfl) (by kernel_rfl) (by kernel_rfl) (by kernel_rfl) (by kernel_rfl) (fun _ _ _ h => h) (.inl ⟨by rfl, ?_⟩) hS ?_
      rotate_left
      · (intro w hw; have h1 := hw; go_simp; try with_reducible rfl)
      try simp only [Act.put, List.setIfInBounds_toArray, List.set_cons_zero, List.set_cons_succ]
      refine wpAnyT_take (i := 6) (v := ?_) rfl (by kernel_rfl) (by kernel_rfl) (by kernel_rfl) (by kernel_rfl) (by kernel_rfl) (fun _ _ _ h => h) (.inl ⟨by rfl, ?_⟩) hS ?_
      rotate_left
      · (intro w hw; have h1 := hw; go_simp; try with_reducible rfl)
      try simp only [Act.put, List.setIfInBounds_toArray, List.set_cons_zero, List.set_cons_succ]
      refine wpAnyT_one (i := 7) (by kernel_rfl) rfl ?_
      intro K hK
      refine step_fill (by rfl) (.tmp 41) (.tmp 44) 22 22 (by rfl) 3 Tryd.underlying22 int_one (off := k) (so := 0) (X := fun _ => .int .i64 x) (by rfl) (by rfl) HO.out.drew (by rw [← HQ.out]; omega) (fun j hj => by
        rw [← HQ.out] at hj
        rw [Nat.zero_add]
        refine (HO.out.drew.cell1 (i := j) (by omega)).trans ?_
        unfold ints fillF
        rw [if_pos (by omega)]) (fun _ => rfl) q HQ.out.symm ?_
      intro w5 o5 g5
      refine hK.out _ _ (.inr trivial) ?_
      clear hK K hS
      try simp only [Act.put, List.setIfInBounds_toArray, List.set_cons_zero, List.set_cons_succ]
      refine wpAnyT_one (i := 8) (by kernel_rfl) rfl ?_
      intro K hK
      go_simp
      refine hK.out _ _ (.inl rfl) ?_
      clear hK K
      refine wpAnyT_one (i := 9) (by kernel_rfl) rfl ?_
      intro K hK
      go_simp
      refine hK.out _ _ (.inl rfl) ?_
      clear hK K
      refine wpAnyT_done (by kernel_rfl) ?_ _
      have O5 := Lib.hid (o5.congr (F' := ints (fillF x (k + q))) (fun i j hi _ => by
        unfold ints fillF
        by_cases e : k ≤ i ∧ i < k + q
        · rw [if_pos e, if_pos (by omega)]
        · rw [if_neg e]
          by_cases e2 : i < k
          · rw [if_pos e2, if_pos (by omega)]
          · rw [if_neg e2, if_neg (by omega)]))
      have HB5 := Lib.hid (Below.grown HW.out.drew g5 (Nat.le_of_lt hSr) (fun q hq => by injection hq with hq; omega))
      clear o5 g5
      go_wp2_with fail
      go_roundw
      case rel => exact ⟨k + q, by omega, hq1.1, by go_num, O5.out, HB5.out⟩
      case measure => simp [intOf]; omega
    · obtain rfl : k = n := by omega
      go_wp2_with fail
      go_ret
      exact ⟨_, rfl, by rw [← HS.out]; exact HO.out.congr (fun i j hi _ => by unfold ints fillF; rw [if_pos hi]), by rw [← HS.out]; exact HW.out⟩
end Go.Proofs.YtkdpmihdhiokkaaDoor
