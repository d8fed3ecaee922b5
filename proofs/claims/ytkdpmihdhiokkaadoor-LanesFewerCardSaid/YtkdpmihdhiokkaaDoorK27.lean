/- lanes.Block, where the chart, the legs and the trip are valid. -/
import Derived.Test.YtkdpmihdhiokkaaDoorK25
namespace Go.Proofs.YtkdpmihdhiokkaaDoor
open Go.RowKit

theorem neq_nil (W : World) (a : Option Addr) (l c : Nat) : (binOp .neq 22 (.slice a l c) (.slice none 0 0)).run Tryd.prog W = .ok (.bool (!a.isNone)) W := by
  simp only [binOp]
  simp [Op.equal, Op.maxDepth, Lib.run_equalIn_slice_nil W 9999 22 3 a l c 0 0 Tryd.underlying22]
theorem RouteV.nil_ {s : M.Sea} {L : Nat → M.Leg} {n : Nat} {r : M.Trip} {base : Nat} {v : Value} {w : World} (h : RouteV s L n r base v w) (hh : M.hasR s L n r = false) : v = .slice none 0 0 := h.no (by unfold M.hasR at hh; exact of_decide_eq_false hh)
theorem RouteV.some_ {s : M.Sea} {L : Nat → M.Leg} {n : Nat} {r : M.Trip} {base : Nat} {v : Value} {w : World} (h : RouteV s L n r base v w) (hh : M.hasR s L n r = true) : ∃ a k c, v = .slice (some a) k c := by
  obtain ⟨g, c, rfl⟩ := (h.yes (by unfold M.hasR at hh; exact of_decide_eq_true hh)).nz (Nat.succ_pos _)
  exact ⟨_, _, _, rfl⟩
theorem grown_cell {w w' : World} {row : Option Nat} (hg : w.grownBy w' row) {p : Addr} {v : Value} (h : w.cell? p = some v) (hp : some p.block ≠ row) : w'.cell? p = some v := by
  have hb := hg.block p.block (World.block_lt_of_cell? w p h) hp
  unfold World.cell? at h ⊢
  rw [hb]
  exact h
theorem leg_temp (W : World) (l : M.Leg) (u : Value) : ∀ j, j < 5 → (W.drew.alloc (.cells #[.int .i64 l.at_, .int .i64 l.lv, .int .i64 l.dr, .bool l.tail, u] 41)).cell? ⟨W.heap.size, j, none⟩ = some (legRow l u j) := by
  intro j hj
  refine ((Blk.new W.drew 41 #[.int .i64 l.at_, .int .i64 l.lv, .int .i64 l.dr, .bool l.tail, u]).cell j).trans ?_
  obtain rfl | rfl | rfl | rfl | rfl : j = 0 ∨ j = 1 ∨ j = 2 ∨ j = 3 ∨ j = 4 := by omega
  all_goals rfl
theorem leg_info : (Tryd.prog.info? 41).map (fun i => (i.zero, i.size, i.bytes)) = some (some (.agg #[.int .i64 0, .int .i64 0, .int .i64 0, .bool false, .slice none 0 0]), 5, 56) := by kernel_rfl
namespace M
/-- the legs that stay, as numbers -/
def leftI (s : Sea) (L : Nat → Leg) (n : Nat) (r : Trip) (i : Nat) : List Int := (leftL s L n r i).map fun x : Nat => (x : Int)
def lessL (s : Sea) (L : Nat → Leg) (n : Nat) (r : Trip) (i : Nat) : List Nat := keep s L n r i ++ List.range' (i + 1) (n - (i + 1))
def blockI (s : Sea) (L : Nat → Leg) (n : Nat) (r : Trip) : List Int := if hasR s L n r then [] else (keep s L n r n).map fun x : Nat => (x : Int)
section
variable {s : Sea} {L : Nat → Leg} {n : Nat} {r : Trip}
theorem keep_len : ∀ i, (keep s L n r i).length ≤ i
  | 0 => Nat.le_refl _
  | i + 1 => by
    have := keep_len i
    simp only [keep]
    split
    · simp; omega
    · omega
theorem leftI_len {i : Nat} (hi : i ≤ n) : (leftI s L n r i).length ≤ n := by
  have := keep_len (s := s) (L := L) (n := n) (r := r) i
  unfold leftI leftL
  simp
  omega
theorem leftI_pos {i : Nat} (hi : i < n) : 0 < (leftI s L n r i).length := by
  unfold leftI leftL
  simp
  omega
theorem lessL_lt {i x : Nat} (hi : i < n) (h : x ∈ lessL s L n r i) : x < n := by
  unfold lessL at h
  rw [List.mem_append] at h
  rcases h with h | h
  · have := keep_lt h; omega
  · rw [List.mem_range'_1] at h; omega
theorem lessL_len {i : Nat} (hi : i ≤ n) : (lessL s L n r i).length ≤ n := by
  have := keep_len (s := s) (L := L) (n := n) (r := r) i
  unfold lessL
  simp
  omega
theorem leftI_filter {i : Nat} (hi : i < n) : (leftI s L n r i).filter (fun x => !(x == (i : Int))) = (lessL s L n r i).map fun x : Nat => (x : Int) := by
  unfold leftI leftL lessL
  rw [show n - i = (n - (i + 1)) + 1 by omega, List.range'_succ]
  rw [List.filter_map, List.filter_append, List.filter_cons]
  congr 1
  have h1 : (keep s L n r i).filter ((fun x : Int => !(x == (i : Int))) ∘ fun x : Nat => (x : Int)) = keep s L n r i := by
    rw [List.filter_eq_self]
    intro x hx
    have := keep_lt hx
    simp
    omega
  have h2 : (List.range' (i + 1) (n - (i + 1))).filter ((fun x : Int => !(x == (i : Int))) ∘ fun x : Nat => (x : Int)) = List.range' (i + 1) (n - (i + 1)) := by
    rw [List.filter_eq_self]
    intro x hx
    rw [List.mem_range'_1] at hx
    simp
    omega
  rw [h1, h2]
  simp
theorem leftI_zero : leftI s L n r 0 = (List.range' 0 n).map fun x : Nat => (x : Int) := by unfold leftI leftL; simp [keep]
theorem leftI_succ {i : Nat} (hi : i < n) : leftI s L n r (i + 1) = if hasS s L r (lessL s L n r i) then leftI s L n r i else (lessL s L n r i).map fun x : Nat => (x : Int) := by
  unfold leftI
  rw [left_succ hi]
  unfold lessL
  split <;> rfl
end
end M
section
variable (s : M.Sea) (dA tA sA lA : Option Addr) (dc tc sc ln lc B : Nat) (L : Nat → M.Leg) (w : World)
set_option maxRecDepth 100000 in
set_option maxHeartbeats 6400000 in
theorem Block_ok (at_ lv dr fr dst : Int) (tl : Bool) (hs : s.Ok) (hw : Ways w) (hR : RdC w B dA tA sA s.nd s.nt s.nt s.dep s.tide s.sw) (hB : B ≤ w.heap.size) (hL : RdL w B lA ln L) (hln : ln ≤ 1048576) (hlo : M.legsOk s ln L = true) (hto : M.tripOk s ⟨at_, lv, dr, tl, fr, dst⟩ = true) :
    Calls Tryd.prog 31 #[.agg #[.int .i64 (s.W : Int), .int .i64 (s.H : Int), .slice dA s.nd dc, .slice tA s.nt tc, .slice sA s.nt sc], .slice lA ln lc, .agg #[.int .i64 at_, .int .i64 lv, .int .i64 dr, .bool tl, .int .i64 fr, .int .i64 dst]] w fun e w' =>
      (∃ v, e = .returned (.tuple #[v, .int .i64 (if M.hasR s L ln ⟨at_, lv, dr, tl, fr, dst⟩ then 3 else 0)]) ∧ Own w' w.heap.size 3 1 v (M.blockI s L ln ⟨at_, lv, dr, tl, fr, dst⟩).length (lst (M.blockI s L ln ⟨at_, lv, dr, tl, fr, dst⟩))) ∧ Below w.heap.size w w' := by
  have hok : ∀ i, i < ln → M.LegOk s (L i) := fun i hi => by
    unfold M.legsOk at hlo
    simp only [Bool.and_eq_true] at hlo
    exact M.legOk_iff.1 (M.allTo_iff.1 hlo.2 i hi)
  have hl12 : ln ≤ 12 := by
    unfold M.legsOk at hlo
    simp only [Bool.and_eq_true, decide_eq_true_eq] at hlo
    exact hlo.1
  have HB0 := Lib.hid (belowAlloc2 w (.cells #[.int .i64 (s.W : Int), .int .i64 (s.H : Int), .slice dA s.nd dc, .slice tA s.nt tc, .slice sA s.nt sc] 25) (.cells #[.int .i64 at_, .int .i64 lv, .int .i64 dr, .bool tl, .int .i64 fr, .int .i64 dst] 28))
  have P0 := Lib.hid (Blk.new1 w (.cells #[.int .i64 (s.W : Int), .int .i64 (s.H : Int), .slice dA s.nd dc, .slice tA s.nt tc, .slice sA s.nt sc] 25) 28 #[.int .i64 at_, .int .i64 lv, .int .i64 dr, .bool tl, .int .i64 fr, .int .i64 dst])
  have C0 := Lib.hid ((Blk.new w 25 #[.int .i64 (s.W : Int), .int .i64 (s.H : Int), .slice dA s.nd dc, .slice tA s.nt tc, .slice sA s.nt sc]).alloc (.cells #[.int .i64 at_, .int .i64 lv, .int .i64 dr, .bool tl, .int .i64 fr, .int .i64 dst] 28))
  obtain ⟨Y, hY⟩ : ∃ Y, Y = (w.alloc (.cells #[.int .i64 (s.W : Int), .int .i64 (s.H : Int), .slice dA s.nd dc, .slice tA s.nt tc, .slice sA s.nt sc] 25)).alloc (.cells #[.int .i64 at_, .int .i64 lv, .int .i64 dr, .bool tl, .int .i64 fr, .int .i64 dst] 28) := ⟨_, rfl⟩
  have HYe := Lib.hid hY
  rw [← hY] at HB0 P0 C0
  have HA := Lib.hid (ask_ok s dA tA sA lA dc tc sc ln lc B L Y at_ lv dr fr dst tl hs (⟨hw.1.below (HB0.out.mono hw.2), Nat.lt_of_lt_of_le hw.2 HB0.out.size⟩) (hR.below (HB0.out.mono hB)) (Nat.le_trans hB HB0.out.size) (hL.below (HB0.out.mono hB)) hln hlo hto)
  have HRO := Lib.hid (fun W x base A n c L' (ht : TrK W base x s.nd s dA tA sA A dc tc sc n c) (hb : Below w.heap.size w W) (hl' : RdL W W.heap.size A n L') (hn : n ≤ 1048576) (hok' : ∀ i, i < n → M.LegOk s (L' i)) => route_any s dA tA sA A dc tc sc n c W.heap.size base x L' W at_ lv dr fr dst tl hs ht ((hR.below (hb.mono hB)).more (Nat.le_trans hB hb.size)) (Nat.le_refl _) hl' hn hok' hto)
  have HRL := Lib.hid (fun W (hb : Below w.heap.size w W) => hL.below (hb.mono hB))
  have HBB := Lib.hid hB
  have HOK := Lib.hid hok
  obtain ⟨r, hr⟩ : ∃ r : M.Trip, r = ⟨at_, lv, dr, tl, fr, dst⟩ := ⟨_, rfl⟩
  rw [← hr] at HRO
  rw [← hr]
  have c0 := C0.out.cell 0
  have c1 := C0.out.cell 1
  have c2 := C0.out.cell 2
  have c3 := C0.out.cell 3
  have c4 := C0.out.cell 4
  have p0 := P0.out.cell 0
  have p1 := P0.out.cell 1
  have p2 := P0.out.cell 2
  have p3 := P0.out.cell 3
  have p4 := P0.out.cell 4
  have p5 := P0.out.cell 5
  have hn0 := nil_nil
  have hn1 := some_nil
  have hn2 := neq_nil
  obtain ⟨i0, hi, hz0, hz1, hz2⟩ := info_parts int_info
  have MI := Lib.hid (And.intro hi (And.intro hz0 (And.intro hz1 hz2)))
  obtain ⟨j0, ji, jz0, jz1, jz2⟩ := info_parts leg_info
  have MJ := Lib.hid (And.intro ji (And.intro jz0 (And.intro jz1 jz2)))
  clear hi hz0 hz1 hz2 ji jz0 jz1 jz2
  obtain ⟨hv0, hhv⟩ : ∃ hv0, hv0 = M.hasR s L ln r := ⟨_, rfl⟩
  have HBI := Lib.hid (show M.blockI s L ln r = if hv0 then [] else (M.keep s L ln r ln).map fun x : Nat => (x : Int) by rw [hhv]; rfl)
  have HHV := Lib.hid hhv
  rw [← hhv]
  have HEND := Lib.hid (show hv0 = false → M.leftI s L ln r ln = M.blockI s L ln r from fun h => by
    rw [hhv] at h
    unfold M.blockI M.leftI
    rw [h, M.left_end]
    rfl)
  clear hhv
  clear hY hs hw hR hL hlo hto hok hr hB
  go_enter Tryd.func31, Tryd.ntmps31
  go_upto_region 1 with fail
  rw [← HYe.out]
  clear HYe
  go_upto_region 4 with (go_at_call 37; go_must (refine HA.out.mono ?_); rintro e w1 ⟨⟨x, rfl, hx⟩, hb1⟩; have HX := Lib.hid (hx.less HB0.out.size); have HB1 := Lib.hid (HB0.out.trans (hb1.mono HB0.out.size)); have HBY := Lib.hid hb1; clear hx hb1)
  clear c0 c1 c2 c3 c4 p0 p1 p2 p3 p4 p5
  have P1 := Lib.hid (P0.out.below' HBY.out)
  have p0 := P1.out.cell 0
  have p1 := P1.out.cell 1
  have p2 := P1.out.cell 2
  have p3 := P1.out.cell 3
  have p4 := P1.out.cell 4
  have p5 := P1.out.cell 5
  have HR1 := Lib.hid (HRO.out w1 x _ _ _ _ L HX.out HB1.out ((HRL.out _ HB1.out).more (Nat.le_trans HBB.out HB1.out.size)) hln HOK.out)
  cases hv0
  rotate_left
  · go_wp2_with (go_at_call 38; go_must (refine HR1.out.mono ?_); rintro e w2 ⟨⟨v, rfl, hv⟩, hb2⟩; have HB2 := Lib.hid (HB1.out.trans (hb2.mono HB1.out.size)); obtain ⟨a, vn, vc, hvf⟩ := RouteV.some_ hv HHV.out.symm; subst hvf; clear hv hb2)
    go_ret2
    exact ⟨⟨_, rfl, by rw [HBI.out]; exact Own.nil_⟩, HB2.out⟩
  · go_upto_region 6 with (go_at_call 38; go_must (refine HR1.out.mono ?_); rintro e w2 ⟨⟨v, rfl, hv⟩, hb2⟩; have HB2 := Lib.hid (HB1.out.trans (hb2.mono HB1.out.size)); have P2 := Lib.hid (P1.out.below' hb2); have X2 := Lib.hid (HX.out.below hb2); have hvf := RouteV.nil_ hv HHV.out.symm; subst hvf; clear hv hb2)
    clear p0 p1 p2 p3 p4 p5
    obtain ⟨Z, rfl⟩ : ∃ Z, Z = w2 := ⟨_, rfl⟩
    have hzZ := HB2.out.size
    go_wp2_with fail
    go_loopw [10, 32] (fun v i wr => ∃ k : Nat, k ≤ ln ∧ i = .int .i64 (k : Int) ∧ Own wr Z.heap.size 3 1 v k (ints fun i => (i : Int)) ∧ Below Z.heap.size Z wr) (fun _ i _ => ln - (intOf i).toNat)
    case atStart => exact ⟨0, Nat.zero_le _, rfl, Own.nil_, Below.refl _ _⟩
    case round =>
      obtain ⟨k, hk, rfl, ho, hbw⟩ := hrel
      obtain ⟨A, c, rfl⟩ := ho.form
      have HO := Lib.hid ho
      have HW := Lib.hid hbw
      have hz := hbw.size
      clear ho hbw
      by_cases hlt : k < ln
      · go_wp2_with (at_builtin; go_must (refine wpList_app rfl (.tmp 35) (.tmp 37) 22 rfl Z.heap.size 3 1 8 Tryd.underlying22 MI.out.1 MI.out.2.1 MI.out.2.2.1 MI.out.2.2.2 rfl (by decide) (by decide) (HO.out.alloc _) rfl (by omega) (by simp; omega) wr.heap.size 1 (fun _ => .int .i64 (k : Int)) rfl (cell_last rfl) (fun _ _ => rfl) ?_); intro v7 w7 o7 hg7 hat7; have HO7 := Lib.hid o7; have HG7 := Lib.hid hg7; clear o7 hg7 hat7)
        go_roundw
        case rel => exact ⟨k + 1, by omega, by go_num, HO7.out.congr (fun i j hi hj => by
          unfold upd ints
          by_cases e : i = k
          · subst e; simp
          · simp [e]), (HW.out.alloc hz (.cells #[.int .i64 (k : Int)] 3)).grown HG7.out (by simp; omega) (fun g hg => (HO.out.block hg).1)⟩
        case measure => simp [intOf]; omega
      · obtain rfl : k = ln := by omega
        have hl0 : (M.leftI s L k r 0).length = k := by rw [M.leftI_zero]; simp
        have HO1 := Lib.hid (show Own wr w.heap.size 3 1 (.slice A k c) (M.leftI s L k r 0).length (lst (M.leftI s L k r 0)) by
          rw [hl0]
          refine (HO.out.less hzZ).congr fun i j hi _ => ?_
          show Value.int .i64 (i : Int) = Value.int .i64 ((M.leftI s L k r 0).getD i 0)
          rw [M.leftI_zero, List.getD_eq_getElem?_getD, List.getElem?_map, List.getElem?_range' hi]
          simp)
        have X3 := Lib.hid (X2.out.below HW.out)
        have P3 := Lib.hid (P2.out.below' HW.out)
        have HB3 := Lib.hid (HB2.out.trans (HW.out.mono hzZ))
        clear HO X2 P2 hl0
        generalize hA0 : (.slice A k c : Value) = v0 at HO1 ⊢
        clear hA0
        go_wp2_with fail
        go_loopw [10, 42] (fun v i wq => ∃ j : Nat, j ≤ k ∧ i = .int .i64 (j : Int) ∧ Own wq w.heap.size 3 1 v (M.leftI s L k r j).length (lst (M.leftI s L k r j)) ∧ (∃ A' n' c', TrK wq w.heap.size x s.nd s dA tA sA A' dc tc sc n' c') ∧ Blk wq (w.heap.size + 1) 28 #[.int .i64 at_, .int .i64 lv, .int .i64 dr, .bool tl, .int .i64 fr, .int .i64 dst] ∧ Below w.heap.size w wq) (fun _ i _ => k - (intOf i).toNat)
        case atStart => exact ⟨0, Nat.zero_le _, rfl, HO1.out, ⟨_, _, _, X3.out⟩, P3.out, HB3.out⟩
        case round =>
          obtain ⟨j, hj, rfl, ho, ⟨A', n', c', ht⟩, hp, hbw⟩ := hrel
          obtain ⟨Al, cl, rfl⟩ := ho.form
          have HO := Lib.hid ho
          have HT := Lib.hid ht
          have HP := Lib.hid hp
          have HWq := Lib.hid hbw
          have hzq := hbw.size
          clear ho ht hp hbw
          obtain ⟨wo, rfl⟩ : ∃ wo, wo = wr := ⟨_, rfl⟩
          by_cases hlt2 : j < k
          · have hpos := M.leftI_pos (s := s) (L := L) (n := k) (r := r) hlt2
            have hle := M.leftI_len (s := s) (L := L) (n := k) (r := r) hj
            obtain ⟨LI, hLI⟩ : ∃ LI, LI = M.leftI s L k r j := ⟨_, rfl⟩
            obtain ⟨LN, hLN⟩ : ∃ LN, LN = M.lessL s L k r j := ⟨_, rfl⟩
            have HLS := Lib.hid (show M.leftI s L k r (j + 1) = if M.hasS s L r LN then LI else LN.map fun x : Nat => (x : Int) by rw [hLI, hLN]; exact M.leftI_succ hlt2)
            have HLT := Lib.hid (show ∀ y, y ∈ LN → y < k from fun y hy => by rw [hLN] at hy; exact M.lessL_lt hlt2 hy)
            have HFI := Lib.hid (show LI.filter (fun x => !(x == (j : Int))) = LN.map fun x : Nat => (x : Int) by rw [hLI, hLN]; exact M.leftI_filter hlt2)
            have hln2 : LN.length ≤ k := by rw [hLN]; exact M.lessL_len hj
            rw [← hLI] at HO hpos hle
            rw [← hLI]
            clear hLI hLN
            have HA1 := Lib.hid (belowAlloc wo (.cells #[.int .i64 (j : Int)] 3))
            have T1 := Lib.hid (Blk.new wo 3 #[.int .i64 (j : Int)])
            have HCL := Lib.hid (clone_own LI w.heap.size cl Al (wo.alloc (.cells #[.int .i64 (j : Int)] 3)) (HO.out.alloc _) (by omega))
            go_upto_region 16 with (first
              | (go_at_call 61; refine HCL.out.mono ?_; rintro e w2 ⟨⟨v2, rfl, ho2⟩, hb2⟩; obtain ⟨g, c2, rfl⟩ := ho2.nz hpos; have HGB := Lib.hid (ho2.block rfl).1; have HB2 := Lib.hid (HA1.out.trans (hb2.mono HA1.out.size)); have HD := Lib.hid (del_own LI _ g c2 wo.heap.size j w2 ho2 (T1.out.below' hb2) (by have := (ho2.block rfl).1; simp at this; omega) (by omega)); rw [HFI.out] at HD; clear ho2 hb2)
              | (go_at_call 60; refine HD.out.mono ?_; rintro e w3 ⟨⟨v3, rfl, ho3⟩, hg3⟩; have O3 := Lib.hid (ho3.less (base' := w.heap.size) (by have := HA1.out.size; omega)); have HB3 := Lib.hid (Below.grown HB2.out hg3 HB2.out.size (fun q hq => by injection hq with hq; have := HGB.out; simp at this; omega)); clear ho3 hg3))
            have T3 := Lib.hid (HT.out.below HB3.out)
            have P3 := Lib.hid (HP.out.below' HB3.out)
            have OL3 := Lib.hid (HO.out.below HB3.out)
            have HW3 := Lib.hid (HWq.out.trans (HB3.out.mono hzq))
            obtain ⟨nA, nc, hx3, hbx⟩ := T3.out.blk
            have XB3 := Lib.hid hx3
            have x5 := hx3.cell 5
            have f5 := hx3.frz 5
            clear hx3
            have T4 := Lib.hid (T3.out.legs none 0 0)
            have O4 := Lib.hid (O3.out.setCell (p := ⟨x, 5, none⟩) (O3.out.ne_blk XB3.out (by decide)) (.slice none 0 0))
            have OL4 := Lib.hid (OL3.out.setCell (p := ⟨x, 5, none⟩) (OL3.out.ne_blk XB3.out (by decide)) (.slice none 0 0))
            have P4 := Lib.hid (P3.out.far (p := ⟨x, 5, none⟩) (blk_ne P3.out XB3.out (by decide)) (.slice none 0 0))
            have HW4 := Lib.hid (HW3.out.setCell (p := ⟨x, 5, none⟩) hbx (.slice none 0 0))
            go_upto_region 17 with fail
            clear x5 f5
            generalize w3.setCell ⟨x, 5, none⟩ (.slice none 0 0) = w4 at T4 O4 OL4 P4 HW4 ⊢
            obtain ⟨nA', nc', hx4b, _⟩ := T4.out.blk
            have XB4 := Lib.hid hx4b
            clear hx4b
            have hz4 := HW4.out.size
            have HLL := Lib.hid (show (LN.map fun x : Nat => (x : Int)).length = LN.length by simp)
            rw [HLL.out] at O4
            obtain ⟨A3, c3, rfl⟩ := O4.out.form
            go_wp2_with fail
            go_loopw [54] (fun i wq => ∃ m : Nat, m ≤ LN.length ∧ i = .int .i64 (m : Int) ∧ (∃ A4 c4, TrK wq w.heap.size x s.nd s dA tA sA A4 dc tc sc m c4 ∧ OwnL wq B w.heap.size (.slice A4 m c4) m (M.someL L LN)) ∧ KeepT 41 x w4 wq ∧ Below w.heap.size w wq) (fun i _ => LN.length - (intOf i).toNat)
            case atStart => exact ⟨0, Nat.zero_le _, rfl, ⟨none, 0, T4.out, OwnL.nil_⟩, KeepT.refl, HW4.out⟩
            case round =>
              obtain ⟨m, hm, rfl, ⟨A4, c4, ht, hol⟩, hkt, hbw⟩ := hrel
              have HT4 := Lib.hid ht
              have HOL := Lib.hid hol
              have HK := Lib.hid hkt
              have HW := Lib.hid hbw
              have hzr := hbw.size
              obtain ⟨nA4, nc4, hx4, hbx4⟩ := ht.blk
              have HX4 := Lib.hid hx4
              have O5 := Lib.hid (O4.out.keepT hkt (by decide) (O4.out.ne_blk XB4.out (by decide)))
              clear ht hol hkt hbw
              by_cases hlm : m < LN.length
              · obtain ⟨q, hq⟩ : ∃ q, q = LN.getD m 0 := ⟨_, rfl⟩
                have hqk : q < k := by
                  refine HLT.out q ?_
                  rw [hq, List.getD_eq_getElem?_getD, List.getElem?_eq_getElem hlm, Option.getD_some]
                  exact List.getElem_mem hlm
                obtain ⟨gl, cl', el⟩ := O5.out.nz (by omega)
                injection el with el1 _ el2
                subst el1; subst el2
                have y0 : wr.cell? ⟨gl, m, none⟩ = some (.int .i64 (q : Int)) := by
                  refine (O5.out.cell1 hlm).trans ?_
                  show some (Value.int .i64 ((LN.map fun x : Nat => (x : Int)).getD m 0)) = _
                  rw [hq, List.getD_eq_getElem?_getD, List.getD_eq_getElem?_getD, List.getElem?_map, List.getElem?_eq_getElem hlm]
                  rfl
                have HQ := Lib.hid hq
                clear hq
                have kx : decide (LN.length ≤ m) = false := decide_eq_false (by omega)
                have kq : decide (k ≤ q) = false := decide_eq_false (by omega)
                go_upto_region 20 with fail
                clear y0
                obtain ⟨b, off, rfl, hb, l0, l1, l2, l3, cA, cc, l4, hr, hm2⟩ := (HRL.out wr HW.out).at_ hqk
                obtain ⟨V4, hv1, hv2⟩ := HOL.out
                have HV1 := Lib.hid hv1
                have HV2 := Lib.hid hv2
                have HU := Lib.hid (show LegCells wr B w.heap.size (.slice cA (L q).n cc) (L q) from ⟨hm2, .inl ⟨cA, cc, rfl, hr⟩⟩)
                have HXN := Lib.hid (show some x ≠ (Value.slice A4 m c4).ownBlock from fun e => hv1.ne_blk hx4 (by decide) e.symm)
                have HBN := Lib.hid (show some b ≠ (Value.slice A4 m c4).ownBlock from fun e => by have := (hv1.block e.symm).1; have := HBB.out; omega)
                have HXB := Lib.hid (fun w7 (g7 : (wr.drew.alloc (.cells #[.int .i64 (L q).at_, .int .i64 (L q).lv, .int .i64 (L q).dr, .bool (L q).tail, .slice cA (L q).n cc] 41)).grownBy w7 (Value.slice A4 m c4).ownBlock) => (show Blk w7 x 107 _ from (hx4.alloc (w := wr) (.cells #[.int .i64 (L q).at_, .int .i64 (L q).lv, .int .i64 (L q).dr, .bool (L q).tail, .slice cA (L q).n cc] 41)).grown (w := wr.drew.alloc (.cells #[.int .i64 (L q).at_, .int .i64 (L q).lv, .int .i64 (L q).dr, .bool (L q).tail, .slice cA (L q).n cc] 41)) g7 HXN.out))
                have x5 := hx4.cell 5
                clear hv1 hv2 hr hx4
                refine wp_region_T 13 (fun w' => w'.cell? ⟨x, 5, none⟩ = some (.slice A4 m c4) ∧ w'.cell? ⟨b, off + q * 5, none⟩ = some (.int .i64 (L q).at_) ∧ w'.cell? ⟨b, off + q * 5 + 1, none⟩ = some (.int .i64 (L q).lv) ∧ w'.cell? ⟨b, off + q * 5 + 2, none⟩ = some (.int .i64 (L q).dr) ∧ w'.cell? ⟨b, off + q * 5 + 3, none⟩ = some (.bool (L q).tail) ∧ w'.cell? ⟨b, off + q * 5 + 4, none⟩ = some (.slice cA (L q).n cc)) (by kernel_rfl) ⟨x5, l0, l1, l2, l3, l4⟩ ?_
                intro hS
                refine wpAnyT_take (i := 0) (v := ?_) rfl (by kernel_rfl) (by kernel_rfl) (by kernel_rfl) (by kernel_rfl) (by kernel_rfl) (fun _ _ _ h => h) (.inl ⟨by kernel_rfl, ?_⟩) hS ?_
                rotate_left
                · (intro w' hw; obtain ⟨h1, h2, h3, h4, h5, h6⟩ := hw; go_simp; try with_reducible rfl)
                try simp only [put_laws]
                refine wpAnyT_take (i := 1) (v := ?_) rfl (by kernel_rfl) (by kernel_rfl) (by kernel_rfl) (by kernel_rfl) (by kernel_rfl) (fun _ _ _ h => h) (.inl ⟨by kernel_rfl, ?_⟩) hS ?_
                rotate_left
                · (intro w' hw; obtain ⟨h1, h2, h3, h4, h5, h6⟩ := hw; go_simp; try with_reducible rfl)
                try simp only [put_laws]
                refine wpAnyT_take (i := 2) (v := ?_) rfl (by kernel_rfl) (by kernel_rfl) (by kernel_rfl) (by kernel_rfl) (by kernel_rfl) (fun _ _ _ h => h) (.inl ⟨by kernel_rfl, ?_⟩) hS ?_
                rotate_left
                · (intro w' hw; obtain ⟨h1, h2, h3, h4, h5, h6⟩ := hw; go_simp; try with_reducible rfl)
                try simp only [put_laws]
                refine wpAnyT_take (i := 3) (v := ?_) rfl (by kernel_rfl) (by kernel_rfl) (by kernel_rfl) (by kernel_rfl) (by kernel_rfl) (fun _ _ _ h => h) (.inl ⟨by kernel_rfl, ?_⟩) hS ?_
                rotate_left
                · (intro w' hw; obtain ⟨h1, h2, h3, h4, h5, h6⟩ := hw; go_simp; try with_reducible rfl)
                try simp only [put_laws]
                refine wpAnyT_take (i := 4) (v := ?_) rfl (by kernel_rfl) (by kernel_rfl) (by kernel_rfl) (by kernel_rfl) (by kernel_rfl) (fun _ _ _ h => h) (.inl ⟨by kernel_rfl, ?_⟩) hS ?_
                rotate_left
                · (intro w' hw; obtain ⟨h1, h2, h3, h4, h5, h6⟩ := hw; go_simp; try with_reducible rfl)
                try simp only [put_laws]
                refine wpAnyT_take (i := 5) (v := ?_) rfl (by kernel_rfl) (by kernel_rfl) (by kernel_rfl) (by kernel_rfl) (by kernel_rfl) (fun _ _ _ h => h) (.inl ⟨by kernel_rfl, ?_⟩) hS ?_
                rotate_left
                · (intro w' hw; obtain ⟨h1, h2, h3, h4, h5, h6⟩ := hw; go_simp; try with_reducible rfl)
                try simp only [put_laws]
                refine wpAnyT_take (i := 6) (v := ?_) rfl (by kernel_rfl) (by kernel_rfl) (by kernel_rfl) (by kernel_rfl) (by kernel_rfl) (fun _ _ _ h => h) (.inl ⟨by kernel_rfl, ?_⟩) hS ?_
                rotate_left
                · (intro w' hw; obtain ⟨h1, h2, h3, h4, h5, h6⟩ := hw; go_simp; try with_reducible rfl)
                try simp only [put_laws]
                refine wpAnyT_take (i := 7) (v := ?_) rfl (by kernel_rfl) (by kernel_rfl) (by kernel_rfl) (by kernel_rfl) (by kernel_rfl) (fun _ _ _ h => h) (.inl ⟨by kernel_rfl, ?_⟩) hS ?_
                rotate_left
                · (intro w' hw; obtain ⟨h1, h2, h3, h4, h5, h6⟩ := hw; go_simp; try with_reducible rfl)
                try simp only [put_laws]
                refine wpAnyT_take (i := 8) (v := ?_) rfl (by kernel_rfl) (by kernel_rfl) (by kernel_rfl) (by kernel_rfl) (by kernel_rfl) (fun _ _ _ h => h) (.inl ⟨by kernel_rfl, ?_⟩) hS ?_
                rotate_left
                · (intro w' hw; obtain ⟨h1, h2, h3, h4, h5, h6⟩ := hw; go_simp; try with_reducible rfl)
                try simp only [put_laws]
                refine wpAnyT_one (i := 9) (by kernel_rfl) rfl ?_
                intro K' hK'
                go_simp
                have hS' := (show (wr.drew.alloc (.cells #[.int .i64 (L q).at_, .int .i64 (L q).lv, .int .i64 (L q).dr, .bool (L q).tail, .slice cA (L q).n cc] 41)).cell? ⟨x, 5, none⟩ = some (.slice A4 m c4) ∧ (wr.drew.alloc (.cells #[.int .i64 (L q).at_, .int .i64 (L q).lv, .int .i64 (L q).dr, .bool (L q).tail, .slice cA (L q).n cc] 41)).cell? ⟨b, off + q * 5, none⟩ = some (.int .i64 (L q).at_) ∧ (wr.drew.alloc (.cells #[.int .i64 (L q).at_, .int .i64 (L q).lv, .int .i64 (L q).dr, .bool (L q).tail, .slice cA (L q).n cc] 41)).cell? ⟨b, off + q * 5 + 1, none⟩ = some (.int .i64 (L q).lv) ∧ (wr.drew.alloc (.cells #[.int .i64 (L q).at_, .int .i64 (L q).lv, .int .i64 (L q).dr, .bool (L q).tail, .slice cA (L q).n cc] 41)).cell? ⟨b, off + q * 5 + 2, none⟩ = some (.int .i64 (L q).dr) ∧ (wr.drew.alloc (.cells #[.int .i64 (L q).at_, .int .i64 (L q).lv, .int .i64 (L q).dr, .bool (L q).tail, .slice cA (L q).n cc] 41)).cell? ⟨b, off + q * 5 + 3, none⟩ = some (.bool (L q).tail) ∧ (wr.drew.alloc (.cells #[.int .i64 (L q).at_, .int .i64 (L q).lv, .int .i64 (L q).dr, .bool (L q).tail, .slice cA (L q).n cc] 41)).cell? ⟨b, off + q * 5 + 4, none⟩ = some (.slice cA (L q).n cc) from ⟨al_cell hS.1, al_cell hS.2.1, al_cell hS.2.2.1, al_cell hS.2.2.2.1, al_cell hS.2.2.2.2.1, al_cell hS.2.2.2.2.2⟩)
                clear hS
                have hS := hS'
                clear hS'
                refine hK'.out _ _ (.inr hS) ?_
                clear hK' K'
                try simp only [put_laws]
                refine wpAnyT_one (i := 10) (by kernel_rfl) rfl ?_
                intro K' hK'
                refine step_app (by rfl) (.tmp 62) (.tmp 67) 26 (by rfl) 41 j0 _ 5 56 Tryd.underlying26 MJ.out.1 MJ.out.2.1 MJ.out.2.2.1 MJ.out.2.2.2 rfl (by decide) (by decide) (by rfl) (HV1.out.drew.alloc _) (by omega) (Nat.le_trans HW.out.size (by simp)) wr.heap.size 1 (legRow (L q) (.slice cA (L q).n cc)) (by rfl) (leg_temp wr (L q) (.slice cA (L q).n cc)) (fun j => by unfold legRow; (repeat' split) <;> rfl) ?_
                intro v7 w7 o7 g7
                obtain ⟨A7, c7, rfl⟩ := o7.form
                have hS' := (show w7.cell? ⟨x, 5, none⟩ = some (.slice A4 m c4) ∧ w7.cell? ⟨b, off + q * 5, none⟩ = some (.int .i64 (L q).at_) ∧ w7.cell? ⟨b, off + q * 5 + 1, none⟩ = some (.int .i64 (L q).lv) ∧ w7.cell? ⟨b, off + q * 5 + 2, none⟩ = some (.int .i64 (L q).dr) ∧ w7.cell? ⟨b, off + q * 5 + 3, none⟩ = some (.bool (L q).tail) ∧ w7.cell? ⟨b, off + q * 5 + 4, none⟩ = some (.slice cA (L q).n cc) from ⟨grown_cell g7 hS.1 HXN.out, grown_cell g7 hS.2.1 HBN.out, grown_cell g7 hS.2.2.1 HBN.out, grown_cell g7 hS.2.2.2.1 HBN.out, grown_cell g7 hS.2.2.2.2.1 HBN.out, grown_cell g7 hS.2.2.2.2.2 HBN.out⟩)
                clear hS
                have hS := hS'
                clear hS'
                refine hK'.out _ _ (.inr hS) ?_
                clear hK' K'
                try simp only [put_laws]
                refine wpAnyT_one (i := 11) (by kernel_rfl) rfl ?_
                intro K' hK'
                go_simp
                refine hK'.out _ _ (.inr hS) ?_
                clear hK' K'
                try simp only [put_laws]
                refine wpAnyT_one (i := 12) (by kernel_rfl) rfl ?_
                intro K' hK'
                go_simp
                refine hK'.out _ _ (.inr hS) ?_
                clear hK' K'
                try simp only [put_laws]
                refine wpAnyT_one (i := 13) (by kernel_rfl) rfl ?_
                intro K' hK'
                have fz := (HXB.out w7 g7).frz 5
                have cz := (HXB.out w7 g7).cell 5
                go_simp
                refine hK'.out _ _ (.inl rfl) ?_
                clear hK' K'
                try simp only [put_laws]
                refine wpAnyT_done (by kernel_rfl) ?_ _
                have HDN := Lib.hid (tr_done (W := wr) (W1 := wr.drew.alloc (.cells #[.int .i64 (L q).at_, .int .i64 (L q).lv, .int .i64 (L q).dr, .bool (L q).tail, .slice cA (L q).n cc] 41)) HT4.out HV1.out HV2.out HU.out ((Below.refl _ _).drew.alloc (Nat.le_refl _) _) o7 g7 HBB.out hzr)
                clear o7 g7
                go_wp2_with fail
                go_roundw
                case rel =>
                  obtain ⟨d1, d2, d3, d4⟩ := HDN.out
                  exact ⟨m + 1, by omega, by go_num, ⟨A7, c7, d1, d2.congr fun i hi => by
                    unfold M.someL
                    by_cases e : i = m
                    · subst e; rw [if_pos rfl, HQ.out]
                    · rw [if_neg e]⟩, HK.out.trans d3, HW.out.trans d4⟩
                case measure => simp [intOf]; omega
              · obtain rfl : m = LN.length := by omega
                have PR := Lib.hid (P4.out.keepT HK.out (by decide) (blk_ne P4.out XB4.out (by decide)))
                have p0 := PR.out.cell 0
                have p1 := PR.out.cell 1
                have p2 := PR.out.cell 2
                have p3 := PR.out.cell 3
                have p4 := PR.out.cell 4
                have p5 := PR.out.cell 5
                have HRT := Lib.hid (HRO.out wr x _ _ _ _ (M.someL L LN) HT4.out HW.out (HOL.out.rd (Nat.le_trans HBB.out hzr)) (by omega) (fun i hi => HOK.out _ (HLT.out _ (by
                  rw [List.getD_eq_getElem?_getD, List.getElem?_eq_getElem hi, Option.getD_some]
                  exact List.getElem_mem hi))))
                obtain ⟨hv, hhv⟩ : ∃ hv, hv = M.hasS s L r LN := ⟨_, rfl⟩
                have HHS := Lib.hid (show M.hasR s (M.someL L LN) LN.length r = hv from hhv.symm)
                rw [← hhv] at HLS
                clear hhv
                cases hv
                · go_wp2_with (go_at_call 38; go_must (refine HRT.out.mono ?_); rintro e w5 ⟨⟨v, rfl, hv⟩, hb5⟩; have HB5 := Lib.hid hb5; have hvf := RouteV.nil_ hv HHS.out; subst hvf; clear hv hb5)
                  go_roundw
                  case rel =>
                    refine ⟨j + 1, by omega, by go_num, ?_, ⟨_, _, _, HT4.out.below HB5.out⟩, PR.out.below' HB5.out, HW.out.trans (HB5.out.mono hzr)⟩
                    rw [HLS.out]
                    show Own w5 w.heap.size 3 1 _ (LN.map fun x : Nat => (x : Int)).length (lst (LN.map fun x : Nat => (x : Int)))
                    rw [HLL.out]
                    exact O5.out.below HB5.out
                  case measure => simp [intOf]; omega
                · go_wp2_with (go_at_call 38; go_must (refine HRT.out.mono ?_); rintro e w5 ⟨⟨v, rfl, hv⟩, hb5⟩; have HB5 := Lib.hid hb5; obtain ⟨a, vn, vc, hvf⟩ := RouteV.some_ hv HHS.out; subst hvf; clear hv hb5)
                  go_roundw
                  case rel =>
                    refine ⟨j + 1, by omega, by go_num, ?_, ⟨_, _, _, HT4.out.below HB5.out⟩, PR.out.below' HB5.out, HW.out.trans (HB5.out.mono hzr)⟩
                    rw [HLS.out]
                    exact (OL4.out.keepT HK.out (by decide) (OL4.out.ne_blk XB4.out (by decide))).below HB5.out
                  case measure => simp [intOf]; omega
          · obtain rfl : j = k := by omega
            go_wp2_with fail
            go_ret2
            exact ⟨⟨_, rfl, by rw [← HEND.out (by first | rfl | trivial)]; exact HO.out⟩, HWq.out⟩
end
end Go.Proofs.YtkdpmihdhiokkaaDoor
