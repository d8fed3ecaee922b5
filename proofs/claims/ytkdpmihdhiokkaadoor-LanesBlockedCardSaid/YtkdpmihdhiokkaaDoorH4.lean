/- LanesBlocked, walked. -/
import Derived.Test.YtkdpmihdhiokkaaDoorR11
import Derived.Test.YtkdpmihdhiokkaaDoorR13
import Derived.Test.YtkdpmihdhiokkaaDoorK27
import Derived.Test.YtkdpmihdhiokkaaDoorLaI
import Derived.Test.YtkdpmihdhiokkaaDoorW
namespace Go.Proofs.YtkdpmihdhiokkaaDoor
open Go.RowKit

namespace M
/-- those of the first m numbers of a list that do not stand at place k - 1 -/
def exc (l : List Nat) (k : Nat) : Nat → List Nat
  | 0 => []
  | m + 1 => if k = m + 1 then exc l k m else exc l k m ++ [l.getD m 0]
theorem exc_len (l : List Nat) (k : Nat) : ∀ m, (exc l k m).length ≤ m
  | 0 => Nat.le_refl _
  | m + 1 => by
    have := exc_len l k m
    simp only [exc]
    split
    · omega
    · simp; omega
theorem exc_zero (l : List Nat) : ∀ m, m ≤ l.length → exc l 0 m = l.take m
  | 0, _ => by simp [exc]
  | m + 1, hm => by
    have h := exc_zero l m (by omega)
    simp only [exc]
    rw [if_neg (by omega), h, List.take_add_one]
    simp [List.getElem?_eq_getElem (show m < l.length by omega), List.getD_eq_getElem?_getD]
theorem exc_mem {l : List Nat} {k x : Nat} : ∀ {m}, m ≤ l.length → x ∈ exc l k m → ∃ i, i < m ∧ i + 1 ≠ k ∧ x = l.getD i 0
  | 0, _, h => by simp [exc] at h
  | m + 1, hm, h => by
    simp only [exc] at h
    split at h
    · obtain ⟨i, h1, h2, h3⟩ := exc_mem (by omega) h
      exact ⟨i, by omega, h2, h3⟩
    · rename_i hk
      rw [List.mem_append] at h
      rcases h with h | h
      · obtain ⟨i, h1, h2, h3⟩ := exc_mem (by omega) h
        exact ⟨i, by omega, h2, h3⟩
      · exact ⟨m, by omega, fun e => hk e.symm, by simpa using h⟩
section
variable {s : Sea} {L : Nat → Leg} {n : Nat} {r : Trip}
theorem keep_asc : ∀ i {a b : Nat}, a < b → b < (keep s L n r i).length → (keep s L n r i).getD a 0 < (keep s L n r i).getD b 0
  | 0, a, b, _, h => by simp [keep] at h
  | i + 1, a, b, hab, h => by
    have ih : ∀ {a b : Nat}, a < b → b < (keep s L n r i).length → (keep s L n r i).getD a 0 < (keep s L n r i).getD b 0 := fun h1 h2 => keep_asc i h1 h2
    have hlt : ∀ {x : Nat}, x ∈ keep s L n r i → x < i := fun h => keep_lt h
    simp only [keep] at h ⊢
    split at h
    · rename_i hc
      rw [if_pos hc]
      simp at h
      have hg : ∀ q, q < (keep s L n r i).length → (keep s L n r i ++ [i]).getD q 0 = (keep s L n r i).getD q 0 := fun q hq => by
        rw [List.getD_eq_getElem?_getD, List.getD_eq_getElem?_getD, List.getElem?_append_left hq]
      by_cases hb : b < (keep s L n r i).length
      · rw [hg a (by omega), hg b hb]
        exact ih hab hb
      · have e : b = (keep s L n r i).length := by omega
        rw [hg a (by omega), e]
        have h1 : (keep s L n r i ++ [i]).getD (keep s L n r i).length 0 = i := by simp
        rw [h1]
        refine hlt ?_
        rw [List.getD_eq_getElem?_getD, List.getElem?_eq_getElem (show a < _ by omega), Option.getD_some]
        exact List.getElem_mem _
    · rename_i hc
      rw [if_neg hc]
      exact ih hab h
theorem getD_mem' {l : List Nat} {i : Nat} (h : i < l.length) : l.getD i 0 ∈ l := by
  rw [List.getD_eq_getElem?_getD, List.getElem?_eq_getElem h, Option.getD_some]
  exact List.getElem_mem h
/-- among those that stay there is no route; without one of them there is one -/
theorem block_all (h0 : hasR s L n r = false) : hasS s L r (exc (keep s L n r n) 0 (keep s L n r n).length) = false := by
  rw [exc_zero _ _ (Nat.le_refl _), List.take_length, ← left_end]
  refine left_none ?_ (Nat.le_refl _)
  unfold hasS leftL
  simp only [keep, List.nil_append, List.length_range', Nat.sub_zero]
  rw [← h0]
  unfold hasR
  congr 2
  unfold endK
  congr 1
  funext k
  refine reach_congr (m := n) (m' := n) (fun p q t => ?_) k _
  refine goes_other (Nat.le_refl _) (fun i hi => ?_) (fun i h1 h2 => absurd h1 (by omega)) p q t
  unfold someL
  rw [List.getD_eq_getElem?_getD, List.getElem?_range' hi]
  simp
theorem block_but {k : Nat} (hk1 : 1 ≤ k) (hk : k ≤ (keep s L n r n).length) : hasS s L r (exc (keep s L n r n) k (keep s L n r n).length) = true := by
  refine keep_each (v := (keep s L n r n).getD (k - 1) 0) (getD_mem' (by omega)) fun x hx => ?_
  obtain ⟨i, h1, h2, rfl⟩ := exc_mem (Nat.le_refl _) hx
  refine ⟨getD_mem' h1, ?_⟩
  rcases Nat.lt_or_gt_of_ne (show i ≠ k - 1 by omega) with h | h
  · have := keep_asc (s := s) (L := L) (n := n) (r := r) n h (by omega); omega
  · have := keep_asc (s := s) (L := L) (n := n) (r := r) n h h1; omega
theorem exc_lt {k x m : Nat} (hm : m ≤ (keep s L n r n).length) (h : x ∈ exc (keep s L n r n) k m) : x < n := by
  obtain ⟨i, h1, _, rfl⟩ := exc_mem hm h
  exact keep_lt (getD_mem' (by omega))
end
end M
theorem OwnL.form {W : World} {B base n : Nat} {v : Value} {L : Nat → M.Leg} (h : OwnL W B base v n L) : ∃ A c, v = .slice A n c := by
  obtain ⟨V, h, _⟩ := h
  exact h.form
theorem leg_temp' (W : World) (l : M.Leg) (u : Value) : ∀ j, j < 5 → (W.alloc (.cells #[.int .i64 l.at_, .int .i64 l.lv, .int .i64 l.dr, .bool l.tail, u] 41)).cell? ⟨W.heap.size, j, none⟩ = some (legRow l u j) := by
  intro j hj
  refine ((Blk.new W 41 #[.int .i64 l.at_, .int .i64 l.lv, .int .i64 l.dr, .bool l.tail, u]).cell j).trans ?_
  obtain rfl | rfl | rfl | rfl | rfl : j = 0 ∨ j = 1 ∨ j = 2 ∨ j = 3 ∨ j = 4 := by omega
  all_goals rfl
theorem some_app (L : Nat → M.Leg) (l : List Nat) (q i : Nat) (hi : i < l.length + 1) : (if i = l.length then L q else M.someL L l i) = M.someL L (l ++ [q]) i := by
  unfold M.someL
  by_cases e : i = l.length
  · subst e
    simp
  · rw [if_neg e, List.getD_eq_getElem?_getD, List.getD_eq_getElem?_getD, List.getElem?_append_left (by omega)]
/-- behind an append of a leg to legs of the call's own -/
theorem ownL_app {W W1 w' : World} {base n B : Nat} {L' : Nat → M.Leg} {V : Nat → Value} {l : M.Leg} {u v v' : Value}
    (hV1 : Own W base 41 5 v n (legV L' V)) (hV2 : ∀ i, i < n → LegCells W B base (V i) (L' i)) (hu : LegCells W B base u l) (hA : Below W.heap.size W W1)
    (hown : Own w' base 41 5 v' (n + 1) (upd (legV L' V) n (legRow l u))) (hg : W1.grownBy w' v.ownBlock) (hBb : B ≤ base) (hBs : base ≤ W.heap.size) :
    OwnL w' B base v' (n + 1) (fun i => if i = n then l else L' i) ∧ Below base W w' := by
  have hk1 : KeepT 41 (w'.heap.size + 1) W w' := (KeepT.of_below hA).row (hV1.below hA) hg
  have hb : Below base W w' := Below.grown (hA.mono hBs) hg (Nat.le_trans hBs hA.size) fun q hq => (hV1.block hq).1
  have hc : ∀ {u l}, LegCells W B base u l → LegCells w' B base u l := fun {u l} h => by
    refine ⟨h.1, ?_⟩
    rcases h.2 with ⟨cA, cc, h1, h2⟩ | h2
    · exact .inl ⟨cA, cc, h1, h2.below (hb.mono hBb)⟩
    · exact .inr (h2.keepT hk1 (by decide) (fun e => by have := (h2.block e).2; have := hk1.1; omega))
  refine ⟨⟨fun i => if i = n then u else V i, by rw [← legV_upd]; exact hown, fun i hi => ?_⟩, hb⟩
  by_cases e : i = n
  · simp only [e, if_true]
    exact hc hu
  · simp only [e, if_false]
    exact hc (hV2 i (by omega))
section
variable (W H : Int) (dA tA sA lA : Option Addr) (nd dc nt tc ns sc ln lc B : Nat) (dep : Nat → Int) (tide : Nat → Nat → Int) (sw : Nat → Int) (L : Nat → M.Leg) (at_ lv dr fr dst : Int) (tl : Bool) (w : World)
set_option maxRecDepth 100000 in
set_option maxHeartbeats 6400000 in
theorem lanesBlocked_any (hnd : nd ≤ maxLen) (hnt : nt ≤ maxLen) (hns : ns ≤ maxLen) (hln : ln ≤ maxLen) (hw : Ways w) (hR : RdC w B dA tA sA nd nt ns dep tide sw) (hB : B ≤ w.heap.size) (hL : RdL w B lA ln L) :
    Calls Tryd.prog 10 #[.agg #[.int .i64 W, .int .i64 H, .slice dA nd dc, .slice tA nt tc, .slice sA ns sc], .slice lA ln lc, .agg #[.int .i64 at_, .int .i64 lv, .int .i64 dr, .bool tl, .int .i64 fr, .int .i64 dst]] w fun e w' => e = .returned (.bool true) ∧ Below w.heap.size w w' := by
  have HR := Lib.hid (belowAlloc2 w (.cells #[.int .i64 W, .int .i64 H, .slice dA nd dc, .slice tA nt tc, .slice sA ns sc] 25) (.cells #[.int .i64 at_, .int .i64 lv, .int .i64 dr, .bool tl, .int .i64 fr, .int .i64 dst] 28))
  have CR := Lib.hid ((Blk.new w 25 #[.int .i64 W, .int .i64 H, .slice dA nd dc, .slice tA nt tc, .slice sA ns sc]).alloc (.cells #[.int .i64 at_, .int .i64 lv, .int .i64 dr, .bool tl, .int .i64 fr, .int .i64 dst] 28))
  have XR := Lib.hid (Blk.new1 w (.cells #[.int .i64 W, .int .i64 H, .slice dA nd dc, .slice tA nt tc, .slice sA ns sc] 25) 28 #[.int .i64 at_, .int .i64 lv, .int .i64 dr, .bool tl, .int .i64 fr, .int .i64 dst])
  obtain ⟨X, hX⟩ : ∃ X, X = (w.alloc (.cells #[.int .i64 W, .int .i64 H, .slice dA nd dc, .slice tA nt tc, .slice sA ns sc] 25)).alloc (.cells #[.int .i64 at_, .int .i64 lv, .int .i64 dr, .bool tl, .int .i64 fr, .int .i64 dst] 28) := ⟨_, rfl⟩
  have HXe := Lib.hid hX
  rw [← hX] at HR CR XR
  clear hX
  have HRC := Lib.hid (fun V (hb2 : Below w.heap.size w V) => hR.below (hb2.mono hB))
  have HRL := Lib.hid (fun V (hb2 : Below w.heap.size w V) => hL.below (hb2.mono hB))
  have HWY := Lib.hid (fun V (hb2 : Below w.heap.size w V) => hw.below hb2)
  have HBB := Lib.hid hB
  have HWO := Lib.hid (fun V (hb2 : Below w.heap.size w V) => works_any V (hw.below hb2))
  have HVA := Lib.hid (valid_cl W H dA tA sA lA nd dc nt tc ns sc ln lc B dep tide sw L X hnd hnt hns hln (HRC.out _ HR.out) (Nat.le_trans HBB.out HR.out.size) (HRL.out _ HR.out))
  have c0 := CR.out.cell 0
  have c1 := CR.out.cell 1
  have c2 := CR.out.cell 2
  have c3 := CR.out.cell 3
  have c4 := CR.out.cell 4
  clear hR hw hB hL
  go_enter Tryd.func10, Tryd.ntmps10
  go_upto_region 1 with fail
  rw [← HXe.out]
  clear HXe
  have x0 := XR.out.cell 0
  have x1 := XR.out.cell 1
  have x2 := XR.out.cell 2
  have x3 := XR.out.cell 3
  have x4 := XR.out.cell 4
  have x5 := XR.out.cell 5
  go_wp2_with (go_at_call 11; go_must (refine HVA.out.mono ?_); rintro e w1 ⟨⟨V, rfl, hV⟩, hb1⟩; have HV := Lib.hid hV; clear hV; have HR' := Lib.hid (HR.out.trans (hb1.mono HR.out.size)); have CR' := Lib.hid (CR.out.below' hb1); have XR' := Lib.hid (XR.out.below' hb1); clear hb1 HR CR XR c0 c1 c2 c3 c4 x0 x1 x2 x3 x4 x5; have HR := HR'; have CR := CR'; have XR := XR'; clear HR' CR' XR'; have c0 := CR.out.cell 0; have c1 := CR.out.cell 1; have c2 := CR.out.cell 2; have c3 := CR.out.cell 3; have c4 := CR.out.cell 4; have x0 := XR.out.cell 0; have x1 := XR.out.cell 1; have x2 := XR.out.cell 2; have x3 := XR.out.cell 3; have x4 := XR.out.cell 4; have x5 := XR.out.cell 5; cases V)
  · go_wp2_with (go_at_call 13; go_must (refine (HWO.out _ HR.out).mono ?_); rintro e w9 ⟨rfl, hb9⟩; have HB9 := Lib.hid (HR.out.trans (hb9.mono HR.out.size)); clear hb9)
    go_ret
    exact ⟨rfl, HB9.out⟩
  · obtain ⟨W', H', rfl, rfl, rfl, hs, hnd20, hnt8, hln5, hlo⟩ := HV.out (by first | rfl | trivial)
    obtain ⟨s, hsd⟩ : ∃ s : M.Sea, s = ⟨W', H', nd, ns, dep, tide, sw⟩ := ⟨_, rfl⟩
    have HSN := Lib.hid (show s.nd = nd ∧ s.nt = ns by rw [hsd]; exact ⟨rfl, rfl⟩)
    have HSO := Lib.hid (show s.Ok by rw [hsd]; exact hs)
    have HLO := Lib.hid (show M.legsOk s ln L = true by rw [hsd]; exact hlo)
    have HAT := Lib.hid (show ∀ i, i < ln → -100 ≤ (L i).at_ ∧ (L i).at_ ≤ 100 ∧ (L i).n ≤ 100 from fun i hi => by
      have hlo2 := HLO.out
      unfold M.legsOk at hlo2
      simp only [Bool.and_eq_true] at hlo2
      have h := M.legOk_iff.1 (M.allTo_iff.1 hlo2.2 i hi)
      have h0 := h.at0
      have h1 := h.at1
      have h2 := h.n1
      have h3 := HSN.out.2
      omega)
    have HIT := Lib.hid (fun V (hb2 : Below w.heap.size w V) => (show Calls Tryd.prog 12 #[.agg #[.int .i64 (W' : Int), .int .i64 (H' : Int), .slice dA nd dc, .slice tA ns tc, .slice sA ns sc], .agg #[.int .i64 at_, .int .i64 lv, .int .i64 dr, .bool tl, .int .i64 fr, .int .i64 dst]] V fun e w' => e = .returned (.bool (M.tripOk s ⟨at_, lv, dr, tl, fr, dst⟩)) ∧ Below V.heap.size V w' from by
      have hs := HSO.out
      have hlo := HLO.out
      subst hsd
      exact istrip_ok ⟨W', H', nd, ns, dep, tide, sw⟩ dA tA sA dc tc sc at_ lv dr fr dst tl V hs))
    have HRO := Lib.hid (fun V (hto : M.tripOk s ⟨at_, lv, dr, tl, fr, dst⟩ = true) (hb2 : Below w.heap.size w V) => (show Calls Tryd.prog 14 #[.agg #[.int .i64 (W' : Int), .int .i64 (H' : Int), .slice dA nd dc, .slice tA ns tc, .slice sA ns sc], .slice lA ln lc, .agg #[.int .i64 at_, .int .i64 lv, .int .i64 dr, .bool tl, .int .i64 fr, .int .i64 dst]] V fun e w' => (∃ v, e = .returned (.tuple #[v, .int .i64 (M.routeE s L ln ⟨at_, lv, dr, tl, fr, dst⟩)]) ∧ RouteV s L ln ⟨at_, lv, dr, tl, fr, dst⟩ V.heap.size v w') ∧ Below V.heap.size V w' from by
      have hs := HSO.out
      have hlo := HLO.out
      subst hsd
      exact Route_ok ⟨W', H', nd, ns, dep, tide, sw⟩ dA tA sA lA dc tc sc ln lc B L V at_ lv dr fr dst tl hs (HWY.out V hb2) (HRC.out V hb2) (Nat.le_trans HBB.out hb2.size) (HRL.out V hb2) (by omega) hlo hto))
    have HBK := Lib.hid (fun V (hto : M.tripOk s ⟨at_, lv, dr, tl, fr, dst⟩ = true) (hb2 : Below w.heap.size w V) => (show Calls Tryd.prog 31 #[.agg #[.int .i64 (W' : Int), .int .i64 (H' : Int), .slice dA nd dc, .slice tA ns tc, .slice sA ns sc], .slice lA ln lc, .agg #[.int .i64 at_, .int .i64 lv, .int .i64 dr, .bool tl, .int .i64 fr, .int .i64 dst]] V fun e w' => (∃ v, e = .returned (.tuple #[v, .int .i64 (if M.hasR s L ln ⟨at_, lv, dr, tl, fr, dst⟩ then 3 else 0)]) ∧ Own w' V.heap.size 3 1 v (M.blockI s L ln ⟨at_, lv, dr, tl, fr, dst⟩).length (lst (M.blockI s L ln ⟨at_, lv, dr, tl, fr, dst⟩))) ∧ Below V.heap.size V w' from by
      have hs := HSO.out
      have hlo := HLO.out
      subst hsd
      exact Block_ok ⟨W', H', nd, ns, dep, tide, sw⟩ dA tA sA lA dc tc sc ln lc B L V at_ lv dr fr dst tl hs (HWY.out V hb2) (HRC.out V hb2) (Nat.le_trans HBB.out hb2.size) (HRL.out V hb2) (by omega) hlo hto))
    have HRS := Lib.hid (fun V lA' n' c' L' (hto : M.tripOk s ⟨at_, lv, dr, tl, fr, dst⟩ = true) (hl' : RdL V V.heap.size lA' n' L') (hlo' : M.legsOk s n' L' = true) (hb2 : Below w.heap.size w V) => (show Calls Tryd.prog 14 #[.agg #[.int .i64 (W' : Int), .int .i64 (H' : Int), .slice dA nd dc, .slice tA ns tc, .slice sA ns sc], .slice lA' n' c', .agg #[.int .i64 at_, .int .i64 lv, .int .i64 dr, .bool tl, .int .i64 fr, .int .i64 dst]] V fun e w' => (∃ v, e = .returned (.tuple #[v, .int .i64 (M.routeE s L' n' ⟨at_, lv, dr, tl, fr, dst⟩)]) ∧ RouteV s L' n' ⟨at_, lv, dr, tl, fr, dst⟩ V.heap.size v w') ∧ Below V.heap.size V w' from by
      have hs := HSO.out
      have hlo := HLO.out
      subst hsd
      exact Route_ok ⟨W', H', nd, ns, dep, tide, sw⟩ dA tA sA lA' dc tc sc n' c' V.heap.size L' V at_ lv dr fr dst tl hs (HWY.out V hb2) ((HRC.out V hb2).more (Nat.le_trans HBB.out hb2.size)) (Nat.le_refl _) hl' (by unfold M.legsOk at hlo'; simp only [Bool.and_eq_true, decide_eq_true_eq] at hlo'; omega) hlo' hto))
    obtain ⟨r, hr⟩ : ∃ r : M.Trip, r = ⟨at_, lv, dr, tl, fr, dst⟩ := ⟨_, rfl⟩
    rw [← hr] at HIT HRO HBK HRS
    clear hs hlo hnt8 hnd20 hsd hr
    cases hT : M.tripOk s r
    · rw [hT] at HIT
      clear hT
      go_wp2_with (go_at_call 12; go_must (refine (HIT.out _ HR.out).mono ?_); rintro e w2 ⟨rfl, hb2⟩; have HR' := Lib.hid (HR.out.trans (hb2.mono HR.out.size)); have CR' := Lib.hid (CR.out.below' hb2); have XR' := Lib.hid (XR.out.below' hb2); clear hb2 HR CR XR c0 c1 c2 c3 c4 x0 x1 x2 x3 x4 x5; have HR := HR'; have CR := CR'; have XR := XR'; clear HR' CR' XR'; have c0 := CR.out.cell 0; have c1 := CR.out.cell 1; have c2 := CR.out.cell 2; have c3 := CR.out.cell 3; have c4 := CR.out.cell 4; have x0 := XR.out.cell 0; have x1 := XR.out.cell 1; have x2 := XR.out.cell 2; have x3 := XR.out.cell 3; have x4 := XR.out.cell 4; have x5 := XR.out.cell 5; clear HIT)
      go_wp2_with (go_at_call 13; go_must (refine (HWO.out _ HR.out).mono ?_); rintro e w9 ⟨rfl, hb9⟩; have HB9 := Lib.hid (HR.out.trans (hb9.mono HR.out.size)); clear hb9)
      go_ret
      exact ⟨rfl, HB9.out⟩
    · rw [hT] at HIT
      have HR1 := Lib.hid (fun V => HRO.out V hT)
      have HK1 := Lib.hid (fun V => HBK.out V hT)
      have HS1 := Lib.hid (fun V lA' n' c' L' => HRS.out V lA' n' c' L' hT)
      have HRE := Lib.hid (show M.routeE s L ln r = if M.hasR s L ln r then 0 else 3 by unfold M.routeE M.hasR; simp only [decide_eq_true_eq])
      have HRES := Lib.hid (fun l => (show M.routeE s (M.someL L l) l.length r = if M.hasS s L r l then 0 else 3 by unfold M.routeE M.hasS M.hasR; simp only [decide_eq_true_eq]))
      rw [HRE.out] at HR1
      clear hT HRO HBK HRS
      cases hH : M.hasR s L ln r
      rotate_left
      · rw [hH] at HR1 HK1
        clear hH
        go_wp2_with (go_at_call 12; go_must (refine (HIT.out _ HR.out).mono ?_); rintro e w2 ⟨rfl, hb2⟩; have HR' := Lib.hid (HR.out.trans (hb2.mono HR.out.size)); have CR' := Lib.hid (CR.out.below' hb2); have XR' := Lib.hid (XR.out.below' hb2); clear hb2 HR CR XR c0 c1 c2 c3 c4 x0 x1 x2 x3 x4 x5; have HR := HR'; have CR := CR'; have XR := XR'; clear HR' CR' XR'; have c0 := CR.out.cell 0; have c1 := CR.out.cell 1; have c2 := CR.out.cell 2; have c3 := CR.out.cell 3; have c4 := CR.out.cell 4; have x0 := XR.out.cell 0; have x1 := XR.out.cell 1; have x2 := XR.out.cell 2; have x3 := XR.out.cell 3; have x4 := XR.out.cell 4; have x5 := XR.out.cell 5; clear HIT)
        go_wp2_with (go_at_call 31; go_must (refine (HK1.out _ HR.out).mono ?_); rintro e w4 ⟨⟨v, rfl, hv⟩, hb4⟩; obtain ⟨vA, vc, rfl⟩ := hv.form; clear hv; have HR' := Lib.hid (HR.out.trans (hb4.mono HR.out.size)); have CR' := Lib.hid (CR.out.below' hb4); have XR' := Lib.hid (XR.out.below' hb4); clear hb4 HR CR XR c0 c1 c2 c3 c4 x0 x1 x2 x3 x4 x5; have HR := HR'; have CR := CR'; have XR := XR'; clear HR' CR' XR'; have c0 := CR.out.cell 0; have c1 := CR.out.cell 1; have c2 := CR.out.cell 2; have c3 := CR.out.cell 3; have c4 := CR.out.cell 4; have x0 := XR.out.cell 0; have x1 := XR.out.cell 1; have x2 := XR.out.cell 2; have x3 := XR.out.cell 3; have x4 := XR.out.cell 4; have x5 := XR.out.cell 5; clear HK1)
        go_wp2_with (go_at_call 14; go_must (refine (HR1.out _ HR.out).mono ?_); rintro e w3 ⟨⟨v', rfl, hv⟩, hb3⟩; clear hv; have HR' := Lib.hid (HR.out.trans (hb3.mono HR.out.size)); have CR' := Lib.hid (CR.out.below' hb3); have XR' := Lib.hid (XR.out.below' hb3); clear hb3 HR CR XR c0 c1 c2 c3 c4 x0 x1 x2 x3 x4 x5; have HR := HR'; have CR := CR'; have XR := XR'; clear HR' CR' XR'; have c0 := CR.out.cell 0; have c1 := CR.out.cell 1; have c2 := CR.out.cell 2; have c3 := CR.out.cell 3; have c4 := CR.out.cell 4; have x0 := XR.out.cell 0; have x1 := XR.out.cell 1; have x2 := XR.out.cell 2; have x3 := XR.out.cell 3; have x4 := XR.out.cell 4; have x5 := XR.out.cell 5; clear HR1)
        go_loopw [11] (fun i wr => i = .int .i64 (-1) ∧ Below w.heap.size w wr) (fun i _ => 1)
        case atStart => exact ⟨rfl, HR.out⟩
        case round =>
          obtain ⟨rfl, hbw⟩ := hrel
          have HW := Lib.hid hbw
          clear hbw
          go_wp2_with (go_at_call 13; go_must (refine (HWO.out _ HW.out).mono ?_); rintro e w9 ⟨rfl, hb9⟩; have HB9 := Lib.hid (HW.out.trans (hb9.mono HW.out.size)); clear hb9)
          go_ret
          exact ⟨rfl, HB9.out⟩
      · rw [hH] at HR1 HK1
        have HBA := Lib.hid (M.block_all hH)
        have HBI := Lib.hid (show M.blockI s L ln r = (M.keep s L ln r ln).map fun x : Nat => (x : Int) by unfold M.blockI; rw [hH]; rfl)
        have HBU := Lib.hid (fun k (h1 : 1 ≤ k) h2 => M.block_but (s := s) (L := L) (n := ln) (r := r) (k := k) h1 h2)
        have HAS := Lib.hid (fun a b h1 h2 => M.keep_asc (s := s) (L := L) (n := ln) (r := r) ln (a := a) (b := b) h1 h2)
        have HLT := Lib.hid (fun x (h : x ∈ M.keep s L ln r ln) => M.keep_lt h)
        have HXL := Lib.hid (fun k m x hm (h : x ∈ M.exc (M.keep s L ln r ln) k m) => M.exc_lt hm h)
        have hkl := M.keep_len (s := s) (L := L) (n := ln) (r := r) ln
        obtain ⟨KL, hKL⟩ : ∃ KL, KL = M.keep s L ln r ln := ⟨_, rfl⟩
        rw [← hKL] at HBA HBI HBU HAS HLT HXL hkl
        rw [HBI.out, List.length_map] at HK1
        clear hH hKL
        go_wp2_with (go_at_call 12; go_must (refine (HIT.out _ HR.out).mono ?_); rintro e w2 ⟨rfl, hb2⟩; have HR' := Lib.hid (HR.out.trans (hb2.mono HR.out.size)); have CR' := Lib.hid (CR.out.below' hb2); have XR' := Lib.hid (XR.out.below' hb2); clear hb2 HR CR XR c0 c1 c2 c3 c4 x0 x1 x2 x3 x4 x5; have HR := HR'; have CR := CR'; have XR := XR'; clear HR' CR' XR'; have c0 := CR.out.cell 0; have c1 := CR.out.cell 1; have c2 := CR.out.cell 2; have c3 := CR.out.cell 3; have c4 := CR.out.cell 4; have x0 := XR.out.cell 0; have x1 := XR.out.cell 1; have x2 := XR.out.cell 2; have x3 := XR.out.cell 3; have x4 := XR.out.cell 4; have x5 := XR.out.cell 5; clear HIT)
        go_wp2_with (go_at_call 31; go_must (refine (HK1.out _ HR.out).mono ?_); rintro e w4 ⟨⟨v, rfl, hv⟩, hb4⟩; obtain ⟨vA, vc, rfl⟩ := hv.form; have OV := Lib.hid (hv.less (base' := 0) (Nat.zero_le _)); clear hv; have HR' := Lib.hid (HR.out.trans (hb4.mono HR.out.size)); have CR' := Lib.hid (CR.out.below' hb4); have XR' := Lib.hid (XR.out.below' hb4); clear hb4 HR CR XR c0 c1 c2 c3 c4 x0 x1 x2 x3 x4 x5; have HR := HR'; have CR := CR'; have XR := XR'; clear HR' CR' XR'; have c0 := CR.out.cell 0; have c1 := CR.out.cell 1; have c2 := CR.out.cell 2; have c3 := CR.out.cell 3; have c4 := CR.out.cell 4; have x0 := XR.out.cell 0; have x1 := XR.out.cell 1; have x2 := XR.out.cell 2; have x3 := XR.out.cell 3; have x4 := XR.out.cell 4; have x5 := XR.out.cell 5; clear HK1)
        go_wp2_with (go_at_call 14; go_must (refine (HR1.out _ HR.out).mono ?_); rintro e w3 ⟨⟨v', rfl, hv⟩, hb3⟩; have OV' := Lib.hid (OV.out.below hb3); clear hv OV; have HR' := Lib.hid (HR.out.trans (hb3.mono HR.out.size)); have CR' := Lib.hid (CR.out.below' hb3); have XR' := Lib.hid (XR.out.below' hb3); clear hb3 HR CR XR c0 c1 c2 c3 c4 x0 x1 x2 x3 x4 x5; have HR := HR'; have CR := CR'; have XR := XR'; clear HR' CR' XR'; have c0 := CR.out.cell 0; have c1 := CR.out.cell 1; have c2 := CR.out.cell 2; have c3 := CR.out.cell 3; have c4 := CR.out.cell 4; have x0 := XR.out.cell 0; have x1 := XR.out.cell 1; have x2 := XR.out.cell 2; have x3 := XR.out.cell 3; have x4 := XR.out.cell 4; have x5 := XR.out.cell 5; clear HR1)
        obtain ⟨Z, rfl⟩ : ∃ Z, Z = w3 := ⟨_, rfl⟩
        have HZ := Lib.hid HR.out
        have hzZ := HR.out.size
        have CZ := Lib.hid CR.out
        have XZ := Lib.hid XR.out
        have HLG := Lib.hid (show ∀ i, i < ln → M.LegOk s (L i) from fun i hi => by
          have h := HLO.out
          unfold M.legsOk at h
          simp only [Bool.and_eq_true] at h
          exact M.legOk_iff.1 (M.allTo_iff.1 h.2 i hi))
        obtain ⟨j0, ji, jz0, jz1, jz2⟩ := info_parts leg_info
        have MJ := Lib.hid (And.intro ji (And.intro jz0 (And.intro jz1 jz2)))
        clear ji jz0 jz1 jz2 c0 c1 c2 c3 c4 x0 x1 x2 x3 x4 x5 HR CR XR
        go_loopw [11] (fun i wr => ∃ k : Nat, k ≤ KL.length + 1 ∧ i = .int .i64 ((k : Int) - 1) ∧ Below Z.heap.size Z wr) (fun i _ => KL.length + 1 - (intOf i + 1).toNat)
        case atStart => exact ⟨0, Nat.zero_le _, rfl, Below.refl _ _⟩
        case round =>
          obtain ⟨k, hk, rfl, hbw⟩ := hrel
          have HW := Lib.hid hbw
          have hz := hbw.size
          have HB := Lib.hid (HZ.out.trans (hbw.mono hzZ))
          clear hbw
          obtain ⟨wo, rfl⟩ : ∃ wo, wo = wr := ⟨_, rfl⟩
          obtain ⟨kb, hkb⟩ : ∃ kb : Int, kb = (k : Int) - 1 := ⟨_, rfl⟩
          rw [← hkb]
          have HKB := Lib.hid hkb
          have hkr : -1 ≤ kb ∧ kb ≤ 12 := by omega
          have hwk : IntKind.i64.wrap (kb + 1) = kb + 1 := by rw [IntKind.wrap_i64]; omega
          have hwk2 : wrap64 (kb + 1) = kb + 1 := IntWalk.wrap64_in _ (by omega)
          clear hkb
          by_cases hlt : k ≤ KL.length
          · have g1 : decide (kb < (KL.length : Int)) = true := decide_eq_true (by have := HKB.out; omega)
            go_wp2_with fail
            go_loopw [12, 13] (fun v i wq => ∃ m : Nat, m ≤ KL.length ∧ i = .int .i64 (m : Int) ∧ OwnL wq B Z.heap.size v (M.exc KL k m).length (M.someL L (M.exc KL k m)) ∧ Below Z.heap.size Z wq) (fun _ i _ => KL.length - (intOf i).toNat)
            case atStart => exact ⟨0, Nat.zero_le _, rfl, OwnL.nil_, HW.out⟩
            case round =>
              obtain ⟨m, hm, rfl, hol, hbq⟩ := hrel
              have HOL := Lib.hid hol
              have HQ := Lib.hid hbq
              have hzq := hbq.size
              have HBq := Lib.hid (HZ.out.trans (hbq.mono hzZ))
              obtain ⟨A8, c8, rfl⟩ := hol.form
              clear hol hbq
              by_cases hlm : m < KL.length
              · obtain ⟨gl, cl, el⟩ := (OV'.out.below HQ.out).nz (by omega)
                have OQ := Lib.hid (OV'.out.below HQ.out)
                rw [el] at OQ
                injection el with el1 _ el2
                subst el1; subst el2
                have hget : ∀ i, i < KL.length → (KL.map fun x : Nat => (x : Int)).getD i 0 = ((KL.getD i 0 : Nat) : Int) := fun i hi => by
                  rw [List.getD_eq_getElem?_getD, List.getD_eq_getElem?_getD, List.getElem?_map, List.getElem?_eq_getElem hi]
                  rfl
                have HNX := Lib.hid (show M.exc KL k (m + 1) = if k = m + 1 then M.exc KL k m else M.exc KL k m ++ [KL.getD m 0] from rfl)
                obtain ⟨q, hq⟩ : ∃ q, q = KL.getD m 0 := ⟨_, rfl⟩
                have hqn : q < ln := by rw [hq]; exact HLT.out _ (M.getD_mem' hlm)
                have y0 : wr.cell? ⟨gl, m, none⟩ = some (.int .i64 (q : Int)) := by
                  refine (OQ.out.cell1 hlm).trans ?_
                  show some (Value.int .i64 ((KL.map fun x : Nat => (x : Int)).getD m 0)) = _
                  rw [hget m hlm, hq]
                have d0 : decide ((q : Int) < 0) = false := decide_eq_false (by omega)
                have d1 : decide ((ln : Int) ≤ (q : Int)) = false := decide_eq_false (by omega)
                have d1' : decide (ln ≤ q) = false := decide_eq_false (by omega)
                have kx : decide (KL.length ≤ m) = false := decide_eq_false (by omega)
                have HQE := Lib.hid hq
                by_cases hm0 : 0 < m
                · obtain ⟨pp, hpp⟩ : ∃ pp, pp = KL.getD (m - 1) 0 := ⟨_, rfl⟩
                  have hpq : pp < q := by rw [hpp, hq]; exact HAS.out (m - 1) m (by omega) hlm
                  have y1 : wr.cell? ⟨gl, m - 1, none⟩ = some (.int .i64 (pp : Int)) := by
                    refine (OQ.out.cell1 (show m - 1 < KL.length by omega)).trans ?_
                    show some (Value.int .i64 ((KL.map fun x : Nat => (x : Int)).getD (m - 1) 0)) = _
                    rw [hget (m - 1) (by omega), hpp]
                  have hwm : IntKind.i64.wrap ((m : Int) - 1) = ((m - 1 : Nat) : Int) := by rw [IntKind.wrap_i64]; omega
                  have hwm2 : wrap64 ((m : Int) - 1) = ((m - 1 : Nat) : Int) := by rw [IntWalk.wrap64_in _ (by omega)]; omega
                  have kn : decide (KL.length ≤ m - 1) = false := decide_eq_false (by omega)
                  have gp : decide ((0 : Int) < (m : Int)) = true := decide_eq_true (by omega)
                  have gp2 : decide (0 < m) = true := decide_eq_true hm0
                  have d2 : decide ((q : Int) ≤ (pp : Int)) = false := decide_eq_false (by omega)
                  have d2' : decide (q ≤ pp) = false := decide_eq_false (by omega)
                  clear hq hpp hget
                  go_upto_region 14 with fail
                  go_quiet (fail)
                  go_upto_region 16 with fail
                  have HOn := Lib.hid (show OwnL (wr.drewN nq) B Z.heap.size (.slice A8 (M.exc KL k m).length c8) (M.exc KL k m).length (M.someL L (M.exc KL k m)) from HOL.out)
                  have HQn := Lib.hid (HQ.out.drewN nq)
                  have yn : (wr.drewN nq).cell? ⟨gl, m, none⟩ = some (.int .i64 (q : Int)) := y0
                  clear y0 y1
                  generalize wr.drewN nq = Wn at HOn HQn yn ⊢
                  by_cases hkm : k = m + 1
                  · have gk : ((m : Int) != kb) = false := by have := HKB.out; rw [show (m : Int) = kb by omega]; simp
                    have HEX := Lib.hid (show M.exc KL k (m + 1) = M.exc KL k m by rw [HNX.out, if_pos hkm])
                    clear hkm
                    go_wp2_with fail
                    go_roundw
                    case rel => exact ⟨m + 1, by omega, by go_num, by rw [HEX.out]; exact HOn.out, HQn.out⟩
                    case measure => simp [intOf]; omega
                  · have gk : ((m : Int) != kb) = true := by have := HKB.out; rw [bne_iff_ne]; omega
                    have HEX := Lib.hid (show M.exc KL k (m + 1) = M.exc KL k m ++ [q] by rw [HNX.out, if_neg hkm, HQE.out])
                    clear hkm
                    have hzn := HQn.out.size
                    have HBn := Lib.hid (HZ.out.trans (HQn.out.mono hzZ))
                    have hel := M.exc_len KL k m
                    obtain ⟨b, off, rfl, hb, l0, l1, l2, l3, cA, cc, l4, hr, hm2⟩ := (HRL.out Wn HBn.out).at_ hqn
                    obtain ⟨V4, hv1, hv2⟩ := HOn.out
                    have HV1 := Lib.hid hv1
                    have HV2 := Lib.hid hv2
                    have HU := Lib.hid (show LegCells Wn B Z.heap.size (.slice cA (L q).n cc) (L q) from ⟨hm2, .inl ⟨cA, cc, rfl, hr⟩⟩)
                    clear hv1 hv2 hr
                    go_wp2_with (at_builtin; go_must (refine wpList_app rfl (.tmp 103) (.tmp 111) 26 rfl Z.heap.size 41 5 56 Tryd.underlying26 MJ.out.1 MJ.out.2.1 MJ.out.2.2.1 MJ.out.2.2.2 rfl (by decide) (by decide) (HV1.out.alloc _) rfl (by omega) (by simp; omega) Wn.heap.size 1 (legRow (L q) (.slice cA (L q).n cc)) rfl (leg_temp' Wn (L q) (.slice cA (L q).n cc)) (fun j _ => by unfold legRow; (repeat' split) <;> rfl) ?_); intro v7 w7 o7 hg7 hat7; have HO7 := Lib.hid o7; have HG7 := Lib.hid hg7; clear o7 hg7 hat7)
                    go_roundw
                    case rel =>
                      obtain ⟨d1, d2⟩ := ownL_app (W := Wn) (W1 := Wn.alloc (.cells #[.int .i64 (L q).at_, .int .i64 (L q).lv, .int .i64 (L q).dr, .bool (L q).tail, .slice cA (L q).n cc] 41)) HV1.out HV2.out HU.out (belowAlloc _ _) HO7.out HG7.out (Nat.le_trans HBB.out hzZ) hzn
                      refine ⟨m + 1, by omega, by go_num, ?_, HQn.out.trans (d2.mono (Nat.le_refl _))⟩
                      rw [HEX.out]
                      simp only [List.length_append, List.length_cons, List.length_nil, Nat.zero_add]
                      exact d1.congr fun i hi => some_app L (M.exc KL k m) q i hi
                    case measure => simp [intOf]; omega
                · have gp : decide ((0 : Int) < (m : Int)) = false := decide_eq_false (by omega)
                  have gp2 : decide (0 < m) = false := decide_eq_false hm0
                  clear hq hget
                  go_upto_region 14 with fail
                  go_quiet (fail)
                  go_upto_region 16 with fail
                  have HOn := Lib.hid (show OwnL (wr.drewN nq) B Z.heap.size (.slice A8 (M.exc KL k m).length c8) (M.exc KL k m).length (M.someL L (M.exc KL k m)) from HOL.out)
                  have HQn := Lib.hid (HQ.out.drewN nq)
                  have yn : (wr.drewN nq).cell? ⟨gl, m, none⟩ = some (.int .i64 (q : Int)) := y0
                  clear y0 
                  generalize wr.drewN nq = Wn at HOn HQn yn ⊢
                  by_cases hkm : k = m + 1
                  · have gk : ((m : Int) != kb) = false := by have := HKB.out; rw [show (m : Int) = kb by omega]; simp
                    have HEX := Lib.hid (show M.exc KL k (m + 1) = M.exc KL k m by rw [HNX.out, if_pos hkm])
                    clear hkm
                    go_wp2_with fail
                    go_roundw
                    case rel => exact ⟨m + 1, by omega, by go_num, by rw [HEX.out]; exact HOn.out, HQn.out⟩
                    case measure => simp [intOf]; omega
                  · have gk : ((m : Int) != kb) = true := by have := HKB.out; rw [bne_iff_ne]; omega
                    have HEX := Lib.hid (show M.exc KL k (m + 1) = M.exc KL k m ++ [q] by rw [HNX.out, if_neg hkm, HQE.out])
                    clear hkm
                    have hzn := HQn.out.size
                    have HBn := Lib.hid (HZ.out.trans (HQn.out.mono hzZ))
                    have hel := M.exc_len KL k m
                    obtain ⟨b, off, rfl, hb, l0, l1, l2, l3, cA, cc, l4, hr, hm2⟩ := (HRL.out Wn HBn.out).at_ hqn
                    obtain ⟨V4, hv1, hv2⟩ := HOn.out
                    have HV1 := Lib.hid hv1
                    have HV2 := Lib.hid hv2
                    have HU := Lib.hid (show LegCells Wn B Z.heap.size (.slice cA (L q).n cc) (L q) from ⟨hm2, .inl ⟨cA, cc, rfl, hr⟩⟩)
                    clear hv1 hv2 hr
                    go_wp2_with (at_builtin; go_must (refine wpList_app rfl (.tmp 103) (.tmp 111) 26 rfl Z.heap.size 41 5 56 Tryd.underlying26 MJ.out.1 MJ.out.2.1 MJ.out.2.2.1 MJ.out.2.2.2 rfl (by decide) (by decide) (HV1.out.alloc _) rfl (by omega) (by simp; omega) Wn.heap.size 1 (legRow (L q) (.slice cA (L q).n cc)) rfl (leg_temp' Wn (L q) (.slice cA (L q).n cc)) (fun j _ => by unfold legRow; (repeat' split) <;> rfl) ?_); intro v7 w7 o7 hg7 hat7; have HO7 := Lib.hid o7; have HG7 := Lib.hid hg7; clear o7 hg7 hat7)
                    go_roundw
                    case rel =>
                      obtain ⟨d1, d2⟩ := ownL_app (W := Wn) (W1 := Wn.alloc (.cells #[.int .i64 (L q).at_, .int .i64 (L q).lv, .int .i64 (L q).dr, .bool (L q).tail, .slice cA (L q).n cc] 41)) HV1.out HV2.out HU.out (belowAlloc _ _) HO7.out HG7.out (Nat.le_trans HBB.out hzZ) hzn
                      refine ⟨m + 1, by omega, by go_num, ?_, HQn.out.trans (d2.mono (Nat.le_refl _))⟩
                      rw [HEX.out]
                      simp only [List.length_append, List.length_cons, List.length_nil, Nat.zero_add]
                      exact d1.congr fun i hi => some_app L (M.exc KL k m) q i hi
                    case measure => simp [intOf]; omega
              · obtain rfl : m = KL.length := by omega
                have c0 := (CZ.out.below' HQ.out).cell 0
                have c1 := (CZ.out.below' HQ.out).cell 1
                have c2 := (CZ.out.below' HQ.out).cell 2
                have c3 := (CZ.out.below' HQ.out).cell 3
                have c4 := (CZ.out.below' HQ.out).cell 4
                have x0 := (XZ.out.below' HQ.out).cell 0
                have x1 := (XZ.out.below' HQ.out).cell 1
                have x2 := (XZ.out.below' HQ.out).cell 2
                have x3 := (XZ.out.below' HQ.out).cell 3
                have x4 := (XZ.out.below' HQ.out).cell 4
                have x5 := (XZ.out.below' HQ.out).cell 5
                have hel := M.exc_len KL k KL.length
                have HRT := Lib.hid (HS1.out wr _ _ c8 (M.someL L (M.exc KL k KL.length)) (HOL.out.rd (Nat.le_trans HBB.out HBq.out.size)) (by
                  unfold M.legsOk
                  simp only [Bool.and_eq_true, decide_eq_true_eq]
                  exact ⟨by omega, M.allTo_iff.2 fun i hi => M.legOk_iff.2 (HLG.out _ (HXL.out _ _ _ (Nat.le_refl _) (M.getD_mem' hi)))⟩) HBq.out)
                rw [HRES.out] at HRT
                by_cases hk0 : k = 0
                · subst hk0
                  have HSV := Lib.hid (HBA.out)
                  rw [HSV.out] at HRT
                  have g2 : decide (kb < 0) = true := decide_eq_true (by have := HKB.out; omega)
                  have g3 : decide (0 ≤ kb) = false := decide_eq_false (by have := HKB.out; omega)
                  go_wp2_with (go_at_call 14; go_must (refine HRT.out.mono ?_); rintro e w5 ⟨⟨v', rfl, hv⟩, hb5⟩; have HB5 := Lib.hid hb5; clear hv hb5)
                  go_roundw
                  case rel => exact ⟨1, by omega, (by have h := HKB.out; congr 1; omega), HQ.out.trans (HB5.out.mono hzq)⟩
                  case measure => have h := HKB.out; simp [intOf]; omega
                · have HSV := Lib.hid (HBU.out k (by omega) hlt)
                  rw [HSV.out] at HRT
                  have g2 : decide (kb < 0) = false := decide_eq_false (by have := HKB.out; omega)
                  have g3 : decide (0 ≤ kb) = true := decide_eq_true (by have := HKB.out; omega)
                  clear hk0
                  go_wp2_with (go_at_call 14; go_must (refine HRT.out.mono ?_); rintro e w5 ⟨⟨v', rfl, hv⟩, hb5⟩; have HB5 := Lib.hid hb5; clear hv hb5)
                  go_roundw
                  case rel => exact ⟨k + 1, by omega, (by have h := HKB.out; congr 1; omega), HQ.out.trans (HB5.out.mono hzq)⟩
                  case measure => have h := HKB.out; simp [intOf]; omega
          · obtain rfl : k = KL.length + 1 := by omega
            have g1 : decide (kb < (KL.length : Int)) = false := decide_eq_false (by have := HKB.out; omega)
            clear hwk hwk2
            go_wp2_with (go_at_call 13; go_must (refine (HWO.out _ HB.out).mono ?_); rintro e w9 ⟨rfl, hb9⟩; have HB9 := Lib.hid (HB.out.trans (hb9.mono HB.out.size)); clear hb9)
            go_ret
            exact ⟨rfl, HB9.out⟩

end
end Go.Proofs.YtkdpmihdhiokkaaDoor
