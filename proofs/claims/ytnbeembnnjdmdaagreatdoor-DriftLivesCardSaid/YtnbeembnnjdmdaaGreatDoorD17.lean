/- DeleteFunc over an owned list of numbers, with a predicate that may turn two maps. -/
import Derived.Test.YtnbeembnnjdmdaaGreatDoorD15
namespace Go.Proofs.YtnbeembnnjdmdaaGreatDoor
open Go.RowKit Go.Maps

theorem blk_setCells {g t : Nat} : ∀ (vs : List Value) (o : Nat) (w : World) (cs : Array Value), Blk w g t cs → ∃ cs', Blk (w.setCells g o vs) g t cs' ∧ cs'.size = cs.size ∧ ∀ i, i < o → cs'[i]? = cs[i]?
 | [], _, _, cs, h => ⟨cs, h, rfl, fun _ _ => rfl⟩
 | v :: r, o, w, cs, h => by
  obtain ⟨cs', h1, h2, h3⟩ := blk_setCells r (o + 1) _ _ (h.set_ o v)
  refine ⟨cs', h1, by rw [h2]; simp, fun i hi => ?_⟩
  rw [h3 i (by omega), Array.getElem?_setIfInBounds_ne (by omega)]
theorem grown_setCells {g : Nat} : ∀ (vs : List Value) (o : Nat) (w : World), w.grownBy (w.setCells g o vs) (some g)
 | [], _, w => World.grownBy.refl _ _
 | v :: r, o, w => by
  have h1 : w.grownBy (w.setCell ⟨g, o, none⟩ v) (some g) := ⟨rfl, rfl, rfl, (KeepsWalks.setCell w _ v).size, fun k _ hk => Below.heap_setCell _ _ _ k (fun e => hk (by rw [e]))⟩
  have h2 := grown_setCells r (o + 1) (w.setCell ⟨g, o, none⟩ v) (g := g)
  exact ⟨h2.os.trans h1.os, h2.tape.trans h1.tape, h2.output.trans h1.output, Nat.le_trans h1.size h2.size, fun k hk hne => (h2.block k (Nat.lt_of_lt_of_le hk h1.size) hne).trans (h1.block k hk hne)⟩
theorem cellsOf_take (M : List Int) (i : Nat) (_hi : i ≤ M.length) : (cellsOf M.length 1 (lst M)).take (i * 1) = cellsOf (M.take i).length 1 (lst (M.take i)) := by
 rw [cells_lst, cells_lst, Nat.mul_one, List.map_take]
theorem IL.cleared {w : World} {B g n c i : Nat} {M : List Int} (h : IL w B (.slice (some ⟨g, 0, none⟩) n c) M) (hi : i ≤ M.length) (vs : List Value) : IL (w.setCells g i vs) B (.slice (some ⟨g, 0, none⟩) i c) (M.take i) := by
 obtain ⟨_, ⟨h0, _⟩ | ⟨g', c', cur, e, h1, h2, h3, h4, h5, h6⟩⟩ := h.own
 · cases h0
 ·
  cases e
  obtain ⟨cs', k1, k2, k3⟩ := blk_setCells vs i w cur (show Blk w g 3 cur from h2)
  have hl : (M.take i).length = i := by rw [List.length_take]; omega
  have hE : (cs'.toList.take (i * 1)) = cellsOf (M.take i).length 1 (lst (M.take i)) := by
   rw [← cellsOf_take M i hi, ← h6, List.take_take, Nat.mul_one, Nat.mul_one, Nat.min_eq_left hi]
   apply List.ext_getElem?
   intro k
   by_cases hk : k < i
   ·
    rw [List.getElem?_take_of_lt hk, List.getElem?_take_of_lt hk]
    have := k3 k hk
    simpa using this
   · rw [List.getElem?_take_eq_none (by omega), List.getElem?_take_eq_none (by omega)]
  show Own _ _ _ _ _ _ (lst (M.take i))
  refine ⟨length_cellsOf _ _ _, .inr ⟨g, c, cs', ?_, h1, k1, by omega, h4, by rw [k2]; exact h5, ?_⟩⟩
  · rw [hl]
  · rw [hl] at hE ⊢; exact hE
theorem IL.set1 {w : World} {B g n c i : Nat} {M : List Int} (h : IL w B (.slice (some ⟨g, 0, none⟩) n c) M) (x : Int) : IL (w.setCell ⟨g, i, none⟩ (.int .i64 x)) B (.slice (some ⟨g, 0, none⟩) n c) (M.set i x) := by
 have hn : n = M.length := by
  obtain ⟨A, c', e⟩ := Own.form h
  cases e; rfl
 subst hn
 have := Own.set1 h i (.int .i64 x)
 have hl : (M.set i x).length = M.length := by simp
 show Own _ _ _ _ _ (M.set i x).length (ints fun j => (M.set i x).getD j 0)
 rw [hl]
 refine Own.congr this fun a b ha hb => ?_
 unfold upd ints
 by_cases e : a = i
 ·
  subst e
  rw [if_pos rfl]
  simp [List.getD_eq_getElem?_getD, ha]
 ·
  rw [if_neg e]
  simp [List.getD_eq_getElem?_getD, Ne.symm e]
def delOk (cf : FuncId) : Prop := cf = 124 ∨ cf = 125
section
variable {w : World} {B m1 m2 : Nat} {L : List Int} {g c : Nat} {caps : Array Value} {q : Int → Bool} {Inv : World → Prop}
def Dels (cf : FuncId) (caps : Array Value) (q : Int → Bool) (m1 m2 : Nat) (L : List Int) (Inv : World → Prop) : Prop :=
 ∀ X x, Inv X → x ∈ L → Calls Tryz.prog cf (#[.int .i64 x] ++ caps) X fun e X' => e = .returned (.bool (q x)) ∧ Inv X' ∧ Mv m1 m2 X X'
set_option maxHeartbeats 1600000 in
theorem idx_del (cf : FuncId) (hcf : delOk cf) (hL : L.length ≤ 1048576) (hown : IL w B (.slice (some ⟨g, 0, none⟩) L.length c) L) (hI : Inv w) (hm : ∀ X, Inv X → IsMap' X m1 ∧ IsMap' X m2) (hd : Dels cf caps q m1 m2 L Inv) :
  Calls Tryz.prog 65 #[.slice (some ⟨g, 0, none⟩) L.length c, .func (.func cf) #[] caps] w fun e w' => Inv w' ∧ Mv m1 m2 w w' ∧ ((e = .returned (.int .i64 (-1)) ∧ ∀ x, x ∈ L → q x = false) ∨ ∃ k : Nat, k < L.length ∧ e = .returned (.int .i64 (k : Int)) ∧ q (L.getD k 0) = true ∧ ∀ x, x ∈ L.take k → q x = false) := by
 have HM := Lib.hid hm
 rcases hcf with rfl | rfl
 all_goals
  have HD := Lib.hid hd
  have HI := Lib.hid hI
  have HO := Lib.hid hown
  clear hd hI hown hm
  go_enter Tryz.func65, Tryz.ntmps65
  go_wp2_with fail
  go_loopw [5, 8] (fun _ i wr => ∃ k : Nat, k ≤ L.length ∧ i = .int .i64 k ∧ Hid ((∀ x, x ∈ L.take k → q x = false) ∧ Inv wr ∧ Mv m1 m2 w wr)) (fun _ i _ => L.length - (intOf i).toNat)
  case atStart => exact ⟨0, Nat.zero_le _, rfl, Lib.hid ⟨fun x hx => by simp at hx, HI.out, Mv.refl _ _ _⟩⟩
  case round =>
   obtain ⟨k, hk, rfl, HF⟩ := hrel
   by_cases hlt : k < L.length
   ·
    have hO2 := Own.mv HO.out HF.out.2.2 (HM.out _ HI.out).1 (HM.out _ HI.out).2
    have c0 := Own.cell1 hO2 hlt
    obtain ⟨x, hx⟩ : ∃ x, x = L.getD k 0 := ⟨_, rfl⟩
    have c1 : wr.cell? ⟨g, k, none⟩ = some (.int .i64 x) := by rw [hx]; exact c0
    have hxm : x ∈ L := by rw [hx, List.getD_eq_getElem?_getD, List.getElem?_eq_getElem hlt, Option.getD_some]; exact List.getElem_mem hlt
    have HV := Lib.hid (HD.out wr x HF.out.2.1 hxm)
    have HX := Lib.hid hx
    clear c0 hO2 hx hxm
    obtain ⟨b, hb⟩ : ∃ b, q x = b := ⟨_, rfl⟩
    rw [hb] at HV
    have HBQ := Lib.hid hb
    clear hb
    cases b
    ·
     go_wp2_with (refine HV.out.mono ?_; rintro e w1 ⟨rfl, hi1, hmv1⟩; have HI1 := Lib.hid hi1; have HMV := Lib.hid hmv1; clear hi1 hmv1)
     go_roundw
     case rel =>
      refine ⟨k + 1, by omega, by go_num, Lib.hid ⟨fun y hy => ?_, HI1.out, HF.out.2.2.trans HMV.out⟩⟩
      rw [List.take_succ_eq_append_getElem hlt, List.mem_append, List.mem_singleton] at hy
      rcases hy with hy | rfl
      · exact HF.out.1 y hy
      · have := HBQ.out; rwa [HX.out, List.getD_eq_getElem?_getD, List.getElem?_eq_getElem hlt, Option.getD_some] at this
     case measure => simp [intOf]; omega
    ·
     go_wp2_with (refine HV.out.mono ?_; rintro e w1 ⟨rfl, hi1, hmv1⟩; have HI1 := Lib.hid hi1; have HMV := Lib.hid hmv1; clear hi1 hmv1)
     go_ret
     exact ⟨HI1.out, HF.out.2.2.trans HMV.out, .inr ⟨k, hlt, rfl, by rw [← HX.out]; exact HBQ.out, HF.out.1⟩⟩
   ·
    obtain rfl : k = L.length := by omega
    go_wp2_with fail
    go_ret
    refine ⟨HF.out.2.1, HF.out.2.2, .inl ⟨rfl, fun x hx => HF.out.1 x ?_⟩⟩
    rw [List.take_length]; exact hx
theorem intZ (w : World) : (zeroValue 3).run Tryz.prog w = .ok (.int .i64 0) w := by kernel_rfl
set_option maxHeartbeats 3200000 in
theorem delete_any (cf : FuncId) (hcf : delOk cf) (hL : L.length ≤ 1048576) (hown : IL w B (.slice (some ⟨g, 0, none⟩) L.length c) L) (hI : Inv w) (hm : ∀ X, Inv X → IsMap' X m1 ∧ IsMap' X m2) (hg : ∀ X Y, Inv X → X.grownBy Y (some g) → Inv Y) (hd : Dels cf caps q m1 m2 L Inv) :
  Calls Tryz.prog 123 #[.slice (some ⟨g, 0, none⟩) L.length c, .func (.func cf) #[] caps] w fun e w' => e = .returned (.slice (some ⟨g, 0, none⟩) (L.filter fun x => !q x).length c) ∧ IL w' B (.slice (some ⟨g, 0, none⟩) (L.filter fun x => !q x).length c) (L.filter fun x => !q x) ∧ Inv w' := by
 have HX := Lib.hid (idx_del cf hcf hL hown hI hm hd)
 have HM := Lib.hid hm
 have HG := Lib.hid hg
 have HO := Lib.hid hown
 have HI := Lib.hid hI
 have hcn : L.length ≤ c := Own.room hown
 have hcx : c ≤ 9223372036854775807 := by
  obtain ⟨_, ⟨h0, _⟩ | ⟨g', c', cur, e, _, _, _, h4, _⟩⟩ := hown.own
  · cases h0
  · cases e; exact h4
 clear hown hI hm hg
 rcases hcf with rfl | rfl
 all_goals
  have HD := Lib.hid hd
  clear hd
  go_enter Tryz.func123, Tryz.ntmps123
  go_upto_region 2 with (go_at_call 65; refine HX.out.mono ?_; rintro e w1 ⟨hi1, hmv1, hr⟩; have HI1 := Lib.hid hi1; have HMV := Lib.hid hmv1; rcases hr with ⟨rfl, hall⟩ | ⟨k0, hk0, rfl, hq0, hall⟩)
  ·
   have HALL := Lib.hid hall
   clear hall hi1 hmv1 HX
   go_wp2_with fail
   go_ret
   have e : (L.filter fun x => !q x) = L := List.filter_eq_self.2 fun x hx => by rw [HALL.out x hx]; rfl
   rw [e]
   exact ⟨rfl, Own.mv HO.out HMV.out (HM.out _ HI.out).1 (HM.out _ HI.out).2, HI1.out⟩
  ·
   have hIL1 := Own.mv HO.out hmv1 (HM.out _ HI.out).1 (HM.out _ HI.out).2
   have hst : L.take k0 = (L.take (k0 + 1)).filter fun x => !q x := by
    rw [List.take_succ_eq_append_getElem hk0, List.filter_append, List.filter_eq_self.2 fun x hx => by rw [hall x hx]; rfl]
    have : q L[k0] = true := by rwa [List.getD_eq_getElem?_getD, List.getElem?_eq_getElem hk0, Option.getD_some] at hq0
    simp [this]
   have HST := Lib.hid (show L.take k0 = (L.take (k0 + 1)).filter (fun x => !q x) ∧ L.drop (k0 + 1) = L.drop (k0 + 1) ∧ IL w1 B (.slice (some ⟨g, 0, none⟩) L.length c) L ∧ Inv w1 from ⟨hst, rfl, hIL1, hi1⟩)
   clear hIL1 hst hall hq0 hi1 hmv1 HMV HI1 HX HO
   go_wp2_with fail
   go_loopw [5, 6] (fun s5 s6 wr => ∃ (i j : Nat) (M : List Int), s5 = .int .i64 i ∧ s6 = .int .i64 j ∧ i < j ∧ j ≤ L.length ∧ M.length = L.length ∧ Hid (M.take i = (L.take j).filter (fun x => !q x) ∧ M.drop j = L.drop j ∧ IL wr B (.slice (some ⟨g, 0, none⟩) L.length c) M ∧ Inv wr)) (fun _ s6 _ => L.length - (intOf s6).toNat)
   case atStart => exact ⟨k0, k0 + 1, L, rfl, by go_num, by omega, by omega, rfl, Lib.hid ⟨HST.out.1, rfl, HST.out.2.2.1, HST.out.2.2.2⟩⟩
   case round =>
    obtain ⟨i, j, M, rfl, rfl, hij, hj, hML, HF⟩ := hrel
    have HO2 := Lib.hid (show IL wr B (.slice (some ⟨g, 0, none⟩) M.length c) M by rw [hML]; exact HF.out.2.2.1)
    by_cases hlt : j < L.length
    ·
     obtain ⟨x, hx⟩ : ∃ x, x = L.getD j 0 := ⟨_, rfl⟩
     have hx2 : M.getD j 0 = x := by
      have := congrArg (fun l : List Int => l[0]?) HF.out.2.1
      simp only [List.getElem?_drop, Nat.add_zero] at this
      rw [hx, List.getD_eq_getElem?_getD, List.getD_eq_getElem?_getD, this]
     have hx3 : L[j] = x := by rw [hx, List.getD_eq_getElem?_getD, List.getElem?_eq_getElem hlt, Option.getD_some]
     have c0 : wr.cell? ⟨g, j, none⟩ = some (.int .i64 x) := by rw [← hx2]; exact Own.cell1 HO2.out (by omega)
     have hxm : x ∈ L := by rw [← hx3]; exact List.getElem_mem hlt
     have HV := Lib.hid (HD.out wr x HF.out.2.2.2 hxm)
     have htk : (L.take (j + 1)).filter (fun y => !q y) = M.take i ++ [x].filter (fun y => !q y) := by
      rw [List.take_succ_eq_append_getElem hlt, List.filter_append, HF.out.1, hx3]
     have hdr : M.drop (j + 1) = L.drop (j + 1) := by
      have := congrArg (List.drop 1) HF.out.2.1
      rwa [List.drop_drop, List.drop_drop] at this
     have HTK := Lib.hid htk
     have HDR := Lib.hid hdr
     clear hx hx2 hx3 hxm htk hdr
     obtain ⟨b, hb⟩ : ∃ b, q x = b := ⟨_, rfl⟩
     rw [hb] at HV
     have HBQ := Lib.hid hb
     clear hb
     cases b
     ·
      go_wp2_with (refine HV.out.mono ?_; rintro e w2 ⟨rfl, hi2, hmv2⟩; have HI2 := Lib.hid hi2; have HIL2 := Lib.hid (show IL w2 B (.slice (some ⟨g, 0, none⟩) M.length c) M from Own.mv HO2.out hmv2 (HM.out _ HF.out.2.2.2).1 (HM.out _ HF.out.2.2.2).2); clear hi2 hmv2; have ci := Own.cell1 HIL2.out (i := i) (by omega); have fi := Own.frz HIL2.out i)
      go_roundw
      case rel =>
       have hs := IL.set1 (i := i) (show IL _ B (.slice (some ⟨g, 0, none⟩) L.length c) M from by have := HIL2.out; rwa [hML] at this) x
       refine ⟨i + 1, j + 1, M.set i x, by go_num, by go_num, by omega, by omega, by simp [hML], Lib.hid ⟨?_, ?_, hs, HG.out _ _ HI2.out ⟨rfl, rfl, rfl, (KeepsWalks.setCell _ _ _).size, fun k _ hk => Below.heap_setCell _ _ _ k (fun e => hk (by rw [e]))⟩⟩⟩
       ·
        have hi : i < M.length := by omega
        have e1 : [x].filter (fun y => !q y) = [x] := by simp [HBQ.out]
        rw [HTK.out, e1, List.take_set, List.take_succ_eq_append_getElem hi]
        have hl : (M.take i).length = i := by rw [List.length_take]; omega
        rw [List.set_append_right _ _ (by omega), hl, Nat.sub_self]
        rfl
       · rw [List.drop_set_of_lt (by omega)]; exact HDR.out
      case measure => simp [intOf]; omega
     ·
      go_wp2_with (refine HV.out.mono ?_; rintro e w2 ⟨rfl, hi2, hmv2⟩; have HI2 := Lib.hid hi2; have HIL2 := Lib.hid (show IL w2 B (.slice (some ⟨g, 0, none⟩) M.length c) M from Own.mv HO2.out hmv2 (HM.out _ HF.out.2.2.2).1 (HM.out _ HF.out.2.2.2).2); clear hi2 hmv2)
      go_roundw
      case rel =>
       refine ⟨i, j + 1, M, rfl, by go_num, by omega, by omega, hML, Lib.hid ⟨?_, HDR.out, by have := HIL2.out; rwa [hML] at this, HI2.out⟩⟩
       have e1 : [x].filter (fun y => !q y) = [] := by simp [HBQ.out]
       rw [HTK.out, e1, List.append_nil]
      case measure => simp [intOf]; omega
    ·
     obtain rfl : j = L.length := by omega
     have hcl : ∀ ty, (Builtin.clear_ #[22] ty #[.slice (some ⟨g, i, none⟩) (L.length - i) (c - i)]).run Tryz.prog wr = .ok (.tuple #[]) (wr.setCells g i (List.replicate (L.length - i) (.int .i64 0))) := fun ty =>
      Lib.run_clear_slice wr _ _ ty _ Tryz.underlying22 intZ rfl rfl g i _ _ (by omega) (fun k hk => by rw [show wr.cell? ⟨g, i + k, none⟩ = _ from Own.cell1 HO2.out (by omega)]; rfl) (fun k hk => Own.frz HO2.out (i + k))
     go_wp2_with fail
     go_ret
     have he : M.take i = L.filter fun x => !q x := by rw [HF.out.1, List.take_length]
     have hl : i = (L.filter fun x => !q x).length := by rw [← he, List.length_take]; omega
     refine ⟨by rw [← hl]; rfl, ?_, HG.out _ _ HF.out.2.2.2 (grown_setCells _ _ _)⟩
     have := IL.cleared HO2.out (i := i) (by omega) (List.replicate (L.length - i) (.int .i64 0))
     rw [he] at this
     rw [← hl]; exact this
end
end Go.Proofs.YtnbeembnnjdmdaaGreatDoor
/- drift: the rows of tracks, in memory. -/
namespace Go.Proofs.YtnbeembnnjdmdaaGreatDoor
open Go.RowKit Go.Maps

section
variable {w : World} {B : Nat} {v : Value} {L : List Int}
theorem sort_all (h : IL w B v L) (hn2 : L.length ≤ 1048576) :
  Calls Tryz.prog 68 #[v] w fun e w' => e = .returned (.tuple #[]) ∧ IL w' B v (L.mergeSort M.leI) ∧ w.grownBy w' v.ownBlock := by
 by_cases h0 : 0 < L.length
 · exact IL.sort h h0 hn2
 ·
  obtain rfl : L = [] := List.length_eq_zero_iff.1 (by omega)
  obtain ⟨A, c, rfl⟩ := Own.form h
  refine (Tryz.slices_Sort_int_none A c w).mono ?_
  rintro e w' ⟨rfl, rfl⟩
  exact ⟨rfl, by simpa using h, World.grownBy.refl _ _⟩
theorem comp_all (h : IL w B v L) (hn2 : L.length ≤ 1048576) :
  Calls Tryz.prog 69 #[v] w fun e w' => ∃ v', v'.ownBlock = v.ownBlock ∧ e = .returned v' ∧ IL w' B v' (Lib.compact L) ∧ w.grownBy w' v.ownBlock := by
 by_cases h0 : 0 < L.length
 ·
  refine (IL.comp h h0 hn2).mono ?_
  rintro e w' ⟨g, c, e1, rfl, h2, h3⟩
  exact ⟨.slice (some ⟨g, 0, none⟩) (Lib.compact L).length c, e1.symm, rfl, h2, h3⟩
 ·
  obtain rfl : L = [] := List.length_eq_zero_iff.1 (by omega)
  obtain ⟨A, c, rfl⟩ := Own.form h
  refine (Tryz.slices_Compact_int_empty A c w).mono ?_
  rintro e w' ⟨rfl, rfl⟩
  exact ⟨_, rfl, rfl, h, World.grownBy.refl _ _⟩
end
section
variable {w : World} {B m1 m2 : Nat} {L : List Int} {v : Value} {caps : Array Value} {q : Int → Bool} {Inv : World → Prop}
set_option maxHeartbeats 1600000 in
theorem delete_nil (cf : FuncId) (_hcf : delOk cf) (w : World) :
  Calls Tryz.prog 123 #[.slice none 0 0, .func (.func cf) #[] caps] w fun e w' => e = .returned (.slice none 0 0) ∧ w' = w := by
 have HX : Calls Tryz.prog 65 #[.slice none 0 0, .func (.func cf) #[] caps] w fun e w' => e = .returned (.int .i64 (-1)) ∧ w' = w := by
  go_enter Tryz.func65, Tryz.ntmps65
  go_wp2_with fail
  go_loopw [5, 8] (fun _ i wr => i = .int .i64 0 ∧ wr = w) (fun _ _ _ => 0)
  case atStart => exact ⟨rfl, rfl⟩
  case round =>
   obtain ⟨rfl, rfl⟩ := hrel
   go_wp2_with fail
   go_ret
   exact ⟨rfl, rfl⟩
 have HXH := Lib.hid HX
 clear HX
 go_enter Tryz.func123, Tryz.ntmps123
 go_wp2_with (go_at_call 65; refine HXH.out.mono ?_; rintro e w1 ⟨rfl, rfl⟩)
 go_ret
 exact ⟨rfl, rfl⟩
theorem delete_all (cf : FuncId) (hcf : delOk cf) (hL : L.length ≤ 1048576) (hown : IL w B v L) (hI : Inv w) (hm : ∀ X, Inv X → IsMap' X m1 ∧ IsMap' X m2) (hg : ∀ X Y, Inv X → X.grownBy Y v.ownBlock → Inv Y) (hd : Dels cf caps q m1 m2 L Inv) :
  Calls Tryz.prog 123 #[v, .func (.func cf) #[] caps] w fun e w' => ∃ v', e = .returned v' ∧ v'.ownBlock = v.ownBlock ∧ IL w' B v' (L.filter fun x => !q x) ∧ Inv w' := by
 rcases hown.own with ⟨_, ⟨rfl, h0⟩ | ⟨g, c, cur, rfl, _⟩⟩
 ·
  obtain rfl : L = [] := List.length_eq_zero_iff.1 h0
  refine (delete_nil cf hcf w).mono ?_
  rintro e w' ⟨rfl, rfl⟩
  exact ⟨_, rfl, rfl, hown, hI⟩
 ·
  refine (delete_any cf hcf hL hown hI hm hg hd).mono ?_
  rintro e w' ⟨rfl, h1, h2⟩
  exact ⟨_, rfl, rfl, h1, h2⟩
end
structure TrI (SM : (Nat → Prop) → World → Prop) (m1 m2 : Nat) (W0 : World) (cs : Array Value) (lw fc ft fl : Int) (rb rw n : Nat) (T' : Nat → Prop) (V : Nat → Value) (D : Nat → Prop) (R : Nat → List Int) (X : World) : Prop where
 sm : SM T' X
 tt : ∀ g, T' g → g < W0.heap.size ∨ W0.heap.size + 6 ≤ g
 sz : W0.heap.size + 6 ≤ X.heap.size
 mv : Mv m1 m2 W0 X
 k3 : Blk X W0.heap.size 105 cs
 k4 : Blk X (W0.heap.size + 1) 3 #[.int .i64 lw]
 k5 : Blk X (W0.heap.size + 2) 96 #[.int .i64 fc, .int .i64 ft, .int .i64 fl]
 k7 : Blk X (W0.heap.size + 3) 114 #[.func (.func 121) #[] #[.pointer (some ⟨W0.heap.size, 0, none⟩), .pointer (some ⟨W0.heap.size + 2, 0, none⟩)]]
 k8 : Blk X rb 62 #[.slice (some ⟨rw, 0, none⟩) n n]
 rs : Own X W0.heap.size 22 1 (.slice (some ⟨rw, 0, none⟩) n n) n (fun i _ => V i)
 ro : ∀ k, k < n → D k → IL X (W0.heap.size + 6) (V k) (R k)
 rt : ∀ k, k < n → D k → ∀ g, (V k).ownBlock = some g → ¬ T' g
 rd : ∀ k j, k < n → j < n → D k → D j → k ≠ j → ∀ g, (V k).ownBlock = some g → (V j).ownBlock ≠ some g
section
variable {SM : (Nat → Prop) → World → Prop} {m1 m2 : Nat} {W0 : World} {cs : Array Value} {lw fc ft fl : Int} {rb rw n : Nat} {T' T'' : Nat → Prop} {V : Nat → Value} {D D' : Nat → Prop} {R : Nat → List Int} {X Y : World}
theorem TrI.weak (k : TrI SM m1 m2 W0 cs lw fc ft fl rb rw n T' V D R X) (hD : ∀ i, D' i → D i) : TrI SM m1 m2 W0 cs lw fc ft fl rb rw n T' V D' R X :=
 { k with ro := fun i hi h => k.ro i hi (hD i h), rt := fun i hi h => k.rt i hi (hD i h), rd := fun i j hi hj h1 h2 => k.rd i j hi hj (hD i h1) (hD j h2) }
theorem TrI.mvs (k : TrI SM m1 m2 W0 cs lw fc ft fl rb rw n T' V D R X) (hv : Mv m1 m2 X Y) (hm : IsMap' X m1 ∧ IsMap' X m2) (hs : SM T'' Y) (hT : ∀ g, T'' g → T' g ∨ X.heap.size ≤ g) : TrI SM m1 m2 W0 cs lw fc ft fl rb rw n T'' V D R Y := by
 obtain ⟨h1, h2⟩ := hm
 refine { sm := hs, tt := fun g hg => ?_, sz := Nat.le_trans k.sz hv.size, mv := k.mv.trans hv, k3 := k.k3.mv hv h1 h2, k4 := k.k4.mv hv h1 h2, k5 := k.k5.mv hv h1 h2, k7 := k.k7.mv hv h1 h2, k8 := k.k8.mv hv h1 h2, rs := k.rs.mv hv h1 h2, ro := fun i hi h => Own.mv (k.ro i hi h) hv h1 h2, rt := fun i hi h g hg hT' => ?_, rd := k.rd }
 ·
  rcases hT g hg with h | h
  · exact k.tt g h
  · have := k.sz; exact .inr (by omega)
 ·
  rcases hT g hT' with h3 | h3
  · exact k.rt i hi h g hg h3
  · have := (Own.block (k.ro i hi h) hg).2; omega
theorem TrI.grown (k : TrI SM m1 m2 W0 cs lw fc ft fl rb rw n T' V D R X) {row : Option Nat} (hg : X.grownBy Y row) (hrb : rb < W0.heap.size + 6) (hrw : rw < W0.heap.size + 6) (hrow : ∀ r, row = some r → W0.heap.size + 6 ≤ r ∧ ¬ T' r ∧ ∀ j, j < n → D j → (V j).ownBlock ≠ some r)
  (hSM : ∀ T X Y row, SM T X → X.grownBy Y row → (∀ r, row = some r → W0.heap.size ≤ r ∧ ¬ T r) → SM T Y) : TrI SM m1 m2 W0 cs lw fc ft fl rb rw n T' V D R Y := by
 have hne : ∀ b, b < W0.heap.size + 6 → some b ≠ row := fun b hb e => by have := (hrow b e.symm).1; omega
 refine { sm := hSM _ _ _ _ k.sm hg fun r e => ⟨by have := (hrow r e).1; omega, (hrow r e).2.1⟩, tt := k.tt, sz := Nat.le_trans k.sz hg.size, mv := k.mv.trans_grown hg fun r e => by have := (hrow r e).1; omega, k3 := k.k3.grown hg (hne _ (by omega)), k4 := k.k4.grown hg (hne _ (by omega)), k5 := k.k5.grown hg (hne _ (by omega)), k7 := k.k7.grown hg (hne _ (by omega)), k8 := k.k8.grown hg (hne _ hrb), rs := Own.grown k.rs hg (.inr (by simpa [Value.ownBlock] using hne _ hrw)), ro := fun i hi h => Own.grown (k.ro i hi h) hg ?_, rt := k.rt, rd := k.rd }
 cases row with
 | none =>
  cases hv : (V i).ownBlock with
  | none => exact .inl rfl
  | some g => exact .inr (by simp)
 | some r => exact .inr ((hrow r rfl).2.2 i hi h)
theorem TrI.below (k : TrI SM m1 m2 W0 cs lw fc ft fl rb rw n T' V D R X) (hb : Below X.heap.size X Y) (hrb : rb < W0.heap.size + 6) (hrw : rw < W0.heap.size + 6)
  (hSM : ∀ T X Y row, SM T X → X.grownBy Y row → (∀ r, row = some r → W0.heap.size ≤ r ∧ ¬ T r) → SM T Y) : TrI SM m1 m2 W0 cs lw fc ft fl rb rw n T' V D R Y :=
 k.grown (below_grown hb none) hrb hrw (fun _ e => by cases e) hSM
theorem TrI.store (k : TrI SM m1 m2 W0 cs lw fc ft fl rb rw n T' V D R X) {i : Nat} (hi : i < n) (hDi : ¬ D i) {v : Value} {L : List Int} (hv : IL X (W0.heap.size + 6) v L) (hvT : ∀ g, v.ownBlock = some g → ¬ T' g) (hvD : ∀ j, j < n → D j → ∀ g, v.ownBlock = some g → (V j).ownBlock ≠ some g)
  (hw1 : W0.heap.size + 4 ≤ rw) (hw2 : rw < W0.heap.size + 6) (hwb : rb ≠ rw) (hSM : ∀ T X Y row, SM T X → X.grownBy Y row → (∀ r, row = some r → W0.heap.size ≤ r ∧ ¬ T r) → SM T Y) :
  TrI SM m1 m2 W0 cs lw fc ft fl rb rw n T' (fun j => if j = i then v else V j) (fun j => D j ∨ j = i) (fun j => if j = i then L else R j) (X.setCell ⟨rw, i, none⟩ v) := by
 have hg : X.grownBy (X.setCell ⟨rw, i, none⟩ v) (some rw) := ⟨rfl, rfl, rfl, (KeepsWalks.setCell _ _ _).size, fun k _ hk => Below.heap_setCell _ _ _ k (fun e => hk (by rw [e]))⟩
 obtain ⟨cur, hcur⟩ := Own.blk k.rs
 have hnT : ¬ T' rw := fun h => by have := k.tt rw h; omega
 have hrow : ∀ r, some rw = some r → W0.heap.size ≤ r ∧ ¬ T' r := fun r e => by cases e; exact ⟨by omega, hnT⟩
 have hne : ∀ b, b ≠ rw → some b ≠ some rw := fun b h e => h (by cases e; rfl)
 refine { sm := hSM _ _ _ _ k.sm hg hrow, tt := k.tt, sz := Nat.le_trans k.sz hg.size, mv := k.mv.trans_grown hg fun r e => (hrow r e).1, k3 := k.k3.grown hg (hne _ (by omega)), k4 := k.k4.grown hg (hne _ (by omega)), k5 := k.k5.grown hg (hne _ (by omega)), k7 := k.k7.grown hg (hne _ (by omega)), k8 := k.k8.grown hg (hne _ hwb), rs := ?_, ro := fun j hj h => ?_, rt := fun j hj h g hgj => ?_, rd := fun a b ha hb h1 h2 hab g hga => ?_ }
 ·
  refine Own.congr (Own.set1 k.rs i v) fun a b _ _ => ?_
  unfold upd
  by_cases e : a = i
  · subst e; simp
  · simp [e]
 ·
  by_cases e : j = i
  ·
   subst e
   simp only [if_true]
   exact Own.setCell hv (Own.ne_blk hv hcur (by decide)) _
  ·
   simp only [e, if_false]
   have hj2 := k.ro j hj (h.resolve_right e)
   exact Own.setCell hj2 (Own.ne_blk hj2 hcur (by decide)) _
 ·
  by_cases e : j = i
  ·
   subst e
   simp only [if_true] at hgj
   exact hvT g hgj
  ·
   simp only [e, if_false] at hgj
   exact k.rt j hj (h.resolve_right e) g hgj
 ·
  by_cases e1 : a = i
  ·
   subst e1
   simp only [if_true] at hga
   simp only [Ne.symm hab, if_false]
   exact hvD b hb (h2.resolve_right (Ne.symm hab)) g hga
  ·
   simp only [e1, if_false] at hga
   by_cases e2 : b = i
   ·
    subst e2
    simp only [if_true]
    exact fun e => hvD a ha (h1.resolve_right e1) g e hga
   ·
    simp only [e2, if_false]
    exact k.rd a b ha hb (h1.resolve_right e1) (h2.resolve_right e2) hab g hga
end
end Go.Proofs.YtnbeembnnjdmdaaGreatDoor
