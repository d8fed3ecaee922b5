/- (*traffic).route: the least cell from which each cell is come to, tick by tick. -/
import Derived.Test.YtkdpmihdhiokkaaDoorK20
namespace Go.Proofs.YtkdpmihdhiokkaaDoor
open Go.RowKit

theorem intsS_info : (Tryd.prog.info? 22).map (fun i => (i.zero, i.size, i.bytes)) = some (some (.slice none 0 0), 1, 24) := by kernel_rfl
theorem grow_none (w : World) : Go.Sort.grow w #[] = w := by unfold Go.Sort.grow; simp
theorem reverse_own (L : List Int) (base : Nat) (v : Value) (w : World) (h : Own w base 3 1 v L.length (lst L)) (hn : 0 < L.length) (hn2 : L.length ≤ 1048576) :
    Calls Tryd.prog 67 #[v] w fun e w' => e = .returned (.tuple #[]) ∧ Own w' base 3 1 v L.length (lst L.reverse) ∧ w.grownBy w' v.ownBlock := by
  have h' := h
  unfold Own at h'
  rw [cells_lst] at h'
  rcases h'.2 with ⟨_, h0⟩ | ⟨g, cap, cur, rfl, hb0, hb, h1, h2, h3, h4⟩
  · omega
  · rw [Nat.mul_one] at h4
    have hc := Tryd.slices_Reverse_int g 0 cap L w (holds_of_blockI hb h4) (by omega)
    refine hc.mono ?_
    rintro e w' ⟨rfl, n, rfl⟩
    have hg := grownBy_sortedI (w := w) (g := g) (n := n) (os := #[]) L.reverse.toArray
    have hls : L.reverse.length = L.length := List.length_reverse
    have := ownsRow_sortedI (n := n) (os := #[]) (ss := L) (ts := L.reverse) hls hb0 hb h1 h2 h3
    rw [grow_none] at hg this
    refine ⟨rfl, ?_, hg⟩
    unfold Own
    rw [← hls, cells_lst, hls]
    exact this
/-- the cells of a way back -/
def bkL (s : M.Sea) (L : Nat → M.Leg) (n : Nat) (r : M.Trip) (K : Nat) : List Int := (List.range (K + 1)).map fun i => ((M.bk s L n r K i : Nat) : Int)
theorem bkL_len (s : M.Sea) (L : Nat → M.Leg) (n : Nat) (r : M.Trip) (K : Nat) : (bkL s L n r K).length = K + 1 := by simp [bkL]
theorem bkL_get {s : M.Sea} {L : Nat → M.Leg} {n : Nat} {r : M.Trip} {K i : Nat} (h : i < K + 1) : (bkL s L n r K).getD i 0 = ((M.bk s L n r K i : Nat) : Int) := by simp [bkL, List.getD, h]
theorem bkL_rev {s : M.Sea} {L : Nat → M.Leg} {n : Nat} {r : M.Trip} {K i : Nat} (h : i < K + 1) : (bkL s L n r K).reverse.getD i 0 = M.routeF s L n r K i := by
  have hl := bkL_len s L n r K
  have hi : i < (bkL s L n r K).length := by omega
  unfold M.routeF
  rw [← bkL_get (show K - i < K + 1 by omega), List.getD_eq_getElem?_getD, List.getD_eq_getElem?_getD, List.getElem?_reverse hi, hl]
  rfl
/-- rows of numbers of the call's own, for m ticks -/
def Comes (w : World) (base m nd : Nat) (v : Value) (V : Nat → Value) (f : Nat → Nat → Int) : Prop := Own w base 22 1 v m (fun i _ => V i) ∧ ∀ i, i < m → Own w base 3 1 (V i) nd (ints (f i))
section
variable {w w' : World} {base m nd : Nat} {v : Value} {V : Nat → Value} {f : Nat → Nat → Int}
theorem Comes.below (h : Comes w base m nd v V f) (hb : Below w.heap.size w w') : Comes w' base m nd v V f := ⟨h.1.below hb, fun i hi => (h.2 i hi).below hb⟩
end
theorem step_app {P : Program} {w : World} {ops : Array Oper} {o : Oper} {a : Act} {K : Act → World → Prop} {Q : Exit → Act → World → Prop} {E : Prop} (hgd : o.guard = none) (s x : Operand) (t : TypeId)
    (ho : o.op = .call { callee := .builtin .append, args := #[s, x], argTypes := #[t, t] })
    (e : TypeId) (i : TypeInfo) (z : Value) (m bytes : Nat) (ht : P.underlying t = some (.slice e)) (hi : P.info? e = some i) (hz : i.zero = some z)
    (hsize : i.size = m) (hby : i.bytes = bytes) (hzs : z.cells.size = m) (hsz : 0 < m) (hbm : bytes ≤ 4096)
    {base : Nat} {v : Value} {n : Nat} {F : Nat → Nat → Value} (hs : a.eval s = v) (hown : Own w base e m v n F) (hn : n ≤ 1048576) (hbase : base ≤ w.heap.size)
    (g c : Nat) (X : Nat → Value) (hx : a.eval x = .slice (some ⟨g, 0, none⟩) 1 c) (hX : ∀ j, j < m → w.cell? ⟨g, j, none⟩ = some (X j)) (h1 : ∀ j, (X j).oneCell' = true)
    (h : ∀ v' w', Own w' base e m v' (n + 1) (upd F n X) → w.grownBy w' v.ownBlock → K (a.put o.dst v') w') :
    if Region.wanted o (yielded ops a.tmps) = true then Oper.wp P o a w K Q else E :=
  step_cat hgd s x t ho e i z m bytes ht hi hz hsize hby hzs hsz hbm hs hown hn hbase (k := 1) (G := fun _ => X) (fun _ j => h1 j) hx (B := g + 1)
    (.inr ⟨g, 0, rfl, Nat.lt_succ_self _, fun i j hi hj => by obtain rfl : i = 0 := (by omega); rw [Nat.zero_add, Nat.zero_mul, Nat.zero_add]; exact hX j hj⟩) (by omega)
    fun v' w' ho hg _ => h v' w' (ho.congr fun i j hi _ => by
      unfold catF upd
      by_cases e : i = n
      · subst e; rw [if_neg (by omega), if_pos rfl]
      · rw [if_pos (by omega), if_neg e]) hg
/-- what route returns: a route of the call's own, or nil -/
def RouteV (s : M.Sea) (L : Nat → M.Leg) (n : Nat) (r : M.Trip) (base : Nat) (v : Value) (w : World) : Prop := if M.endK s L n r < s.nt - r.at_.toNat then Own w base 3 1 v (M.endK s L n r + 1) (ints (M.routeF s L n r (M.endK s L n r))) else v = .slice none 0 0
/-- the numbers of a row, filled up to a cell -/
def rowF (s : M.Sea) (L : Nat → M.Leg) (n : Nat) (r : M.Trip) (k c : Nat) : Nat → Int := fun i => if i < c then M.comeV s L n r k i else -1
section
variable (s : M.Sea) (dA tA sA lA : Option Addr) (dc tc sc ln lc B base x : Nat) (L : Nat → M.Leg) (w : World)
set_option maxRecDepth 100000 in
set_option maxHeartbeats 6400000 in
theorem route_any (at_ lv dr fr dst : Int) (tl : Bool) (hs : s.Ok) (ht : TrK w base x s.nd s dA tA sA lA dc tc sc ln lc) (hR : RdC w B dA tA sA s.nd s.nt s.nt s.dep s.tide s.sw) (hB : B ≤ w.heap.size) (hL : RdL w B lA ln L) (hln : ln ≤ 1048576)
    (hok : ∀ i, i < ln → M.LegOk s (L i)) (hto : M.tripOk s ⟨at_, lv, dr, tl, fr, dst⟩ = true) :
    Calls Tryd.prog 38 #[.pointer (some ⟨x, 0, none⟩), .agg #[.int .i64 at_, .int .i64 lv, .int .i64 dr, .bool tl, .int .i64 fr, .int .i64 dst]] w fun e w' =>
      (∃ v, e = .returned v ∧ RouteV s L ln ⟨at_, lv, dr, tl, fr, dst⟩ w.heap.size v w') ∧ Below w.heap.size w w' := by
  have hnd := hs.nd1
  have HND := Lib.hid hs.nd
  have hnt := hs.t2
  obtain ⟨⟨ha0, ha1⟩, ⟨hf0, hf1⟩, ⟨hd0, hd1⟩, hun⟩ := M.tripOk_iff.1 hto
  obtain ⟨at', rfl⟩ : ∃ a : Nat, at_ = (a : Int) := ⟨at_.toNat, by simp only at ha0; omega⟩
  obtain ⟨fr', rfl⟩ : ∃ a : Nat, fr = (a : Int) := ⟨fr.toNat, by simp only at hf0; omega⟩
  obtain ⟨dst', rfl⟩ : ∃ a : Nat, dst = (a : Int) := ⟨dst.toNat, by simp only at hd0; omega⟩
  have hat : at' < s.nt := by simp only at ha1; omega
  have hfr : fr' < s.nd := by simp only at hf1; omega
  have hds : dst' < s.nd := by simp only at hd1; omega
  clear ha0 ha1 hf0 hf1 hd0 hd1
  obtain ⟨r, hr⟩ : ∃ r : M.Trip, r = ⟨(at' : Int), lv, dr, tl, (fr' : Int), (dst' : Int)⟩ := ⟨_, rfl⟩
  have HRT := Lib.hid (show r.at_ = (at' : Int) ∧ r.from_ = (fr' : Int) ∧ r.to_ = (dst' : Int) ∧ r.at_.toNat = at' ∧ r.to_.toNat = dst' by rw [hr]; exact ⟨rfl, rfl, rfl, by simp, by simp⟩)
  have HTO := Lib.hid (show M.tripOk s r = true by rw [hr]; exact hto)
  have HGO := Lib.hid (fun W (hb : Below w.heap.size w W) (p : Int) (q t : Nat) (hq : q < s.nd) (htk : t < s.nt) => goes_any s dA tA sA lA dc tc sc ln lc B base x L W (at' : Int) lv dr (fr' : Int) (dst' : Int) tl p q t hs (ht.below hb) (hR.below (hb.mono hB)) (Nat.le_trans hB hb.size) (hL.below (hb.mono hB)) hln hok hq htk hun)
  rw [← hr] at HGO
  rw [← hr]
  have HSP := Lib.hid hs
  obtain ⟨nA, nc, NV, t1, t2, t3, t4⟩ := ht
  obtain ⟨gN, cN, eN⟩ := t3.nz (by omega)
  injection eN with eN1 _ eN2
  subst eN1; subst eN2
  have HN := Lib.hid (fun W (hb : Below w.heap.size w W) => And.intro (t1.below' hb) (And.intro (t3.below hb) fun i (hi : i < s.nd) => (t4 i hi).below hb))
  obtain ⟨i0, hi, hz0, hz1, hz2⟩ := info_parts int_info
  have MI := Lib.hid (And.intro hi (And.intro hz0 (And.intro hz1 hz2)))
  obtain ⟨j0, ji, jz0, jz1, jz2⟩ := info_parts intsS_info
  have MJ := Lib.hid (And.intro ji (And.intro jz0 (And.intro jz1 jz2)))
  have HB0 := Lib.hid (belowAlloc w (.cells #[.int .i64 (at' : Int), .int .i64 lv, .int .i64 dr, .bool tl, .int .i64 (fr' : Int), .int .i64 (dst' : Int)] 28))
  have P0 := Lib.hid (Blk.new w 28 #[.int .i64 (at' : Int), .int .i64 lv, .int .i64 dr, .bool tl, .int .i64 (fr' : Int), .int .i64 (dst' : Int)])
  clear hi hz0 hz1 hz2 ji jz0 jz1 jz2 hto hun hr hs t1 t2 t3 t4 hR hB hL hln hok
  go_enter Tryd.func38, Tryd.ntmps38
  go_upto_region 2 with fail
  obtain ⟨Y, hY⟩ : ∃ Y, Y = w.alloc (.cells #[.int .i64 (at' : Int), .int .i64 lv, .int .i64 dr, .bool tl, .int .i64 (fr' : Int), .int .i64 (dst' : Int)] 28) := ⟨_, rfl⟩
  rw [← hY] at HB0 P0
  rw [← hY]
  clear hY
  have p0 := P0.out.cell 0
  go_upto_block 0 with fail
  go_cut [5] (fun v wc => ∃ m A c V, v = .slice A m c ∧ 1 ≤ m ∧ m ≤ s.nt - at' ∧ Comes wc Y.heap.size m s.nd (.slice A m c) V (M.comeV s L ln r) ∧ (∀ j, j + 1 < m → M.reach s L ln r j dst' = false) ∧ (m = s.nt - at' ∨ M.reach s L ln r (m - 1) dst' = true) ∧ Below Y.heap.size Y wc)
  case first =>
    go_wp2_with fail
    go_loopw [5, 6] (fun v i wr => ∃ k t : Nat, ∃ A c V, v = .slice A k c ∧ i = .int .i64 (t : Int) ∧ Hid (t = at' + k) ∧ k ≤ s.nt - at' ∧ Comes wr Y.heap.size k s.nd (.slice A k c) V (M.comeV s L ln r) ∧ Hid (∀ j, j < k → M.reach s L ln r j dst' = false) ∧ Below Y.heap.size Y wr) (fun _ i _ => s.nt - (intOf i).toNat)
    case atStart => exact ⟨0, at', none, 0, fun _ => .int .i64 0, rfl, rfl, Lib.hid rfl, Nat.zero_le _, ⟨Own.nil_, fun i hi => absurd hi (by omega)⟩, Lib.hid fun j hj => absurd hj (by omega), Below.refl _ _⟩
    case round =>
      obtain ⟨k, t, A, c, V, rfl, rfl, HTK, hk, hcm, HNO, hbw⟩ := hrel
      have HC := Lib.hid hcm
      have HW := Lib.hid hbw
      have hz := hbw.size
      have hz0 := HB0.out.size
      clear hcm hbw
      obtain ⟨wo, rfl⟩ : ∃ wo, wo = wr := ⟨_, rfl⟩
      have hbw' := HB0.out.trans (HW.out.mono hz0)
      have x3 := (HN.out wo hbw').1.cell 3
      have x2 := (HN.out wo hbw').1.cell 2
      have hxl := (HN.out wo hbw').1.lt
      have HBW := Lib.hid hbw'
      clear hbw'
      by_cases hlt : k < s.nt - at'
      · have htn : t < s.nt := by have := HTK.out; omega
        have HRP := Lib.hid (repeat_any wo.heap.size 1 s.nd (-1) (wo.alloc (.cells #[.int .i64 (-1)] 3)) (Blk.new wo 3 #[.int .i64 (-1)]) (by omega) (by omega))
        go_upto_region 6 with (go_at_call 65; go_must (refine HRP.out.mono ?_); rintro e w5 ⟨v5, rfl, o5, hb5⟩; have O5 := Lib.hid o5; have HB5 := Lib.hid ((belowAlloc wo (.cells #[.int .i64 (-1)] 3)).trans (hb5.mono (by simp))); clear o5 hb5)
        have HC5 := Lib.hid (HC.out.below HB5.out)
        obtain ⟨gr, cr, rfl⟩ := O5.out.nz (by omega)
        have hgr : wo.heap.size + 1 ≤ gr ∧ gr < w5.heap.size := by have := O5.out.block rfl; simpa using this
        have R5 := Lib.hid (O5.out.less (base' := wo.heap.size + 1) (by simp))
        clear O5
        have BY5 := Lib.hid (HW.out.trans (HB5.out.mono hz))
        have hz5 := BY5.out.size
        go_upto_region 7 with (at_builtin; go_must (refine wpList_app rfl (.tmp 34) (.tmp 36) 105 rfl Y.heap.size 22 1 24 Tryd.underlying105 MJ.out.1 MJ.out.2.1 MJ.out.2.2.1 MJ.out.2.2.2 rfl (by decide) (by decide) (HC5.out.1.alloc _) rfl (by omega) (by simp; omega) w5.heap.size 1 (fun _ => .slice (some ⟨gr, 0, none⟩) s.nd cr) rfl (cell_last rfl) (fun _ _ => rfl) ?_); intro v6 w6 o6 hg6 hat6; obtain ⟨A6, z6, rfl⟩ := o6.form; have HO6 := Lib.hid o6; have HG6 := Lib.hid hg6; clear o6 hg6 hat6)
        have NX := Lib.hid (HC5.out.1.alloc (.cells #[.slice (some ⟨gr, 0, none⟩) s.nd cr] 22))
        have hap : ∀ {b n : Nat} {v : Value} {F : Nat → Nat → Value}, Own w5 b 3 1 v n F → Own w6 b 3 1 v n F := fun h => Own.apart_grown (h.alloc _) (Own.apart_type NX.out (h.alloc _) (by decide)) HG6.out
        have R6 := Lib.hid (hap R5.out)
        have HOLD6 := Lib.hid (fun i (hi : i < k) => hap (HC5.out.2 i hi))
        have BY6 := Lib.hid ((BY5.out.alloc hz5 (.cells #[.slice (some ⟨gr, 0, none⟩) s.nd cr] 22)).grown HG6.out (by simp; omega) (fun q hq => (HC5.out.1.block hq).1))
        have hz6 := BY6.out.size
        have hoY := hz
        have hVb := Lib.hid (fun i (hi : i < k) => (fun g (h : (V i).ownBlock = some g) => ((HC.out.2 i hi).block h).2))
        have HK := Lib.hid (fun W (hg : w6.grownBy W (some gr)) => (show Below Y.heap.size Y W ∧ Own W Y.heap.size 22 1 (.slice A6 (k + 1) z6) (k + 1) (upd (fun i _ => V i) k fun _ => .slice (some ⟨gr, 0, none⟩) s.nd cr) ∧ ∀ i, i < k → Own W Y.heap.size 3 1 (V i) s.nd (ints (M.comeV s L ln r i)) from
          ⟨BY6.out.grown hg (by omega) (fun q hq => by injection hq with hq; omega), HO6.out.grown hg (.inr fun e => (Own.apart_type HO6.out R6.out (by decide)) gr e rfl), fun i hi => (HOLD6.out i hi).grown hg (.inr fun e => by have := hVb.out i hi gr e; omega)⟩))
        clear hap HC5 HB5 R5 BY5 hVb NX HOLD6
        have p0 := (P0.out.below' BY6.out).cell 0
        go_upto_if 41 with fail
        go_cut [] (fun wx => Own wx (wo.heap.size + 1) 3 1 (.slice (some ⟨gr, 0, none⟩) s.nd cr) s.nd (ints (M.comeV s L ln r k)) ∧ w6.grownBy wx (some gr))
        case first =>
          have p1 := (P0.out.below' BY6.out).cell 1
          have p2 := (P0.out.below' BY6.out).cell 2
          have p3 := (P0.out.below' BY6.out).cell 3
          have p4 := (P0.out.below' BY6.out).cell 4
          have p5 := (P0.out.below' BY6.out).cell 5
          have HBW6 := Lib.hid (HB0.out.trans (BY6.out.mono hz0))
          by_cases hk0 : k = 0
          · obtain rfl : t = at' := by have := HTK.out; omega
            subst hk0
            have HG0 := Lib.hid (HGO.out w6 HBW6.out (-1) fr' t hfr hat)
            have HCZ := Lib.hid (M.comeV_zero (s := s) (L := L) (n := ln) (r := r) fr' HRT.out.2.1.symm)
            have HCN := Lib.hid (fun c (hc : c ≠ fr') => M.comeV_zero' (s := s) (L := L) (n := ln) (r := r) c (by rw [HRT.out.2.1]; omega))
            have HTA := Lib.hid (show M.goes s L ln r (-1) fr' t = M.goes s L ln r (-1) fr' r.at_.toNat by rw [HRT.out.2.2.2.1])
            obtain ⟨gv, hgv⟩ : ∃ gv, gv = M.goes s L ln r (-1) fr' t := ⟨_, rfl⟩
            rw [← hgv] at HG0 HTA
            rw [← HTA.out] at HCZ
            clear hgv HTA
            have kf : decide (s.nd ≤ fr') = false := decide_eq_false (by omega)
            cases gv
            · have R7 := Lib.hid (fun W (hb : Below w6.heap.size w6 W) => (R6.out.below hb).congr (F' := ints (M.comeV s L ln r 0)) fun i j _ _ => by
                unfold ints
                by_cases e : i = fr'
                · subst e; rw [HCZ.out]; simp
                · rw [HCN.out i e])
              go_wp2_with (go_at_call 66; go_must (refine HG0.out.mono ?_); rintro e w7 ⟨rfl, hb7⟩; have HB7 := Lib.hid hb7; clear hb7)
              go_meet
              case rel => exact ⟨R7.out _ HB7.out, below_grown HB7.out _⟩
            · go_wp2_with (go_at_call 66; go_must (refine HG0.out.mono ?_); rintro e w7 ⟨rfl, hb7⟩; have HB7 := Lib.hid hb7; have R7 := Lib.hid (R6.out.below hb7); have q4 := ((P0.out.below' BY6.out).below' hb7).cell 4; have r7 := R7.out.cell1 hfr; have f7 := R7.out.frz fr'; clear hb7)
              go_meet
              case rel =>
                refine ⟨(R7.out.set1 fr' _).congr fun i j _ _ => ?_, (below_grown HB7.out _).trans ⟨rfl, rfl, rfl, by simp [World.setCell], fun q _ hq => Below.heap_setCell w7 ⟨gr, fr', none⟩ _ q (fun e => hq (by rw [e]))⟩⟩
                unfold upd ints
                by_cases e : i = fr'
                · subst e; rw [if_pos rfl, HCZ.out]; rfl
                · rw [if_neg e, HCN.out i e]
          · obtain ⟨k', rfl⟩ : ∃ k', k = k' + 1 := ⟨k - 1, by omega⟩
            have hta : ¬ t = at' := by have := HTK.out; omega
            have hta2 : ((t : Int) == (at' : Int)) = false := by rw [beq_eq_false_iff_ne]; omega
            have HTA := Lib.hid (show t = r.at_.toNat + (k' + 1) by rw [HRT.out.2.2.2.1]; exact HTK.out)
            obtain ⟨g6, c6, e6⟩ := HO6.out.nz (by omega)
            injection e6 with e61 _ e62
            subst e61; subst e62
            have b0 : w6.cell? ⟨g6, k', none⟩ = some (V k') := by
              have := HO6.out.cell1 (i := k') (by omega)
              rw [this]
              unfold upd
              rw [if_neg (by omega)]
            obtain ⟨gb, cb, eb⟩ := ((HK.out w6 (below_grown (Below.refl _ _) _)).2.2 k' (by omega)).nz (by omega)
            have HEB := Lib.hid eb
            rw [eb] at b0
            clear eb
            have hk2 : (((k' + 1 + 1 : Nat) : Int) - 2) = (k' : Int) := by omega
            go_upto_region 11 with fail
            go_wp2_with fail
            go_loopw [62] (fun i wq => ∃ c : Nat, c ≤ s.nd ∧ i = .int .i64 (c : Int) ∧ Own wq (wo.heap.size + 1) 3 1 (.slice (some ⟨gr, 0, none⟩) s.nd cr) s.nd (ints (rowF s L ln r (k' + 1) c)) ∧ w6.grownBy wq (some gr)) (fun i _ => s.nd - (intOf i).toNat)
            case atStart => exact ⟨0, Nat.zero_le _, rfl, R6.out.congr fun i j _ _ => by unfold ints rowF; rw [if_neg (by omega)], below_grown (Below.refl _ _) _⟩
            case round =>
              clear b0 p0 p1 p2 p3 p4 p5 x2 x3
              obtain ⟨cc, hcc, rfl, hro, hgq⟩ := hrel
              have HRO := Lib.hid hro
              have HGQ := Lib.hid hgq
              have hzq := hgq.size
              clear hro hgq
              obtain ⟨wp, rfl⟩ : ∃ wp, wp = wr := ⟨_, rfl⟩
              by_cases hlc : cc < s.nd
              · have HBq := Lib.hid (HB0.out.trans ((HK.out wp HGQ.out).1.mono hz0))
                have x6 := (HN.out wp HBq.out).1.cell 6
                have n0 := (HN.out wp HBq.out).2.1.cell1 hlc
                have hlen1 := M.nearL_len s.W s.H cc
                obtain ⟨gq, cq, eq⟩ := ((HN.out wp HBq.out).2.2 cc hlc).nz (by omega)
                have HNE := Lib.hid (fun W (hb : Below w.heap.size w W) j (hj : j < (M.nearL s.W s.H cc).length) => (show W.cell? ⟨gq, j, none⟩ = some (.int .i64 ((M.nearL s.W s.H cc).getD j 0)) from by
                  have := (HN.out W hb).2.2 cc hlc
                  rw [eq] at this
                  exact this.cell1 hj))
                rw [eq] at n0
                clear eq
                have HLN := Lib.hid (fun j (hj : j < (M.nearL s.W s.H cc).length) => M.nearL_get (W := s.W) (H := s.H) (c := cc) hj)
                have HNO' := Lib.hid (fun (h : ∀ j, j < (M.nearL s.W s.H cc).length → M.tryB s L ln r k' cc j = false) => M.comeV_none (L := L) (n := ln) (r := r) HND.out hlc h)
                have HFI := Lib.hid (fun j (hj : j < (M.nearL s.W s.H cc).length) (h : ∀ q, q < j → M.tryB s L ln r k' cc q = false) (h2 : M.tryB s L ln r k' cc j = true) => M.comeV_first (L := L) (n := ln) (r := r) HND.out hlc hj h h2)
                have HTRY := Lib.hid (fun j => (show M.tryB s L ln r k' cc j = (M.reach s L ln r k' ((M.nearL s.W s.H cc).getD j 0).toNat && M.goes s L ln r ((M.nearL s.W s.H cc).getD j 0) cc (r.at_.toNat + (k' + 1))) from rfl))
                have HADJ := Lib.hid (fun b (h : M.adj s.W s.H cc b = true) => (show b < s.nd by rw [HND.out]; exact M.adj_lt (by rw [← HND.out]; exact hlc) h))
                rw [← HTA.out] at HTRY
                obtain ⟨nl, hnl⟩ : ∃ nl, nl = M.nearL s.W s.H cc := ⟨_, rfl⟩
                rw [← hnl] at n0 hlen1 HNE HLN HNO' HFI HTRY
                obtain ⟨len, hle⟩ : ∃ len, len = nl.length := ⟨_, rfl⟩
                rw [← hle] at n0 hlen1 HNE HLN HNO' HFI
                clear hnl hle
                have kc : decide (s.nd ≤ cc) = false := decide_eq_false (by omega)
                go_upto_block 3 with fail
                go_cut [] (fun wx => Own wx (wo.heap.size + 1) 3 1 (.slice (some ⟨gr, 0, none⟩) s.nd cr) s.nd (ints (rowF s L ln r (k' + 1) (cc + 1))) ∧ w6.grownBy wx (some gr))
                case first =>
                  go_wp2_with fail
                  go_loopw [73] (fun i wz => ∃ j : Nat, j ≤ len ∧ i = .int .i64 (j : Int) ∧ Hid (∀ q, q < j → M.tryB s L ln r k' cc q = false) ∧ Own wz (wo.heap.size + 1) 3 1 (.slice (some ⟨gr, 0, none⟩) s.nd cr) s.nd (ints (rowF s L ln r (k' + 1) cc)) ∧ w6.grownBy wz (some gr)) (fun i _ => len - (intOf i).toNat)
                  case atStart => exact ⟨0, Nat.zero_le _, rfl, Lib.hid fun q hq => absurd hq (by omega), HRO.out, HGQ.out⟩
                  case round =>
                    clear x6 n0
                    obtain ⟨j, hj, rfl, HTR, hro, hgz⟩ := hrel
                    have HRZ := Lib.hid hro
                    have HGZ := Lib.hid hgz
                    have hzz := hgz.size
                    clear hro hgz
                    by_cases hlj : j < len
                    · have HBz := Lib.hid (HB0.out.trans ((HK.out wr HGZ.out).1.mono hz0))
                      obtain ⟨b, eb, hab⟩ := HLN.out j hlj
                      have hbn := HADJ.out b hab
                      have a0 := HNE.out wr HBz.out j hlj
                      rw [eb] at a0
                      have b1 := (HK.out wr HGZ.out).2.2 k' (by omega)
                      rw [HEB.out] at b1
                      have b2 := b1.cell1 hbn
                      have HTJ := Lib.hid (HTRY.out j)
                      have HCV := Lib.hid (M.comeV_reach (s := s) (L := L) (n := ln) (r := r) k' b)
                      have HGB := Lib.hid (HGO.out wr HBz.out (b : Int) cc t hlc htn)
                      rw [eb, Int.toNat_natCast] at HTJ
                      have HEB2 := Lib.hid eb
                      clear eb b1 hab
                      obtain ⟨cv, hcv⟩ : ∃ cv, cv = M.comeV s L ln r k' b := ⟨_, rfl⟩
                      unfold ints at b2
                      rw [← hcv] at b2 HCV
                      obtain ⟨rv, hrv⟩ : ∃ rv, rv = M.reach s L ln r k' b := ⟨_, rfl⟩
                      rw [← hrv] at HCV HTJ
                      obtain ⟨gv, hgv⟩ : ∃ gv, gv = M.goes s L ln r (b : Int) cc t := ⟨_, rfl⟩
                      rw [← hgv] at HGB HTJ
                      clear hcv hrv hgv
                      have kb : decide (s.nd ≤ b) = false := decide_eq_false (by omega)
                      have kj : decide (len ≤ j) = false := decide_eq_false (by omega)
                      have p0 := (P0.out.below' (HK.out wr HGZ.out).1).cell 0
                      have p1 := (P0.out.below' (HK.out wr HGZ.out).1).cell 1
                      have p2 := (P0.out.below' (HK.out wr HGZ.out).1).cell 2
                      have p3 := (P0.out.below' (HK.out wr HGZ.out).1).cell 3
                      have p4 := (P0.out.below' (HK.out wr HGZ.out).1).cell 4
                      have p5 := (P0.out.below' (HK.out wr HGZ.out).1).cell 5
                      cases rv
                      · have hneg : cv < 0 := by have := HCV.out; simpa using this
                        have g0 : decide (0 ≤ cv) = false := decide_eq_false (by omega)
                        clear hneg
                        go_wp2_with fail
                        go_roundw
                        case rel => exact ⟨j + 1, by omega, by go_num, Lib.hid fun q hq => by
                          rcases Nat.lt_succ_iff_lt_or_eq.1 hq with h | h
                          · exact HTR.out q h
                          · subst h; exact HTJ.out, HRZ.out, HGZ.out⟩
                        case measure => simp [intOf]; omega
                      · have hpos : ¬ cv < 0 := by have := HCV.out; simpa using this
                        have g0 : decide (0 ≤ cv) = true := decide_eq_true (by omega)
                        clear hpos
                        cases gv
                        · go_wp2_with (go_at_call 66; go_must (refine HGB.out.mono ?_); rintro e w7 ⟨rfl, hb7⟩; have HB7 := Lib.hid hb7; clear hb7)
                          go_roundw
                          case rel => exact ⟨j + 1, by omega, by go_num, Lib.hid fun q hq => by
                            rcases Nat.lt_succ_iff_lt_or_eq.1 hq with h | h
                            · exact HTR.out q h
                            · subst h; exact HTJ.out, HRZ.out.below HB7.out, HGZ.out.trans (below_grown HB7.out _)⟩
                          case measure => simp [intOf]; omega
                        · go_wp2_with (go_at_call 66; go_must (refine HGB.out.mono ?_); rintro e w7 ⟨rfl, hb7⟩; have HB7 := Lib.hid hb7; have R7 := Lib.hid (HRZ.out.below hb7); have r7 := R7.out.cell1 hlc; have f7 := R7.out.frz cc; clear hb7)
                          go_meet
                          case rel =>
                            refine ⟨(R7.out.set1 cc _).congr fun i q _ _ => ?_, HGZ.out.trans ((below_grown HB7.out _).trans ⟨rfl, rfl, rfl, by simp [World.setCell], fun q _ hq => Below.heap_setCell w7 ⟨gr, cc, none⟩ _ q (fun e => hq (by rw [e]))⟩)⟩
                            have h1 := HFI.out j hlj HTR.out HTJ.out
                            rw [HEB2.out] at h1
                            unfold upd ints rowF
                            by_cases e : i = cc
                            · subst e; rw [if_pos rfl, if_pos (by omega), h1]
                            · rw [if_neg e]
                              by_cases e2 : i < cc
                              · rw [if_pos e2, if_pos (by omega)]
                              · rw [if_neg e2, if_neg (by omega)]
                    · obtain rfl : j = len := by omega
                      go_wp2_with fail
                      go_meet
                      case rel =>
                        refine ⟨HRZ.out.congr fun i q _ _ => ?_, HGZ.out⟩
                        have h1 := HNO'.out HTR.out
                        unfold ints rowF
                        by_cases e : i = cc
                        · subst e; rw [if_neg (by omega), if_pos (by omega), h1]
                        · by_cases e2 : i < cc
                          · rw [if_pos e2, if_pos (by omega)]
                          · rw [if_neg e2, if_neg (by omega)]
                case rest =>
                  obtain ⟨hr8, hg8⟩ := hcut
                  have HR8 := Lib.hid hr8
                  have HG8 := Lib.hid hg8
                  clear hr8 hg8
                  go_wp2_with fail
                  go_roundw
                  case rel => exact ⟨cc + 1, by omega, by go_num, HR8.out, HG8.out⟩
                  case measure => simp [intOf]; omega
              · obtain rfl : cc = s.nd := by omega
                go_wp2_with fail
                go_meet
                case rel => exact ⟨HRO.out.congr fun i j hi _ => by unfold ints rowF; rw [if_pos hi], HGQ.out⟩
        case rest =>
          obtain ⟨hr8, hg8⟩ := hcut
          have HR8 := Lib.hid hr8
          have HG8 := Lib.hid hg8
          have BY8 := Lib.hid ((HK.out wc hg8).1)
          have hz8 := BY8.out.size
          clear hr8 hg8 p0 x2 x3
          have p5 := (P0.out.below' BY8.out).cell 5
          have r8 := HR8.out.cell1 hds
          have HCV := Lib.hid (M.comeV_reach (s := s) (L := L) (n := ln) (r := r) k dst')
          have HCM := Lib.hid (show Comes wc Y.heap.size (k + 1) s.nd (.slice A6 (k + 1) z6) (fun i => if i = k then .slice (some ⟨gr, 0, none⟩) s.nd cr else V i) (M.comeV s L ln r) from ⟨(HK.out wc HG8.out).2.1.congr fun i j _ _ => (by unfold upd; by_cases e : i = k <;> simp [e]), fun i hi => by
            by_cases e : i = k
            · subst e; simp only [if_true]; exact HR8.out.less (by omega)
            · simp only [if_neg e]; exact (HK.out wc HG8.out).2.2 i (by omega)⟩)
          obtain ⟨cv, hcv⟩ : ∃ cv, cv = M.comeV s L ln r k dst' := ⟨_, rfl⟩
          unfold ints at r8
          rw [← hcv] at r8 HCV
          have kd : decide (s.nd ≤ dst') = false := decide_eq_false (by omega)
          cases hrv : M.reach s L ln r k dst'
          · have HRV := Lib.hid hrv
            have hneg : cv < 0 := by have := HCV.out; rw [hrv] at this; simpa using this
            have g0 : decide (0 ≤ cv) = false := decide_eq_false (by omega)
            clear hneg hrv hcv
            go_wp2_with fail
            go_roundw
            case rel => exact ⟨k + 1, t + 1, A6, z6, _, rfl, by go_num, Lib.hid (by have := HTK.out; omega), by omega, HCM.out, Lib.hid fun j hj => by
              rcases Nat.lt_succ_iff_lt_or_eq.1 hj with h | h
              · exact HNO.out j h
              · subst h; exact HRV.out, BY8.out⟩
            case measure => simp [intOf]; omega
          · have HRV := Lib.hid hrv
            have hpos : ¬ cv < 0 := by have := HCV.out; rw [hrv] at this; simpa using this
            have g0 : decide (0 ≤ cv) = true := decide_eq_true (by omega)
            clear hpos hrv hcv
            go_wp2_with fail
            go_meet
            case rel => exact ⟨k + 1, A6, z6, _, rfl, by omega, by omega, HCM.out, fun j hj => HNO.out j (by omega), .inr HRV.out, BY8.out⟩
      · have htn : ¬ t < s.nt := by have := HTK.out; omega
        have hke : k = s.nt - at' := by omega
        have HKE := Lib.hid hke
        clear hke
        go_wp2_with fail
        go_meet
        case rel => exact ⟨k, A, c, V, rfl, by have := HKE.out; omega, hk, HC.out, fun j hj => HNO.out j (by omega), .inl HKE.out, HW.out⟩
  case rest =>
    obtain ⟨m, A, c, V, rfl, hm1, hm2, hcm, hno, hor, hbw⟩ := hcut
    obtain ⟨K, rfl⟩ : ∃ K, m = K + 1 := ⟨m - 1, by omega⟩
    obtain ⟨gc, cc, ec⟩ := hcm.1.nz (by omega)
    injection ec with ec1 _ ec2
    subst ec1; subst ec2
    have c0 := hcm.1.cell1 (i := K) (by omega)
    have hl := hcm.2 K (by omega)
    obtain ⟨gl, cl, el⟩ := hl.nz (by omega)
    rw [el] at c0 hl
    have l0 := hl.cell1 hds
    have HCM := Lib.hid hcm
    have HNO := Lib.hid hno
    have HOR := Lib.hid hor
    have HW := Lib.hid hbw
    have hz := hbw.size
    have p5 := (P0.out.below' HW.out).cell 5
    have HCV := Lib.hid (M.comeV_reach (s := s) (L := L) (n := ln) (r := r) K dst')
    clear el hl hcm hno hor hbw
    obtain ⟨cv, hcv⟩ : ∃ cv, cv = M.comeV s L ln r K dst' := ⟨_, rfl⟩
    unfold ints at l0
    rw [← hcv] at l0 HCV
    have kd : decide (s.nd ≤ dst') = false := decide_eq_false (by omega)
    have kK : decide (K + 1 ≤ K) = false := decide_eq_false (by omega)
    cases hrv : M.reach s L ln r K dst'
    · have HRV := Lib.hid hrv
      have hneg : cv < 0 := by have := HCV.out; rw [hrv] at this; simpa using this
      have g0 : decide (cv < 0) = true := decide_eq_true hneg
      have HEK := Lib.hid (show ¬ M.endK s L ln r < s.nt - at' by
        have := HOR.out
        rw [Nat.add_sub_cancel, HRV.out] at this
        have hK : K + 1 = s.nt - at' := by rcases this with h | h; exact h; cases h
        have h2 := M.endK_none (s := s) (L := L) (n := ln) (r := r) (fun j hj => by
          rw [HRT.out.2.2.2.1] at hj
          rw [HRT.out.2.2.2.2]
          by_cases e : j = K
          · subst e; exact HRV.out
          · exact HNO.out j (by omega))
        rw [HRT.out.2.2.2.1] at h2
        omega)
      clear hneg hrv hcv
      go_upto_region 22 with fail
      go_quiet (fail)
      go_wp2_with fail
      go_ret
      exact ⟨⟨_, rfl, by unfold RouteV; rw [HRT.out.2.2.2.1, if_neg HEK.out]; rfl⟩, (HB0.out.trans (HW.out.mono HB0.out.size)).drewN nq⟩
    · have HRV := Lib.hid (show M.reach s L ln r K r.to_.toNat = true by rw [HRT.out.2.2.2.2]; exact hrv)
      have hpos : ¬ cv < 0 := by have := HCV.out; rw [hrv] at this; simpa using this
      have g0 : decide (cv < 0) = false := decide_eq_false hpos
      have HEK := Lib.hid (show M.endK s L ln r = K from M.endK_eq (by rw [HRT.out.2.2.2.1]; omega) HRV.out (fun j hj => by rw [HRT.out.2.2.2.2]; exact HNO.out j (by omega)))
      have hKn : K < s.nt - at' := by omega
      clear hpos hrv hcv
      go_upto_region 22 with fail
      go_quiet (fail)
      go_upto_region 24 with fail
      have HCZ := Lib.hid (show Comes (wc.drewN nq) Y.heap.size (K + 1) s.nd (.slice (some ⟨gc, 0, none⟩) (K + 1) c) V (M.comeV s L ln r) from HCM.out)
      have HWZ := Lib.hid (HW.out.drewN nq)
      have q5 : (wc.drewN nq).cell? ⟨w.heap.size, 5, none⟩ = some (.int .i64 (dst' : Int)) := p5
      have hzz : Y.heap.size ≤ (wc.drewN nq).heap.size := hz
      clear c0 l0 p5 HCM HW
      generalize wc.drewN nq = Z at HCZ HWZ q5 hzz ⊢
      have HBD := Lib.hid (M.bk_reach (s := s) (L := L) (n := ln) (r := r) HRV.out)
      have HLT := Lib.hid (fun j (hj : j ≤ K) => M.reach_lt (s := s) (L := L) (n := ln) (r := r) HTO.out HND.out (HBD.out j hj))
      have HSTEP := Lib.hid (fun j (hj : j < K) => M.comeV_bk (s := s) (L := L) (n := ln) (r := r) HRV.out hj)
      have HB00 := Lib.hid (show M.bk s L ln r K 0 = dst' from HRT.out.2.2.2.2)
      have O1 := Lib.hid (own_one (Blk.new Z 3 #[.int .i64 (dst' : Int)]) (ints fun q => ((M.bk s L ln r K q : Nat) : Int)) (by show Value.int .i64 ((M.bk s L ln r K 0 : Nat) : Int) = _; rw [HB00.out]))
      go_wp2_with fail
      go_loopw [12, 13] (fun v i wr => ∃ j q : Nat, ∃ c' gp, v = .slice (some ⟨gp, 0, none⟩) (j + 1) c' ∧ i = .int .i64 (q : Int) ∧ Hid (q = K - j) ∧ j ≤ K ∧ Own wr Z.heap.size 3 1 (.slice (some ⟨gp, 0, none⟩) (j + 1) c') (j + 1) (ints fun q => ((M.bk s L ln r K q : Nat) : Int)) ∧ Below Z.heap.size Z wr) (fun _ i _ => (intOf i).toNat)
      case atStart => exact ⟨0, K, _, _, rfl, by go_num, Lib.hid (by omega), Nat.zero_le _, O1.out, belowAlloc _ _⟩
      case round =>
        clear q5
        obtain ⟨j, q, c', gp, rfl, rfl, HQ, hj, ho, hbw⟩ := hrel
        have HO := Lib.hid ho
        have HW := Lib.hid hbw
        have hzr := hbw.size
        clear ho hbw
        by_cases hlt : 0 < q
        · have hjK : j < K := by have := HQ.out; omega
          have HCR := Lib.hid (HCZ.out.below HW.out)
          have hqK : q < K + 1 := by have := HQ.out; omega
          have c0 := HCR.out.1.cell1 hqK
          have hl := HCR.out.2 q hqK
          obtain ⟨gl, cl, el⟩ := hl.nz (by omega)
          rw [el] at c0 hl
          have hbn := HLT.out j (by omega)
          have l0 := hl.cell1 hbn
          have b0 : wr.cell? ⟨gp, j, none⟩ = some (.int .i64 ((M.bk s L ln r K j : Nat) : Int)) := HO.out.cell1 (i := j) (by omega)
          have HST := Lib.hid (show M.comeV s L ln r q (M.bk s L ln r K j) = ((M.bk s L ln r K (j + 1) : Nat) : Int) by rw [HQ.out]; exact HSTEP.out j hjK)
          unfold ints at l0
          rw [HST.out] at l0
          clear el hl
          have HF := Lib.hid (show (fun q => ((M.bk s L ln r K q : Nat) : Int)) (j + 1) = ((M.bk s L ln r K (j + 1) : Nat) : Int) from rfl)
          obtain ⟨b, hb⟩ : ∃ b, b = M.bk s L ln r K j := ⟨_, rfl⟩
          obtain ⟨b2, hb2⟩ : ∃ b2, b2 = M.bk s L ln r K (j + 1) := ⟨_, rfl⟩
          have HB2 := Lib.hid hb2
          rw [← hb] at l0 b0 hbn
          rw [← hb2] at l0
          clear hb hb2
          have i1 : (q : Int) < (K : Int) + 1 := by omega
          have i2 : (j : Int) < (j : Int) + 1 := by omega
          have i3 : (b : Int) < (s.nd : Int) := by omega
          have hwj : IntKind.i64.wrap (j : Int) = (j : Int) := by rw [IntKind.wrap_i64]; omega
          have k1 : decide (K + 1 ≤ q) = false := decide_eq_false (by omega)
          have k2 : decide (s.nd ≤ b) = false := decide_eq_false (by omega)
          have k3 : decide (j + 1 ≤ j) = false := decide_eq_false (by omega)
          have hgc : gc < wr.heap.size := (HCR.out.1.block rfl).2
          go_upto_region 28 with fail
          refine wp_region_T 14 (fun w' => w'.cell? ⟨gc, q, none⟩ = some (.slice (some ⟨gl, 0, none⟩) s.nd cl) ∧ w'.cell? ⟨gp, j, none⟩ = some (.int .i64 (b : Int)) ∧ w'.cell? ⟨gl, b, none⟩ = some (.int .i64 (b2 : Int))) (by kernel_rfl) ⟨c0, b0, l0⟩ ?_
          intro hS
          refine wpAnyT_take (i := 0) (v := ?_) rfl (by kernel_rfl) (by kernel_rfl) (by kernel_rfl) (by kernel_rfl) (by kernel_rfl) (fun _ _ _ h => h) (.inl ⟨by rfl, ?_⟩) hS ?_
          rotate_left
          · (intro w hw; obtain ⟨h1, h2, h3⟩ := hw; go_simp; try with_reducible rfl)
          try simp only [Act.put, List.setIfInBounds_toArray, List.set_cons_zero, List.set_cons_succ]
          refine wpAnyT_take (i := 1) (v := ?_) rfl (by kernel_rfl) (by kernel_rfl) (by kernel_rfl) (by kernel_rfl) (by kernel_rfl) (fun _ _ _ h => h) (.inl ⟨by rfl, ?_⟩) hS ?_
          rotate_left
          · (intro w hw; obtain ⟨h1, h2, h3⟩ := hw; go_simp; try with_reducible rfl)
          try simp only [Act.put, List.setIfInBounds_toArray, List.set_cons_zero, List.set_cons_succ]
          refine wpAnyT_take (i := 2) (v := ?_) rfl (by kernel_rfl) (by kernel_rfl) (by kernel_rfl) (by kernel_rfl) (by kernel_rfl) (fun _ _ _ h => h) (.inl ⟨by rfl, ?_⟩) hS ?_
          rotate_left
          · (intro w hw; obtain ⟨h1, h2, h3⟩ := hw; go_simp; try with_reducible rfl)
          try simp only [Act.put, List.setIfInBounds_toArray, List.set_cons_zero, List.set_cons_succ]
          refine wpAnyT_take (i := 3) (v := ?_) rfl (by kernel_rfl) (by kernel_rfl) (by kernel_rfl) (by kernel_rfl) (by kernel_rfl) (fun _ _ _ h => h) (.inl ⟨by rfl, ?_⟩) hS ?_
          rotate_left
          · (intro w hw; obtain ⟨h1, h2, h3⟩ := hw; go_simp; try with_reducible rfl)
          try simp only [Act.put, List.setIfInBounds_toArray, List.set_cons_zero, List.set_cons_succ]
          refine wpAnyT_take (i := 4) (v := ?_) rfl (by kernel_rfl) (by kernel_rfl) (by kernel_rfl) (by kernel_rfl) (by kernel_rfl) (fun _ _ _ h => h) (.inl ⟨by rfl, ?_⟩) hS ?_
          rotate_left
          · (intro w hw; obtain ⟨h1, h2, h3⟩ := hw; go_simp; try with_reducible rfl)
          try simp only [Act.put, List.setIfInBounds_toArray, List.set_cons_zero, List.set_cons_succ]
          refine wpAnyT_take (i := 5) (v := ?_) rfl (by kernel_rfl) (by kernel_rfl) (by kernel_rfl) (by kernel_rfl) (by kernel_rfl) (fun _ _ _ h => h) (.inl ⟨by rfl, ?_⟩) hS ?_
          rotate_left
          · (intro w hw; obtain ⟨h1, h2, h3⟩ := hw; go_simp; try with_reducible rfl)
          try simp only [Act.put, List.setIfInBounds_toArray, List.set_cons_zero, List.set_cons_succ]
          refine wpAnyT_take (i := 6) (v := ?_) rfl (by kernel_rfl) (by kernel_rfl) (by kernel_rfl) (by kernel_rfl) (by kernel_rfl) (fun _ _ _ h => h) (.inl ⟨by rfl, ?_⟩) hS ?_
          rotate_left
          · (intro w hw; obtain ⟨h1, h2, h3⟩ := hw; go_simp; try with_reducible rfl)
          try simp only [Act.put, List.setIfInBounds_toArray, List.set_cons_zero, List.set_cons_succ]
          refine wpAnyT_take (i := 7) (v := ?_) rfl (by kernel_rfl) (by kernel_rfl) (by kernel_rfl) (by kernel_rfl) (by kernel_rfl) (fun _ _ _ h => h) (.inl ⟨by rfl, ?_⟩) hS ?_
          rotate_left
          · (intro w hw; obtain ⟨h1, h2, h3⟩ := hw; go_simp; try with_reducible rfl)
          try simp only [Act.put, List.setIfInBounds_toArray, List.set_cons_zero, List.set_cons_succ]
          refine wpAnyT_take (i := 8) (v := ?_) rfl (by kernel_rfl) (by kernel_rfl) (by kernel_rfl) (by kernel_rfl) (by kernel_rfl) (fun _ _ _ h => h) (.inl ⟨by rfl, ?_⟩) hS ?_
          rotate_left
          · (intro w hw; obtain ⟨h1, h2, h3⟩ := hw; go_simp; try with_reducible rfl)
          try simp only [Act.put, List.setIfInBounds_toArray, List.set_cons_zero, List.set_cons_succ]
          refine wpAnyT_take (i := 9) (v := ?_) rfl (by kernel_rfl) (by kernel_rfl) (by kernel_rfl) (by kernel_rfl) (by kernel_rfl) (fun _ _ _ h => h) (.inl ⟨by rfl, ?_⟩) hS ?_
          rotate_left
          · (intro w hw; obtain ⟨h1, h2, h3⟩ := hw; go_simp; try with_reducible rfl)
          try simp only [Act.put, List.setIfInBounds_toArray, List.set_cons_zero, List.set_cons_succ]
          refine wpAnyT_take (i := 10) (v := ?_) rfl (by kernel_rfl) (by kernel_rfl) (by kernel_rfl) (by kernel_rfl) (by kernel_rfl) (fun _ _ _ h => h) (.inl ⟨by rfl, ?_⟩) hS ?_
          rotate_left
          · (intro w hw; obtain ⟨h1, h2, h3⟩ := hw; go_simp; try with_reducible rfl)
          try simp only [Act.put, List.setIfInBounds_toArray, List.set_cons_zero, List.set_cons_succ]
          refine wpAnyT_take (i := 11) (v := ?_) rfl (by kernel_rfl) (by kernel_rfl) (by kernel_rfl) (by kernel_rfl) (by kernel_rfl) (fun _ _ _ h => h) (.inl ⟨by rfl, ?_⟩) hS ?_
          rotate_left
          · (intro w hw; obtain ⟨h1, h2, h3⟩ := hw; go_simp; try with_reducible rfl)
          try simp only [Act.put, List.setIfInBounds_toArray, List.set_cons_zero, List.set_cons_succ]
          refine wpAnyT_take (i := 12) (v := ?_) rfl (by kernel_rfl) (by kernel_rfl) (by kernel_rfl) (by kernel_rfl) (by kernel_rfl) (fun _ _ _ h => h) (.inl ⟨by rfl, ?_⟩) hS ?_
          rotate_left
          · (intro w hw; obtain ⟨h1, h2, h3⟩ := hw; go_simp; try with_reducible rfl)
          try simp only [Act.put, List.setIfInBounds_toArray, List.set_cons_zero, List.set_cons_succ]
          refine wpAnyT_one (i := 13) (by kernel_rfl) rfl ?_
          intro K' hK'
          go_simp
          refine hK'.out _ _ (.inr ⟨al_cell_drew hS.1, al_cell_drew hS.2.1, al_cell_drew hS.2.2⟩) ?_
          clear hK' K'
          refine wpAnyT_one (i := 14) (by kernel_rfl) rfl ?_
          intro K' hK'
          refine step_app (by rfl) (.tmp 123) (.tmp 136) 22 (by rfl) 3 i0 _ 1 8 Tryd.underlying22 MI.out.1 MI.out.2.1 MI.out.2.2.1 MI.out.2.2.2 rfl (by omega) (by omega) (base := Z.heap.size) (by rfl) (HO.out.alloc _).drew (by omega) (by simp; omega) wr.heap.size 1 (fun _ => .int .i64 (b2 : Int)) (by rfl) (fun i hi => by obtain rfl : i = 0 := (by omega); exact (blk_dr.2 (Blk.new wr 3 #[.int .i64 (b2 : Int)])).cell 0) (fun _ => rfl) ?_
          intro v' w4 ho4 hg4
          obtain ⟨A4, c4, rfl⟩ := ho4.form
          obtain ⟨gp4, cp4, e4⟩ := ho4.nz (by omega)
          injection e4 with e41 _ e42
          subst e41; subst e42
          have HO4 := Lib.hid (ho4.congr (F' := ints fun q => ((M.bk s L ln r K q : Nat) : Int)) fun i _ hi _ => by
            unfold upd ints
            by_cases e : i = j + 1
            · subst e; rw [if_pos rfl, HB2.out]
            · rw [if_neg e])
          have HW4 := Lib.hid (Below.grown ((HW.out.alloc hzr (.cells #[.int .i64 (b2 : Int)] 3)).drew) hg4 (by simp; omega) (fun q hq => (HO.out.block hq).1))
          clear ho4 hg4 hS
          refine hK'.out _ _ (.inl rfl) ?_
          clear hK' K'
          try simp only [Act.put, List.setIfInBounds_toArray, List.set_cons_zero, List.set_cons_succ]
          refine wpAnyT_one (i := 15) (by kernel_rfl) rfl ?_
          intro K' hK'
          go_simp
          refine hK'.out _ _ (.inl rfl) ?_
          clear hK' K'
          refine wpAnyT_done (by kernel_rfl) ?_ _
          go_wp2_with fail
          go_roundw
          case rel => exact ⟨j + 1, q - 1, _, _, rfl, by go_num, Lib.hid (by have := HQ.out; omega), by omega, HO4.out, HW4.out⟩
          case measure => simp [intOf]; omega
        · obtain rfl : q = 0 := by omega
          obtain rfl : j = K := by have := HQ.out; omega
          have HRV2 := Lib.hid (reverse_own (bkL s L ln r j) Z.heap.size (.slice (some ⟨gp, 0, none⟩) (j + 1) c') wr (by rw [bkL_len]; exact HO.out.congr fun i _ hi _ => (by unfold ints lst; rw [bkL_get hi])) (by rw [bkL_len]; omega) (by rw [bkL_len]; omega))
          rw [bkL_len] at HRV2
          go_wp2_with (go_at_call 67; go_must (refine HRV2.out.mono ?_); rintro e w5 ⟨rfl, o5, g5⟩; have O5 := Lib.hid o5; have HB5 := Lib.hid (Below.grown HW.out g5 hzr (fun q hq => (HO.out.block hq).1)); clear o5 g5)
          go_ret
          refine ⟨⟨_, rfl, ?_⟩, HB0.out.trans ((HWZ.out.trans (HB5.out.mono hzz)).mono HB0.out.size)⟩
          unfold RouteV
          rw [HRT.out.2.2.2.1, HEK.out, if_pos hKn]
          exact (O5.out.congr fun i _ hi _ => (by unfold ints lst; rw [bkL_rev hi])).less (Nat.le_trans HB0.out.size hzz)
end
end Go.Proofs.YtkdpmihdhiokkaaDoor
