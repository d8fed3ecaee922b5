/- The reference of layer 2: conflict. -/
import Derived.Test.YtnbeembnnjdmdaaGreatDoorLaN
namespace Go.Proofs.YtnbeembnnjdmdaaGreatDoor
open Go.RowKit

/-- sightings as cells -/
def sgG (X : Nat → SgV) : Nat → Nat → Value := fun i j => (X i).cs.getD j (.int .i64 0)
theorem sgG_one (X : Nat → SgV) (i j : Nat) : (sgG X i j).oneCell' = true := by
 unfold sgG
 match j with
 | 0 => rfl
 | 1 => rfl
 | 2 => rfl
 | k + 3 => rfl
theorem rdS_v {w : World} {B n : Nat} {A : Option Addr} {X : Nat → SgV} (h : RdS w B A n X) : RdV w B A 3 n (sgG X) := by
 rcases Nat.eq_zero_or_pos n with h0 | h0
 · exact .inl h0
 ·
  obtain ⟨b, off, rfl, hb, _⟩ := h.at_ h0
  refine .inr ⟨b, off, rfl, hb, fun i j hi hj => ?_⟩
  obtain ⟨b', off', e, _, h1, h2, h3, _⟩ := h.at_ hi
  cases e
  match j, hj with
  | 0, _ => exact h1
  | 1, _ => exact h2
  | 2, _ => exact h3
/-- some of the sightings, and some more -/
def catX (k : Nat) (X Y : Nat → SgV) (l : List Nat) : Nat → SgV := fun i => if i < k then X (l.getD i 0) else Y (i - k)
theorem RdS.of_cat {w : World} {base k sn c : Nat} {A : Option Addr} {X Y : Nat → SgV} {l : List Nat} (h : Own w base 68 3 (.slice A (k + sn) c) (k + sn) (catF k (sgF X l) (sgG Y)))
  (hX : ∀ i, i < k → Rd1 w w.heap.size (X (l.getD i 0)).A (X (l.getD i 0)).L.length (fun q => (X (l.getD i 0)).L.getD q 0) ∧ (X (l.getD i 0)).L.length ≤ maxLen) (hY : ∀ i, i < sn → Rd1 w w.heap.size (Y i).A (Y i).L.length (fun q => (Y i).L.getD q 0) ∧ (Y i).L.length ≤ maxLen) : RdS w w.heap.size A (k + sn) (catX k X Y l) := by
 rcases Nat.eq_zero_or_pos (k + sn) with h0 | h0
 · exact .inl h0
 ·
  obtain ⟨g, c', e⟩ := Own.nz h h0
  cases e
  refine .inr ⟨g, 0, rfl, (Own.block h rfl).2, fun i hi => ?_⟩
  have c0 := Own.cell h hi (show 0 < 3 by omega)
  have c1 := Own.cell h hi (show 1 < 3 by omega)
  have c2 := Own.cell h hi (show 2 < 3 by omega)
  unfold catX
  by_cases e : i < k
  ·
   simp only [catF, if_pos e] at c0 c1 c2
   rw [if_pos e]
   refine ⟨⟨?_, ?_, ?_⟩, hX i e⟩
   · rw [Nat.zero_add]; exact c0
   · rw [Nat.zero_add]; exact c1
   · rw [Nat.zero_add]; exact c2
  ·
   simp only [catF, if_neg e] at c0 c1 c2
   rw [if_neg e]
   refine ⟨⟨?_, ?_, ?_⟩, hY (i - k) (by omega)⟩
   · rw [Nat.zero_add]; exact c0
   · rw [Nat.zero_add]; exact c1
   · rw [Nat.zero_add]; exact c2
/-- numbers as the program holds them -/
def castL (l : List Nat) : List Int := l.map fun (x : Nat) => (x : Int)
theorem castL_len (l : List Nat) : (castL l).length = l.length := by simp [castL]
theorem castL_app (l m : List Nat) : castL (l ++ m) = castL l ++ castL m := by simp [castL]
theorem castL_getD (l : List Nat) (j : Nat) : (castL l).getD j 0 = ((l.getD j 0 : Nat) : Int) := by
 unfold castL
 simp only [List.getD_eq_getElem?_getD, List.getElem?_map]
 cases l[j]? <;> rfl
theorem castL_range (n : Nat) : castL (List.range n) = uptoL n := rfl
section
variable {d : M.Dr} {zA cA wA dA tA sA xA hA yA : Option Addr} {dc tc sc zc cc wc xc hn hc yn yc B m K ta lo hi bl : Nat} {xL : List Int} {Xs Ss : Nat → SgV} {w : World} {v0 : Value} {g : List Nat → Bool}
set_option maxRecDepth 100000 in
set_option maxHeartbeats 12800000 in
theorem rconflict_any (hd : d.Ok) (hm : ta + m + 1 = d.s.nt) (hlo : lo ≤ hi) (hhi : hi ≤ 8) (hK : K = hi - lo + 1) (hB : B ≤ w.heap.size) (hx3 : Rd1 w B xA xL.length (fun k => xL.getD k 0)) (hx4 : xL.length ≤ maxLen) (hRS : RdS w B hA hn Xs) (hhn : hn ≤ 12) (hYS : RdS w B yA yn Ss) (hyn : yn ≤ 100)
  (hT : TabV w bl d.s.nd m K (fun k => movF d ta ((lo : Int) + k)) v0) (hg : ∀ l : List Nat, decide (0 < (leeL d (ta : Int) (lo : Int) (hi : Int) xL (l.length + yn) (catX l.length Xs Ss l)).length) = g l) :
  Calls Tryz.prog 61 #[.agg #[.int .i64 (d.s.W : Int), .int .i64 (d.s.H : Int), .slice dA d.s.nd dc, .slice tA d.s.nt tc, .slice sA d.s.nt sc, .slice zA d.s.nd zc, .slice cA d.nz cc, .slice wA (d.s.nt - 1) wc], .agg #[.int .i64 (ta : Int), .slice xA xL.length xc, .int .i64 (lo : Int), .int .i64 (hi : Int)], .slice hA hn hc, .slice yA yn yc, v0] w fun e w' => (∃ v, e = .returned v ∧ IL w' w.heap.size v (castL (M.kp g hn hn))) ∧ Below w.heap.size w w' := by
 have HB0 := Lib.hid (belowAlloc2 w (.cells #[.int .i64 (d.s.W : Int), .int .i64 (d.s.H : Int), .slice dA d.s.nd dc, .slice tA d.s.nt tc, .slice sA d.s.nt sc, .slice zA d.s.nd zc, .slice cA d.nz cc, .slice wA (d.s.nt - 1) wc] 29) (.cells #[.int .i64 (ta : Int), .slice xA xL.length xc, .int .i64 (lo : Int), .int .i64 (hi : Int)] 44))
 have K0 := Lib.hid ((Blk.new w 29 #[.int .i64 (d.s.W : Int), .int .i64 (d.s.H : Int), .slice dA d.s.nd dc, .slice tA d.s.nt tc, .slice sA d.s.nt sc, .slice zA d.s.nd zc, .slice cA d.nz cc, .slice wA (d.s.nt - 1) wc]).alloc (.cells #[.int .i64 (ta : Int), .slice xA xL.length xc, .int .i64 (lo : Int), .int .i64 (hi : Int)] 44))
 have X0 := Lib.hid (Blk.new1 w (.cells #[.int .i64 (d.s.W : Int), .int .i64 (d.s.H : Int), .slice dA d.s.nd dc, .slice tA d.s.nt tc, .slice sA d.s.nt sc, .slice zA d.s.nd zc, .slice cA d.nz cc, .slice wA (d.s.nt - 1) wc] 29) 44 #[.int .i64 (ta : Int), .slice xA xL.length xc, .int .i64 (lo : Int), .int .i64 (hi : Int)])
 obtain ⟨lA, lc, rfl⟩ := LiV.form hT
 have HSM := Lib.hid (fun (V : World) (hb : Below w.heap.size w V) (A : Option Addr) (c : Nat) (l : List Nat) (hl : Rd1 V V.heap.size A l.length (fun j => ((l.getD j 0 : Nat) : Int))) (h1 : l.length ≤ 1000) (h2 : ∀ x, x ∈ l → x < hn) => rSome_any (lc := c) (hc := hc) ((hRS.below (hb.mono hB)).more (Nat.le_trans hB hb.size)) (Nat.le_refl _) (by omega) hl h1 h2)
 have HLW := Lib.hid (fun (V : World) (hb : Below w.heap.size w V) (A : Option Addr) (c n : Nat) (Ys : Nat → SgV) (hS : RdS V V.heap.size A n Ys) (hn1 : n ≤ maxLen) => rleeways_any (dc := dc) (tc := tc) (sc := sc) (zc := zc) (cc := cc) (wc := wc) (xc := xc) (zA := zA) (cA := cA) (wA := wA) (dA := dA) (tA := tA) (sA := sA) (hc := c) (Xs := Ys) (B := V.heap.size) hd hm hlo hhi hK (Nat.le_refl _) ((hx3.below (hb.mono hB)).more (Nat.le_trans hB hb.size)) hx4 hS hn1 (hT.below hb))
 have HXR := Lib.hid (fun (V : World) (hb : Below w.heap.size w V) (i : Nat) (hi : i < hn) => (show Rd1 V V.heap.size (Xs i).A (Xs i).L.length (fun q => (Xs i).L.getD q 0) ∧ (Xs i).L.length ≤ maxLen from by obtain ⟨_, _, _, _, _, _, _, h1, h2⟩ := ((hRS.below (hb.mono hB)).more (Nat.le_trans hB hb.size)).at_ hi; exact ⟨h1, h2⟩))
 have HYR := Lib.hid (fun (V : World) (hb : Below w.heap.size w V) (i : Nat) (hi : i < yn) => (show Rd1 V V.heap.size (Ss i).A (Ss i).L.length (fun q => (Ss i).L.getD q 0) ∧ (Ss i).L.length ≤ maxLen from by obtain ⟨_, _, _, _, _, _, _, h1, h2⟩ := ((hYS.below (hb.mono hB)).more (Nat.le_trans hB hb.size)).at_ hi; exact ⟨h1, h2⟩))
 have HYV := Lib.hid (fun (V : World) (hb : Below w.heap.size w V) => rdS_v ((hYS.below (hb.mono hB)).more (Nat.le_trans hB hb.size)))
 have HGG := Lib.hid hg
 obtain ⟨i0, ji, jz0, jz1, jz2⟩ := info_parts int_info
 have MI := Lib.hid (And.intro ji (And.intro jz0 (And.intro jz1 jz2)))
 obtain ⟨j0, ki, kz0, kz1, kz2⟩ := info_parts sg_info
 have MJ := Lib.hid (And.intro ki (And.intro kz0 (And.intro kz1 kz2)))
 clear ji jz0 jz1 jz2 ki kz0 kz1 kz2 hd hm hB hx3 hRS hYS hT hg hK hx4
 go_enter Tryz.func61, Tryz.ntmps61
 go_upto_region 1 with fail
 generalize (w.alloc (.cells #[.int .i64 (d.s.W : Int), .int .i64 (d.s.H : Int), .slice dA d.s.nd dc, .slice tA d.s.nt tc, .slice sA d.s.nt sc, .slice zA d.s.nd zc, .slice cA d.nz cc, .slice wA (d.s.nt - 1) wc] 29)).alloc (.cells #[.int .i64 (ta : Int), .slice xA xL.length xc, .int .i64 (lo : Int), .int .i64 (hi : Int)] 44) = X at HB0 K0 X0 ⊢
 go_wp2_with fail
 go_loopw [11, 12] (fun v i wr => ∃ k : Nat, k ≤ hn ∧ i = .int .i64 (k : Int) ∧ ∃ L : List Int, L.length ≤ k ∧ Hid (L = uptoL k) ∧ Hid (IL wr w.heap.size v L) ∧ Hid (Below w.heap.size w wr ∧ Blk wr w.heap.size 29 #[.int .i64 (d.s.W : Int), .int .i64 (d.s.H : Int), .slice dA d.s.nd dc, .slice tA d.s.nt tc, .slice sA d.s.nt sc, .slice zA d.s.nd zc, .slice cA d.nz cc, .slice wA (d.s.nt - 1) wc] ∧ Blk wr (w.heap.size + 1) 44 #[.int .i64 (ta : Int), .slice xA xL.length xc, .int .i64 (lo : Int), .int .i64 (hi : Int)])) (fun _ i _ => hn - (intOf i).toNat)
 case atStart => exact ⟨0, Nat.zero_le _, rfl, [], Nat.le_refl _, Lib.hid rfl, Lib.hid Own.nil_, Lib.hid ⟨HB0.out, K0.out, X0.out⟩⟩
 case round =>
  obtain ⟨k, hk, rfl, L, hLk, HL, HV, HS⟩ := hrel
  clear HB0 K0 X0
  obtain ⟨oA, oc, hoA⟩ := Own.form HV.out
  subst hoA
  have hz := HS.out.1.size
  by_cases hlt : k < hn
  ·
   have g1 : decide (k < hn) = true := decide_eq_true hlt
   go_wp2_with (at_builtin; go_must (refine wpList_apI _ rfl (.tmp 21) (.tmp 23) rfl (B := w.heap.size) (L := L) rfl (Own.alloc HV.out _) rfl ((Blk.new _ _ _).cell 0) (by omega) (by simp; omega) ?_); intro g6 c6 w6 hi6 hg6 hb6; have HI6 := Lib.hid hi6; have HG6 := Lib.hid hg6; clear hi6 hg6 hb6)
   go_roundw
   case rel =>
    refine ⟨k + 1, by omega, by go_num, L ++ [(k : Int)], by simp; omega, Lib.hid (by rw [uptoL_succ, HL.out]), Lib.hid (by simpa using HI6.out), Lib.hid ⟨?_, ?_, ?_⟩⟩
    · exact (HS.out.1.alloc hz _).grown HG6.out (by simp; omega) fun r e => (Own.block HV.out e).1
    · exact (HS.out.2.1.alloc _).grown_own (Own.alloc HV.out _) (by decide) HG6.out
    · exact (HS.out.2.2.alloc _).grown_own (Own.alloc HV.out _) (by decide) HG6.out
   case measure => simp [intOf]; omega
  ·
   obtain rfl : k = hn := by omega
   have g1 : decide (k < k) = false := decide_eq_false (Nat.lt_irrefl _)
   have HL0 := Lib.hid (show L = castL (M.lf g k 0) from by rw [M.lf_zero, castL_range, HL.out])
   clear HL
   go_wp2_with fail
   go_loopw [11, 13] (fun v a wr => ∃ (i at_ : Nat) (L : List Int), i ≤ k ∧ a = .int .i64 (at_ : Int) ∧ Hid (L = castL (M.lf g k i)) ∧ Hid (at_ = (M.kp g k i).length) ∧ at_ ≤ i ∧ L.length ≤ k ∧ at_ + (k - i) ≤ L.length ∧ L.length ≤ at_ + (k - i) ∧ Hid (IL wr w.heap.size v L) ∧ Hid (Below w.heap.size w wr ∧ Blk wr w.heap.size 29 #[.int .i64 (d.s.W : Int), .int .i64 (d.s.H : Int), .slice dA d.s.nd dc, .slice tA d.s.nt tc, .slice sA d.s.nt sc, .slice zA d.s.nd zc, .slice cA d.nz cc, .slice wA (d.s.nt - 1) wc] ∧ Blk wr (w.heap.size + 1) 44 #[.int .i64 (ta : Int), .slice xA xL.length xc, .int .i64 (lo : Int), .int .i64 (hi : Int)])) (fun v a _ => (match v with | .slice _ n _ => n | _ => 0) - (intOf a).toNat)
   case atStart => exact ⟨0, 0, L, Nat.zero_le _, rfl, HL0, Lib.hid rfl, Nat.le_refl _, hLk, by rw [HL0.out, castL_len, M.kp_len_le (Nat.zero_le _)]; simp [M.kp], by rw [HL0.out, castL_len, M.kp_len_le (Nat.zero_le _)]; simp [M.kp], HV, HS⟩
   case round =>
    obtain ⟨i, at_, L, hik, rfl, HLI, HAI, hat, hLk2, hL1, hL2, HV, HS⟩ := hrel
    clear HL0
    by_cases hlt : at_ < L.length
    ·
     have g2 : decide (at_ < L.length) = true := decide_eq_true hlt
     have hik2 : i < k := by omega
     obtain ⟨gl, cL, e⟩ := Own.nz HV.out (by omega)
     subst e
     have hroom := Own.room HV.out
     have hz := HS.out.1.size
     obtain ⟨a, ha⟩ : ∃ a, a = M.kp g k i := ⟨_, rfl⟩
     obtain ⟨b, hb⟩ : ∃ b, b = List.range' (i + 1) (k - (i + 1)) := ⟨_, rfl⟩
     have hLe : L = castL a ++ (i : Int) :: castL b := by
      rw [HLI.out]
      unfold M.lf castL
      rw [ha, hb, show k - i = (k - (i + 1)) + 1 by omega, List.range'_succ, List.map_append, List.map_cons]
     obtain ⟨la, hla⟩ : ∃ la, la = castL a := ⟨_, rfl⟩
     obtain ⟨lb, hlb⟩ : ∃ lb, lb = castL b := ⟨_, rfl⟩
     rw [← hla, ← hlb] at hLe
     have hal : la.length = at_ := by rw [hla, castL_len, ha, HAI.out]
     obtain ⟨nb, hnb⟩ : ∃ nb, nb = lb.length := ⟨_, rfl⟩
     have hLn : L.length = at_ + nb + 1 := by rw [hLe, List.length_append, List.length_cons, hal, hnb]; omega
     obtain ⟨A2, hA2⟩ : ∃ A2 : Option Addr, A2 = if cL = at_ + 1 then some ⟨gl, 0, none⟩ else some ⟨gl, at_ + 1, none⟩ := ⟨_, rfl⟩
     have HRA := Lib.hid (show RdV wr wr.heap.size (some ⟨gl, 0, none⟩) 1 at_ (ints fun j => la.getD j 0) from .inr ⟨gl, 0, rfl, (Own.block HV.out rfl).2, fun p q hp hq => by
      obtain rfl : q = 0 := by omega
      rw [Nat.mul_one, Nat.add_zero, Nat.zero_add]
      have h := Own.cell1 (i := p) HV.out (by omega)
      rw [h]
      show some (Value.int .i64 (L.getD p 0)) = some (.int .i64 (la.getD p 0))
      rw [hLe, List.getD_eq_getElem?_getD, List.getD_eq_getElem?_getD, List.getElem?_append_left (by omega)]⟩)
     have HRB := Lib.hid (show RdV wr wr.heap.size A2 1 nb (ints fun j => lb.getD j 0) from by
      rcases Nat.eq_zero_or_pos nb with h0 | h0
      · exact .inl h0
      ·
       rw [hA2, if_neg (by omega)]
       refine .inr ⟨gl, at_ + 1, rfl, (Own.block HV.out rfl).2, fun p q hp hq => ?_⟩
       obtain rfl : q = 0 := by omega
       simp only [Nat.mul_one, Nat.add_zero]
       have h := Own.cell1 (i := at_ + 1 + p) HV.out (by omega)
       rw [h]
       show some (Value.int .i64 (L.getD (at_ + 1 + p) 0)) = some (.int .i64 (lb.getD p 0))
       rw [hLe, List.getD_eq_getElem?_getD, List.getD_eq_getElem?_getD, List.getElem?_append_right (by omega), hal, show at_ + 1 + p - at_ = p + 1 by omega, List.getElem?_cons_succ])
     obtain ⟨l, hl⟩ : ∃ l, l = a ++ b := ⟨_, rfl⟩
     have HL2 := Lib.hid (show la ++ lb = castL l from by rw [hl, hla, hlb, castL_app])
     have HLL := Lib.hid (show l.length = at_ + nb from by rw [hl, List.length_append, hnb, hlb, castL_len, ← hal, hla, castL_len])
     have HLX := Lib.hid (show ∀ x, x ∈ l → x < k from fun x hx => by
      rw [hl, List.mem_append] at hx
      rcases hx with hx | hx
      · rw [ha] at hx; have := M.kp_lt hx; omega
      · rw [hb, List.mem_range'_1] at hx; omega)
     have HLF := Lib.hid (show M.lf g k (i + 1) = if g l then M.lf g k i else l from by rw [M.lf_succ hik2, hl, ha, hb])
     have HKP := Lib.hid (show (M.kp g k (i + 1)).length = if g l then at_ + 1 else at_ from by rw [M.kp_succ, hl, ha, hb, ← HAI.out])
     have HLN := Lib.hid (show (la ++ lb).length = at_ + nb from by rw [List.length_append, hal, hnb])
     have HAL := Lib.hid hal
     have HA2 := Lib.hid hA2
     have hLn2 : L.length ≤ at_ + nb + 1 := Nat.le_of_eq hLn
     have hLn3 : at_ + nb < L.length := by omega
     have q3 : L.length - (at_ + 1) = nb := by omega
     have q6 : at_ ≤ cL := by omega
     have q7 : at_ + 1 ≤ cL := by omega
     clear hl ha hb hla hlb hal hnb hLe hLn hA2 a b
     go_upto_region 8 with fail
     refine wp_nopanic ?_
     refine wp_region_T 10 (fun w' => Below wr.heap.size wr w') (by kernel_rfl) (Below.refl _ _).drew ?_
     intro hS
     refine takeK (i := 1) (v := ?_) rfl (by kernel_rfl) (.inl ⟨by kernel_rfl, ?_⟩) hS ?_
     rotate_left
     · (intro w' hw; go_simp; try with_reducible rfl)
     try simp only [put_laws]
     refine takeK (i := 2) (v := ?_) rfl (by kernel_rfl) (.inl ⟨by kernel_rfl, ?_⟩) hS ?_
     rotate_left
     · (intro w' hw; go_simp; try with_reducible rfl)
     try simp only [put_laws]
     refine takeK (i := 3) (v := ?_) rfl (by kernel_rfl) (.inl ⟨by kernel_rfl, ?_⟩) hS ?_
     rotate_left
     · (intro w' hw; go_simp; try with_reducible rfl)
     try simp only [put_laws]
     refine takeK (i := 5) (v := ?_) rfl (by kernel_rfl) (.inl ⟨by kernel_rfl, ?_⟩) hS ?_
     rotate_left
     · (intro w' hw; go_simp; try with_reducible rfl)
     try simp only [put_laws]
     refine takeK (i := 6) (v := ?_) rfl (by kernel_rfl) (.inl ⟨by kernel_rfl, ?_⟩) hS ?_
     rotate_left
     · (intro w' hw; go_simp; try with_reducible rfl)
     try simp only [put_laws]
     refine takeK (i := 7) (v := ?_) rfl (by kernel_rfl) (.inl ⟨by kernel_rfl, ?_⟩) hS ?_
     rotate_left
     · (intro w' hw; have q1 : IntKind.i64.wrap ((at_ : Int) + 1) = (at_ : Int) + 1 := (by rw [IntKind.wrap_i64]; omega); have q2 : ((at_ : Int) + 1).toNat = at_ + 1 := (by omega); have q4 : 0 ≤ (at_ : Int) + 1 := (by omega); have q5 : (at_ : Int) + 1 ≤ (L.length : Int) := (by omega); go_simp; try with_reducible rfl)
     try simp only [put_laws]
     refine takeK (i := 8) (v := .slice A2 nb (cL - (at_ + 1))) rfl (by kernel_rfl) (.inl ⟨by kernel_rfl, ?_⟩) hS ?_
     · (intro w' hw; have q1 : IntKind.i64.wrap ((at_ : Int) + 1) = (at_ : Int) + 1 := (by rw [IntKind.wrap_i64]; omega); have q2 : ((at_ : Int) + 1).toNat = at_ + 1 := (by omega); have q4 : 0 ≤ (at_ : Int) + 1 := (by omega); have q5 : (at_ : Int) + 1 ≤ (L.length : Int) := (by omega); go_simp; rw [HA2.out])
     try simp only [put_laws]
     refine wpAnyT_one (i := 0) (by kernel_rfl) rfl ?_
     intro K' hK'
     go_simp
     refine hK'.out _ _ (.inr (hS.alloc hS.size _)) ?_
     clear hK' K'
     try simp only [put_laws]
     have hS1 := hS.alloc hS.size (.cells #[] 3)
     refine wpAnyT_one (i := 4) (by kernel_rfl) rfl ?_
     intro K' hK'
     refine step_copy (by rfl) (.tmp 29) (.tmp 32) 22 (by rfl) 3 i0 _ 1 8 Tryz.underlying22 MI.out.1 MI.out.2.1 MI.out.2.2.1 MI.out.2.2.2 rfl (by omega) (by omega) (by rfl) (Blk.new _ _ _) (fun _ _ => rfl) (by rfl) (HRA.out.below hS1) (by omega) ?_
     intro A5 c5 w5 ho5 hb5
     have hS2 := hS1.trans (hb5.mono hS1.size)
     refine hK'.out _ _ (.inr hS2) ?_
     clear hK' K'
     try simp only [put_laws]
     refine wpAnyT_one (i := 9) (by kernel_rfl) rfl ?_
     intro K' hK'
     refine step_cat (by rfl) (.tmp 33) (.tmp 37) 22 (by rfl) 3 i0 _ 1 8 Tryz.underlying22 MI.out.1 MI.out.2.1 MI.out.2.2.1 MI.out.2.2.2 rfl (by omega) (by omega) (by rfl) ho5 (by omega) hS2.size (fun _ _ => rfl) (by rfl) (HRB.out.below hS2) (by omega) ?_
     intro v9 w9 o9 hg9 _
     have hS3 : Below wr.heap.size wr w9 := hS2.grown hg9 hS2.size fun r e => (Own.block ho5 e).1
     obtain ⟨A9, c9, e9⟩ := o9.form
     subst e9
     refine hK'.out _ _ (.inr hS3) ?_
     clear hK' K'
     try simp only [put_laws]
     refine wpAnyT_one (i := 10) (by kernel_rfl) rfl ?_
     intro K' hK'
     go_simp
     refine hK'.out _ _ (.inl rfl) ?_
     clear hK' K'
     try simp only [put_laws]
     refine wpAnyT_done (by kernel_rfl) ?_ _
     refine ⟨fun x e => (by cases e), ?_⟩
     have HI9 := Lib.hid (show IL w9 w.heap.size (.slice A9 (at_ + nb) c9) (la ++ lb) from by
      unfold IL
      rw [HLN.out]
      refine (Own.less (Own.congr o9 fun p q hp _ => ?_) hz)
      unfold catF
      by_cases e : p < at_
      ·
       rw [if_pos e]
       show Value.int .i64 (la.getD p 0) = .int .i64 ((la ++ lb).getD p 0)
       rw [List.getD_eq_getElem?_getD, List.getD_eq_getElem?_getD, List.getElem?_append_left (by rw [HAL.out]; exact e)]
      ·
       rw [if_neg e]
       show Value.int .i64 (lb.getD (p - at_) 0) = .int .i64 ((la ++ lb).getD p 0)
       rw [List.getD_eq_getElem?_getD, List.getD_eq_getElem?_getD, List.getElem?_append_right (by rw [HAL.out]; omega), HAL.out])
     have HV9 := Lib.hid (Own.below HV.out hS3)
     have HS9 := Lib.hid (show Below w.heap.size w w9 ∧ Blk w9 w.heap.size 29 #[.int .i64 (d.s.W : Int), .int .i64 (d.s.H : Int), .slice dA d.s.nd dc, .slice tA d.s.nt tc, .slice sA d.s.nt sc, .slice zA d.s.nd zc, .slice cA d.nz cc, .slice wA (d.s.nt - 1) wc] ∧ Blk w9 (w.heap.size + 1) 44 #[.int .i64 (ta : Int), .slice xA xL.length xc, .int .i64 (lo : Int), .int .i64 (hi : Int)] from ⟨HS.out.1.trans (hS3.mono HS.out.1.size), HS.out.2.1.below' hS3, HS.out.2.2.below' hS3⟩)
     clear hS hS1 hS2 hS3 ho5 hb5 o9 hg9 HV HS HRA HRB
     skip
     have HRL := Lib.hid (show Rd1 w9 w9.heap.size A9 l.length (fun j => ((l.getD j 0 : Nat) : Int)) from by
      have h0 := HI9.out
      unfold IL at h0
      rw [HLN.out] at h0
      have h := Own.rd1' h0
      rw [HL2.out, show (fun j => (castL l).getD j 0) = fun j => ((l.getD j 0 : Nat) : Int) from funext (castL_getD l)] at h
      rw [HLL.out]
      exact h)
     go_upto_region 9 with fail
     refine wp_nopanic ?_
     refine wp_region_T 10 (fun w' => Below w9.heap.size w9 w') (by kernel_rfl) (Below.refl _ _).drew ?_
     intro hS
     refine takeK (i := 0) (v := ?_) rfl (by kernel_rfl) (.inl ⟨by kernel_rfl, ?_⟩) hS ?_
     rotate_left
     · (intro w' hw; have k0 := (HS9.out.2.1.below' hw).cell 0; have k1 := (HS9.out.2.1.below' hw).cell 1; have k2 := (HS9.out.2.1.below' hw).cell 2; have k3 := (HS9.out.2.1.below' hw).cell 3; have k4 := (HS9.out.2.1.below' hw).cell 4; have k5 := (HS9.out.2.1.below' hw).cell 5; have k6 := (HS9.out.2.1.below' hw).cell 6; have k7 := (HS9.out.2.1.below' hw).cell 7; go_simp; try with_reducible rfl)
     try simp only [put_laws]
     refine takeK (i := 1) (v := ?_) rfl (by kernel_rfl) (.inl ⟨by kernel_rfl, ?_⟩) hS ?_
     rotate_left
     · (intro w' hw; have x0 := (HS9.out.2.2.below' hw).cell 0; have x1 := (HS9.out.2.2.below' hw).cell 1; have x2 := (HS9.out.2.2.below' hw).cell 2; have x3 := (HS9.out.2.2.below' hw).cell 3; go_simp; try with_reducible rfl)
     try simp only [put_laws]
     refine takeK (i := 2) (v := ?_) rfl (by kernel_rfl) (.inl ⟨by kernel_rfl, ?_⟩) hS ?_
     rotate_left
     · (intro w' hw; go_simp; try with_reducible rfl)
     try simp only [put_laws]
     refine takeK (i := 3) (v := ?_) rfl (by kernel_rfl) (.inl ⟨by kernel_rfl, ?_⟩) hS ?_
     rotate_left
     · (intro w' hw; go_simp; try with_reducible rfl)
     try simp only [put_laws]
     refine takeK (i := 5) (v := ?_) rfl (by kernel_rfl) (.inl ⟨by kernel_rfl, ?_⟩) hS ?_
     rotate_left
     · (intro w' hw; go_simp; try with_reducible rfl)
     try simp only [put_laws]
     refine takeK (i := 7) (v := ?_) rfl (by kernel_rfl) (.inl ⟨by kernel_rfl, ?_⟩) hS ?_
     rotate_left
     · (intro w' hw; go_simp; try with_reducible rfl)
     try simp only [put_laws]
     have HSX := Lib.hid (show Calls Tryz.prog 101 #[.slice hA k hc, .slice A9 (at_ + nb) c9] w9.drew fun e w' => (∃ v, e = .returned v ∧ Own w' w9.drew.heap.size 68 3 v (at_ + nb) (sgF Xs l)) ∧ Below w9.drew.heap.size w9.drew w' from by
      have h := HSM.out w9.drew HS9.out.1.drew A9 c9 l HRL.out (by rw [HLL.out]; omega) HLX.out
      rw [HLL.out] at h
      exact h)
     refine wpAnyT_one (i := 4) (by kernel_rfl) rfl ?_
     intro K' hK'
     go_simp
     refine HSX.out.mono ?_
     rintro e w6 ⟨⟨v6, rfl, ho6⟩, hb6⟩
     have hS1 : Below w9.heap.size w9 w6 := hS.trans (hb6.mono (Nat.le_refl _))
     refine hK'.out _ _ (.inr hS1) ?_
     clear hK' K'
     try simp only [put_laws]
     refine wpAnyT_one (i := 6) (by kernel_rfl) rfl ?_
     intro K' hK'
     refine step_cat (by rfl) (.tmp 43) (.tmp 44) 45 (by rfl) 68 j0 _ 3 40 Tryz.underlying45 MJ.out.1 MJ.out.2.1 MJ.out.2.2.1 MJ.out.2.2.2 rfl (by omega) (by omega) (by rfl) ho6 (by omega) hS1.size (fun p q => sgG_one Ss p q) (by rfl) (HYV.out w6 (HS9.out.1.trans (hS1.mono HS9.out.1.size))) (by omega) ?_
     intro v7 w7 o7 hg7 _
     have hS2 : Below w9.heap.size w9 w7 := hS1.grown hg7 hS1.size fun r e => (Own.block ho6 e).1
     obtain ⟨A7, c7, e7⟩ := o7.form
     subst e7
     refine hK'.out _ _ (.inr hS2) ?_
     clear hK' K'
     try simp only [put_laws]
     have HB7 := Lib.hid (HS9.out.1.trans (hS2.mono HS9.out.1.size))
     have HLX7 := Lib.hid (HLW.out w7 HB7.out A7 c7 (at_ + nb + yn) (catX (at_ + nb) Xs Ss l) (RdS.of_cat o7 (fun p hp => HXR.out w7 HB7.out _ (HLX.out _ (by rw [List.getD_eq_getElem?_getD, List.getElem?_eq_getElem (by rw [HLL.out]; exact hp), Option.getD_some]; exact List.getElem_mem _))) (fun p hp => HYR.out w7 HB7.out p hp)) (by unfold maxLen; omega))
     have hgl := HGG.out l
     rw [HLL.out] at hgl
     obtain ⟨Lw, hLw⟩ : ∃ Lw, Lw = leeL d (ta : Int) (lo : Int) (hi : Int) xL (at_ + nb + yn) (catX (at_ + nb) Xs Ss l) := ⟨_, rfl⟩
     rw [← hLw] at HLX7 hgl
     have HGL := Lib.hid hgl
     clear hgl hLw
     refine wpAnyT_one (i := 8) (by kernel_rfl) rfl ?_
     intro K' hK'
     go_simp
     refine HLX7.out.mono ?_
     rintro e w8 ⟨⟨v8, rfl, hi8⟩, hb8⟩
     obtain ⟨A8, c8, e8⟩ := Own.form hi8
     subst e8
     have hS3 : Below w9.heap.size w9 w8 := hS2.trans (hb8.mono hS2.size)
     refine hK'.out _ _ (.inr hS3) ?_
     clear hi8 hb8
     clear hK' K'
     try simp only [put_laws]
     refine wpAnyT_one (i := 9) (by kernel_rfl) rfl ?_
     intro K' hK'
     go_simp
     refine hK'.out _ _ (.inr hS3) ?_
     clear hK' K'
     try simp only [put_laws]
     refine wpAnyT_one (i := 10) (by kernel_rfl) rfl ?_
     intro K' hK'
     go_simp
     refine hK'.out _ _ (.inl rfl) ?_
     clear hK' K'
     try simp only [put_laws]
     refine wpAnyT_done (by kernel_rfl) ?_ _
     refine ⟨fun x e => (by cases e), ?_⟩
     have HSZ := Lib.hid (show Below w.heap.size w w8 ∧ Blk w8 w.heap.size 29 #[.int .i64 (d.s.W : Int), .int .i64 (d.s.H : Int), .slice dA d.s.nd dc, .slice tA d.s.nt tc, .slice sA d.s.nt sc, .slice zA d.s.nd zc, .slice cA d.nz cc, .slice wA (d.s.nt - 1) wc] ∧ Blk w8 (w.heap.size + 1) 44 #[.int .i64 (ta : Int), .slice xA xL.length xc, .int .i64 (lo : Int), .int .i64 (hi : Int)] from ⟨HS9.out.1.trans (hS3.mono HS9.out.1.size), HS9.out.2.1.below' hS3, HS9.out.2.2.below' hS3⟩)
     have HVZ := Lib.hid (Own.below HV9.out hS3)
     have HIZ := Lib.hid (Own.below HI9.out hS3)
     clear hS hS1 hS2 hS3 ho6 hb6 o7 hg7 HV9 HI9 HS9 HRL HSX HLX7 HB7
     by_cases hpos : 0 < Lw.length
     ·
      have hp1 : decide (0 < Lw.length) = true := decide_eq_true hpos
      have hp2 : decide ((0 : Int) < (Lw.length : Int)) = true := decide_eq_true (by omega)
      have HG1 := Lib.hid (show g l = true from by rw [← HGL.out]; exact hp1)
      go_wp2_with fail
      go_roundw
      case rel => exact ⟨i + 1, at_ + 1, L, by omega, by go_num, Lib.hid (by rw [HLF.out, HG1.out, if_pos rfl]; exact HLI.out), Lib.hid (by rw [HKP.out, HG1.out, if_pos rfl]), by omega, hLk2, by omega, by omega, HVZ, HSZ⟩
      case measure => simp [intOf]; omega
     ·
      have hp1 : decide (0 < Lw.length) = false := decide_eq_false hpos
      have hp2 : decide ((0 : Int) < (Lw.length : Int)) = false := decide_eq_false (by omega)
      have HG1 := Lib.hid (show g l = false from by rw [← HGL.out]; exact hp1)
      go_wp2_with fail
      go_roundw
      case rel => exact ⟨i + 1, at_, la ++ lb, by omega, rfl, Lib.hid (by rw [HLF.out, HG1.out, if_neg (by simp)]; exact HL2.out), Lib.hid (by rw [HKP.out, HG1.out, if_neg (by simp)]), by omega, by rw [HLN.out]; omega, by rw [HLN.out]; omega, by rw [HLN.out]; omega, HIZ, HSZ⟩
      case measure => simp [intOf]; omega
    ·
     have g2 : decide (at_ < L.length) = false := decide_eq_false hlt
     obtain rfl : i = k := by omega
     obtain ⟨vA, vc, e⟩ := Own.form HV.out
     subst e
     have HRT := Lib.hid (show IL wr w.heap.size (.slice vA L.length vc) (castL (M.kp g i i)) from by have h := HLI.out; rw [M.lf_end] at h; rw [← h]; exact HV.out)
     go_wp2_with fail
     go_ret
     exact ⟨⟨_, rfl, HRT.out⟩, HS.out.1⟩
end
end Go.Proofs.YtnbeembnnjdmdaaGreatDoor
