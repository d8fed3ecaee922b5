/- drift: needed. -/
import Derived.Test.YtnbeembnnjdmdaaGreatDoorD25
namespace Go.Proofs.YtnbeembnnjdmdaaGreatDoor
open Go.RowKit Go.Maps

def LfP (base : Nat) (w : World) (v : Value) (l : List Nat) : Prop := ((l = [] ∧ v = .slice none 0 0) ∨ RdN w v l) ∧ ∀ g, v.ownBlock = some g → base ≤ g
theorem LfP.mv {base : Nat} {w w' : World} {v : Value} {l : List Nat} {m m' : Nat} (h : LfP base w v l) (hv : Mv m m' w w') (h1 : IsMap' w m) (h2 : IsMap' w m') : LfP base w' v l := ⟨h.1.imp id fun h3 => h3.mv hv h1 h2, h.2⟩
theorem LfP.grown {base : Nat} {w w' : World} {v : Value} {l : List Nat} (h : LfP base w v l) {row : Option Nat} (hg : w.grownBy w' row) (hne : ∀ g, v.ownBlock = some g → some g ≠ row) : LfP base w' v l := ⟨h.1.imp id fun h3 => h3.grown hg hne, h.2⟩
theorem lfP_of_il {base : Nat} {w : World} {v : Value} {l : List Nat} (h : IL w base v (l.map fun (x : Nat) => (x : Int))) : LfP base w v l := by
 refine ⟨?_, fun g e => (Own.block h e).1⟩
 have hl : (l.map fun (x : Nat) => (x : Int)).length = l.length := by simp
 rcases id h with ⟨_, ⟨h1, h2⟩ | ⟨g, c, cur, rfl, h1, h2, h3, h4, h5⟩⟩
 ·
  left
  rw [hl] at h2
  exact ⟨List.length_eq_zero_iff.1 h2, h1⟩
 ·
  right
  rw [hl] at h3
  refine ⟨g, c, by rw [hl], h3, h4, (Own.block h rfl).2, fun j hj => ?_⟩
  have h6 := Own.cell1 (i := j) h (by rw [hl]; exact hj)
  rw [h6]
  exact congrArg (fun x => some (Value.int .i64 x)) (getD_cast l j)
def leeG (d : M.Dr) (ta n : Nat) (xL : List Int) (Xs : Nat → SgV) (lo hi ft fc : Int) (l : List Nat) : Bool := M.spanTo lo hi (leeP d ta n l.length xL (fun i => Xs (l.getD i 0)) ft fc)
section
variable {d : M.Dr} {zA cA wA dA tA sA : Option Addr} {cl : Nat → Nat} {B P m1 m2 dc tc sc zc cc wc : Nat} {B' ta xc hn hc n : Nat} {xL : List Int} {lo hi fc ft fl : Int} {xA hA : Option Addr} {Xs : Nat → SgV} {W : World}
set_option maxRecDepth 100000 in
set_option maxHeartbeats 16000000 in
theorem needed_any (hd : d.Ok) (hhn : hn ≤ 12) (hx1 : xL.Pairwise (· < ·)) (hx2 : ∀ x, x ∈ xL → 0 ≤ x ∧ x < d.s.nd) (hx4 : xL.length ≤ 1048576) (htn : ta + n = d.s.nt) (hn1 : 1 ≤ n) (hlo : 0 ≤ lo) (hhi : hi ≤ 8) (hlh : lo ≤ hi)
  (hM : SeaT d zA cA wA dA tA sA cl B P m1 m2 dc tc sc zc cc wc W) (hRS : RdS W B' hA hn Xs) (hx3 : Rd1 W B' xA xL.length (fun k => xL.getD k 0)) (hB' : B' ≤ W.heap.size) :
  Calls Tryz.prog 57 #[.agg #[.pointer (some ⟨P, 0, none⟩), .int .i64 (ta : Int), .slice xA xL.length xc, .int .i64 lo, .int .i64 hi, .slice hA hn hc], .agg #[.int .i64 fc, .int .i64 ft, .int .i64 fl]] W fun e W' => ∃ v, e = .returned v ∧ LfP W.heap.size W' v (M.kp (leeG d ta n xL Xs lo hi ft fc) hn hn) ∧ AbT d zA cA wA dA tA sA cl B P m1 m2 dc tc sc zc cc wc W W' := by
 have hBW : B ≤ W.heap.size := hM.b.2.2.2.2
 have hm1 : m1 < W.heap.size := (hM.t.2.2.2 m1 hM.t.2.1).2
 have hm2 : m2 < W.heap.size := (hM.t.2.2.2 m2 hM.t.2.2.1).2
 have hTS : ∀ k, TS P m1 m2 W k → k < W.heap.size := fun k hk => (hM.t.2.2.2 k hk).2
 have HM := Lib.hid hM
 have HRS := Lib.hid hRS
 have HX3 := Lib.hid hx3
 have HTS := Lib.hid hTS
 have HPS := Lib.hid (fun (l : List Nat) (hl : l.length ≤ 12) (hA' : Option Addr) (hc' : Nat) (B2 : Nat) (X : World) (hMX : SeaT d zA cA wA dA tA sA cl B P m1 m2 dc tc sc zc cc wc X) (h1 : RdS X B2 hA' l.length (fun i => Xs (l.getD i 0))) (h2 : Rd1 X B2 xA xL.length (fun k => xL.getD k 0)) (h3 : B2 ≤ X.heap.size) => possible_any (hn := l.length) (hc := hc') (hA := hA') (xc := xc) (fc := fc) (ft := ft) (fl := fl) hd (by unfold maxLen; omega) hx1 hx2 hx4 htn hn1 hlo hhi hlh hMX h1 h2 h3)
 obtain ⟨G, hG⟩ : ∃ G, G = leeG d ta n xL Xs lo hi ft fc := ⟨_, rfl⟩
 rw [← hG]
 have HPG := Lib.hid (show ∀ l : List Nat, M.spanTo lo hi (leeP d ta n l.length xL (fun i => Xs (l.getD i 0)) ft fc) = G l from fun l => by rw [hG]; rfl)
 clear hG hd hx1 hx2 hM hRS hx3 hTS
 go_enter Tryz.func57, Tryz.ntmps57
 go_upto_region 2 with fail
 have K0 := Lib.hid ((Blk.new W 105 #[.pointer (some ⟨P, 0, none⟩), .int .i64 (ta : Int), .slice xA xL.length xc, .int .i64 lo, .int .i64 hi, .slice hA hn hc]).alloc (.cells #[.int .i64 fc, .int .i64 ft, .int .i64 fl] 96))
 have K1 := Lib.hid (Blk.new1 W (.cells #[.pointer (some ⟨P, 0, none⟩), .int .i64 (ta : Int), .slice xA xL.length xc, .int .i64 lo, .int .i64 hi, .slice hA hn hc] 105) 96 #[.int .i64 fc, .int .i64 ft, .int .i64 fl])
 have HB1 := Lib.hid (belowAlloc2 W (.cells #[.pointer (some ⟨P, 0, none⟩), .int .i64 (ta : Int), .slice xA xL.length xc, .int .i64 lo, .int .i64 hi, .slice hA hn hc] 105) (.cells #[.int .i64 fc, .int .i64 ft, .int .i64 fl] 96))
 have hsz : ((W.alloc (.cells #[.pointer (some ⟨P, 0, none⟩), .int .i64 (ta : Int), .slice xA xL.length xc, .int .i64 lo, .int .i64 hi, .slice hA hn hc] 105)).alloc (.cells #[.int .i64 fc, .int .i64 ft, .int .i64 fl] 96)).heap.size = W.heap.size + 2 := by simp
 generalize (W.alloc (.cells #[.pointer (some ⟨P, 0, none⟩), .int .i64 (ta : Int), .slice xA xL.length xc, .int .i64 lo, .int .i64 hi, .slice hA hn hc] 105)).alloc (.cells #[.int .i64 fc, .int .i64 ft, .int .i64 fl] 96) = Y at K0 K1 HB1 hsz ⊢
 have y5 := K0.out.cell 5
 go_wp2_with fail
 go_loopw [5, 16] (fun v5 i wr => ∃ k : Nat, k ≤ hn ∧ i = .int .i64 (k : Int) ∧ Hid (IL wr (W.heap.size + 2) v5 ((List.range k).map fun (x : Nat) => (x : Int)) ∧ Below (W.heap.size + 2) Y wr)) (fun _ i _ => hn - (intOf i).toNat)
 case atStart => exact ⟨0, Nat.zero_le _, rfl, Lib.hid ⟨(show IL Y (W.heap.size + 2) (.slice none 0 0) [] from Own.nil_), Below.refl _ _⟩⟩
 case round =>
  obtain ⟨k, hk, rfl, HL⟩ := hrel
  have hszr := HL.out.2.size
  by_cases hlt : k < hn
  ·
   obtain ⟨L0, hL0⟩ : ∃ L0, L0 = (List.range k).map fun (x : Nat) => (x : Int) := ⟨_, rfl⟩
   have hil := HL.out.1
   rw [← hL0] at hil
   have hlen : L0.length = k := by rw [hL0]; simp
   have hl12 : L0.length ≤ 12 := by omega
   have HLE := Lib.hid hlen
   have HL0 := Lib.hid hL0
   obtain ⟨A5, c5, rfl⟩ := Own.form hil
   have HIL := Lib.hid hil
   clear hlen hL0 hil
   go_wp2_with (at_builtin; go_must (refine wpList_apI _ rfl (.tmp 19) (.tmp 21) rfl (B := W.heap.size + 2) (L := L0) rfl (Own.alloc HIL.out _) rfl ((Blk.new _ _ _).cell 0) (by omega) (by simp; omega) ?_); intro g6 c6 w6 hi6 hg6 hb6; have HI6 := Lib.hid hi6; have HG6 := Lib.hid hg6; clear hi6 hg6 hb6)
   go_roundw
   case rel =>
    refine ⟨k + 1, by omega, by go_num, Lib.hid ⟨?_, ?_⟩⟩
    ·
     rw [List.range_succ, List.map_append, ← HL0.out]
     exact HI6.out
    · exact (HL.out.2.trans ((belowAlloc _ _).mono (by omega))).grown HG6.out (by simp; omega) fun r e => (Own.block HIL.out e).1
   case measure => simp [intOf]; omega
  ·
   have hkn : hn = k := by omega
   subst hkn
   have HLF := Lib.hid (show LfP (W.heap.size + 2) wr u5 (M.lf G hn 0) from by
    have e0 : M.lf G hn 0 = List.range hn := by unfold M.lf; simp [M.kp, List.range_eq_range']
    rw [e0]
    exact lfP_of_il HL.out.1)
   have hbw : Below W.heap.size W wr := HB1.out.trans (HL.out.2.mono (by omega))
   have K0' := Lib.hid (K0.out.below HL.out.2 (show W.heap.size < W.heap.size + 2 by omega))
   have HS0 := Lib.hid (show SeaT d zA cA wA dA tA sA cl B P m1 m2 dc tc sc zc cc wc wr ∧ AbT d zA cA wA dA tA sA cl B P m1 m2 dc tc sc zc cc wc W wr ∧ Blk wr W.heap.size 105 #[.pointer (some ⟨P, 0, none⟩), .int .i64 (ta : Int), .slice xA xL.length xc, .int .i64 lo, .int .i64 hi, .slice hA hn hc] ∧ Blk wr (W.heap.size + 1) 96 #[.int .i64 fc, .int .i64 ft, .int .i64 fl] ∧ LfP (W.heap.size + 2) wr u5 (M.lf G hn 0) ∧ W.heap.size + 2 ≤ wr.heap.size from ⟨(SeaT.grown HM.out (below_grown hbw none) fun _ e => by cases e).1, AbT.below hbw, K0'.out, K1.out.below HL.out.2 (by omega), HLF.out, by omega⟩)
   have y5 := K0'.out.cell 5
   clear hbw K0 K1 HB1 HL HLF hszr
   go_wp2_with fail
   go_loopw [5, 28] (fun v5 i wr => ∃ (k : Nat) (sv : Value), k ≤ hn ∧ i = .int .i64 (k : Int) ∧ Hid (SeaT d zA cA wA dA tA sA cl B P m1 m2 dc tc sc zc cc wc wr ∧ AbT d zA cA wA dA tA sA cl B P m1 m2 dc tc sc zc cc wc W wr ∧ Blk wr W.heap.size 105 #[.pointer (some ⟨P, 0, none⟩), .int .i64 (ta : Int), .slice xA xL.length xc, .int .i64 lo, .int .i64 hi, sv] ∧ Blk wr (W.heap.size + 1) 96 #[.int .i64 fc, .int .i64 ft, .int .i64 fl] ∧ LfP (W.heap.size + 2) wr v5 (M.lf G hn k) ∧ W.heap.size + 2 ≤ wr.heap.size)) (fun _ i _ => hn - (intOf i).toNat)
   case atStart => exact ⟨0, _, Nat.zero_le _, rfl, HS0⟩
   case round =>
    obtain ⟨k, sv, hk, rfl, HS⟩ := hrel
    clear y5 HS0 K0'
    have hsz6 := HS.out.2.2.2.2.2
    by_cases hlt : k < hn
    ·
     obtain ⟨a, ha⟩ : ∃ a, a = M.kp G hn k := ⟨_, rfl⟩
     obtain ⟨b, hb⟩ : ∃ b, b = List.range' (k + 1) (hn - (k + 1)) := ⟨_, rfl⟩
     have hlf : M.lf G hn k = a ++ k :: b := by
      unfold M.lf
      rw [ha, hb, show hn - k = (hn - (k + 1)) + 1 by omega, List.range'_succ]
     have hal : a.length ≤ k := by rw [ha]; exact M.kp_len k
     have hbl : b.length = hn - (k + 1) := by rw [hb]; simp
     have hll : (a ++ k :: b).length = a.length + b.length + 1 := by rw [List.length_append, List.length_cons]; omega
     have hlfp := HS.out.2.2.2.2.1
     rw [hlf] at hlfp
     rcases hlfp with ⟨⟨h0, _⟩ | ⟨gl, cL, hu5, hc1, hc2, hgl, hcs⟩, hbase⟩
     · simp at h0
     rw [hll] at hc1 hu5
     subst hu5
     have hgb : W.heap.size + 2 ≤ gl := hbase gl rfl
     have HCS := Lib.hid hcs
     have HIX := Lib.hid (index_any wr gl cL a b k (by omega) hcs (fun x hx => by have := M.kp_lt (ha ▸ hx); omega))
     rw [hll] at HIX
     have HA := Lib.hid ha
     have HBB := Lib.hid hb
     have HLFE := Lib.hid hlf
     have HLL := Lib.hid hll
     clear ha hb hlf hll hcs hbase
     have HBL := Lib.hid hbl
     have hab : a.length + b.length + 1 ≤ 12 := by omega
     have hq2 : a.length ≤ cL := by omega
     have hq3 : a.length + 1 ≤ cL := by omega
     clear hbl hal
     go_upto_region 12 with (go_at_call 99; refine HIX.out.mono ?_; rintro e w1 ⟨rfl, h9⟩; have h9' := h9.symm; subst h9'; clear h9)
     refine wp_nopanic ?_
     refine wp_region_T 8 (fun w' => w' = wr.drew) (by kernel_rfl) rfl ?_
     intro hS
     obtain ⟨A2, hA2⟩ : ∃ A2 : Option Addr, A2 = if cL = a.length + 1 then some ⟨gl, 0, none⟩ else some ⟨gl, a.length + 1, none⟩ := ⟨_, rfl⟩
     have HA2 := Lib.hid hA2
     clear hA2
     refine tkA (i := 0) (v := ?_) rfl (by kernel_rfl) (.inl ⟨by kernel_rfl, ?_⟩) hS ?_
     rotate_left
     · (intro w' hw; go_simp; try with_reducible rfl)
     try simp only [put_laws]
     refine tkA (i := 1) (v := ?_) rfl (by kernel_rfl) (.inl ⟨by kernel_rfl, ?_⟩) hS ?_
     rotate_left
     · (intro w' hw; go_simp; try with_reducible rfl)
     try simp only [put_laws]
     refine tkA (i := 2) (v := ?_) rfl (by kernel_rfl) (.inl ⟨by kernel_rfl, ?_⟩) hS ?_
     rotate_left
     · (intro w' hw; go_simp; try with_reducible rfl)
     try simp only [put_laws]
     refine tkA (i := 3) (v := ?_) rfl (by kernel_rfl) (.inl ⟨by kernel_rfl, ?_⟩) hS ?_
     rotate_left
     · (intro w' hw; go_simp; try with_reducible rfl)
     try simp only [put_laws]
     refine tkA (i := 4) (v := ?_) rfl (by kernel_rfl) (.inl ⟨by kernel_rfl, ?_⟩) hS ?_
     rotate_left
     · (intro w' hw; go_simp; try with_reducible rfl)
     try simp only [put_laws]
     refine tkA (i := 5) (v := ?_) rfl (by kernel_rfl) (.inl ⟨by kernel_rfl, ?_⟩) hS ?_
     rotate_left
     · (intro w' hw; go_simp; try with_reducible rfl)
     try simp only [put_laws]
     refine tkA (i := 6) (v := ?_) rfl (by kernel_rfl) (.inl ⟨by kernel_rfl, ?_⟩) hS ?_
     rotate_left
     · (intro w' hw; have q1 : IntKind.i64.wrap ((a.length : Int) + 1) = (a.length : Int) + 1 := (by rw [IntKind.wrap_i64]; omega); have q2 : ((a.length : Int) + 1).toNat = a.length + 1 := (by omega); have q3 : a.length + b.length + 1 - (a.length + 1) = b.length := (by omega); have q4 : 0 ≤ (a.length : Int) + 1 := (by omega); have q5 : (a.length : Int) + 1 ≤ (a.length : Int) + (b.length : Int) + 1 := (by omega); go_simp; try with_reducible rfl)
     try simp only [put_laws]
     refine wpAnyT_take (i := 7) (v := .slice A2 b.length (cL - (a.length + 1))) rfl (by kernel_rfl) (by kernel_rfl) (by kernel_rfl) (by kernel_rfl) (by kernel_rfl) (fun _ _ _ h => absurd rfl (h.1 _)) (.inl ⟨by kernel_rfl, ?_⟩) hS ?_
     · (intro w' hw; have q1 : IntKind.i64.wrap ((a.length : Int) + 1) = (a.length : Int) + 1 := (by rw [IntKind.wrap_i64]; omega); have q2 : ((a.length : Int) + 1).toNat = a.length + 1 := (by omega); have q3 : a.length + b.length + 1 - (a.length + 1) = b.length := (by omega); have q4 : 0 ≤ (a.length : Int) + 1 := (by omega); have q5 : (a.length : Int) + 1 ≤ (a.length : Int) + (b.length : Int) + 1 := (by omega); go_simp; rw [HA2.out])
     try simp only [put_laws]
     obtain ⟨vL, wL, hrun, hvL, hgL, hoL⟩ := run_less wr.drew 22 gl (cL - (a.length + 1)) A2 a b k (by rw [HLL.out]; omega) hgl HCS.out (fun hb => by rw [HA2.out, if_neg]; have := List.length_pos_iff.2 hb; omega)
     have HVL := Lib.hid hvL
     have hbL : ∀ q, vL.ownBlock = some q → W.heap.size + 2 ≤ q := fun q e => by
      rcases hoL with h | ⟨q', h, h2⟩
      · rw [h] at e; cases e; exact hgb
      · rw [h] at e; cases e; exact Nat.le_trans hsz6 h2
     clear hoL
     have HGL := Lib.hid hgL
     clear hvL hgL
     refine wpAnyT_one (i := 8) (by kernel_rfl) rfl ?_
     intro K' hK'
     simp only [put_laws, List.getElem_toArray, List.getElem_cons_succ, List.getElem_cons_zero]
     refine step_appc (v := .slice (some ⟨gl, 0, none⟩) a.length a.length) (v2 := .slice A2 b.length (cL - (a.length + 1))) (v' := vL) (w' := wL) ?_ (.tmp 37) (.tmp 41) 22 ?_ ?_ ?_ ?_ ?_
     · rfl
     · rfl
     · rfl
     · rfl
     · exact hrun
     refine hK'.out _ _ (.inl rfl) ?_
     clear hK' K'
     try simp only [put_laws]
     clear hrun
     obtain ⟨gL, cL2, hvL, hcL1, hcL2, hgL2, hcsL⟩ := id HVL.out
     rw [List.length_append] at hvL hcL1 hcsL
     subst hvL
     have HBL2 := Lib.hid (show W.heap.size + 2 ≤ gL from hbL gL rfl)
     clear hbL
     have HCSL := Lib.hid hcsL
     clear hcsL
     refine wpAnyT_one (i := 9) (by kernel_rfl) rfl ?_
     intro K' hK'
     go_simp
     refine hK'.out _ _ (.inl rfl) ?_
     clear hK' K'
     try simp only [put_laws]
     refine wpAnyT_done (by kernel_rfl) ?_ _
     refine ⟨fun x e => (by cases e), ?_⟩
     have HZ := Lib.hid (show wr.grownBy wL none from ⟨HGL.out.os, HGL.out.tape, HGL.out.output, HGL.out.size, HGL.out.block⟩)
     have HC0 := Lib.hid (HS.out.2.2.1.grown HZ.out (by simp))
     have x5 := HC0.out.cell 5
     have f5 := HC0.out.frz 5
     go_upto_region 14 with fail
     have hgz : wr.grownBy (wL.setCell ⟨W.heap.size, 5, none⟩ (.slice none 0 0)) (some W.heap.size) := by
      have h2 : wL.grownBy (wL.setCell ⟨W.heap.size, 5, none⟩ (.slice none 0 0)) (some W.heap.size) := ⟨rfl, rfl, rfl, (KeepsWalks.setCell _ _ _).size, fun k _ hk => Below.heap_setCell _ _ _ k (fun e => hk (by rw [e]))⟩
      exact ⟨h2.os.trans HZ.out.os, h2.tape.trans HZ.out.tape, h2.output.trans HZ.out.output, Nat.le_trans HZ.out.size h2.size, fun q hq hne => (h2.block q (Nat.lt_of_lt_of_le hq HZ.out.size) hne).trans (HZ.out.block q hq (by simp))⟩
     have HCB := Lib.hid (show Blk (wL.setCell ⟨W.heap.size, 5, none⟩ (.slice none 0 0)) W.heap.size 105 #[.pointer (some ⟨P, 0, none⟩), .int .i64 (ta : Int), .slice xA xL.length xc, .int .i64 lo, .int .i64 hi, .slice none 0 0] from HC0.out.set_ 5 _)
     have HGN := Lib.hid (show 0 < a.length + b.length → gL ≠ W.heap.size from fun hj e => by
      subst e
      have h1 := HC0.out.cell 0
      have h3 := HCSL.out 0 hj
      rw [h1] at h3
      simp at h3)
     have HCL := Lib.hid (show ∀ j, j < a.length + b.length → (wL.setCell ⟨W.heap.size, 5, none⟩ (.slice none 0 0)).cell? ⟨gL, j, none⟩ = some (.int .i64 ((a ++ b).getD j 0 : Nat)) from fun j hj => (World.cell?_of_block (Below.heap_setCell _ _ _ gL (HGN.out (by omega)))).trans (HCSL.out j hj))
     have hgL3 : gL < (wL.setCell ⟨W.heap.size, 5, none⟩ (.slice none 0 0)).heap.size := Nat.lt_of_lt_of_le hgL2 (KeepsWalks.setCell _ _ _).size
     have hnt := not_ts HS.out.1 HS.out.2.2.1 (by decide) (by decide)
     have hrw : ∀ r, some W.heap.size = some r → W.heap.size ≤ r ∧ B ≤ r ∧ ¬ TS P m1 m2 wr r := fun r e => by cases e; exact ⟨Nat.le_refl _, hBW, hnt⟩
     have HSZ := Lib.hid (show SeaT d zA cA wA dA tA sA cl B P m1 m2 dc tc sc zc cc wc (wL.setCell ⟨W.heap.size, 5, none⟩ (.slice none 0 0)) ∧ AbT d zA cA wA dA tA sA cl B P m1 m2 dc tc sc zc cc wc W (wL.setCell ⟨W.heap.size, 5, none⟩ (.slice none 0 0)) ∧ Blk (wL.setCell ⟨W.heap.size, 5, none⟩ (.slice none 0 0)) (W.heap.size + 1) 96 #[.int .i64 fc, .int .i64 ft, .int .i64 fl] ∧ LfP (W.heap.size + 2) (wL.setCell ⟨W.heap.size, 5, none⟩ (.slice none 0 0)) (.slice (some ⟨gl, 0, none⟩) (a.length + b.length + 1) cL) (M.lf G hn k) from ⟨(SeaT.grown HS.out.1 hgz fun r e => (hrw r e).2).1, HS.out.2.1.grown HS.out.1 hgz hrw, HS.out.2.2.2.1.grown hgz (by simp), HS.out.2.2.2.2.1.grown hgz fun g e e2 => by cases e2; have := HS.out.2.2.2.2.1.2 _ e; omega⟩)
     have HGZ := Lib.hid hgz
     clear hgz hrw hnt x5 f5 HC0 HZ HCSL hS
     generalize wL.setCell ⟨W.heap.size, 5, none⟩ (.slice none 0 0) = Z0 at HCB HCL hgL3 HSZ HGZ ⊢
     obtain ⟨ls, hls⟩ : ∃ ls, ls = a ++ b := ⟨_, rfl⟩
     have hlsl : ls.length = a.length + b.length := by rw [hls, List.length_append]
     rw [← hls] at HCL
     have HLSL := Lib.hid hlsl
     have HLS := Lib.hid hls
     have HMEM := Lib.hid (show ∀ x, x ∈ ls → x < hn from fun x hx => by
      rw [hls, List.mem_append] at hx
      rcases hx with hx | hx
      · have := M.kp_lt (HA.out ▸ hx); omega
      · rw [HBB.out, List.mem_range'_1] at hx; omega)
     clear hls hlsl
     go_wp2_with fail
     go_loopw [46] (fun i wr => ∃ (j : Nat) (v : Value), j ≤ a.length + b.length ∧ i = .int .i64 (j : Int) ∧ Hid (Z0.grownBy wr (some W.heap.size) ∧ Blk wr W.heap.size 105 #[.pointer (some ⟨P, 0, none⟩), .int .i64 (ta : Int), .slice xA xL.length xc, .int .i64 lo, .int .i64 hi, v] ∧ Own wr Z0.heap.size 68 3 v j (sgF Xs ls))) (fun i _ => a.length + b.length - (intOf i).toNat)
     case atStart => exact ⟨0, _, Nat.zero_le _, rfl, Lib.hid ⟨World.grownBy.refl _ _, HCB.out, Own.nil_⟩⟩
     case round =>
      obtain ⟨j, v, hj, rfl, HI⟩ := hrel
      by_cases hjl : j < a.length + b.length
      ·
       obtain ⟨x, hx⟩ : ∃ x, x = ls.getD j 0 := ⟨_, rfl⟩
       have hxm : x < hn := HMEM.out x (by rw [hx, List.getD_eq_getElem?_getD, List.getElem?_eq_getElem (by have := HLSL.out; omega), Option.getD_some]; exact List.getElem_mem _)
       have xk : wr.cell? ⟨gL, j, none⟩ = some (.int .i64 (x : Int)) := by
        rw [hx]
        exact (World.cell?_of_block (HI.out.1.block gL hgL3 (by have := HGN.out (by omega); simpa using this))).trans (HCL.out j hjl)
       have hBZ : B' ≤ Z0.heap.size := Nat.le_trans hB' HSZ.out.2.1.1.size
       have hrs : RdS wr B' hA hn Xs := ((HRS.out.mv HSZ.out.2.1.1 HM.out.map1 HM.out.map2).grown HI.out.1 hBZ fun r e => by cases e; exact hB')
       obtain ⟨b', off', hAe, hb', c0, c1, c2, _, _⟩ := hrs.at_ hxm
       subst hAe
       have C012 := Lib.hid (And.intro c0 (And.intro c1 c2))
       have hbw' : b' < wr.heap.size := by have := HI.out.1.size; omega
       obtain ⟨Av, cv, rfl⟩ := Own.form HI.out.2.2
       have HX := Lib.hid hx
       clear hx hrs c0 c1 c2
       go_upto_region 17 with fail
       refine wp_nopanic ?_
       refine wp_region_T 7 (fun w' => Below wr.heap.size wr w') (by kernel_rfl) ((Below.refl _ wr).drew) ?_
       intro hS
       refine tkA (i := 0) (v := ?_) rfl (by kernel_rfl) (.inl ⟨by kernel_rfl, ?_⟩) hS ?_
       rotate_left
       · (intro w' hw; have y5 := (HI.out.2.1.below' hw).cell 5; have c0 := (hw.cell (p := ⟨b', _, none⟩) hbw').trans C012.out.1; have c1 := (hw.cell (p := ⟨b', _, none⟩) hbw').trans C012.out.2.1; have c2 := (hw.cell (p := ⟨b', _, none⟩) hbw').trans C012.out.2.2; go_simp; try with_reducible rfl)
       try simp only [put_laws]
       refine tkA (i := 1) (v := ?_) rfl (by kernel_rfl) (.inl ⟨by kernel_rfl, ?_⟩) hS ?_
       rotate_left
       · (intro w' hw; have y5 := (HI.out.2.1.below' hw).cell 5; have c0 := (hw.cell (p := ⟨b', _, none⟩) hbw').trans C012.out.1; have c1 := (hw.cell (p := ⟨b', _, none⟩) hbw').trans C012.out.2.1; have c2 := (hw.cell (p := ⟨b', _, none⟩) hbw').trans C012.out.2.2; go_simp; try with_reducible rfl)
       try simp only [put_laws]
       refine tkA (i := 2) (v := ?_) rfl (by kernel_rfl) (.inl ⟨by kernel_rfl, ?_⟩) hS ?_
       rotate_left
       · (intro w' hw; have y5 := (HI.out.2.1.below' hw).cell 5; have c0 := (hw.cell (p := ⟨b', _, none⟩) hbw').trans C012.out.1; have c1 := (hw.cell (p := ⟨b', _, none⟩) hbw').trans C012.out.2.1; have c2 := (hw.cell (p := ⟨b', _, none⟩) hbw').trans C012.out.2.2; go_simp; try with_reducible rfl)
       try simp only [put_laws]
       refine tkA (i := 3) (v := ?_) rfl (by kernel_rfl) (.inl ⟨by kernel_rfl, ?_⟩) hS ?_
       rotate_left
       · (intro w' hw; have y5 := (HI.out.2.1.below' hw).cell 5; have c0 := (hw.cell (p := ⟨b', _, none⟩) hbw').trans C012.out.1; have c1 := (hw.cell (p := ⟨b', _, none⟩) hbw').trans C012.out.2.1; have c2 := (hw.cell (p := ⟨b', _, none⟩) hbw').trans C012.out.2.2; go_simp; try with_reducible rfl)
       try simp only [put_laws]
       refine tkA (i := 4) (v := ?_) rfl (by kernel_rfl) (.inl ⟨by kernel_rfl, ?_⟩) hS ?_
       rotate_left
       · (intro w' hw; have y5 := (HI.out.2.1.below' hw).cell 5; have c0 := (hw.cell (p := ⟨b', _, none⟩) hbw').trans C012.out.1; have c1 := (hw.cell (p := ⟨b', _, none⟩) hbw').trans C012.out.2.1; have c2 := (hw.cell (p := ⟨b', _, none⟩) hbw').trans C012.out.2.2; go_simp; try with_reducible rfl)
       try simp only [put_laws]
       refine tkA (i := 5) (v := ?_) rfl (by kernel_rfl) (.inl ⟨by kernel_rfl, ?_⟩) hS ?_
       rotate_left
       · (intro w' hw; have y5 := (HI.out.2.1.below' hw).cell 5; have c0 := (hw.cell (p := ⟨b', _, none⟩) hbw').trans C012.out.1; have c1 := (hw.cell (p := ⟨b', _, none⟩) hbw').trans C012.out.2.1; have c2 := (hw.cell (p := ⟨b', _, none⟩) hbw').trans C012.out.2.2; go_simp; try with_reducible rfl)
       try simp only [put_laws]
       refine wpAnyT_one (i := 6) (by kernel_rfl) rfl ?_
       intro K' hK'
       go_simp
       refine hK'.out _ _ (.inr (hS.alloc hS.size _)) ?_
       clear hK' K'
       try simp only [put_laws]
       obtain ⟨i0, h1, h2, h3, h4⟩ := info_parts sg_info
       obtain ⟨v7, w7, hr7, ho7, hg7, hb7⟩ := run_cat (P := Tryz.prog) (wr.drew.alloc (.cells (Xs x).cs 68)) 45 45 68 i0 _ 3 40 Tryz.underlying45 h1 h2 h3 h4 rfl (by decide) (by decide) (show Own (wr.drew.alloc (.cells (Xs x).cs 68)) Z0.heap.size 68 3 (.slice Av j cv) j (sgF Xs ls) from Own.alloc (Own.drew HI.out.2.2) _) (by omega) (by have := HI.out.1.size; simp; omega) (A := some ⟨wr.heap.size, 0, none⟩) (k := 1) (c := 1) (G := fun _ q => (Xs x).cs.getD q (.int .i64 0)) (fun p q => by
        rcases q with _ | _ | _ | q <;> first | rfl | (simp [Array.getD, Value.oneCell'])) (rdV_blk (Blk.new wr.drew 68 (Xs x).cs) fun p q hp hq => by
        obtain rfl : p = 0 := by omega
        have : q = 0 ∨ q = 1 ∨ q = 2 := by omega
        rcases this with rfl | rfl | rfl <;> rfl) (by omega)
       have HO7 := Lib.hid ho7
       have HG7 := Lib.hid hg7
       clear ho7 hg7
       refine wpAnyT_one (i := 7) (by kernel_rfl) rfl ?_
       intro K' hK'
       simp only [put_laws, List.getElem_toArray, List.getElem_cons_succ, List.getElem_cons_zero]
       refine step_appc (v := .slice Av j cv) (v2 := .slice (some ⟨wr.heap.size, 0, none⟩) 1 1) (v' := v7) (w' := w7) ?_ (.tmp 51) (.tmp 56) 45 ?_ ?_ ?_ ?_ ?_
       · rfl
       · rfl
       · rfl
       · rfl
       · exact hr7
       obtain ⟨A7, c7, rfl⟩ := Own.form HO7.out
       have HCB7 := Lib.hid (((HI.out.2.1.alloc (.cells (Xs x).cs 68)).grown_own (Own.alloc HI.out.2.2 _) (by decide) (show (wr.alloc (.cells (Xs x).cs 68)).grownBy w7 (Value.slice Av j cv).ownBlock from ⟨HG7.out.os, HG7.out.tape, HG7.out.output, HG7.out.size, HG7.out.block⟩)))
       refine hK'.out _ _ (.inl rfl) ?_
       clear hK' K' hr7
       try simp only [put_laws]
       have y5 := HCB7.out.cell 5
       have g5 := HCB7.out.frz 5
       refine wpAnyT_one (i := 8) (by kernel_rfl) rfl ?_
       intro K' hK'
       go_simp
       refine hK'.out _ _ (.inl rfl) ?_
       clear hK' K'
       try simp only [put_laws]
       refine wpAnyT_one (i := 9) (by kernel_rfl) rfl ?_
       intro K' hK'
       go_simp
       refine hK'.out _ _ (.inl rfl) ?_
       clear hK' K'
       try simp only [put_laws]
       refine wpAnyT_done (by kernel_rfl) ?_ _
       refine ⟨fun x e => (by cases e), ?_⟩
       go_wp2_with fail
       go_roundw
       case rel =>
        have hga : Z0.grownBy (wr.alloc (.cells (Xs x).cs 68)) (some W.heap.size) := by
         have h5 := World.grownBy_alloc wr (.cells (Xs x).cs 68) none
         exact ⟨h5.os.trans HI.out.1.os, h5.tape.trans HI.out.1.tape, h5.output.trans HI.out.1.output, Nat.le_trans HI.out.1.size h5.size, fun q hq hne => (h5.block q (Nat.lt_of_lt_of_le hq HI.out.1.size) (by simp)).trans (HI.out.1.block q hq hne)⟩
        have hg8 : Z0.grownBy w7 (some W.heap.size) := ⟨HG7.out.os.trans hga.os, HG7.out.tape.trans hga.tape, HG7.out.output.trans hga.output, Nat.le_trans hga.size HG7.out.size, fun q hq hne => (HG7.out.block q (Nat.lt_of_lt_of_le hq hga.size) (fun e => by have := (Own.block HI.out.2.2 e.symm).1; omega)).trans (hga.block q hq hne)⟩
        have h9 : w7.grownBy (w7.setCell ⟨W.heap.size, 5, none⟩ (.slice A7 (j + 1) c7)) (some W.heap.size) := ⟨rfl, rfl, rfl, (KeepsWalks.setCell _ _ _).size, fun k _ hk => Below.heap_setCell _ _ _ k (fun e => hk (by rw [e]))⟩
        refine ⟨j + 1, .slice A7 (j + 1) c7, by omega, by go_num, Lib.hid ⟨⟨h9.os.trans hg8.os, h9.tape.trans hg8.tape, h9.output.trans hg8.output, Nat.le_trans hg8.size h9.size, fun q hq hne => (h9.block q (Nat.lt_of_lt_of_le hq hg8.size) hne).trans (hg8.block q hq hne)⟩, HCB7.out.set_ 5 _, ?_⟩⟩
        refine Own.setCell (Own.congr HO7.out fun p q hp hq => ?_) (fun e => by
         have h5 : Z0.heap.size ≤ W.heap.size := (Own.block HO7.out e).1
         have h6 : W.heap.size < Z0.heap.size := HCB.out.lt
         omega) _
        unfold catF
        by_cases hpj : p < j
        · rw [if_pos hpj]
        ·
         rw [if_neg hpj]
         have : p = j := by omega
         subst this
         unfold sgF
         rw [← HX.out]
       case measure => simp [intOf]; omega
      ·
       have hje : j = a.length + b.length := by omega
       subst hje
       have HIO := Lib.hid HI.out.2.2
       obtain ⟨Av, cv, rfl⟩ := Own.form HIO.out
       have hBZ : B' ≤ Z0.heap.size := Nat.le_trans hB' HSZ.out.2.1.1.size
       have hrs : RdS wr B' hA hn Xs := ((HRS.out.mv HSZ.out.2.1.1 HM.out.map1 HM.out.map2).grown HI.out.1 hBZ fun r e => by cases e; exact hB')
       have hBw : B' ≤ wr.heap.size := Nat.le_trans hBZ HI.out.1.size
       have hntZ := not_ts HSZ.out.1 HCB.out (by decide) (by decide)
       have hrw : ∀ r, some W.heap.size = some r → W.heap.size ≤ r ∧ B ≤ r ∧ ¬ TS P m1 m2 Z0 r := fun r e => by cases e; exact ⟨Nat.le_refl _, hBW, hntZ⟩
       have HST := Lib.hid (SeaT.grown HSZ.out.1 HI.out.1 fun r e => (hrw r e).2).1
       have HAB2 := Lib.hid (HSZ.out.2.1.grown HSZ.out.1 HI.out.1 hrw)
       have hps := HPS.out ls (by rw [HLSL.out]; omega) Av cv wr.heap.size wr HST.out (by
        have h1 := RdS.of_own HIO.out (by rw [HLSL.out]; omega) HRS.out HMEM.out (fun x hx => by
         obtain ⟨_, _, _, _, _, _, _, h, _⟩ := hrs.at_ hx
         exact h.more hBw)
        rw [HLSL.out]; exact h1) (((HX3.out.mv HSZ.out.2.1.1 HM.out.map1 HM.out.map2).below ((Below.refl B' Z0).grown HI.out.1 hBZ fun r e => by cases e; exact hB')).more hBw) (Nat.le_refl _)
       rw [HPG.out, HLSL.out] at hps
       have HPP := Lib.hid hps
       have HKF := Lib.hid (HSZ.out.2.2.1.grown HI.out.1 (by simp))
       have HLK := Lib.hid (HSZ.out.2.2.2.grown HI.out.1 fun g e e2 => by cases e2; have := HSZ.out.2.2.2.2 _ e; omega)
       have HLN := Lib.hid (show LfP (W.heap.size + 2) wr (.slice (some ⟨gL, 0, none⟩) (a.length + b.length) cL2) ls from ⟨.inr ⟨gL, cL2, by rw [HLSL.out], by rw [HLSL.out]; exact hcL1, hcL2, Nat.lt_of_lt_of_le hgL3 HI.out.1.size, fun q hq => (World.cell?_of_block (HI.out.1.block gL hgL3 (by have := HBL2.out; simp; omega))).trans (HCL.out q (by rw [← HLSL.out]; exact hq))⟩, fun g e => by cases e; exact HBL2.out⟩)
       have HLFS := Lib.hid (show M.lf G hn (k + 1) = if G ls then M.lf G hn k else ls from by rw [HLS.out, HA.out, HBB.out]; exact M.lf_succ hlt)
       obtain ⟨y0, y1, y2, y3⟩ := HI.out.2.1.c4
       have y4 := HI.out.2.1.cell 4
       have y5 := HI.out.2.1.cell 5
       obtain ⟨z0, z1, z2⟩ := HKF.out.c3
       obtain ⟨q, hq⟩ : ∃ q, G ls = q := ⟨_, rfl⟩
       rw [hq] at HPP HLFS
       clear hq hps hrs hrw hntZ
       cases q
       ·
        go_wp2_with (go_at_call 56; refine HPP.out.mono ?_; rintro e w9 ⟨rfl, hab⟩; have HAB9 := Lib.hid hab; clear hab y0 y1 y2 y3 y4 y5 z0 z1 z2)
        go_roundw
        case rel => exact ⟨k + 1, _, by omega, by go_num, Lib.hid ⟨(HAB9.out.2 HST.out).1, HAB2.out.trans HAB9.out, HI.out.2.1.mv HAB9.out.1 HST.out.map1 HST.out.map2, HKF.out.mv HAB9.out.1 HST.out.map1 HST.out.map2, by rw [HLFS.out]; exact HLN.out.mv HAB9.out.1 HST.out.map1 HST.out.map2, Nat.le_trans (show W.heap.size + 2 ≤ wr.heap.size from HKF.out.lt) HAB9.out.1.size⟩⟩
        case measure => simp [intOf]; omega
       ·
        go_wp2_with (go_at_call 56; refine HPP.out.mono ?_; rintro e w9 ⟨rfl, hab⟩; have HAB9 := Lib.hid hab; clear hab y0 y1 y2 y3 y4 y5 z0 z1 z2)
        go_roundw
        case rel => exact ⟨k + 1, _, by omega, by go_num, Lib.hid ⟨(HAB9.out.2 HST.out).1, HAB2.out.trans HAB9.out, HI.out.2.1.mv HAB9.out.1 HST.out.map1 HST.out.map2, HKF.out.mv HAB9.out.1 HST.out.map1 HST.out.map2, by rw [HLFS.out]; exact HLK.out.mv HAB9.out.1 HST.out.map1 HST.out.map2, Nat.le_trans (show W.heap.size + 2 ≤ wr.heap.size from HKF.out.lt) HAB9.out.1.size⟩⟩
        case measure => simp [intOf]; omega
    ·
     have hkn : hn = k := by omega
     subst hkn
     have HLE := Lib.hid HS.out.2.2.2.2.1
     rw [M.lf_end] at HLE
     go_wp2_with fail
     go_ret
     exact ⟨_, rfl, ⟨HLE.out.1, fun g e => by have := HLE.out.2 g e; omega⟩, HS.out.2.1⟩
end
end Go.Proofs.YtnbeembnnjdmdaaGreatDoor
/- drift: begin's test of a sighting; asked. -/
namespace Go.Proofs.YtnbeembnnjdmdaaGreatDoor
open Go.RowKit Go.Maps

section
variable {P nd dc nt tc : Nat} {dA tA : Option Addr}
set_option maxRecDepth 100000 in
set_option maxHeartbeats 3200000 in
theorem sighted_any (x : SgV) (xb sb B : Nat) (at_ : Int) (_cs : Array Value) (w : World) (hx : w.cell? ⟨xb, 0, none⟩ = some (.int .i64 at_)) (hs : w.cell? ⟨sb, 0, none⟩ = some (.pointer (some ⟨P, 0, none⟩))) (h2 : w.cell? ⟨P, 2, none⟩ = some (.slice dA nd dc)) (h3 : w.cell? ⟨P, 3, none⟩ = some (.slice tA nt tc)) (hnd : nd ≤ maxLen) (hnt : nt ≤ maxLen) (hR : Rd1 w B x.A x.L.length (fun k => x.L.getD k 0)) (hB : B ≤ w.heap.size) (hL : x.L.length ≤ maxLen) :
  Calls Tryz.prog 97 #[.agg x.cs, .pointer (some ⟨xb, 0, none⟩), .pointer (some ⟨sb, 0, none⟩)] w fun e w' => e = .returned (.bool (M.inB at_ ((nt : Int) - 1) x.tk && M.ascF nd x.L.length (fun k => x.L.getD k 0))) ∧ Below w.heap.size w w' := by
 obtain ⟨tk, A, c, L, seen⟩ := x
 have HB := Lib.hid (belowAlloc w (.cells #[.int .i64 tk, .slice A L.length c, .bool seen] 68))
 have K := Lib.hid (Blk.new w 68 #[.int .i64 tk, .slice A L.length c, .bool seen])
 have k1 := (HB.out.cell (p := ⟨xb, 0, none⟩) (cell_lt hx)).trans hx
 have k2 := (HB.out.cell (p := ⟨sb, 0, none⟩) (cell_lt hs)).trans hs
 have HLA := Lib.hid (fun n => dlast_any P nt tc tA ((w.alloc (.cells #[.int .i64 tk, .slice A L.length c, .bool seen] 68)).drewN n) ((HB.out.cell (p := ⟨P, 3, none⟩) (cell_lt h3)).trans h3) hnt)
 have HAS := Lib.hid (fun n => asc_any P nd dc dA ((w.alloc (.cells #[.int .i64 tk, .slice A L.length c, .bool seen] 68)).drewN n) ((HB.out.cell (p := ⟨P, 2, none⟩) (cell_lt h2)).trans h2) hnd A L.length c B (fun k => L.getD k 0) hL (hR.below ((HB.out.drewN n).mono hB)))
 have HWI := Lib.hid (fun W => dwithin_any tk at_ ((nt : Int) - 1) W)
 dsimp only
 generalize M.ascF nd L.length (fun k => L.getD k 0) = q2 at HAS ⊢
 generalize M.inB at_ ((nt : Int) - 1) tk = q1 at HWI ⊢
 clear hR hx hs h2 h3
 cases q1 <;> cases q2
 all_goals
  go_enter Tryz.func97, Tryz.ntmps97
  go_upto_region 1 with fail
  generalize w.alloc _ = X at *
  have k0 := K.out.cell 0
  have k3 := K.out.cell 1
  have k4 := K.out.cell 2
  go_quiet (first | (go_at_call 46; exact Calls.quiet_of_same (HLA.out _)) | (go_at_call 45; exact Calls.quiet_of_same (HWI.out _)) | (go_at_call 96; exact Calls.quiet_of_same (HAS.out _)) | fail)
  go_wp2_with fail
  go_ret
  exact ⟨rfl, HB.out.drewN _⟩
end
end Go.Proofs.YtnbeembnnjdmdaaGreatDoor
/- drift: asked. -/
namespace Go.Proofs.YtnbeembnnjdmdaaGreatDoor
open Go.RowKit Go.Maps

section
variable {P nd dc nt tc ta xc hn hc : Nat} {dA tA xA hA : Option Addr} {xL : List Int} {lo hi : Int}
set_option maxRecDepth 100000 in
set_option maxHeartbeats 3200000 in
theorem asked_any (c t : Int) (w : World) (h2 : w.cell? ⟨P, 2, none⟩ = some (.slice dA nd dc)) (h3 : w.cell? ⟨P, 3, none⟩ = some (.slice tA nt tc)) (hnd : nd ≤ maxLen) (hnt : nt ≤ maxLen) :
  Calls Tryz.prog 62 #[.agg #[.pointer (some ⟨P, 0, none⟩), .int .i64 (ta : Int), .slice xA xL.length xc, .int .i64 lo, .int .i64 hi, .slice hA hn hc], .int .i64 c, .int .i64 t] w fun e w' => e = .returned (.bool ((decide (c = -1) || M.inB 0 ((nd : Int) - 1) c) && M.inB (ta : Int) ((nt : Int) - 1) t)) ∧ Below w.heap.size w w' := by
 have HB := Lib.hid (belowAlloc w (.cells #[.pointer (some ⟨P, 0, none⟩), .int .i64 (ta : Int), .slice xA xL.length xc, .int .i64 lo, .int .i64 hi, .slice hA hn hc] 105))
 have K := Lib.hid (Blk.new w 105 #[.pointer (some ⟨P, 0, none⟩), .int .i64 (ta : Int), .slice xA xL.length xc, .int .i64 lo, .int .i64 hi, .slice hA hn hc])
 have HLA := Lib.hid (fun n => dlast_any P nt tc tA ((w.alloc (.cells #[.pointer (some ⟨P, 0, none⟩), .int .i64 (ta : Int), .slice xA xL.length xc, .int .i64 lo, .int .i64 hi, .slice hA hn hc] 105)).drewN n) ((HB.out.cell (p := ⟨P, 3, none⟩) (cell_lt h3)).trans h3) hnt)
 have HCE := Lib.hid (fun n => dcell_at P nd dc dA ((w.alloc (.cells #[.pointer (some ⟨P, 0, none⟩), .int .i64 (ta : Int), .slice xA xL.length xc, .int .i64 lo, .int .i64 hi, .slice hA hn hc] 105)).drewN n) ((HB.out.cell (p := ⟨P, 2, none⟩) (cell_lt h2)).trans h2) hnd c)
 have HWI := Lib.hid (fun W => dwithin_any t (ta : Int) ((nt : Int) - 1) W)
 generalize M.inB 0 ((nd : Int) - 1) c = q1 at HCE ⊢
 generalize M.inB (ta : Int) ((nt : Int) - 1) t = q2 at HWI ⊢
 clear h2 h3
 by_cases h : c = -1
 ·
  rw [decide_eq_true h, Bool.true_or, Bool.true_and]
  subst h
  cases q2
  all_goals
   go_enter Tryz.func62, Tryz.ntmps62
   go_upto_region 1 with fail
   generalize w.alloc _ = X at *
   obtain ⟨k0, k1⟩ := K.out.c2
   go_quiet (first | (go_at_call 46; exact Calls.quiet_of_same (HLA.out _)) | (go_at_call 45; exact Calls.quiet_of_same (HWI.out _)) | (go_at_call 44; exact Calls.quiet_of_same (HCE.out _)) | fail)
   go_wp2_with fail
   go_ret
   exact ⟨rfl, HB.out.drewN _⟩
 ·
  have g0 : (c == -1) = false := by simpa using h
  rw [decide_eq_false h, Bool.false_or]
  cases q1 <;> cases q2
  all_goals
   go_enter Tryz.func62, Tryz.ntmps62
   go_upto_region 1 with fail
   generalize w.alloc _ = X at *
   obtain ⟨k0, k1⟩ := K.out.c2
   go_quiet (first | (go_at_call 46; exact Calls.quiet_of_same (HLA.out _)) | (go_at_call 45; exact Calls.quiet_of_same (HWI.out _)) | (go_at_call 44; exact Calls.quiet_of_same (HCE.out _)) | fail)
   go_wp2_with fail
   go_ret
   exact ⟨rfl, HB.out.drewN _⟩
end
end Go.Proofs.YtnbeembnnjdmdaaGreatDoor
