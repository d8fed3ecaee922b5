/- drift: pushes, and the iterator that it gives. -/
import Derived.Test.YtnbeembnnjdmdaaGreatDoorD0
import Derived.Test.YtnbeembnnjdmdaaGreatDoorMixIn
import Derived.RangeFuncNested
import Derived.RangeFuncBound
import Derived.RangeFuncCalls
import Derived.RangeFuncLeaves
import Derived.Shelf.Abstract
import Derived.Shelf.RegionOpen
import Derived.OwnWalkIn
import Derived.TacticsInMore
import Derived.LoopNIn
import Derived.LoopIn
import Derived.Maps.OwnIn
import Derived.RangeFuncBox
import Derived.Test.YtnbeembnnjdmdaaGreatDoorCp
import Derived.Test.YtnbeembnnjdmdaaGreatDoorBase
import Derived.Sort.OwnSortedInts
namespace Go.Proofs.YtnbeembnnjdmdaaGreatDoor
open Go.RowKit Go.Shelf

attribute [local go_sem] Oper.semAt_some
structure PBox (W : World) (S P c t : Nat) (h : Int) (p : Nat → Int) (sv : Value) : Prop where
 b0 : Blk W S 87 #[.pointer (some ⟨P, 0, none⟩)]
 b1 : Blk W (S + 1) 3 #[.int .i64 (c : Int)]
 b2 : Blk W (S + 2) 142 #[.int .i64 (p 0), .int .i64 (p 1), .int .i64 (p 2)]
 b3 : Blk W (S + 3) 147 #[sv]
 b4 : Blk W (S + 4) 3 #[.int .i64 (t : Int)]
 b5 : Blk W (S + 5) 3 #[.int .i64 h]
theorem PBox.below {W W' : World} {S P c t : Nat} {h : Int} {p : Nat → Int} {sv : Value} (b : PBox W S P c t h p sv) (hb : Below W.heap.size W W') : PBox W' S P c t h p sv :=
 ⟨b.b0.below' hb, b.b1.below' hb, b.b2.below' hb, b.b3.below' hb, b.b4.below' hb, b.b5.below' hb⟩
theorem PBox.mv {W W' : World} {S P c t m m' : Nat} {h : Int} {p : Nat → Int} {sv : Value} (b : PBox W S P c t h p sv) (hv : Mv m m' W W') (h1 : IsMap' W m) (h2 : IsMap' W m') : PBox W' S P c t h p sv :=
 ⟨b.b0.mv hv h1 h2, b.b1.mv hv h1 h2, b.b2.mv hv h1 h2, b.b3.mv hv h1 h2, b.b4.mv hv h1 h2, b.b5.mv hv h1 h2⟩
theorem PBox.grown {W W' : World} {row : Option Nat} {S P c t : Nat} {h : Int} {p : Nat → Int} {sv : Value} (b : PBox W S P c t h p sv) (hg : W.grownBy W' row) (hr : ∀ r, row = some r → S + 6 ≤ r ∨ r < S) : PBox W' S P c t h p sv := by
 have hne : ∀ k, S ≤ k → k < S + 6 → some k ≠ row := fun k h1 h2 e => by have := hr k e.symm; omega
 exact ⟨b.b0.grown hg (hne _ (by omega) (by omega)), b.b1.grown hg (hne _ (by omega) (by omega)), b.b2.grown hg (hne _ (by omega) (by omega)), b.b3.grown hg (hne _ (by omega) (by omega)), b.b4.grown hg (hne _ (by omega) (by omega)), b.b5.grown hg (hne _ (by omega) (by omega))⟩
def pcaps (S : Nat) : Array Value := #[.pointer (some ⟨S + 2, 0, none⟩), .pointer (some ⟨S, 0, none⟩), .pointer (some ⟨S + 1, 0, none⟩), .pointer (some ⟨S + 3, 0, none⟩), .pointer (some ⟨S + 4, 0, none⟩), .pointer (some ⟨S + 5, 0, none⟩)]
theorem blk_at {W : World} {n : Nat} (hn : W.heap.size = n) (t : TypeId) (cs : Array Value) : Blk (W.alloc (.cells cs t)) n t cs := hn ▸ Blk.new W t cs
set_option maxRecDepth 100000 in
set_option maxHeartbeats 3200000 in
theorem pushes_any (P c t : Nat) (h : Int) (p : Nat → Int) (sv : Value) (hsv : ∃ f cs, sv = .func f #[] cs) (W : World) :
  Calls Tryz.prog 90 #[.pointer (some ⟨P, 0, none⟩), .int .i64 (c : Int), .agg #[.int .i64 (p 0), .int .i64 (p 1), .int .i64 (p 2)], sv, .int .i64 (t : Int), .int .i64 h] W fun e W' =>
   e = .returned (.func (.func 118) #[] (pcaps W.heap.size)) ∧ PBox W' W.heap.size P c t h p sv ∧ Below W.heap.size W W' ∧ W'.heap.size = W.heap.size + 6 := by
 obtain ⟨f, cs, rfl⟩ := hsv
 go_enter Tryz.func90, Tryz.ntmps90
 go_wp2_with fail
 go_ret
 refine ⟨rfl, ⟨?_, ?_, ?_, ?_, ?_, ?_⟩, ?_, by simp⟩
 · exact (((((blk_at rfl _ _).alloc _).alloc _).alloc _).alloc _).alloc _
 · exact ((((blk_at (by simp) _ _).alloc _).alloc _).alloc _).alloc _
 · exact (((blk_at (by simp) _ _).alloc _).alloc _).alloc _
 · exact ((blk_at (by simp) _ _).alloc _).alloc _
 · exact (blk_at (by simp) _ _).alloc _
 · exact blk_at (by simp) _ _
 · exact (((belowAlloc3 _ _ _ _).alloc (by simp; omega) _).alloc (by simp; omega) _).alloc (by simp; omega) _
section
variable {d : M.Dr} {zA cA wA dA tA sA : Option Addr} {cl : Nat → Nat} {B P m1 m2 dc tc sc zc cc wc : Nat} {T : Nat → Prop} {W W' : World}
theorem pushT_at {s : M.Sea} {p : Nat → Int} {t : Nat} {h : Int} {g : Int → Int} {c a : Nat} {f : Int} (ha : a < 6) (hb : M.bitB (p 0) a = true) (hf : p 1 ≤ f ∧ f ≤ p 2) : M.pushT s p t h g c (M.pushN s t h a (g f).toNat c) = true := by
 refine M.anyTo_iff.2 ⟨a, ha, ?_⟩
 rw [hb, Bool.true_and]
 exact M.spanTo_iff.2 ⟨f, hf.1, hf.2, by simp⟩
set_option maxRecDepth 100000 in
set_option maxHeartbeats 3200000 in
theorem pushes1_seq (hd : d.Ok) (S c t : Nat) (h : Int) (p : Nat → Int) (g : Int → Int) (fs : Nat) (caps : Array Value) (hfs : (fs = 87 ∧ caps = #[]) ∨ (fs = 88 ∧ ∃ xb, caps = #[.pointer (some ⟨xb, 0, none⟩)])) (hc : c < d.s.nd) (ht : t < d.s.nt) (hh : 0 ≤ h ∧ h ≤ 200) (hp : M.pushB p = true)
  (hg : ∀ f, 0 ≤ f → f ≤ 3 → 0 ≤ g f ∧ g f ≤ 100) (St : World → Prop) (hSt : ∀ W W', St W → IsMap' W m2 → Mv m2 m2 W W' → St W') (hst : ∀ W f, St W → 0 ≤ f → f ≤ 3 → Calls Tryz.prog fs (#[.int .i64 f] ++ caps) W fun e w' => e = .returned (.int .i64 (g f)) ∧ W = w') :
  SeqB Fence.wide 3 Tryz.prog 118 (pcaps S) (fun x : {x : Int // M.pushT d.s p t h g c x = true} => #[.int .i64 x.1]) (fun X Y => Mv m2 m2 X Y ∧ (SeaM d zA cA wA dA tA sA cl B P m1 m2 #[.int .i64 (d.s.W : Int), .int .i64 (d.s.H : Int), .slice dA d.s.nd dc, .slice tA d.s.nt tc, .slice sA d.s.nt sc, .slice zA d.s.nd zc, .slice cA d.nz cc, .slice wA (d.s.nt - 1) wc, .map (some m1), .map (some m2)] T X → SeaM d zA cA wA dA tA sA cl B P m1 m2 #[.int .i64 (d.s.W : Int), .int .i64 (d.s.H : Int), .slice dA d.s.nd dc, .slice tA d.s.nt tc, .slice sA d.s.nt sc, .slice zA d.s.nd zc, .slice cA d.nz cc, .slice wA (d.s.nt - 1) wc, .map (some m1), .map (some m2)] T Y)) (fun W => SeaM d zA cA wA dA tA sA cl B P m1 m2 #[.int .i64 (d.s.W : Int), .int .i64 (d.s.H : Int), .slice dA d.s.nd dc, .slice tA d.s.nt tc, .slice sA d.s.nt sc, .slice zA d.s.nd zc, .slice cA d.nz cc, .slice wA (d.s.nt - 1) wc, .map (some m1), .map (some m2)] T W ∧ PBox W S P c t h p (.func (.func fs) #[] caps) ∧ St W) (fun xs => ∀ x, x ∈ xs) (fun _ => True) 24 := by
 intro l J Jx W hIv hAb hAbx hY h0
 have hpp := M.pushB_iff.1 hp
 show CallsIn Fence.wide 3 Tryz.prog 118 #[.func (.yield l) #[] #[], .pointer (some ⟨S + 2, 0, none⟩), .pointer (some ⟨S, 0, none⟩), .pointer (some ⟨S + 1, 0, none⟩), .pointer (some ⟨S + 3, 0, none⟩), .pointer (some ⟨S + 4, 0, none⟩), .pointer (some ⟨S + 5, 0, none⟩)] W _
 have HIV := Lib.hid hIv
 have HAB := Lib.hid hAb
 have HY := Lib.hid hY
 have HST := Lib.hid hst
 have HSTM := Lib.hid hSt
 have HG := Lib.hid hg
 have HJ0 := Lib.hid h0
 have HPU := Lib.hid (fun X (hX : SeaM d zA cA wA dA tA sA cl B P m1 m2 #[.int .i64 (d.s.W : Int), .int .i64 (d.s.H : Int), .slice dA d.s.nd dc, .slice tA d.s.nt tc, .slice sA d.s.nt sc, .slice zA d.s.nd zc, .slice cA d.nz cc, .slice wA (d.s.nt - 1) wc, .map (some m1), .map (some m2)] T X) (a : Nat) (k : Nat) (ha : a < 6) (hk : k ≤ 100) => dpushed_any (W := X) hd hX c k a t h hc ha ht hh hk)
 clear hIv hAb hAbx hY h0 hst hSt hg hd hp
 refine callsIn_of_wp Tryz.func118 rfl trivial ?_ rfl
 simp only [Tryz.ntmps118, List.size_toArray, List.length_cons, List.length_nil, Nat.reduceAdd, Nat.reduceSub, Array.replicate_succ, Array.replicate_zero, List.push_toArray, List.append_toArray, List.nil_append, List.cons_append]
 gi_wp2_with fail
 gi_loopw [10] (fun i wr => ∃ (a : Nat) (pre : List {x : Int // M.pushT d.s p t h g c x = true}), a ≤ 6 ∧ i = .int .i64 (a : Int) ∧ Hid (J pre wr) ∧ pre.length ≤ 4 * a ∧ Hid (∀ a' f, a' < a → M.bitB (p 0) a' = true → p 1 ≤ f → f ≤ p 2 → ∃ y, y ∈ pre ∧ y.1 = M.pushN d.s t h a' (g f).toNat c)) (fun i _ => 6 - (intOf i).toNat)
 case atStart => exact ⟨0, [], Nat.zero_le _, rfl, HJ0, Nat.le_refl _, Lib.hid fun a' f h1 => absurd h1 (by omega)⟩
 case round =>
  obtain ⟨a, pre, ha, rfl, HJ, hlen, HC⟩ := hrel
  by_cases hlt : a < 6
  ·
   have ha6 : (a : Int) < 6 := by omega
   have hbx := (HIV.out _ _ HJ.out).2.1
   obtain ⟨b0, b1, b2⟩ := hbx.b2.c3
   clear hbx
   gi_wp2_with fail
   gi_loopw [9] (fun i wr => ∃ (f : Int) (pre' : List {x : Int // M.pushT d.s p t h g c x = true}), p 1 ≤ f ∧ f ≤ p 2 + 1 ∧ i = .int .i64 f ∧ Hid (J pre' wr) ∧ (pre'.length : Int) ≤ 4 * a + (f - p 1) ∧ Hid (∀ a' f', a' < a → M.bitB (p 0) a' = true → p 1 ≤ f' → f' ≤ p 2 → ∃ y, y ∈ pre' ∧ y.1 = M.pushN d.s t h a' (g f').toNat c) ∧ Hid (∀ f', p 1 ≤ f' → f' < f → M.bitB (p 0) a = true → ∃ y, y ∈ pre' ∧ y.1 = M.pushN d.s t h a (g f').toNat c)) (fun i _ => (p 2 + 1 - intOf i).toNat)
   case atStart => exact ⟨p 1, pre, by omega, by omega, rfl, HJ, by omega, HC, Lib.hid fun f' h1 h2 => absurd h1 (by omega)⟩
   case round =>
    obtain ⟨f, pre', hf1, hf2, rfl, HJ', hlen', HC1, HC2⟩ := hrel
    have hbx := (HIV.out _ _ HJ'.out).2.1
    obtain ⟨b0, b1, b2⟩ := hbx.b2.c3
    clear hbx
    cases hbt : M.bitB (p 0) a
    ·
     have hbt2 : bits .and .i64 (p 0 / 2 ^ a) 1 = 0 := by
      rw [toNat_i64_and_one]
      have h9 : (p 0 / 2 ^ a % 2 == 1) = false := hbt
      have := beq_eq_false_iff_ne.1 h9
      omega
     have HBT := Lib.hid hbt
     clear hbt
     gi_wp2_with fail
     go_roundw
     case rel =>
      refine ⟨a + 1, pre', by omega, by go_num, HJ', by omega, Lib.hid fun a' f' h1 h2 h3 h4 => ?_⟩
      rcases Nat.lt_succ_iff_lt_or_eq.1 h1 with h5 | h5
      · exact HC1.out a' f' h5 h2 h3 h4
      · subst h5; rw [HBT.out] at h2; cases h2
     case measure => simp [intOf]; omega
    ·
     have hbt2 : bits .and .i64 (p 0 / 2 ^ a) 1 = 1 := by
      rw [toNat_i64_and_one]
      have h9 : (p 0 / 2 ^ a % 2 == 1) = true := hbt
      exact beq_iff_eq.1 h9
     have HBT := Lib.hid hbt
     clear hbt
     by_cases hf3 : f ≤ p 2
     ·
      gi_wp2_with fail
      have hbx := (HIV.out _ _ HJ'.out).2.1
      clear hbx
      have hS2 := (HIV.out _ _ HJ'.out).1
      have HS2 := Lib.hid hS2
      have HST2 := Lib.hid (HST.out wr.drew f (HSTM.out _ _ (HIV.out _ _ HJ'.out).2.2 hS2.map2 ((Mv.refl _ _ _).drew)) (by omega) (by omega))
      have hg2 := HG.out f (by omega) (by omega)
      clear hS2
      refine wpIn_region_TI 10 (fun w' => SeaM d zA cA wA dA tA sA cl B P m1 m2 #[.int .i64 (d.s.W : Int), .int .i64 (d.s.H : Int), .slice dA d.s.nd dc, .slice tA d.s.nt tc, .slice sA d.s.nt sc, .slice zA d.s.nd zc, .slice cA d.nz cc, .slice wA (d.s.nt - 1) wc, .map (some m1), .map (some m2)] T w' ∧ PBox w' S P c t h p (.func (.func fs) #[] caps) ∧ St w' ∧ Mv m2 m2 wr w') (by kernel_rfl) ⟨HS2.out.drewN 1, (HIV.out _ _ HJ'.out).2.1.below ((Below.refl _ _).drew), HSTM.out _ _ (HIV.out _ _ HJ'.out).2.2 HS2.out.map2 ((Mv.refl _ _ _).drew), (Mv.refl _ _ _).drew⟩ ?_
      intro hS
      obtain ⟨kf, hkf⟩ : ∃ kf : Nat, kf = (g f).toNat := ⟨_, rfl⟩
      have HGK := Lib.hid (show g f = (kf : Int) by omega)
      have HKF := Lib.hid hkf
      have hkf2 : kf ≤ 100 := by omega
      clear hkf hg2
      rcases hfs with ⟨e1, e2⟩ | ⟨e1, xb, e2⟩
      ·
       subst e1; subst e2
       have HT2 := Lib.hid (show Calls Tryz.prog 87 #[.int .i64 f] wr.drew (fun e w' => e = .returned (.int .i64 (g f)) ∧ wr.drew = w') from by have h9 := HST2.out; simpa using h9)
       refine wpAnyTI_take (i := 0) (v := ?_) rfl rfl (by kernel_rfl) (by kernel_rfl) (by kernel_rfl) (by kernel_rfl) (by kernel_rfl) (fun _ _ _ h => h) (.inl ⟨by kernel_rfl, ?_⟩) (fun _ => rfl) hS ?_
       rotate_left
       · (intro w' hw; obtain ⟨hs1, hb1, hst1, hmv1⟩ := hw; have x0 := hb1.b0.cell 0; have x1 := hb1.b1.cell 0; have x3 := hb1.b3.cell 0; have x4 := hb1.b4.cell 0; have x5 := hb1.b5.cell 0; go_simp; try with_reducible rfl)
       try simp only [put_laws]
       refine wpAnyTI_take (i := 1) (v := ?_) rfl rfl (by kernel_rfl) (by kernel_rfl) (by kernel_rfl) (by kernel_rfl) (by kernel_rfl) (fun _ _ _ h => h) (.inl ⟨by kernel_rfl, ?_⟩) (fun _ => rfl) hS ?_
       rotate_left
       · (intro w' hw; obtain ⟨hs1, hb1, hst1, hmv1⟩ := hw; have x0 := hb1.b0.cell 0; have x1 := hb1.b1.cell 0; have x3 := hb1.b3.cell 0; have x4 := hb1.b4.cell 0; have x5 := hb1.b5.cell 0; go_simp; try with_reducible rfl)
       try simp only [put_laws]
       refine wpAnyTI_take (i := 2) (v := ?_) rfl rfl (by kernel_rfl) (by kernel_rfl) (by kernel_rfl) (by kernel_rfl) (by kernel_rfl) (fun _ _ _ h => h) (.inl ⟨by kernel_rfl, ?_⟩) (fun _ => rfl) hS ?_
       rotate_left
       · (intro w' hw; obtain ⟨hs1, hb1, hst1, hmv1⟩ := hw; have x0 := hb1.b0.cell 0; have x1 := hb1.b1.cell 0; have x3 := hb1.b3.cell 0; have x4 := hb1.b4.cell 0; have x5 := hb1.b5.cell 0; go_simp; try with_reducible rfl)
       try simp only [put_laws]
       refine wpAnyTI_take (i := 3) (v := ?_) rfl rfl (by kernel_rfl) (by kernel_rfl) (by kernel_rfl) (by kernel_rfl) (by kernel_rfl) (fun _ _ _ h => h) (.inl ⟨by kernel_rfl, ?_⟩) (fun _ => rfl) hS ?_
       rotate_left
       · (intro w' hw; obtain ⟨hs1, hb1, hst1, hmv1⟩ := hw; have x0 := hb1.b0.cell 0; have x1 := hb1.b1.cell 0; have x3 := hb1.b3.cell 0; have x4 := hb1.b4.cell 0; have x5 := hb1.b5.cell 0; go_simp; try with_reducible rfl)
       try simp only [put_laws]
       refine wpAnyTI_take (i := 4) (v := ?_) rfl rfl (by kernel_rfl) (by kernel_rfl) (by kernel_rfl) (by kernel_rfl) (by kernel_rfl) (fun _ _ _ h => h) (.inl ⟨by kernel_rfl, ?_⟩) (fun _ => rfl) hS ?_
       rotate_left
       · (intro w' hw; obtain ⟨hs1, hb1, hst1, hmv1⟩ := hw; have x0 := hb1.b0.cell 0; have x1 := hb1.b1.cell 0; have x3 := hb1.b3.cell 0; have x4 := hb1.b4.cell 0; have x5 := hb1.b5.cell 0; go_simp; try with_reducible rfl)
       try simp only [put_laws]
       refine wpAnyTI_take (i := 6) (v := ?_) rfl rfl (by kernel_rfl) (by kernel_rfl) (by kernel_rfl) (by kernel_rfl) (by kernel_rfl) (fun _ _ _ h => h) (.inl ⟨by kernel_rfl, ?_⟩) (fun _ => rfl) hS ?_
       rotate_left
       · (intro w' hw; obtain ⟨hs1, hb1, hst1, hmv1⟩ := hw; have x0 := hb1.b0.cell 0; have x1 := hb1.b1.cell 0; have x3 := hb1.b3.cell 0; have x4 := hb1.b4.cell 0; have x5 := hb1.b5.cell 0; go_simp; try with_reducible rfl)
       try simp only [put_laws]
       refine wpAnyTI_take (i := 7) (v := ?_) rfl rfl (by kernel_rfl) (by kernel_rfl) (by kernel_rfl) (by kernel_rfl) (by kernel_rfl) (fun _ _ _ h => h) (.inl ⟨by kernel_rfl, ?_⟩) (fun _ => rfl) hS ?_
       rotate_left
       · (intro w' hw; obtain ⟨hs1, hb1, hst1, hmv1⟩ := hw; have x0 := hb1.b0.cell 0; have x1 := hb1.b1.cell 0; have x3 := hb1.b3.cell 0; have x4 := hb1.b4.cell 0; have x5 := hb1.b5.cell 0; go_simp; try with_reducible rfl)
       try simp only [put_laws]
       refine wpAnyTI_take (i := 8) (v := ?_) rfl rfl (by kernel_rfl) (by kernel_rfl) (by kernel_rfl) (by kernel_rfl) (by kernel_rfl) (fun _ _ _ h => h) (.inl ⟨by kernel_rfl, ?_⟩) (fun _ => rfl) hS ?_
       rotate_left
       · (intro w' hw; obtain ⟨hs1, hb1, hst1, hmv1⟩ := hw; have x0 := hb1.b0.cell 0; have x1 := hb1.b1.cell 0; have x3 := hb1.b3.cell 0; have x4 := hb1.b4.cell 0; have x5 := hb1.b5.cell 0; go_simp; try with_reducible rfl)
       try simp only [put_laws]
       refine wpAnyTI_one (i := 5) (by kernel_rfl) rfl ?_
       intro K' hK'
       go_simp
       refine ⟨trivial, (callsIn_wide.2 HT2.out).mono ?_⟩
       rintro e w5 ⟨he, e5⟩
       rw [HGK.out] at he
       subst he
       subst e5
       refine hK'.out _ _ (.inr hS) ?_
       clear hK' K'
       try simp only [put_laws]
       refine wpAnyTI_one (i := 9) (by kernel_rfl) rfl ?_
       intro K' hK'
       go_simp
       refine ⟨trivial, (callsIn_wide.2 (HPU.out wr.drew hS.1 a kf (by omega) hkf2)).mono ?_⟩
       rintro e w6 ⟨rfl, hm6, hv6⟩
       have hS' := (show _ ∧ _ ∧ _ ∧ _ from ⟨hm6, hS.2.1.mv hv6 hS.1.map2 hS.1.map2, HSTM.out _ _ hS.2.2.1 hS.1.map2 hv6, hS.2.2.2.trans hv6⟩)
       clear hS hm6 hv6
       have hS := hS'
       clear hS'
       refine hK'.out _ _ (.inr hS) ?_
       clear hK' K'
       try simp only [put_laws]
       obtain ⟨fn, tmps, assign, body, hy, hR⟩ := HY.out pre' ⟨M.pushN d.s t h a kf c, by rw [HKF.out]; exact pushT_at (by omega) HBT.out ⟨hf1, hf3⟩⟩ w6 (HAB.out _ _ _ HJ'.out ⟨hS.2.2.2, fun _ => hS.1⟩) (by omega)
       dsimp only at hy
       have HRD := Lib.hid hR
       clear hR
       refine wpAnyTI_one (i := 10) (by kernel_rfl) rfl ?_
       intro K' hK'
       go_simp
       refine HRD.out.mono ?_
       rintro e w7 (⟨rfl, hj7⟩ | ⟨rfl, hj7⟩)
       ·
        have HJ7 := Lib.hid hj7
        clear hj7 hS
        refine hK'.out _ _ (.inl rfl) ?_
        clear hK' K'
        try simp only [put_laws]
        refine wpAnyTI_one (i := 11) (by kernel_rfl) rfl ?_
        intro K' hK'
        go_simp
        refine hK'.out _ _ (.inl rfl) ?_
        clear hK' K'
        try simp only [put_laws]
        refine wpAnyTI_done (by kernel_rfl) ?_ _
        gi_wp2_with fail
        go_roundw
        case rel =>
         refine ⟨f + 1, pre' ++ [⟨M.pushN d.s t h a kf c, by rw [HKF.out]; exact pushT_at (by omega) HBT.out ⟨hf1, hf3⟩⟩], by omega, by omega, by go_num, HJ7, by rw [List.length_append]; simp only [List.length_cons, List.length_nil]; omega, Lib.hid fun a' f' h1 h2 h3 h4 => ?_, Lib.hid fun f' h1 h2 h3 => ?_⟩
         ·
          obtain ⟨y, hy1, hy2⟩ := HC1.out a' f' h1 h2 h3 h4
          exact ⟨y, List.mem_append_left _ hy1, hy2⟩
         ·
          by_cases e9 : f' = f
          · subst e9; exact ⟨_, List.mem_append_right _ (List.mem_singleton.2 rfl), congrArg (fun k => M.pushN d.s t h a k c) HKF.out⟩
          ·
           obtain ⟨y, hy1, hy2⟩ := HC2.out f' h1 (by omega) HBT.out
           exact ⟨y, List.mem_append_left _ hy1, hy2⟩
        case measure => simp [intOf]; omega
       ·
        have HJ7 := Lib.hid hj7
        clear hj7 hS
        refine hK'.out _ _ (.inl rfl) ?_
        clear hK' K'
        try simp only [put_laws]
        refine wpAnyTI_one (i := 11) (by kernel_rfl) rfl ?_
        intro K' hK'
        go_simp
        refine hK'.out _ _ (.inl rfl) ?_
        clear hK' K'
        try simp only [put_laws]
        refine wpAnyTI_done (by kernel_rfl) ?_ _
        gi_wp2_with fail
        (try simp only [Exit.inBlock, Exit.then])
        refine bodyPost_ret (results_none rfl _ _ _) rfl ?_
        exact ⟨⟨_, rfl⟩, .inr ⟨_, trivial, HJ7.out⟩⟩
      ·
       subst e1; subst e2
       have HT2 := Lib.hid (show Calls Tryz.prog 88 #[.int .i64 f, .pointer (some ⟨xb, 0, none⟩)] wr.drew (fun e w' => e = .returned (.int .i64 (g f)) ∧ wr.drew = w') from by have h9 := HST2.out; simpa using h9)
       refine wpAnyTI_take (i := 0) (v := ?_) rfl rfl (by kernel_rfl) (by kernel_rfl) (by kernel_rfl) (by kernel_rfl) (by kernel_rfl) (fun _ _ _ h => h) (.inl ⟨by kernel_rfl, ?_⟩) (fun _ => rfl) hS ?_
       rotate_left
       · (intro w' hw; obtain ⟨hs1, hb1, hst1, hmv1⟩ := hw; have x0 := hb1.b0.cell 0; have x1 := hb1.b1.cell 0; have x3 := hb1.b3.cell 0; have x4 := hb1.b4.cell 0; have x5 := hb1.b5.cell 0; go_simp; try with_reducible rfl)
       try simp only [put_laws]
       refine wpAnyTI_take (i := 1) (v := ?_) rfl rfl (by kernel_rfl) (by kernel_rfl) (by kernel_rfl) (by kernel_rfl) (by kernel_rfl) (fun _ _ _ h => h) (.inl ⟨by kernel_rfl, ?_⟩) (fun _ => rfl) hS ?_
       rotate_left
       · (intro w' hw; obtain ⟨hs1, hb1, hst1, hmv1⟩ := hw; have x0 := hb1.b0.cell 0; have x1 := hb1.b1.cell 0; have x3 := hb1.b3.cell 0; have x4 := hb1.b4.cell 0; have x5 := hb1.b5.cell 0; go_simp; try with_reducible rfl)
       try simp only [put_laws]
       refine wpAnyTI_take (i := 2) (v := ?_) rfl rfl (by kernel_rfl) (by kernel_rfl) (by kernel_rfl) (by kernel_rfl) (by kernel_rfl) (fun _ _ _ h => h) (.inl ⟨by kernel_rfl, ?_⟩) (fun _ => rfl) hS ?_
       rotate_left
       · (intro w' hw; obtain ⟨hs1, hb1, hst1, hmv1⟩ := hw; have x0 := hb1.b0.cell 0; have x1 := hb1.b1.cell 0; have x3 := hb1.b3.cell 0; have x4 := hb1.b4.cell 0; have x5 := hb1.b5.cell 0; go_simp; try with_reducible rfl)
       try simp only [put_laws]
       refine wpAnyTI_take (i := 3) (v := ?_) rfl rfl (by kernel_rfl) (by kernel_rfl) (by kernel_rfl) (by kernel_rfl) (by kernel_rfl) (fun _ _ _ h => h) (.inl ⟨by kernel_rfl, ?_⟩) (fun _ => rfl) hS ?_
       rotate_left
       · (intro w' hw; obtain ⟨hs1, hb1, hst1, hmv1⟩ := hw; have x0 := hb1.b0.cell 0; have x1 := hb1.b1.cell 0; have x3 := hb1.b3.cell 0; have x4 := hb1.b4.cell 0; have x5 := hb1.b5.cell 0; go_simp; try with_reducible rfl)
       try simp only [put_laws]
       refine wpAnyTI_take (i := 4) (v := ?_) rfl rfl (by kernel_rfl) (by kernel_rfl) (by kernel_rfl) (by kernel_rfl) (by kernel_rfl) (fun _ _ _ h => h) (.inl ⟨by kernel_rfl, ?_⟩) (fun _ => rfl) hS ?_
       rotate_left
       · (intro w' hw; obtain ⟨hs1, hb1, hst1, hmv1⟩ := hw; have x0 := hb1.b0.cell 0; have x1 := hb1.b1.cell 0; have x3 := hb1.b3.cell 0; have x4 := hb1.b4.cell 0; have x5 := hb1.b5.cell 0; go_simp; try with_reducible rfl)
       try simp only [put_laws]
       refine wpAnyTI_take (i := 6) (v := ?_) rfl rfl (by kernel_rfl) (by kernel_rfl) (by kernel_rfl) (by kernel_rfl) (by kernel_rfl) (fun _ _ _ h => h) (.inl ⟨by kernel_rfl, ?_⟩) (fun _ => rfl) hS ?_
       rotate_left
       · (intro w' hw; obtain ⟨hs1, hb1, hst1, hmv1⟩ := hw; have x0 := hb1.b0.cell 0; have x1 := hb1.b1.cell 0; have x3 := hb1.b3.cell 0; have x4 := hb1.b4.cell 0; have x5 := hb1.b5.cell 0; go_simp; try with_reducible rfl)
       try simp only [put_laws]
       refine wpAnyTI_take (i := 7) (v := ?_) rfl rfl (by kernel_rfl) (by kernel_rfl) (by kernel_rfl) (by kernel_rfl) (by kernel_rfl) (fun _ _ _ h => h) (.inl ⟨by kernel_rfl, ?_⟩) (fun _ => rfl) hS ?_
       rotate_left
       · (intro w' hw; obtain ⟨hs1, hb1, hst1, hmv1⟩ := hw; have x0 := hb1.b0.cell 0; have x1 := hb1.b1.cell 0; have x3 := hb1.b3.cell 0; have x4 := hb1.b4.cell 0; have x5 := hb1.b5.cell 0; go_simp; try with_reducible rfl)
       try simp only [put_laws]
       refine wpAnyTI_take (i := 8) (v := ?_) rfl rfl (by kernel_rfl) (by kernel_rfl) (by kernel_rfl) (by kernel_rfl) (by kernel_rfl) (fun _ _ _ h => h) (.inl ⟨by kernel_rfl, ?_⟩) (fun _ => rfl) hS ?_
       rotate_left
       · (intro w' hw; obtain ⟨hs1, hb1, hst1, hmv1⟩ := hw; have x0 := hb1.b0.cell 0; have x1 := hb1.b1.cell 0; have x3 := hb1.b3.cell 0; have x4 := hb1.b4.cell 0; have x5 := hb1.b5.cell 0; go_simp; try with_reducible rfl)
       try simp only [put_laws]
       refine wpAnyTI_one (i := 5) (by kernel_rfl) rfl ?_
       intro K' hK'
       go_simp
       refine ⟨trivial, (callsIn_wide.2 HT2.out).mono ?_⟩
       rintro e w5 ⟨he, e5⟩
       rw [HGK.out] at he
       subst he
       subst e5
       refine hK'.out _ _ (.inr hS) ?_
       clear hK' K'
       try simp only [put_laws]
       refine wpAnyTI_one (i := 9) (by kernel_rfl) rfl ?_
       intro K' hK'
       go_simp
       refine ⟨trivial, (callsIn_wide.2 (HPU.out wr.drew hS.1 a kf (by omega) hkf2)).mono ?_⟩
       rintro e w6 ⟨rfl, hm6, hv6⟩
       have hS' := (show _ ∧ _ ∧ _ ∧ _ from ⟨hm6, hS.2.1.mv hv6 hS.1.map2 hS.1.map2, HSTM.out _ _ hS.2.2.1 hS.1.map2 hv6, hS.2.2.2.trans hv6⟩)
       clear hS hm6 hv6
       have hS := hS'
       clear hS'
       refine hK'.out _ _ (.inr hS) ?_
       clear hK' K'
       try simp only [put_laws]
       obtain ⟨fn, tmps, assign, body, hy, hR⟩ := HY.out pre' ⟨M.pushN d.s t h a kf c, by rw [HKF.out]; exact pushT_at (by omega) HBT.out ⟨hf1, hf3⟩⟩ w6 (HAB.out _ _ _ HJ'.out ⟨hS.2.2.2, fun _ => hS.1⟩) (by omega)
       dsimp only at hy
       have HRD := Lib.hid hR
       clear hR
       refine wpAnyTI_one (i := 10) (by kernel_rfl) rfl ?_
       intro K' hK'
       go_simp
       refine HRD.out.mono ?_
       rintro e w7 (⟨rfl, hj7⟩ | ⟨rfl, hj7⟩)
       ·
        have HJ7 := Lib.hid hj7
        clear hj7 hS
        refine hK'.out _ _ (.inl rfl) ?_
        clear hK' K'
        try simp only [put_laws]
        refine wpAnyTI_one (i := 11) (by kernel_rfl) rfl ?_
        intro K' hK'
        go_simp
        refine hK'.out _ _ (.inl rfl) ?_
        clear hK' K'
        try simp only [put_laws]
        refine wpAnyTI_done (by kernel_rfl) ?_ _
        gi_wp2_with fail
        go_roundw
        case rel =>
         refine ⟨f + 1, pre' ++ [⟨M.pushN d.s t h a kf c, by rw [HKF.out]; exact pushT_at (by omega) HBT.out ⟨hf1, hf3⟩⟩], by omega, by omega, by go_num, HJ7, by rw [List.length_append]; simp only [List.length_cons, List.length_nil]; omega, Lib.hid fun a' f' h1 h2 h3 h4 => ?_, Lib.hid fun f' h1 h2 h3 => ?_⟩
         ·
          obtain ⟨y, hy1, hy2⟩ := HC1.out a' f' h1 h2 h3 h4
          exact ⟨y, List.mem_append_left _ hy1, hy2⟩
         ·
          by_cases e9 : f' = f
          · subst e9; exact ⟨_, List.mem_append_right _ (List.mem_singleton.2 rfl), congrArg (fun k => M.pushN d.s t h a k c) HKF.out⟩
          ·
           obtain ⟨y, hy1, hy2⟩ := HC2.out f' h1 (by omega) HBT.out
           exact ⟨y, List.mem_append_left _ hy1, hy2⟩
        case measure => simp [intOf]; omega
       ·
        have HJ7 := Lib.hid hj7
        clear hj7 hS
        refine hK'.out _ _ (.inl rfl) ?_
        clear hK' K'
        try simp only [put_laws]
        refine wpAnyTI_one (i := 11) (by kernel_rfl) rfl ?_
        intro K' hK'
        go_simp
        refine hK'.out _ _ (.inl rfl) ?_
        clear hK' K'
        try simp only [put_laws]
        refine wpAnyTI_done (by kernel_rfl) ?_ _
        gi_wp2_with fail
        (try simp only [Exit.inBlock, Exit.then])
        refine bodyPost_ret (results_none rfl _ _ _) rfl ?_
        exact ⟨⟨_, rfl⟩, .inr ⟨_, trivial, HJ7.out⟩⟩
     ·
      gi_wp2_with fail
      go_roundw
      case rel =>
       refine ⟨a + 1, pre', by omega, by go_num, HJ', by omega, Lib.hid fun a' f' h1 h2 h3 h4 => ?_⟩
       rcases Nat.lt_succ_iff_lt_or_eq.1 h1 with h5 | h5
       · exact HC1.out a' f' h5 h2 h3 h4
       · subst h5; exact HC2.out f' h3 (by omega) h2
      case measure => simp [intOf]; omega
  ·
   obtain rfl : a = 6 := by omega
   gi_wp2_with fail
   go_end0
   refine ⟨⟨_, rfl⟩, .inl ⟨pre, fun x => ?_, HJ.out⟩⟩
   obtain ⟨a', ha', h1⟩ := M.anyTo_iff.1 x.2
   simp only [Bool.and_eq_true] at h1
   obtain ⟨f, hf1, hf2, h2⟩ := M.spanTo_iff.1 h1.2
   obtain ⟨y, hy1, hy2⟩ := HC.out a' f ha' h1.1 hf1 hf2
   have e : y = x := Subtype.ext (by rw [hy2]; exact beq_iff_eq.1 h2)
   rw [← e]; exact hy1
end
end Go.Proofs.YtnbeembnnjdmdaaGreatDoor
/- drift: the two force functions, and AppendSeq over an iterator that writes the map of neighbours. -/
namespace Go.Proofs.YtnbeembnnjdmdaaGreatDoor
open Go.RowKit Go.Shelf

attribute [local go_sem] Oper.semAt_some
set_option maxRecDepth 100000 in
set_option maxHeartbeats 3200000 in
theorem step1_any (f : Int) (W : World) : Calls Tryz.prog 87 #[.int .i64 f] W fun e w' => e = .returned (.int .i64 f) ∧ W = w' := by
 go_enter Tryz.func87, Tryz.ntmps87
 go_wp2_with fail
 go_ret
 exact ⟨rfl, rfl⟩
set_option maxRecDepth 100000 in
set_option maxHeartbeats 3200000 in
theorem step2_any (f c t l : Int) (xb : Nat) (W : World) (hb : Blk W xb 96 #[.int .i64 c, .int .i64 t, .int .i64 l]) (hf : 0 ≤ f ∧ f ≤ 3) (hl : 0 ≤ l ∧ l ≤ 8) :
  Calls Tryz.prog 88 #[.int .i64 f, .pointer (some ⟨xb, 0, none⟩)] W fun e w' => e = .returned (.int .i64 (f * l / 4)) ∧ W = w' := by
 have x2 := hb.cell 2
 have h0 : 0 ≤ f * l := Int.mul_nonneg hf.1 hl.1
 have h1 : f * l ≤ 3 * 8 := Int.mul_le_mul hf.2 hl.2 hl.1 (by omega)
 have e1 : wrap64 (f * l) = f * l := IntWalk.wrap64_in _ (by omega)
 have e2 : IntKind.i64.wrap (f * l) = f * l := by rw [IntKind.wrap_i64]; omega
 have hq := fun W => run_quo (P := Tryz.prog) (w := W) (f * l) 4 ⟨h0, by omega, by omega⟩
 go_enter Tryz.func88, Tryz.ntmps88
 go_wp2_with fail
 go_ret
 exact ⟨rfl, rfl⟩
def IL (W : World) (B : Nat) (v : Value) (L : List Int) : Prop := Own W B 3 1 v L.length (ints fun j => L.getD j 0)
structure Kp (m : Nat) (r : Option Nat) (W W' : World) : Prop where
 os : W'.os = W.os
 tape : W'.tape = W.tape
 output : W'.output = W.output
 size : W.heap.size ≤ W'.heap.size
 block : ∀ k, k < W.heap.size → k ≠ m → some k ≠ r → W'.heap[k]? = W.heap[k]?
section
variable {W W' W'' : World} {m : Nat} {r : Option Nat}
theorem Kp.refl (m : Nat) (r : Option Nat) (W : World) : Kp m r W W := ⟨rfl, rfl, rfl, Nat.le_refl _, fun _ _ _ _ => rfl⟩
theorem Kp.mv (h : Kp m r W W') (k : Mv m m W' W'') : Kp m r W W'' :=
 ⟨k.os.trans h.os, k.tape.trans h.tape, k.output.trans h.output, Nat.le_trans h.size k.size, fun i hi h1 h2 => (k.block i (Nat.lt_of_lt_of_le hi h.size) h1 h1).trans (h.block i hi h1 h2)⟩
theorem Kp.grown {row : Option Nat} (h : Kp m r W W') (k : W'.grownBy W'' row) (hr : ∀ q, row = some q → W.heap.size ≤ q ∨ some q = r) : Kp m r W W'' :=
 ⟨k.os.trans h.os, k.tape.trans h.tape, k.output.trans h.output, Nat.le_trans h.size k.size, fun i hi h1 h2 => (k.block i (Nat.lt_of_lt_of_le hi h.size) (fun e => by
  rcases hr i e.symm with h3 | h3
  · omega
  · exact h2 h3)).trans (h.block i hi h1 h2)⟩
theorem Own.cells_ne {B t k n q : Nat} {v : Value} {F : Nat → Nat → Value} {o : Obj} (ho : Own W B t k v n F) (hq : W.heap[q]? = some o) (hc : o.isCells = false) : v.ownBlock ≠ some q := by
 obtain ⟨_, ⟨rfl, _⟩ | ⟨g, c, cur, rfl, _, h2, _⟩⟩ := ho
 · simp [Value.ownBlock]
 ·
  intro e
  obtain rfl : g = q := by simpa [Value.ownBlock] using e
  rw [h2] at hq; cases hq; cases hc
theorem Own.keeps {B t k n : Nat} {v : Value} {F : Nat → Nat → Value} (ho : Own W B t k v n F) (hg : W.grownBy W' v.ownBlock) (C : Nat) : KeepsFrom C W W' :=
 ⟨hg.size, fun q _ _ hq hc => (hg.block q (Array.getElem?_eq_some_iff.1 hq).1 fun e => ho.cells_ne hq hc e.symm).trans hq⟩
theorem Blk.keepsSet {g t : Nat} {cs : Array Value} (hb : Blk W g t cs) (i : Nat) (u : Value) (C : Nat) : KeepsFrom C W (W.setCell ⟨g, i, none⟩ u) :=
 ⟨(KeepsWalks.setCell W _ u).size, fun q o _ hq hc => (Below.heap_setCell _ _ _ q (fun e => by
  have e' : q = g := e
  subst e'
  rw [show W.heap[q]? = _ from hb] at hq; cases hq; cases hc)).trans hq⟩
theorem IL.app {B : Nat} {v : Value} {L : List Int} {x : Int} (h : W.ownsRow B 3 1 v (L.length + 1) (cellsOf L.length 1 (ints fun j => L.getD j 0) ++ [.int .i64 x])) : IL W B v (L ++ [x]) := by
 unfold IL
 have e : cellsOf L.length 1 (ints fun j => L.getD j 0) ++ [.int .i64 x] = cellsOf (L.length + 1) 1 (ints fun j => (L ++ [x]).getD j 0) := by
  have := cellsOf_succ L.length 1 (ints fun j => L.getD j 0) (fun _ => .int .i64 x)
  rw [show [Value.int .i64 x] = (List.range 1).map fun _ => .int .i64 x from rfl, this]
  refine cellsOf_congr fun i j hi _ => ?_
  unfold upd ints
  by_cases h2 : i = L.length
  · subst h2; simp
  ·
   rw [if_neg h2]
   have : i < L.length := by omega
   simp [List.getD_eq_getElem?_getD, List.getElem?_append_left this]
 rw [e] at h
 rw [List.length_append, List.length_singleton]
 exact h
theorem wpListIn_apI {Fe : Fence} {n : Nat} (w : World) {ops : Array Oper} {rest : List Oper} {o : Oper} {a : Act} {Q : Exit → Act → World → Prop} (hgd : o.guard = none) (s x : Operand)
  (ho : o.op = .call { callee := .builtin .append, args := #[s, x], argTypes := #[22, 22] }) {B : Nat} {v : Value} {L : List Int} (hs : a.eval s = v) (hown : IL w B v L) {g c : Nat} {y : Int} (hx : a.eval x = .slice (some ⟨g, 0, none⟩) 1 c)
  (hc : w.cell? ⟨g, 0, none⟩ = some (.int .i64 y)) (hL : L.length < 1000000) (hB : B ≤ w.heap.size)
  (hK : ∀ g' c' w', IL w' B (.slice (some ⟨g', 0, none⟩) (L.length + 1) c') (L ++ [y]) → w.grownBy w' v.ownBlock → (some g' = v.ownBlock ∨ w.heap.size = g') → wpListIn Fe n Tryz.prog ops Q rest (a.put o.dst (.slice (some ⟨g', 0, none⟩) (L.length + 1) c')) w') :
  wpListIn Fe n Tryz.prog ops Q (o :: rest) a w := by
 obtain ⟨i0, h1, h2, h3, h4⟩ := info_parts int_info
 refine wpListIn_append_own_at w hgd s x 22 ho B 3 i0 (.int .i64 0) 1 8 Tryz.underlying22 h1 h2 h3 h4 rfl (by decide) v L.length _ hs hown ⟨g, 0, none⟩ 1 c [.int .i64 y] hx rfl (fun j u hu => ?_) (fun u hu => by rw [List.mem_singleton.1 hu]; rfl) (by unfold maxLen; omega) (by omega) hB ?_
 ·
  rcases j with _ | j
  · simp only [List.getElem?_cons_zero, Option.some.injEq] at hu; subst hu; exact hc
  · simp at hu
 ·
  intro v' w' r1 r2 _ r4
  obtain ⟨g', c', rfl⟩ := ownsRow_succ r1
  refine hK g' c' w' (IL.app r1) r2 ?_
  rcases r4 with r4 | r4
  · exact .inl r4
  · exact .inr (by simpa [Value.ownBlock] using r4.symm)
end
def AsI {α : Type} (SM R : World → Prop) (m2 : Nat) (w : World) (Bv : Nat) (v : Value) (L : List Int) (enc : α → Int) (N : Nat) (pre : List α) (W : World) : Prop :=
 pre.length ≤ N ∧ SM W ∧ R W ∧ w.heap.size + 1 ≤ W.heap.size ∧ Kp m2 v.ownBlock w W ∧ ∃ v', Blk W w.heap.size 22 #[v'] ∧ IL W Bv v' (L ++ pre.map enc) ∧ (v'.ownBlock = v.ownBlock ∨ ∃ g, v'.ownBlock = some g ∧ w.heap.size < g)
theorem AsI.own {α : Type} {SM R : World → Prop} {m2 : Nat} {w : World} {Bv : Nat} {v : Value} {L : List Int} {enc : α → Int} {N : Nat}
  (hSM : ∀ X Y row, SM X → X.grownBy Y row → (∀ r, row = some r → w.heap.size ≤ r ∨ some r = v.ownBlock) → SM Y) (hR : ∀ X Y row, R X → X.grownBy Y row → (∀ r, row = some r → w.heap.size ≤ r ∨ some r = v.ownBlock) → R Y) :
  OwnFrom (w.heap.size + 1) (AsI SM R m2 w Bv v L enc N) := by
 rintro s X Y row ⟨h0, h1, h2, h3, h4, v', h5, h6, h7⟩ hg hr
 have hr' : ∀ r, row = some r → w.heap.size ≤ r ∨ some r = v.ownBlock := fun r e => .inl (by have := (hr r e).1; omega)
 refine ⟨h0, hSM X Y row h1 hg hr', hR X Y row h2 hg hr', Nat.le_trans h3 hg.size, h4.grown hg hr', v', h5.grown hg fun e => ?_, Own.grown h6 hg ?_, h7⟩
 · have := (hr _ e.symm).1; omega
 ·
  cases row with
  | none =>
   cases hv : v'.ownBlock with
   | none => exact .inl rfl
   | some g => exact .inr (by simp)
  | some r =>
   obtain ⟨o, ho, hc⟩ := (hr r rfl).2
   exact .inr (Own.cells_ne h6 ho hc)
theorem AsI.mv {α : Type} {SM R : World → Prop} {m2 : Nat} {w : World} {Bv : Nat} {v : Value} {L : List Int} {enc : α → Int} {N : Nat} {s : List α} {X Y : World} (h : AsI SM R m2 w Bv v L enc N s X) (hv : Mv m2 m2 X Y) (hm : IsMap' X m2) (h1 : SM Y) (h2 : R Y) :
  AsI SM R m2 w Bv v L enc N s Y := by
 obtain ⟨h0, _, _, h3, h4, v', h5, h6, h7⟩ := h
 exact ⟨h0, h1, h2, Nat.le_trans h3 hv.size, h4.mv hv, v', h5.mv hv hm hm, Own.mv h6 hv hm hm, h7⟩
section
variable {d : M.Dr} {zA cA wA dA tA sA : Option Addr} {cl : Nat → Nat} {B P m1 m2 dc tc sc zc cc wc : Nat} {T : Nat → Prop} {W W' : World}
set_option maxRecDepth 100000 in
set_option maxHeartbeats 3200000 in
theorem appendSeq_any {α : Type} (gf : Nat) (lb : Array Value) (enc : α → Int) (R : World → Prop) (Sf : List α → Prop) (N : Nat) (eg : ∀ args w, (callFunc gf args).run Tryz.prog w = .ok (.enter gf args) w)
  (hseq : SeqB Fence.wide 3 Tryz.prog gf lb (fun x : α => #[.int .i64 (enc x)]) (fun X Y => Mv m2 m2 X Y ∧ (SeaM d zA cA wA dA tA sA cl B P m1 m2 #[.int .i64 (d.s.W : Int), .int .i64 (d.s.H : Int), .slice dA d.s.nd dc, .slice tA d.s.nt tc, .slice sA d.s.nt sc, .slice zA d.s.nd zc, .slice cA d.nz cc, .slice wA (d.s.nt - 1) wc, .map (some m1), .map (some m2)] T X → SeaM d zA cA wA dA tA sA cl B P m1 m2 #[.int .i64 (d.s.W : Int), .int .i64 (d.s.H : Int), .slice dA d.s.nd dc, .slice tA d.s.nt tc, .slice sA d.s.nt sc, .slice zA d.s.nd zc, .slice cA d.nz cc, .slice wA (d.s.nt - 1) wc, .map (some m1), .map (some m2)] T Y)) (fun W => SeaM d zA cA wA dA tA sA cl B P m1 m2 #[.int .i64 (d.s.W : Int), .int .i64 (d.s.H : Int), .slice dA d.s.nd dc, .slice tA d.s.nt tc, .slice sA d.s.nt sc, .slice zA d.s.nd zc, .slice cA d.nz cc, .slice wA (d.s.nt - 1) wc, .map (some m1), .map (some m2)] T W ∧ R W) Sf (fun _ => True) N) (hN : N ≤ 1000)
  (w : World) (hS : SeaM d zA cA wA dA tA sA cl B P m1 m2 #[.int .i64 (d.s.W : Int), .int .i64 (d.s.H : Int), .slice dA d.s.nd dc, .slice tA d.s.nt tc, .slice sA d.s.nt sc, .slice zA d.s.nd zc, .slice cA d.nz cc, .slice wA (d.s.nt - 1) wc, .map (some m1), .map (some m2)] T w) (hRw : R w) (Bv : Nat) (v : Value) (L : List Int) (hL : IL w Bv v L) (hB : Bv ≤ w.heap.size) (hLl : L.length ≤ 100000) (hvT : ∀ r, v.ownBlock = some r → B ≤ r ∧ ¬ T r)
  (hR : ∀ X Y row, R X → X.grownBy Y row → (∀ r, row = some r → w.heap.size ≤ r ∨ some r = v.ownBlock) → R Y) (hRm : ∀ X Y, R X → SeaM d zA cA wA dA tA sA cl B P m1 m2 #[.int .i64 (d.s.W : Int), .int .i64 (d.s.H : Int), .slice dA d.s.nd dc, .slice tA d.s.nt tc, .slice sA d.s.nt sc, .slice zA d.s.nd zc, .slice cA d.nz cc, .slice wA (d.s.nt - 1) wc, .map (some m1), .map (some m2)] T X → Mv m2 m2 X Y → R Y) :
  Calls Tryz.prog 91 #[v, .func (.func gf) #[] lb] w fun e w' => ∃ v' xs, e = .returned v' ∧ Sf xs ∧ xs.length ≤ N ∧ IL w' Bv v' (L ++ xs.map enc) ∧ (v'.ownBlock = v.ownBlock ∨ ∃ g, v'.ownBlock = some g ∧ w.heap.size ≤ g) ∧ Kp m2 v.ownBlock w w' ∧ SeaM d zA cA wA dA tA sA cl B P m1 m2 #[.int .i64 (d.s.W : Int), .int .i64 (d.s.H : Int), .slice dA d.s.nd dc, .slice tA d.s.nt tc, .slice sA d.s.nt sc, .slice zA d.s.nd zc, .slice cA d.nz cc, .slice wA (d.s.nt - 1) wc, .map (some m1), .map (some m2)] T w' ∧ R w' := by
 obtain ⟨vA, vc, rfl⟩ := Own.form hL
 refine (callsIn_wide (n := 4)).1 ?_
 refine callsIn_of_wp_marks Tryz.func91 rfl trivial ?_ rfl
 simp only [Tryz.ntmps91, List.size_toArray, List.length_cons, List.length_nil, Nat.reduceAdd, Nat.reduceSub, Array.replicate_succ, Array.replicate_zero, List.push_toArray, List.append_toArray, List.nil_append, List.cons_append]
 refine wpIn_wide.2 ?_
 go_wp2_with fail
 have hm2 : m2 < w.heap.size := (hS.t.2.2.2 m2 hS.t.2.2.1).2
 have hSM : ∀ X Y row, (SeaM d zA cA wA dA tA sA cl B P m1 m2 #[.int .i64 (d.s.W : Int), .int .i64 (d.s.H : Int), .slice dA d.s.nd dc, .slice tA d.s.nt tc, .slice sA d.s.nt sc, .slice zA d.s.nd zc, .slice cA d.nz cc, .slice wA (d.s.nt - 1) wc, .map (some m1), .map (some m2)] T X) → X.grownBy Y row → (∀ r, row = some r → w.heap.size ≤ r ∨ some r = (Value.slice vA L.length vc).ownBlock) → (SeaM d zA cA wA dA tA sA cl B P m1 m2 #[.int .i64 (d.s.W : Int), .int .i64 (d.s.H : Int), .slice dA d.s.nd dc, .slice tA d.s.nt tc, .slice sA d.s.nt sc, .slice zA d.s.nd zc, .slice cA d.nz cc, .slice wA (d.s.nt - 1) wc, .map (some m1), .map (some m2)] T Y) := fun X Y row h hg hr => h.grown hg fun r e => by
  rcases hr r e with h1 | h1
  · exact ⟨by have := hS.b.2.2.2.2; omega, fun h2 => by have := (hS.t.2.2.2 r h2).2; omega⟩
  · exact hvT r h1.symm
 have hown := AsI.own (α := α) (m2 := m2) (Bv := Bv) (L := L) (enc := enc) (N := N) hSM hR
 obtain ⟨AX, hAX⟩ : ∃ AX : α → Act, AX = fun x => { tmps := #[Value.slice vA L.length vc, .func (.func gf) #[] lb, .pointer (some ⟨w.heap.size, 0, none⟩), undef, .slice none 0 0, .int .i64 (enc x), .func (.func gf) #[] lb, .int .i64 (enc x), undef, undef, undef, undef, undef], defers := [] } := ⟨_, rfl⟩
 have hsz : (w.alloc (.cells #[Value.slice vA L.length vc] 22)).heap.size = w.heap.size + 1 := by simp
 refine (wpIn_wide (n := 4)).1 ?_
 refine wpIn_rangeFunc_B (F := Fence.wide) (n := 4) rfl (by omega) (gf := gf) (lb := lb) rfl trivial eg hseq (fun _ => rfl) (AsI (fun W => SeaM d zA cA wA dA tA sA cl B P m1 m2 #[.int .i64 (d.s.W : Int), .int .i64 (d.s.H : Int), .slice dA d.s.nd dc, .slice tA d.s.nt tc, .slice sA d.s.nt sc, .slice zA d.s.nd zc, .slice cA d.nz cc, .slice wA (d.s.nt - 1) wc, .map (some m1), .map (some m2)] T W) R m2 w Bv (.slice vA L.length vc) L enc N) (fun _ _ _ => False) (by rw [hsz]; exact hown) (fun _ _ _ _ _ h _ _ => h)
  (fun A B h => h.1.keeps (by rw [hsz]; omega) (by rw [hsz]; omega)) (fun s A B h hab => h.mv hab.1 h.2.1.map2 (hab.2 h.2.1) (hRm _ _ h.2.2.1 h.2.1 hab.1)) (fun _ _ _ _ h _ => h) (fun s A h => ⟨h.2.1, h.2.2.1⟩) ?h0 (fun x a' _ => a' = AX x) (fun _ _ _ _ _ _ h _ _ => h) ?has ?hbody ?hdone (fun _ _ _ _ _ _ h _ => h.elim)
 case h0 => exact ⟨Nat.zero_le _, hS.alloc _, hR _ _ none hRw (World.grownBy_alloc _ _ _) (fun _ e => by cases e), by simp, (Kp.refl _ _ _).grown (World.grownBy_alloc _ _ none) (fun _ e => by cases e), _, Blk.new _ _ _, by rw [List.map_nil, List.append_nil]; exact Own.alloc hL _, .inl rfl⟩
 case has =>
  intro l pre x W K hi hK
  have HK := Lib.hid (hK (AX x) W (KeepsFrom.refl _ _) hi rfl)
  clear hK
  gi_wp2_with fail
  rw [hAX] at HK
  exact HK.out
 case hbody =>
  intro l pre x a' W hl hlp hi ha hlen
  subst ha
  obtain ⟨h0, h1, h2, h3, h4, v', h5, h6, h7⟩ := hi
  obtain ⟨L2, hL2⟩ : ∃ L2, L2 = L ++ pre.map enc := ⟨_, rfl⟩
  rw [← hL2] at h6
  have HL2 := Lib.hid hL2
  have hlen2 : L2.length < 1000000 := by rw [hL2, List.length_append, List.length_map]; omega
  clear hL2
  obtain ⟨A', c', rfl⟩ := Own.form h6
  rw [hAX]
  have x0 := h5.cell 0
  have hrow : ∀ r, (Value.slice A' L2.length c').ownBlock = some r → w.heap.size ≤ r ∨ some r = (Value.slice vA L.length vc).ownBlock := fun r e => by
   rcases h7 with h7 | ⟨g, h7, h8⟩
   · exact .inr (e.symm.trans h7)
   · rw [h7] at e; cases e; exact .inl (by omega)
  have H1 := Lib.hid h1
  have H2 := Lib.hid h2
  have H4 := Lib.hid h4
  have H5 := Lib.hid h5
  have H6 := Lib.hid h6
  have H7 := Lib.hid h7
  have HROW := Lib.hid hrow
  have HSM := Lib.hid hSM
  have HR := Lib.hid hR
  clear h1 h2 h4 h5 h6 h7 hrow hSM hR hRm hvT hown hseq hS hRw hL
  gi_wp2_with (gi_at_builtin; go_must (refine wpListIn_apI _ rfl (.tmp 8) (.tmp 10) rfl (B := Bv) (L := L2) rfl (Own.alloc H6.out _) rfl ((Blk.new _ _ _).cell 0) hlen2 (by simp; omega) ?_); intro g6 c6 w6 hi6 hg6 hb6; have HI6 := Lib.hid hi6; have HG6 := Lib.hid hg6; have HB6 := Lib.hid hb6; have H56 := Lib.hid (Blk.grown_own (H5.out.alloc _) (Own.alloc H6.out _) (by decide) hg6); clear hi6 hg6 hb6 x0; have x0 := H56.out.cell 0; have f0 := H56.out.frz 0)
  have hK6 : ∀ (RR : World → Prop), (∀ X Y row, RR X → X.grownBy Y row → (∀ r, row = some r → w.heap.size ≤ r ∨ some r = (Value.slice vA L.length vc).ownBlock) → RR Y) → RR W → ∀ u, RR (w6.setCell ⟨w.heap.size, 0, none⟩ u) := fun RR hRR h u => by
   refine hRR _ _ _ (hRR _ _ _ (hRR _ _ none h (World.grownBy_alloc _ _ _) (fun _ e => by cases e)) HG6.out HROW.out) (grownBy_setCell' _ _ _) fun r e => ?_
   cases e
   exact .inl (Nat.le_refl _)
  have hne : (Value.slice (some ⟨g6, 0, none⟩) (L2.length + 1) c6).ownBlock ≠ some w.heap.size := Own.ne_blk HI6.out H56.out (by decide)
  refine ⟨?_, by rw [List.length_append, List.length_singleton]; omega, hK6 _ HSM.out H1.out _, hK6 _ HR.out H2.out _, ?_, hK6 (Kp m2 _ w) (fun X Y row h hg hr => h.grown hg hr) H4.out _, _, Blk.set_ H56.out 0 _, ?_, ?_⟩
  · exact (((KeepsFrom.of_grownBy (World.grownBy_alloc _ _ none) fun _ e => by cases e).trans (Own.keeps (Own.alloc H6.out _) HG6.out _))).trans (Blk.keepsSet H56.out 0 _ _)
  ·
   have := HG6.out.size
   simp at this ⊢
   omega
  ·
   have := Own.setCell HI6.out hne (p := ⟨w.heap.size, 0, none⟩)
   rw [List.map_append, ← List.append_assoc, ← HL2.out]
   exact this _
  ·
   rcases HB6.out with e | e
   ·
    rcases H7.out with e7 | ⟨g, e7, e8⟩
    · exact .inl ((show some g6 = (Value.slice A' L2.length c').ownBlock from e).trans e7)
    · exact .inr ⟨g, (show some g6 = (Value.slice A' L2.length c').ownBlock from e).trans e7, e8⟩
   · exact .inr ⟨g6, rfl, by simp at e; omega⟩
 case hdone =>
  intro D xs W hD hSf hi hdf
  obtain ⟨h0, h1, h2, h3, h4, v', h5, h6, h7⟩ := id hi
  have x0 := h5.cell 0
  clear h0 h1 h2 h3 h4 h6 h7
  go_wp2_with fail
  refine leaves_marks (lo := w.heap.size + 1) [D] W ⟨by rw [hsz] at hD; exact hD, hdf, fun x hx => (by cases hx), trivial⟩ fun w' hk => ⟨v', by simp [results, Tryz.f91, go_sem], ?_⟩
  obtain ⟨⟨k0, k1, k2, k3, k4, v2, k5, k6, k7⟩, k8⟩ := hk (fun _ X => AsI (fun W => SeaM d zA cA wA dA tA sA cl B P m1 m2 #[.int .i64 (d.s.W : Int), .int .i64 (d.s.H : Int), .slice dA d.s.nd dc, .slice tA d.s.nt tc, .slice sA d.s.nt sc, .slice zA d.s.nd zc, .slice cA d.nz cc, .slice wA (d.s.nt - 1) wc, .map (some m1), .map (some m2)] T W) R m2 w Bv (.slice vA L.length vc) L enc N xs X ∧ Blk X w.heap.size 22 #[v']) (fun _ X Y row hs hg hr => ⟨hown xs X Y row hs.1 hg hr, hs.2.grown hg fun e => by have := (hr _ e.symm).1; omega⟩) ⟨hi, h5⟩
  have e : v2 = v' := by
   have := (show w'.heap[w.heap.size]? = _ from k5).symm.trans k8
   simpa using this
  subst e
  exact ⟨_, xs, rfl, hSf, k0, k6, k7.imp_right fun ⟨g, e1, e2⟩ => ⟨g, e1, Nat.le_of_lt e2⟩, k4, k1, k2⟩
end
end Go.Proofs.YtnbeembnnjdmdaaGreatDoor
/- Lists of numbers of the call's own: sorted, made compact. -/
namespace Go.Proofs.YtnbeembnnjdmdaaGreatDoor
open Go.RowKit

namespace M
def leI : Int → Int → Bool := fun x y => decide (x ≤ y)
end M
section
open Lib
theorem compactUp_mem {zs : List Int} {x : Int} : ∀ m, m ≤ zs.length → (x ∈ compactUpTo zs.toArray m ↔ x ∈ zs.take m)
 | 0, _ => by simp [compactUpTo]
 | m + 1, hm => by
  have hm' : m < zs.length := by omega
  have e : (zs.toArray)[m]! = zs[m] := by simp [hm']
  rw [compactUpTo_succ, List.mem_append, compactUp_mem m (by omega), List.take_succ_eq_append_getElem hm', List.mem_append, List.mem_singleton]
  by_cases hk : keeps zs.toArray m = true
  · rw [if_pos hk, List.mem_singleton, e]
  ·
   rw [if_neg hk]
   have h1 : m ≠ 0 ∧ (zs.toArray)[m]! = (zs.toArray)[m - 1]! := by
    unfold keeps at hk
    simp only [decide_eq_true_eq, not_or, Decidable.not_not] at hk
    exact hk
   have e2 : (zs.toArray)[m - 1]! = zs[m - 1] := by simp [show m - 1 < zs.length by omega]
   constructor
   ·
    rintro (h | h)
    · exact .inl h
    · cases h
   ·
    rintro (h | h)
    · exact .inl h
    ·
     left
     rw [h, ← e, h1.2, e2]
     rw [List.mem_take_iff_getElem]
     exact ⟨m - 1, by omega, rfl⟩
theorem compact_mem {zs : List Int} {x : Int} : x ∈ compact zs ↔ x ∈ zs := by
 unfold compact
 rw [compactUp_mem _ (Nat.le_refl _), List.take_length]
theorem compactUp_asc {zs : List Int} (hz : zs.Pairwise (· ≤ ·)) : ∀ m, m ≤ zs.length → (compactUpTo zs.toArray m).Pairwise (· < ·)
 | 0, _ => by simp [compactUpTo]
 | m + 1, hm => by
  have hm' : m < zs.length := by omega
  have e : (zs.toArray)[m]! = zs[m] := by simp [hm']
  rw [compactUpTo_succ]
  by_cases hk : keeps zs.toArray m = true
  ·
   rw [if_pos hk, List.pairwise_append]
   refine ⟨compactUp_asc hz m (by omega), List.pairwise_singleton _ _, fun a ha b hb => ?_⟩
   rw [List.mem_singleton.1 hb, e]
   rw [compactUp_mem _ (by omega), List.mem_take_iff_getElem] at ha
   obtain ⟨i, hi, rfl⟩ := ha
   rw [List.pairwise_iff_getElem] at hz
   unfold keeps at hk
   simp only [decide_eq_true_eq] at hk
   have hm0 : m ≠ 0 := by omega
   have h1 := hk.resolve_left hm0
   have e2 : (zs.toArray)[m - 1]! = zs[m - 1] := by simp [show m - 1 < zs.length by omega]
   rw [e, e2] at h1
   have h2 := hz (m - 1) m (by omega) hm' (by omega)
   have h3 : zs[i] ≤ zs[m - 1] := by
    by_cases h4 : i = m - 1
    · subst h4; exact Int.le_refl _
    · exact hz i (m - 1) (by omega) (by omega) (by omega)
   omega
  ·
   rw [if_neg hk, List.append_nil]
   exact compactUp_asc hz m (by omega)
theorem compact_asc {zs : List Int} (hz : zs.Pairwise (· ≤ ·)) : (compact zs).Pairwise (· < ·) := compactUp_asc hz _ (Nat.le_refl _)
end
theorem sort_asc (L : List Int) : (L.mergeSort M.leI).Pairwise (· ≤ ·) := by
 have := List.pairwise_mergeSort (le := M.leI) (fun a b c h1 h2 => by unfold M.leI at *; simp at *; omega) (fun a b => by unfold M.leI; simp; omega) L
 exact this.imp fun h => by unfold M.leI at h; simpa using h
theorem sort_mem {L : List Int} {x : Int} : x ∈ L.mergeSort M.leI ↔ x ∈ L := (List.mergeSort_perm _ _).mem_iff
theorem compact_sort {L L' : List Int} (h : L'.Pairwise (· < ·)) (hm : ∀ x, x ∈ L ↔ x ∈ L') : Lib.compact (L.mergeSort M.leI) = L' :=
 M.asc_ext (compact_asc (sort_asc L)) h fun x => by rw [compact_mem, sort_mem, hm]
abbrev lst (L : List Int) : Nat → Nat → Value := fun i _ => .int .i64 (L.getD i 0)
theorem cells_lst (L : List Int) : cellsOf L.length 1 (lst L) = L.map (Value.int .i64) := by
 apply List.ext_getElem?
 intro j
 by_cases h : j < L.length
 · simp [cellsOf, h, Nat.mod_one, List.getD]
 · simp [cellsOf, h]
section
variable {w : World} {B : Nat} {v : Value} {L : List Int}
theorem IL.own (h : IL w B v L) : Own w B 3 1 v L.length (lst L) := h
theorem IL.sort (h : IL w B v L) (hn : 0 < L.length) (hn2 : L.length ≤ 1048576) :
  Calls Tryz.prog 68 #[v] w fun e w' => e = .returned (.tuple #[]) ∧ IL w' B v (L.mergeSort M.leI) ∧ w.grownBy w' v.ownBlock := by
 have h' := h.own
 unfold Own at h'
 rw [cells_lst] at h'
 rcases h'.2 with ⟨_, h0⟩ | ⟨g, cap, cur, rfl, hb0, hb, h1, h2, h3, h4⟩
 · omega
 ·
  rw [Nat.mul_one] at h4
  have hc := Tryz.slices_Sort_int g 0 cap L w (holds_of_blockI hb h4) (Array.getElem?_eq_some_iff.1 hb).1 (by omega)
  refine hc.mono ?_
  rintro e w' ⟨rfl, n, os, rfl⟩
  refine ⟨rfl, ?_, grownBy_sortedI _⟩
  have hls : (L.mergeSort M.leI).length = L.length := List.length_mergeSort _
  have := ownsRow_sortedI (n := n) (os := os) (ss := L) (ts := L.mergeSort M.leI) hls hb0 hb h1 h2 h3
  have e : IL (Sort.grow (Sort.putRow (Value.int .i64) (Sort.ahead w n) g 0 (L.mergeSort M.leI).toArray) os) B (.slice (some ⟨g, 0, none⟩) L.length cap) (L.mergeSort M.leI) ↔ Own (Sort.grow (Sort.putRow (Value.int .i64) (Sort.ahead w n) g 0 (L.mergeSort M.leI).toArray) os) B 3 1 (.slice (some ⟨g, 0, none⟩) L.length cap) (L.mergeSort M.leI).length (lst (L.mergeSort M.leI)) := Iff.rfl
  refine e.2 ?_
  unfold Own
  rw [cells_lst, hls]
  exact this
theorem IL.comp (h : IL w B v L) (hn : 0 < L.length) (hn2 : L.length ≤ 1048576) :
  Calls Tryz.prog 69 #[v] w fun e w' => ∃ g c, v.ownBlock = some g ∧ e = .returned (.slice (some ⟨g, 0, none⟩) (Lib.compact L).length c) ∧ IL w' B (.slice (some ⟨g, 0, none⟩) (Lib.compact L).length c) (Lib.compact L) ∧ w.grownBy w' v.ownBlock := by
 have h' := h.own
 unfold Own at h'
 rw [cells_lst] at h'
 rcases h'.2 with ⟨_, h0⟩ | ⟨g, cap, cur, rfl, hb0, hb, h1, h2, h3, h4⟩
 · omega
 ·
  rw [Nat.mul_one] at h4
  have hc := Any.slices_Compact_int Tryz.laysNm220 g 0 cap L w (holds_of_blockI hb h4) (by omega) h1
  refine hc.mono ?_
  rintro e w' ⟨rfl, n, rfl⟩
  refine ⟨g, cap, rfl, rfl, ?_, by have := grownBy_sortedI (w := w) (g := g) (n := n) (os := #[]) (Lib.compact L ++ List.replicate (L.length - (Lib.compact L).length) 0).toArray; rw [Sort.grow_empty] at this; exact this⟩
  have hle := Lib.compact_length_le L
  have hls : (Lib.compact L ++ List.replicate (L.length - (Lib.compact L).length) 0).length = L.length := by simp; omega
  have := ownsRow_sortedI (n := n) (os := #[]) (ss := L) (ts := Lib.compact L ++ List.replicate (L.length - (Lib.compact L).length) 0) hls hb0 hb h1 h2 h3
  rw [Sort.grow_empty] at this
  obtain ⟨_, ⟨h5, _⟩ | ⟨g', cap', cur', h5, h6, h7, h8, h9, h10, h11⟩⟩ := this
  · cases h5
  ·
   cases h5
   refine ⟨length_cellsOf _ _ _, .inr ⟨g, cap, cur', rfl, h6, h7, by omega, h9, h10, ?_⟩⟩
   show _ = cellsOf (Lib.compact L).length 1 (lst (Lib.compact L))
   rw [cells_lst, Nat.mul_one]
   rw [Nat.mul_one] at h11
   have := congrArg (List.take (Lib.compact L).length) h11
   rw [List.take_take, Nat.min_eq_left hle, List.map_append, List.take_left' (by simp)] at this
   exact this
end
end Go.Proofs.YtnbeembnnjdmdaaGreatDoor
/- drift: the map of steps, looked at and stored into. -/
namespace Go.Proofs.YtnbeembnnjdmdaaGreatDoor
open Go.RowKit Go.Maps

theorem stepsZ (w : World) : (zeroValue 22).run Tryz.prog w = .ok (.slice none 0 0) w := by kernel_rfl
theorem step_key (i : Nat) (hi : i < 77760) : ∃ l, keyOf Tryz.prog 96 (stepV i) = some l := keyStay _ _ _ (by omega) (by omega) (by omega)
def stepI (c t l : Nat) : Nat := c * 540 + t * 9 + l
theorem stepI_lt {c t l : Nat} (hc : c < 144) (ht : t < 60) (hl : l < 9) : stepI c t l < 77760 := by unfold stepI; omega
theorem stepI_parts {c t l : Nat} (ht : t < 60) (hl : l < 9) : stepI c t l / 540 = c ∧ stepI c t l / 9 % 60 = t ∧ stepI c t l % 9 = l := by unfold stepI; omega
theorem stepV_at {c t l : Nat} (ht : t < 60) (hl : l < 9) : stepV (stepI c t l) = .agg #[.int .i64 (c : Int), .int .i64 (t : Int), .int .i64 (l : Int)] := by
 obtain ⟨e1, e2, e3⟩ := stepI_parts (c := c) ht hl
 unfold stepV
 rw [e1, e2, e3]
def unS : Option (DataW Unit) → Value
 | some (.agg [.lit (.int .i64 b), .lit (.int .i64 _), .lit (.int .i64 n), .lit (.int .i64 c)]) => .slice (some ⟨b.toNat, 0, none⟩) n.toNat c.toNat
 | _ => .slice none 0 0
theorem unS_enc (b n c : Nat) : unS (some (encS b n c)) = .slice (some ⟨b, 0, none⟩) n c := rfl
theorem sliceR_nil_inv {v : Value} {ps : List MemPlace} (h : sliceR v = some (.agg [], ps)) : v = .slice none 0 0 := by
 unfold sliceR at h
 split at h
 · rfl
 · simp at h
 · cases h
def StepE (d : M.Dr) (B : Nat) (T : Nat → Prop) (W : World) (i : Nat) (y : DataW Unit) : Prop :=
 ∃ g c, T g ∧ y = encS g (M.stepL d (i / 9 % 60) (i % 9 : Nat) (i / 540 : Nat)).length c ∧ IL W B (.slice (some ⟨g, 0, none⟩) (M.stepL d (i / 9 % 60) (i % 9 : Nat) (i / 540 : Nat)).length c) (M.stepL d (i / 9 % 60) (i % 9 : Nat) (i / 540 : Nat))
section
variable {d : M.Dr} {zA cA wA dA tA sA : Option Addr} {cl : Nat → Nat} {B P m1 m2 dc tc sc zc cc wc : Nat} {T : Nat → Prop} {W W' : World} {v : Nat → Option (DataW Unit)}
theorem SeaM.stepv (h : SeaM d zA cA wA dA tA sA cl B P m1 m2 #[.int .i64 (d.s.W : Int), .int .i64 (d.s.H : Int), .slice dA d.s.nd dc, .slice tA d.s.nt tc, .slice sA d.s.nt sc, .slice zA d.s.nd zc, .slice cA d.nz cc, .slice wA (d.s.nt - 1) wc, .map (some m1), .map (some m2)] T W) : ∃ v : Nat → Option (DataW Unit), MemoM W Tryz.prog 96 sliceR m1 77760 stepV v ∧ ∀ i y, v i = some y → StepE d B T W i y := h.steps
theorem step_look (hm : MemoM W Tryz.prog 96 sliceR m1 77760 stepV v) (hv : ∀ i y, v i = some y → StepE d B T W' i y) {c t l : Nat} (hc : c < 144) (ht : t < 60) (hl : l < 9) :
  (Instr.lookup 127 (.map (some m1)) (.agg #[.int .i64 (c : Int), .int .i64 (t : Int), .int .i64 (l : Int)]) true).run Tryz.prog W = .ok (.tuple #[unS (v (stepI c t l)), .bool (v (stepI c t l)).isSome]) W := by
 obtain ⟨x, ps, hrun, hx⟩ := hm.look stepsK stepsT (stepsZ W) sliceR_nil (stepI_lt hc ht hl) (step_key _ (stepI_lt hc ht hl))
 rw [stepV_at ht hl] at hrun
 rw [hrun]
 cases hvi : v (stepI c t l) with
 | none =>
  rw [hvi] at hx
  rw [sliceR_nil_inv hx]; rfl
 | some y =>
  obtain ⟨g, cc, _, e, _⟩ := hv _ _ hvi
  rw [hvi, Option.getD_some, e] at hx
  rw [sliceR_inv hx, e, unS_enc]
theorem SeaM.mv1 {T' : Nat → Prop} (h : SeaM d zA cA wA dA tA sA cl B P m1 m2 #[.int .i64 (d.s.W : Int), .int .i64 (d.s.H : Int), .slice dA d.s.nd dc, .slice tA d.s.nt tc, .slice sA d.s.nt sc, .slice zA d.s.nd zc, .slice cA d.nz cc, .slice wA (d.s.nt - 1) wc, .map (some m1), .map (some m2)] T W) (hg : W.grownBy W' (some m1)) (hT : ∀ k, T k → T' k) (hT' : ∀ k, T' k → B ≤ k ∧ k < W.heap.size) (hm : MemoM W' Tryz.prog 96 sliceR m1 77760 stepV v) (hv : ∀ i y, v i = some y → StepE d B T' W i y) :
  SeaM d zA cA wA dA tA sA cl B P m1 m2 #[.int .i64 (d.s.W : Int), .int .i64 (d.s.H : Int), .slice dA d.s.nd dc, .slice tA d.s.nt tc, .slice sA d.s.nt sc, .slice zA d.s.nd zc, .slice cA d.nz cc, .slice wA (d.s.nt - 1) wc, .map (some m1), .map (some m2)] T' W' := by
 obtain ⟨b1, b2, b3, b4, b5⟩ := h.b
 obtain ⟨t1, t2, t3, t4⟩ := h.t
 have hB : Below B W W' := (Below.refl B W).grown hg b5 fun k e => by cases e; exact b2
 refine ⟨h.box.grown hg (by simpa using h.map1.ne h.box), h.rd.below hB, h.cl, ⟨b1, b2, b3, b4, Nat.le_trans b5 hg.size⟩, ⟨hT _ t1, hT _ t2, hT _ t3, fun k hk => ⟨(hT' k hk).1, Nat.lt_of_lt_of_le (hT' k hk).2 hg.size⟩⟩, ⟨⟨h.way.1.1.below (hB.mono h.way.2), Nat.lt_of_lt_of_le h.way.1.2 hg.size⟩, h.way.2⟩, ?_, ⟨v, hm, fun i y hy => ?_⟩⟩
 ·
  obtain ⟨u, h1, h2⟩ := h.near
  exact ⟨u, h1.kept hg (by simpa using b4.symm), h2⟩
 ·
  obtain ⟨g, c, e1, e2, e3⟩ := hv i y hy
  obtain ⟨cs', hb⟩ := Own.blk e3
  exact ⟨g, c, e1, e2, Own.grown e3 hg (.inr (by simpa [Value.ownBlock] using h.map1.ne hb))⟩
theorem SeaM.more {T' : Nat → Prop} (h : SeaM d zA cA wA dA tA sA cl B P m1 m2 #[.int .i64 (d.s.W : Int), .int .i64 (d.s.H : Int), .slice dA d.s.nd dc, .slice tA d.s.nt tc, .slice sA d.s.nt sc, .slice zA d.s.nd zc, .slice cA d.nz cc, .slice wA (d.s.nt - 1) wc, .map (some m1), .map (some m2)] T W) (hT : ∀ k, T k → T' k) (hT' : ∀ k, T' k → B ≤ k ∧ k < W.heap.size) : SeaM d zA cA wA dA tA sA cl B P m1 m2 #[.int .i64 (d.s.W : Int), .int .i64 (d.s.H : Int), .slice dA d.s.nd dc, .slice tA d.s.nt tc, .slice sA d.s.nt sc, .slice zA d.s.nd zc, .slice cA d.nz cc, .slice wA (d.s.nt - 1) wc, .map (some m1), .map (some m2)] T' W := by
 obtain ⟨t1, t2, t3, t4⟩ := h.t
 refine ⟨h.box, h.rd, h.cl, h.b, ⟨hT _ t1, hT _ t2, hT _ t3, hT'⟩, h.way, h.near, ?_⟩
 obtain ⟨v, h1, h2⟩ := h.steps
 refine ⟨v, h1, fun i y hy => ?_⟩
 obtain ⟨g, c, e1, e2⟩ := h2 i y hy
 exact ⟨g, c, hT _ e1, e2⟩
theorem step_store (h : SeaM d zA cA wA dA tA sA cl B P m1 m2 #[.int .i64 (d.s.W : Int), .int .i64 (d.s.H : Int), .slice dA d.s.nd dc, .slice tA d.s.nt tc, .slice sA d.s.nt sc, .slice zA d.s.nd zc, .slice cA d.nz cc, .slice wA (d.s.nt - 1) wc, .map (some m1), .map (some m2)] T W) (hm : MemoM W Tryz.prog 96 sliceR m1 77760 stepV v) (hv : ∀ i y, v i = some y → StepE d B T W i y) {c t l : Nat} (hc : c < 144) (ht : t < 60) (hl : l < 9) (hn : v (stepI c t l) = none) {g cp : Nat}
  (hL : IL W B (.slice (some ⟨g, 0, none⟩) (M.stepL d t l c).length cp) (M.stepL d t l c)) :
  ∃ W', (Instr.mapUpdate 127 (.map (some m1)) (.agg #[.int .i64 (c : Int), .int .i64 (t : Int), .int .i64 (l : Int)]) (.slice (some ⟨g, 0, none⟩) (M.stepL d t l c).length cp)).run Tryz.prog W = .ok () W' ∧ SeaM d zA cA wA dA tA sA cl B P m1 m2 #[.int .i64 (d.s.W : Int), .int .i64 (d.s.H : Int), .slice dA d.s.nd dc, .slice tA d.s.nt tc, .slice sA d.s.nt sc, .slice zA d.s.nd zc, .slice cA d.nz cc, .slice wA (d.s.nt - 1) wc, .map (some m1), .map (some m2)] (fun k => T k ∨ k = g) W' ∧ W.grownBy W' (some m1) ∧
   ∀ n, (Instr.lookup 127 (.map (some m1)) (.agg #[.int .i64 (c : Int), .int .i64 (t : Int), .int .i64 (l : Int)]) false).run Tryz.prog (W'.drewN n) = .ok (.slice (some ⟨g, 0, none⟩) (M.stepL d t l c).length cp) (W'.drewN n) := by
 have hlt := stepI_lt hc ht hl
 obtain ⟨e1, e2, e3⟩ := stepI_parts (c := c) ht hl
 obtain ⟨W', hrun, h1, h2⟩ := hm.store stepsK stepsT (by unfold maxLen; omega) hlt (fun j hj => step_key j hj) (fun j _ e => stepV_inj e) hn (x := .slice (some ⟨g, 0, none⟩) (M.stepL d t l c).length cp) (sliceR_mk g _ cp)
 rw [stepV_at ht hl] at hrun
 have hgB := Own.block hL (g := g) rfl
 refine ⟨W', hrun, h.mv1 h2 (fun k hk => .inl hk) (fun k hk => ?_) h1 (fun i y hy => ?_), h2, fun n => ?_⟩
 ·
  rcases hk with hk | rfl
  · exact h.t.2.2.2 k hk
  · exact hgB
 ·
  by_cases e : i = stepI c t l
  ·
   simp only [e, if_true, Option.some.injEq] at hy
   subst e
   refine ⟨g, cp, .inr rfl, ?_, ?_⟩
   · rw [e1, e2, e3]; exact hy.symm
   · rw [e1, e2, e3]; exact hL
  ·
   simp only [e, if_false] at hy
   obtain ⟨g', c', k1, k2, k3⟩ := hv i y hy
   exact ⟨g', c', .inl k1, k2, k3⟩
 ·
  obtain ⟨x, ps, hrun2, hx⟩ := (h1.kept (W' := W'.drewN n) (below_grown ((Below.refl _ W').drewN n) none) (by simp)).look1 stepsK stepsT (stepsZ _) sliceR_nil hlt (step_key _ hlt) (y := encS g (M.stepL d t l c).length cp) (by simp only [if_true])
  rw [stepV_at ht hl] at hrun2
  rw [hrun2, sliceR_inv hx]
end
end Go.Proofs.YtnbeembnnjdmdaaGreatDoor
