/- drift: pushes, and the iterator that it gives. -/
import Derived.Test.YtnbeembnnjdmdaaGreatDoorD0
import Derived.Test.YtnbeembnnjdmdaaGreatDoorMixIn
import Derived.RangeFuncNested
import Derived.RangeFuncBound
import Derived.RangeFuncCalls
import Derived.RangeFuncLeaves
import Derived.Shelf.Abstract
import Derived.Shelf.RegionOpen
import Derived.OwnWalkIn
import Derived.TacticsInMore
import Derived.LoopNIn
import Derived.LoopIn
namespace Go.Proofs.YtnbeembnnjdmdaaGreatDoor
open Go.RowKit Go.Shelf

attribute [local go_sem] Oper.semAt_some
/-- the boxes of what pushes was given -/
structure PBox (W : World) (S P c t : Nat) (h : Int) (p : Nat → Int) (sv : Value) : Prop where
  b0 : Blk W S 87 #[.pointer (some ⟨P, 0, none⟩)]
  b1 : Blk W (S + 1) 3 #[.int .i64 (c : Int)]
  b2 : Blk W (S + 2) 142 #[.int .i64 (p 0), .int .i64 (p 1), .int .i64 (p 2)]
  b3 : Blk W (S + 3) 147 #[sv]
  b4 : Blk W (S + 4) 3 #[.int .i64 (t : Int)]
  b5 : Blk W (S + 5) 3 #[.int .i64 h]
theorem PBox.below {W W' : World} {S P c t : Nat} {h : Int} {p : Nat → Int} {sv : Value} (b : PBox W S P c t h p sv) (hb : Below W.heap.size W W') : PBox W' S P c t h p sv :=
  ⟨b.b0.below' hb, b.b1.below' hb, b.b2.below' hb, b.b3.below' hb, b.b4.below' hb, b.b5.below' hb⟩
theorem PBox.mv {W W' : World} {S P c t m m' : Nat} {h : Int} {p : Nat → Int} {sv : Value} (b : PBox W S P c t h p sv) (hv : Mv m m' W W') (h1 : IsMap' W m) (h2 : IsMap' W m') : PBox W' S P c t h p sv :=
  ⟨b.b0.mv hv h1 h2, b.b1.mv hv h1 h2, b.b2.mv hv h1 h2, b.b3.mv hv h1 h2, b.b4.mv hv h1 h2, b.b5.mv hv h1 h2⟩
theorem PBox.grown {W W' : World} {row : Option Nat} {S P c t : Nat} {h : Int} {p : Nat → Int} {sv : Value} (b : PBox W S P c t h p sv) (hg : W.grownBy W' row) (hr : ∀ r, row = some r → S + 6 ≤ r ∨ r < S) : PBox W' S P c t h p sv := by
  have hne : ∀ k, S ≤ k → k < S + 6 → some k ≠ row := fun k h1 h2 e => by have := hr k e.symm; omega
  exact ⟨b.b0.grown hg (hne _ (by omega) (by omega)), b.b1.grown hg (hne _ (by omega) (by omega)), b.b2.grown hg (hne _ (by omega) (by omega)), b.b3.grown hg (hne _ (by omega) (by omega)), b.b4.grown hg (hne _ (by omega) (by omega)), b.b5.grown hg (hne _ (by omega) (by omega))⟩
def pcaps (S : Nat) : Array Value := #[.pointer (some ⟨S + 2, 0, none⟩), .pointer (some ⟨S, 0, none⟩), .pointer (some ⟨S + 1, 0, none⟩), .pointer (some ⟨S + 3, 0, none⟩), .pointer (some ⟨S + 4, 0, none⟩), .pointer (some ⟨S + 5, 0, none⟩)]
theorem blk_at {W : World} {n : Nat} (hn : W.heap.size = n) (t : TypeId) (cs : Array Value) : Blk (W.alloc (.cells cs t)) n t cs := hn ▸ Blk.new W t cs
set_option maxRecDepth 100000 in
set_option maxHeartbeats 3200000 in
theorem pushes_any (P c t : Nat) (h : Int) (p : Nat → Int) (sv : Value) (hsv : ∃ f cs, sv = .func f #[] cs) (W : World) :
    Calls Tryz.prog 90 #[.pointer (some ⟨P, 0, none⟩), .int .i64 (c : Int), .agg #[.int .i64 (p 0), .int .i64 (p 1), .int .i64 (p 2)], sv, .int .i64 (t : Int), .int .i64 h] W fun e W' =>
      e = .returned (.func (.func 118) #[] (pcaps W.heap.size)) ∧ PBox W' W.heap.size P c t h p sv ∧ Below W.heap.size W W' ∧ W'.heap.size = W.heap.size + 6 := by
  obtain ⟨f, cs, rfl⟩ := hsv
  go_enter Tryz.func90, Tryz.ntmps90
  go_wp2_with fail
  go_ret
  refine ⟨rfl, ⟨?_, ?_, ?_, ?_, ?_, ?_⟩, ?_, by simp⟩
  · exact (((((blk_at rfl _ _).alloc _).alloc _).alloc _).alloc _).alloc _
  · exact ((((blk_at (by simp) _ _).alloc _).alloc _).alloc _).alloc _
  · exact (((blk_at (by simp) _ _).alloc _).alloc _).alloc _
  · exact ((blk_at (by simp) _ _).alloc _).alloc _
  · exact (blk_at (by simp) _ _).alloc _
  · exact blk_at (by simp) _ _
  · exact (((belowAlloc3 _ _ _ _).alloc (by simp; omega) _).alloc (by simp; omega) _).alloc (by simp; omega) _
section
variable {d : M.Dr} {zA cA wA dA tA sA : Option Addr} {cl : Nat → Nat} {B P m1 m2 dc tc sc zc cc wc : Nat} {T : Nat → Prop} {W W' : World}
theorem pushT_at {s : M.Sea} {p : Nat → Int} {t : Nat} {h : Int} {g : Int → Int} {c a : Nat} {f : Int} (ha : a < 6) (hb : M.bitB (p 0) a = true) (hf : p 1 ≤ f ∧ f ≤ p 2) : M.pushT s p t h g c (M.pushN s t h a (g f).toNat c) = true := by
  refine M.anyTo_iff.2 ⟨a, ha, ?_⟩
  rw [hb, Bool.true_and]
  exact M.spanTo_iff.2 ⟨f, hf.1, hf.2, by simp⟩
set_option maxRecDepth 100000 in
set_option maxHeartbeats 3200000 in
theorem pushes1_seq (hd : d.Ok) (S c t : Nat) (h : Int) (p : Nat → Int) (g : Int → Int) (fs : Nat) (caps : Array Value) (hfs : (fs = 87 ∧ caps = #[]) ∨ (fs = 88 ∧ ∃ xb, caps = #[.pointer (some ⟨xb, 0, none⟩)])) (hc : c < d.s.nd) (ht : t < d.s.nt) (hh : 0 ≤ h ∧ h ≤ 200) (hp : M.pushB p = true)
    (hg : ∀ f, 0 ≤ f → f ≤ 3 → 0 ≤ g f ∧ g f ≤ 100) (St : World → Prop) (hSt : ∀ W W', St W → IsMap' W m2 → Mv m2 m2 W W' → St W') (hst : ∀ W f, St W → 0 ≤ f → f ≤ 3 → Calls Tryz.prog fs (#[.int .i64 f] ++ caps) W fun e w' => e = .returned (.int .i64 (g f)) ∧ W = w') :
    SeqB Fence.wide 3 Tryz.prog 118 (pcaps S) (fun x : {x : Int // M.pushT d.s p t h g c x = true} => #[.int .i64 x.1]) (fun X Y => Mv m2 m2 X Y ∧ (SeaM d zA cA wA dA tA sA cl B P m1 m2 #[.int .i64 (d.s.W : Int), .int .i64 (d.s.H : Int), .slice dA d.s.nd dc, .slice tA d.s.nt tc, .slice sA d.s.nt sc, .slice zA d.s.nd zc, .slice cA d.nz cc, .slice wA (d.s.nt - 1) wc, .map (some m1), .map (some m2)] T X → SeaM d zA cA wA dA tA sA cl B P m1 m2 #[.int .i64 (d.s.W : Int), .int .i64 (d.s.H : Int), .slice dA d.s.nd dc, .slice tA d.s.nt tc, .slice sA d.s.nt sc, .slice zA d.s.nd zc, .slice cA d.nz cc, .slice wA (d.s.nt - 1) wc, .map (some m1), .map (some m2)] T Y)) (fun W => SeaM d zA cA wA dA tA sA cl B P m1 m2 #[.int .i64 (d.s.W : Int), .int .i64 (d.s.H : Int), .slice dA d.s.nd dc, .slice tA d.s.nt tc, .slice sA d.s.nt sc, .slice zA d.s.nd zc, .slice cA d.nz cc, .slice wA (d.s.nt - 1) wc, .map (some m1), .map (some m2)] T W ∧ PBox W S P c t h p (.func (.func fs) #[] caps) ∧ St W) (fun xs => ∀ x, x ∈ xs) (fun _ => True) 24 := by
  intro l J Jx W hIv hAb hAbx hY h0
  have hpp := M.pushB_iff.1 hp
  show CallsIn Fence.wide 3 Tryz.prog 118 #[.func (.yield l) #[] #[], .pointer (some ⟨S + 2, 0, none⟩), .pointer (some ⟨S, 0, none⟩), .pointer (some ⟨S + 1, 0, none⟩), .pointer (some ⟨S + 3, 0, none⟩), .pointer (some ⟨S + 4, 0, none⟩), .pointer (some ⟨S + 5, 0, none⟩)] W _
  have HIV := Lib.hid hIv
  have HAB := Lib.hid hAb
  have HY := Lib.hid hY
  have HST := Lib.hid hst
  have HSTM := Lib.hid hSt
  have HG := Lib.hid hg
  have HJ0 := Lib.hid h0
  have HPU := Lib.hid (fun X (hX : SeaM d zA cA wA dA tA sA cl B P m1 m2 #[.int .i64 (d.s.W : Int), .int .i64 (d.s.H : Int), .slice dA d.s.nd dc, .slice tA d.s.nt tc, .slice sA d.s.nt sc, .slice zA d.s.nd zc, .slice cA d.nz cc, .slice wA (d.s.nt - 1) wc, .map (some m1), .map (some m2)] T X) (a : Nat) (k : Nat) (ha : a < 6) (hk : k ≤ 100) => dpushed_any (W := X) hd hX c k a t h hc ha ht hh hk)
  clear hIv hAb hAbx hY h0 hst hSt hg hd hp
  refine callsIn_of_wp Tryz.func118 rfl trivial ?_ rfl
  simp only [Tryz.ntmps118, List.size_toArray, List.length_cons, List.length_nil, Nat.reduceAdd, Nat.reduceSub, Array.replicate_succ, Array.replicate_zero, List.push_toArray, List.append_toArray, List.nil_append, List.cons_append]
  gi_wp2_with fail
  gi_loopw [10] (fun i wr => ∃ (a : Nat) (pre : List {x : Int // M.pushT d.s p t h g c x = true}), a ≤ 6 ∧ i = .int .i64 (a : Int) ∧ Hid (J pre wr) ∧ pre.length ≤ 4 * a ∧ Hid (∀ a' f, a' < a → M.bitB (p 0) a' = true → p 1 ≤ f → f ≤ p 2 → ∃ y, y ∈ pre ∧ y.1 = M.pushN d.s t h a' (g f).toNat c)) (fun i _ => 6 - (intOf i).toNat)
  case atStart => exact ⟨0, [], Nat.zero_le _, rfl, HJ0, Nat.le_refl _, Lib.hid fun a' f h1 => absurd h1 (by omega)⟩
  case round =>
    obtain ⟨a, pre, ha, rfl, HJ, hlen, HC⟩ := hrel
    by_cases hlt : a < 6
    · have ha6 : (a : Int) < 6 := by omega
      have hbx := (HIV.out _ _ HJ.out).2.1
      have b0 := hbx.b2.cell 0
      have b1 := hbx.b2.cell 1
      have b2 := hbx.b2.cell 2
      clear hbx
      gi_wp2_with fail
      gi_loopw [9] (fun i wr => ∃ (f : Int) (pre' : List {x : Int // M.pushT d.s p t h g c x = true}), p 1 ≤ f ∧ f ≤ p 2 + 1 ∧ i = .int .i64 f ∧ Hid (J pre' wr) ∧ (pre'.length : Int) ≤ 4 * a + (f - p 1) ∧ Hid (∀ a' f', a' < a → M.bitB (p 0) a' = true → p 1 ≤ f' → f' ≤ p 2 → ∃ y, y ∈ pre' ∧ y.1 = M.pushN d.s t h a' (g f').toNat c) ∧ Hid (∀ f', p 1 ≤ f' → f' < f → M.bitB (p 0) a = true → ∃ y, y ∈ pre' ∧ y.1 = M.pushN d.s t h a (g f').toNat c)) (fun i _ => (p 2 + 1 - intOf i).toNat)
      case atStart => exact ⟨p 1, pre, by omega, by omega, rfl, HJ, by omega, HC, Lib.hid fun f' h1 h2 => absurd h1 (by omega)⟩
      case round =>
        obtain ⟨f, pre', hf1, hf2, rfl, HJ', hlen', HC1, HC2⟩ := hrel
        have hbx := (HIV.out _ _ HJ'.out).2.1
        have b0 := hbx.b2.cell 0
        have b1 := hbx.b2.cell 1
        have b2 := hbx.b2.cell 2
        clear hbx
        cases hbt : M.bitB (p 0) a
        · have hbt2 : bits .and .i64 (p 0 / 2 ^ a) 1 = 0 := by
            rw [toNat_i64_and_one]
            have h9 : (p 0 / 2 ^ a % 2 == 1) = false := hbt
            have := beq_eq_false_iff_ne.1 h9
            omega
          have HBT := Lib.hid hbt
          clear hbt
          gi_wp2_with fail
          go_roundw
          case rel =>
            refine ⟨a + 1, pre', by omega, by go_num, HJ', by omega, Lib.hid fun a' f' h1 h2 h3 h4 => ?_⟩
            rcases Nat.lt_succ_iff_lt_or_eq.1 h1 with h5 | h5
            · exact HC1.out a' f' h5 h2 h3 h4
            · subst h5; rw [HBT.out] at h2; cases h2
          case measure => simp [intOf]; omega
        · have hbt2 : bits .and .i64 (p 0 / 2 ^ a) 1 = 1 := by
            rw [toNat_i64_and_one]
            have h9 : (p 0 / 2 ^ a % 2 == 1) = true := hbt
            exact beq_iff_eq.1 h9
          have HBT := Lib.hid hbt
          clear hbt
          by_cases hf3 : f ≤ p 2
          · gi_wp2_with fail
            have hbx := (HIV.out _ _ HJ'.out).2.1
            clear hbx
            have hS2 := (HIV.out _ _ HJ'.out).1
            have HS2 := Lib.hid hS2
            have HST2 := Lib.hid (HST.out wr.drew f (HSTM.out _ _ (HIV.out _ _ HJ'.out).2.2 hS2.map2 ((Mv.refl _ _ _).drew)) (by omega) (by omega))
            have hg2 := HG.out f (by omega) (by omega)
            clear hS2
            refine wpIn_region_TI 10 (fun w' => SeaM d zA cA wA dA tA sA cl B P m1 m2 #[.int .i64 (d.s.W : Int), .int .i64 (d.s.H : Int), .slice dA d.s.nd dc, .slice tA d.s.nt tc, .slice sA d.s.nt sc, .slice zA d.s.nd zc, .slice cA d.nz cc, .slice wA (d.s.nt - 1) wc, .map (some m1), .map (some m2)] T w' ∧ PBox w' S P c t h p (.func (.func fs) #[] caps) ∧ St w' ∧ Mv m2 m2 wr w') (by kernel_rfl) ⟨HS2.out.drewN 1, (HIV.out _ _ HJ'.out).2.1.below ((Below.refl _ _).drew), HSTM.out _ _ (HIV.out _ _ HJ'.out).2.2 HS2.out.map2 ((Mv.refl _ _ _).drew), (Mv.refl _ _ _).drew⟩ ?_
            intro hS
            obtain ⟨kf, hkf⟩ : ∃ kf : Nat, kf = (g f).toNat := ⟨_, rfl⟩
            have HGK := Lib.hid (show g f = (kf : Int) by omega)
            have HKF := Lib.hid hkf
            have hkf2 : kf ≤ 100 := by omega
            clear hkf hg2
            rcases hfs with ⟨e1, e2⟩ | ⟨e1, xb, e2⟩
            · subst e1; subst e2
              have HT2 := Lib.hid (show Calls Tryz.prog 87 #[.int .i64 f] wr.drew (fun e w' => e = .returned (.int .i64 (g f)) ∧ wr.drew = w') from by have h9 := HST2.out; simpa using h9)
              refine wpAnyTI_take (i := 0) (v := ?_) rfl rfl (by kernel_rfl) (by kernel_rfl) (by kernel_rfl) (by kernel_rfl) (by kernel_rfl) (fun _ _ _ h => h) (.inl ⟨by kernel_rfl, ?_⟩) (fun _ => rfl) hS ?_
              rotate_left
              · (intro w' hw; obtain ⟨hs1, hb1, hst1, hmv1⟩ := hw; have x0 := hb1.b0.cell 0; have x1 := hb1.b1.cell 0; have x3 := hb1.b3.cell 0; have x4 := hb1.b4.cell 0; have x5 := hb1.b5.cell 0; go_simp; try with_reducible rfl)
              try simp only [put_laws]
              refine wpAnyTI_take (i := 1) (v := ?_) rfl rfl (by kernel_rfl) (by kernel_rfl) (by kernel_rfl) (by kernel_rfl) (by kernel_rfl) (fun _ _ _ h => h) (.inl ⟨by kernel_rfl, ?_⟩) (fun _ => rfl) hS ?_
              rotate_left
              · (intro w' hw; obtain ⟨hs1, hb1, hst1, hmv1⟩ := hw; have x0 := hb1.b0.cell 0; have x1 := hb1.b1.cell 0; have x3 := hb1.b3.cell 0; have x4 := hb1.b4.cell 0; have x5 := hb1.b5.cell 0; go_simp; try with_reducible rfl)
              try simp only [put_laws]
              refine wpAnyTI_take (i := 2) (v := ?_) rfl rfl (by kernel_rfl) (by kernel_rfl) (by kernel_rfl) (by kernel_rfl) (by kernel_rfl) (fun _ _ _ h => h) (.inl ⟨by kernel_rfl, ?_⟩) (fun _ => rfl) hS ?_
              rotate_left
              · (intro w' hw; obtain ⟨hs1, hb1, hst1, hmv1⟩ := hw; have x0 := hb1.b0.cell 0; have x1 := hb1.b1.cell 0; have x3 := hb1.b3.cell 0; have x4 := hb1.b4.cell 0; have x5 := hb1.b5.cell 0; go_simp; try with_reducible rfl)
              try simp only [put_laws]
              refine wpAnyTI_take (i := 3) (v := ?_) rfl rfl (by kernel_rfl) (by kernel_rfl) (by kernel_rfl) (by kernel_rfl) (by kernel_rfl) (fun _ _ _ h => h) (.inl ⟨by kernel_rfl, ?_⟩) (fun _ => rfl) hS ?_
              rotate_left
              · (intro w' hw; obtain ⟨hs1, hb1, hst1, hmv1⟩ := hw; have x0 := hb1.b0.cell 0; have x1 := hb1.b1.cell 0; have x3 := hb1.b3.cell 0; have x4 := hb1.b4.cell 0; have x5 := hb1.b5.cell 0; go_simp; try with_reducible rfl)
              try simp only [put_laws]
              refine wpAnyTI_take (i := 4) (v := ?_) rfl rfl (by kernel_rfl) (by kernel_rfl) (by kernel_rfl) (by kernel_rfl) (by kernel_rfl) (fun _ _ _ h => h) (.inl ⟨by kernel_rfl, ?_⟩) (fun _ => rfl) hS ?_
              rotate_left
              · (intro w' hw; obtain ⟨hs1, hb1, hst1, hmv1⟩ := hw; have x0 := hb1.b0.cell 0; have x1 := hb1.b1.cell 0; have x3 := hb1.b3.cell 0; have x4 := hb1.b4.cell 0; have x5 := hb1.b5.cell 0; go_simp; try with_reducible rfl)
              try simp only [put_laws]
              refine wpAnyTI_take (i := 6) (v := ?_) rfl rfl (by kernel_rfl) (by kernel_rfl) (by kernel_rfl) (by kernel_rfl) (by kernel_rfl) (fun _ _ _ h => h) (.inl ⟨by kernel_rfl, ?_⟩) (fun _ => rfl) hS ?_
              rotate_left
              · (intro w' hw; obtain ⟨hs1, hb1, hst1, hmv1⟩ := hw; have x0 := hb1.b0.cell 0; have x1 := hb1.b1.cell 0; have x3 := hb1.b3.cell 0; have x4 := hb1.b4.cell 0; have x5 := hb1.b5.cell 0; go_simp; try with_reducible rfl)
              try simp only [put_laws]
              refine wpAnyTI_take (i := 7) (v := ?_) rfl rfl (by kernel_rfl) (by kernel_rfl) (by kernel_rfl) (by kernel_rfl) (by kernel_rfl) (fun _ _ _ h => h) (.inl ⟨by kernel_rfl, ?_⟩) (fun _ => rfl) hS ?_
              rotate_left
              · (intro w' hw; obtain ⟨hs1, hb1, hst1, hmv1⟩ := hw; have x0 := hb1.b0.cell 0; have x1 := hb1.b1.cell 0; have x3 := hb1.b3.cell 0; have x4 := hb1.b4.cell 0; have x5 := hb1.b5.cell 0; go_simp; try with_reducible rfl)
              try simp only [put_laws]
              refine wpAnyTI_take (i := 8) (v := ?_) rfl rfl (by kernel_rfl) (by kernel_rfl) (by kernel_rfl) (by kernel_rfl) (by kernel_rfl) (fun _ _ _ h => h) (.inl ⟨by kernel_rfl, ?_⟩) (fun _ => rfl) hS ?_
              rotate_left
              · (intro w' hw; obtain ⟨hs1, hb1, hst1, hmv1⟩ := hw; have x0 := hb1.b0.cell 0; have x1 := hb1.b1.cell 0; have x3 := hb1.b3.cell 0; have x4 := hb1.b4.cell 0; have x5 := hb1.b5.cell 0; go_simp; try with_reducible rfl)
              try simp only [put_laws]
              refine wpAnyTI_one (i := 5) (by kernel_rfl) rfl ?_
              intro K' hK'
              go_simp
              refine ⟨trivial, (callsIn_wide.2 HT2.out).mono ?_⟩
              rintro e w5 ⟨he, e5⟩
              rw [HGK.out] at he
              subst he
              subst e5
              refine hK'.out _ _ (.inr hS) ?_
              clear hK' K'
              try simp only [put_laws]
              refine wpAnyTI_one (i := 9) (by kernel_rfl) rfl ?_
              intro K' hK'
              go_simp
              refine ⟨trivial, (callsIn_wide.2 (HPU.out wr.drew hS.1 a kf (by omega) hkf2)).mono ?_⟩
              rintro e w6 ⟨rfl, hm6, hv6⟩
              have hS' := (show _ ∧ _ ∧ _ ∧ _ from ⟨hm6, hS.2.1.mv hv6 hS.1.map2 hS.1.map2, HSTM.out _ _ hS.2.2.1 hS.1.map2 hv6, hS.2.2.2.trans hv6⟩)
              clear hS hm6 hv6
              have hS := hS'
              clear hS'
              refine hK'.out _ _ (.inr hS) ?_
              clear hK' K'
              try simp only [put_laws]
              obtain ⟨fn, tmps, assign, body, hy, hR⟩ := HY.out pre' ⟨M.pushN d.s t h a kf c, by rw [HKF.out]; exact pushT_at (by omega) HBT.out ⟨hf1, hf3⟩⟩ w6 (HAB.out _ _ _ HJ'.out ⟨hS.2.2.2, fun _ => hS.1⟩) (by omega)
              dsimp only at hy
              have HRD := Lib.hid hR
              clear hR
              refine wpAnyTI_one (i := 10) (by kernel_rfl) rfl ?_
              intro K' hK'
              go_simp
              refine HRD.out.mono ?_
              rintro e w7 (⟨rfl, hj7⟩ | ⟨rfl, hj7⟩)
              · have HJ7 := Lib.hid hj7
                clear hj7 hS
                refine hK'.out _ _ (.inl rfl) ?_
                clear hK' K'
                try simp only [put_laws]
                refine wpAnyTI_one (i := 11) (by kernel_rfl) rfl ?_
                intro K' hK'
                go_simp
                refine hK'.out _ _ (.inl rfl) ?_
                clear hK' K'
                try simp only [put_laws]
                refine wpAnyTI_done (by kernel_rfl) ?_ _
                gi_wp2_with fail
                go_roundw
                case rel =>
                  refine ⟨f + 1, pre' ++ [⟨M.pushN d.s t h a kf c, by rw [HKF.out]; exact pushT_at (by omega) HBT.out ⟨hf1, hf3⟩⟩], by omega, by omega, by go_num, HJ7, by rw [List.length_append]; simp only [List.length_cons, List.length_nil]; omega, Lib.hid fun a' f' h1 h2 h3 h4 => ?_, Lib.hid fun f' h1 h2 h3 => ?_⟩
                  · obtain ⟨y, hy1, hy2⟩ := HC1.out a' f' h1 h2 h3 h4
                    exact ⟨y, List.mem_append_left _ hy1, hy2⟩
                  · by_cases e9 : f' = f
                    · subst e9; exact ⟨_, List.mem_append_right _ (List.mem_singleton.2 rfl), congrArg (fun k => M.pushN d.s t h a k c) HKF.out⟩
                    · obtain ⟨y, hy1, hy2⟩ := HC2.out f' h1 (by omega) HBT.out
                      exact ⟨y, List.mem_append_left _ hy1, hy2⟩
                case measure => simp [intOf]; omega
              · have HJ7 := Lib.hid hj7
                clear hj7 hS
                refine hK'.out _ _ (.inl rfl) ?_
                clear hK' K'
                try simp only [put_laws]
                refine wpAnyTI_one (i := 11) (by kernel_rfl) rfl ?_
                intro K' hK'
                go_simp
                refine hK'.out _ _ (.inl rfl) ?_
                clear hK' K'
                try simp only [put_laws]
                refine wpAnyTI_done (by kernel_rfl) ?_ _
                gi_wp2_with fail
                (try simp only [Exit.inBlock, Exit.then])
                refine bodyPost_ret (results_none rfl _ _ _) rfl ?_
                exact ⟨⟨_, rfl⟩, .inr ⟨_, trivial, HJ7.out⟩⟩
            · subst e1; subst e2
              have HT2 := Lib.hid (show Calls Tryz.prog 88 #[.int .i64 f, .pointer (some ⟨xb, 0, none⟩)] wr.drew (fun e w' => e = .returned (.int .i64 (g f)) ∧ wr.drew = w') from by have h9 := HST2.out; simpa using h9)
              refine wpAnyTI_take (i := 0) (v := ?_) rfl rfl (by kernel_rfl) (by kernel_rfl) (by kernel_rfl) (by kernel_rfl) (by kernel_rfl) (fun _ _ _ h => h) (.inl ⟨by kernel_rfl, ?_⟩) (fun _ => rfl) hS ?_
              rotate_left
              · (intro w' hw; obtain ⟨hs1, hb1, hst1, hmv1⟩ := hw; have x0 := hb1.b0.cell 0; have x1 := hb1.b1.cell 0; have x3 := hb1.b3.cell 0; have x4 := hb1.b4.cell 0; have x5 := hb1.b5.cell 0; go_simp; try with_reducible rfl)
              try simp only [put_laws]
              refine wpAnyTI_take (i := 1) (v := ?_) rfl rfl (by kernel_rfl) (by kernel_rfl) (by kernel_rfl) (by kernel_rfl) (by kernel_rfl) (fun _ _ _ h => h) (.inl ⟨by kernel_rfl, ?_⟩) (fun _ => rfl) hS ?_
              rotate_left
              · (intro w' hw; obtain ⟨hs1, hb1, hst1, hmv1⟩ := hw; have x0 := hb1.b0.cell 0; have x1 := hb1.b1.cell 0; have x3 := hb1.b3.cell 0; have x4 := hb1.b4.cell 0; have x5 := hb1.b5.cell 0; go_simp; try with_reducible rfl)
              try simp only [put_laws]
              refine wpAnyTI_take (i := 2) (v := ?_) rfl rfl (by kernel_rfl) (by kernel_rfl) (by kernel_rfl) (by kernel_rfl) (by kernel_rfl) (fun _ _ _ h => h) (.inl ⟨by kernel_rfl, ?_⟩) (fun _ => rfl) hS ?_
              rotate_left
              · (intro w' hw; obtain ⟨hs1, hb1, hst1, hmv1⟩ := hw; have x0 := hb1.b0.cell 0; have x1 := hb1.b1.cell 0; have x3 := hb1.b3.cell 0; have x4 := hb1.b4.cell 0; have x5 := hb1.b5.cell 0; go_simp; try with_reducible rfl)
              try simp only [put_laws]
              refine wpAnyTI_take (i := 3) (v := ?_) rfl rfl (by kernel_rfl) (by kernel_rfl) (by kernel_rfl) (by kernel_rfl) (by kernel_rfl) (fun _ _ _ h => h) (.inl ⟨by kernel_rfl, ?_⟩) (fun _ => rfl) hS ?_
              rotate_left
              · (intro w' hw; obtain ⟨hs1, hb1, hst1, hmv1⟩ := hw; have x0 := hb1.b0.cell 0; have x1 := hb1.b1.cell 0; have x3 := hb1.b3.cell 0; have x4 := hb1.b4.cell 0; have x5 := hb1.b5.cell 0; go_simp; try with_reducible rfl)
              try simp only [put_laws]
              refine wpAnyTI_take (i := 4) (v := ?_) rfl rfl (by kernel_rfl) (by kernel_rfl) (by kernel_rfl) (by kernel_rfl) (by kernel_rfl) (fun _ _ _ h => h) (.inl ⟨by kernel_rfl, ?_⟩) (fun _ => rfl) hS ?_
              rotate_left
              · (intro w' hw; obtain ⟨hs1, hb1, hst1, hmv1⟩ := hw; have x0 := hb1.b0.cell 0; have x1 := hb1.b1.cell 0; have x3 := hb1.b3.cell 0; have x4 := hb1.b4.cell 0; have x5 := hb1.b5.cell 0; go_simp; try with_reducible rfl)
              try simp only [put_laws]
              refine wpAnyTI_take (i := 6) (v := ?_) rfl rfl (by kernel_rfl) (by kernel_rfl) (by kernel_rfl) (by kernel_rfl) (by kernel_rfl) (fun _ _ _ h => h) (.inl ⟨by kernel_rfl, ?_⟩) (fun _ => rfl) hS ?_
              rotate_left
              · (intro w' hw; obtain ⟨hs1, hb1, hst1, hmv1⟩ := hw; have x0 := hb1.b0.cell 0; have x1 := hb1.b1.cell 0; have x3 := hb1.b3.cell 0; have x4 := hb1.b4.cell 0; have x5 := hb1.b5.cell 0; go_simp; try with_reducible rfl)
              try simp only [put_laws]
              refine wpAnyTI_take (i := 7) (v := ?_) rfl rfl (by kernel_rfl) (by kernel_rfl) (by kernel_rfl) (by kernel_rfl) (by kernel_rfl) (fun _ _ _ h => h) (.inl ⟨by kernel_rfl, ?_⟩) (fun _ => rfl) hS ?_
              rotate_left
              · (intro w' hw; obtain ⟨hs1, hb1, hst1, hmv1⟩ := hw; have x0 := hb1.b0.cell 0; have x1 := hb1.b1.cell 0; have x3 := hb1.b3.cell 0; have x4 := hb1.b4.cell 0; have x5 := hb1.b5.cell 0; go_simp; try with_reducible rfl)
              try simp only [put_laws]
              refine wpAnyTI_take (i := 8) (v := ?_) rfl rfl (by kernel_rfl) (by kernel_rfl) (by kernel_rfl) (by kernel_rfl) (by kernel_rfl) (fun _ _ _ h => h) (.inl ⟨by kernel_rfl, ?_⟩) (fun _ => rfl) hS ?_
              rotate_left
              · (intro w' hw; obtain ⟨hs1, hb1, hst1, hmv1⟩ := hw; have x0 := hb1.b0.cell 0; have x1 := hb1.b1.cell 0; have x3 := hb1.b3.cell 0; have x4 := hb1.b4.cell 0; have x5 := hb1.b5.cell 0; go_simp; try with_reducible rfl)
              try simp only [put_laws]
              refine wpAnyTI_one (i := 5) (by kernel_rfl) rfl ?_
              intro K' hK'
              go_simp
              refine ⟨trivial, (callsIn_wide.2 HT2.out).mono ?_⟩
              rintro e w5 ⟨he, e5⟩
              rw [HGK.out] at he
              subst he
              subst e5
              refine hK'.out _ _ (.inr hS) ?_
              clear hK' K'
              try simp only [put_laws]
              refine wpAnyTI_one (i := 9) (by kernel_rfl) rfl ?_
              intro K' hK'
              go_simp
              refine ⟨trivial, (callsIn_wide.2 (HPU.out wr.drew hS.1 a kf (by omega) hkf2)).mono ?_⟩
              rintro e w6 ⟨rfl, hm6, hv6⟩
              have hS' := (show _ ∧ _ ∧ _ ∧ _ from ⟨hm6, hS.2.1.mv hv6 hS.1.map2 hS.1.map2, HSTM.out _ _ hS.2.2.1 hS.1.map2 hv6, hS.2.2.2.trans hv6⟩)
              clear hS hm6 hv6
              have hS := hS'
              clear hS'
              refine hK'.out _ _ (.inr hS) ?_
              clear hK' K'
              try simp only [put_laws]
              obtain ⟨fn, tmps, assign, body, hy, hR⟩ := HY.out pre' ⟨M.pushN d.s t h a kf c, by rw [HKF.out]; exact pushT_at (by omega) HBT.out ⟨hf1, hf3⟩⟩ w6 (HAB.out _ _ _ HJ'.out ⟨hS.2.2.2, fun _ => hS.1⟩) (by omega)
              dsimp only at hy
              have HRD := Lib.hid hR
              clear hR
              refine wpAnyTI_one (i := 10) (by kernel_rfl) rfl ?_
              intro K' hK'
              go_simp
              refine HRD.out.mono ?_
              rintro e w7 (⟨rfl, hj7⟩ | ⟨rfl, hj7⟩)
              · have HJ7 := Lib.hid hj7
                clear hj7 hS
                refine hK'.out _ _ (.inl rfl) ?_
                clear hK' K'
                try simp only [put_laws]
                refine wpAnyTI_one (i := 11) (by kernel_rfl) rfl ?_
                intro K' hK'
                go_simp
                refine hK'.out _ _ (.inl rfl) ?_
                clear hK' K'
                try simp only [put_laws]
                refine wpAnyTI_done (by kernel_rfl) ?_ _
                gi_wp2_with fail
                go_roundw
                case rel =>
                  refine ⟨f + 1, pre' ++ [⟨M.pushN d.s t h a kf c, by rw [HKF.out]; exact pushT_at (by omega) HBT.out ⟨hf1, hf3⟩⟩], by omega, by omega, by go_num, HJ7, by rw [List.length_append]; simp only [List.length_cons, List.length_nil]; omega, Lib.hid fun a' f' h1 h2 h3 h4 => ?_, Lib.hid fun f' h1 h2 h3 => ?_⟩
                  · obtain ⟨y, hy1, hy2⟩ := HC1.out a' f' h1 h2 h3 h4
                    exact ⟨y, List.mem_append_left _ hy1, hy2⟩
                  · by_cases e9 : f' = f
                    · subst e9; exact ⟨_, List.mem_append_right _ (List.mem_singleton.2 rfl), congrArg (fun k => M.pushN d.s t h a k c) HKF.out⟩
                    · obtain ⟨y, hy1, hy2⟩ := HC2.out f' h1 (by omega) HBT.out
                      exact ⟨y, List.mem_append_left _ hy1, hy2⟩
                case measure => simp [intOf]; omega
              · have HJ7 := Lib.hid hj7
                clear hj7 hS
                refine hK'.out _ _ (.inl rfl) ?_
                clear hK' K'
                try simp only [put_laws]
                refine wpAnyTI_one (i := 11) (by kernel_rfl) rfl ?_
                intro K' hK'
                go_simp
                refine hK'.out _ _ (.inl rfl) ?_
                clear hK' K'
                try simp only [put_laws]
                refine wpAnyTI_done (by kernel_rfl) ?_ _
                gi_wp2_with fail
                (try simp only [Exit.inBlock, Exit.then])
                refine bodyPost_ret (results_none rfl _ _ _) rfl ?_
                exact ⟨⟨_, rfl⟩, .inr ⟨_, trivial, HJ7.out⟩⟩
          · gi_wp2_with fail
            go_roundw
            case rel =>
              refine ⟨a + 1, pre', by omega, by go_num, HJ', by omega, Lib.hid fun a' f' h1 h2 h3 h4 => ?_⟩
              rcases Nat.lt_succ_iff_lt_or_eq.1 h1 with h5 | h5
              · exact HC1.out a' f' h5 h2 h3 h4
              · subst h5; exact HC2.out f' h3 (by omega) h2
            case measure => simp [intOf]; omega
    · obtain rfl : a = 6 := by omega
      gi_wp2_with fail
      go_end0
      refine ⟨⟨_, rfl⟩, .inl ⟨pre, fun x => ?_, HJ.out⟩⟩
      obtain ⟨a', ha', h1⟩ := M.anyTo_iff.1 x.2
      simp only [Bool.and_eq_true] at h1
      obtain ⟨f, hf1, hf2, h2⟩ := M.spanTo_iff.1 h1.2
      obtain ⟨y, hy1, hy2⟩ := HC.out a' f ha' h1.1 hf1 hf2
      have e : y = x := Subtype.ext (by rw [hy2]; exact beq_iff_eq.1 h2)
      rw [← e]; exact hy1
end
end Go.Proofs.YtnbeembnnjdmdaaGreatDoor
