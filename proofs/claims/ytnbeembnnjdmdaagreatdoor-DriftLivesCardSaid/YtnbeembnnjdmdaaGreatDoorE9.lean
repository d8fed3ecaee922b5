/- The reference of layer 2: Copy. -/
import Derived.Test.YtnbeembnnjdmdaaGreatDoorE4
import Derived.Test.YtnbeembnnjdmdaaGreatDoorBase
import Derived.Test.YtnbeembnnjdmdaaGreatDoorD13
namespace Go.Proofs.YtnbeembnnjdmdaaGreatDoor
open Go.RowKit

theorem push_info : (Tryz.prog.info? 142).map (fun i => (i.zero, i.size, i.bytes)) = some (some (.agg #[.int .i64 0, .int .i64 0, .int .i64 0]), 3, 24) := by kernel_rfl
theorem span_info : (Tryz.prog.info? 42).map (fun i => (i.zero, i.size, i.bytes)) = some (some (.agg #[.int .i64 0, .int .i64 0]), 2, 16) := by kernel_rfl
theorem gset {W V : World} {g i : Nat} {u : Value} (h : W.grownBy V (some g)) : W.grownBy (V.setCell ⟨g, i, none⟩ u) (some g) :=
 ⟨h.os, h.tape, h.output, Nat.le_trans h.size (KeepsWalks.setCell _ _ _).size, fun k hk hne => (Below.heap_setCell _ _ _ k (fun e => hne (by rw [e]))).trans (h.block k hk hne)⟩
abbrev zero8 : Array Value := #[.int .i64 0, .int .i64 0, .slice none 0 0, .slice none 0 0, .slice none 0 0, .slice none 0 0, .slice none 0 0, .slice none 0 0]
theorem Own.rd1' {w : World} {b t n c : Nat} {A : Option Addr} {f : Nat → Int} (h : Own w b t 1 (.slice A n c) n fun i _ => .int .i64 (f i)) : Rd1 w w.heap.size A n f := by
 obtain ⟨A', c', e, hr⟩ := h.rd1
 injection e with e1 _ _
 subst e1
 exact hr
theorem drift_size : (Tryz.prog.info? 29).map (·.size) = some 8 := by kernel_rfl
theorem rows_info : (Tryz.prog.info? 27).map (fun i => (i.zero, i.size, i.bytes)) = some (some (.slice none 0 0), 1, 24) := by kernel_rfl
structure CpB (w : World) (box : Array Value) (g : Nat) (cs : Array Value) (V : World) : Prop where
 b : Below w.heap.size w V
 k : Blk V w.heap.size 29 box
 z : Blk V (w.heap.size + 1) 29 zero8
 g : Blk V g 29 cs
theorem CpB.grown {w V V' : World} {box cs : Array Value} {g : Nat} {row : Option Nat} (h : CpB w box g cs V) (hg : V.grownBy V' row) (hr : ∀ r, row = some r → w.heap.size ≤ r ∧ r ≠ w.heap.size ∧ r ≠ w.heap.size + 1 ∧ r ≠ g) : CpB w box g cs V' :=
 ⟨h.b.grown hg h.b.size fun r e => (hr r e).1, h.k.grown hg fun e => (hr _ e.symm).2.1 rfl, h.z.grown hg fun e => (hr _ e.symm).2.2.1 rfl, h.g.grown hg fun e => (hr _ e.symm).2.2.2 rfl⟩
theorem CpB.below {w V V' : World} {box cs : Array Value} {g : Nat} (h : CpB w box g cs V) (hb : Below V.heap.size V V') : CpB w box g cs V' := h.grown (below_grown hb none) fun _ e => by cases e
theorem CpB.set {w V : World} {box cs : Array Value} {g : Nat} (h : CpB w box g cs V) (hg : w.heap.size + 2 ≤ g) (k : Nat) (u : Value) : CpB w box g (cs.setIfInBounds k u) (V.setCell ⟨g, k, none⟩ u) :=
 ⟨h.b.setCell (p := ⟨g, k, none⟩) (by show w.heap.size ≤ g; omega) _, h.k.far (p := ⟨g, k, none⟩) (by show w.heap.size ≠ g; omega) _, h.z.far (p := ⟨g, k, none⟩) (by show w.heap.size + 1 ≠ g; omega) _, h.g.set_ k _⟩
theorem CpB.own {w V : World} {box cs : Array Value} {g : Nat} (h : CpB w box g cs V) {b t m n : Nat} {v : Value} {F : Nat → Nat → Value} (ho : Own V b t m v n F) (ht : t ≠ 29) (k : Nat) (u : Value) : Own (V.setCell ⟨g, k, none⟩ u) b t m v n F :=
 ho.setCell (p := ⟨g, k, none⟩) (Own.ne_blk ho h.g ht) u
theorem rdP_own {V : World} {b c cn : Nat} {A : Option Addr} {R : Nat → Value} {cl : Nat → Nat} {cu : Nat → Nat → Nat → Int} (ho : Own V b 27 1 (.slice A cn c) cn (fun i _ => R i)) (hr : ∀ i, i < cn → Own V b 142 3 (R i) (cl i) (ints2 (cu i))) (hl : ∀ i, i < cn → cl i ≤ maxLen) : RdP V V.heap.size A cn cl cu := by
 rcases Nat.eq_zero_or_pos cn with h | h
 · exact .inl h
 ·
  obtain ⟨g, c', e⟩ := ho.nz h
  cases e
  refine .inr ⟨g, 0, rfl, (ho.block rfl).2, fun i hi => ?_⟩
  obtain ⟨rA, rc, e⟩ := (hr i hi).form
  have h2 := hr i hi
  have h3 := Own.cell1 ho hi
  rw [e] at h2 h3
  exact ⟨rA, rc, by rw [Nat.zero_add]; exact h3, h2.rdI, hl i hi⟩
def DisR (k : Nat) (R : Nat → Value) (v : Value) : Prop := (∀ i j, i < k → j < k → i ≠ j → ∀ g, (R i).ownBlock = some g → (R j).ownBlock ≠ some g) ∧ ∀ i, i < k → ∀ g, (R i).ownBlock = some g → v.ownBlock ≠ some g
structure OwnD (V : World) (b : Nat) (dA : Option Addr) (dc : Nat) (tA : Option Addr) (tc : Nat) (sA : Option Addr) (sc : Nat) (zA : Option Addr) (zc : Nat) (cA : Option Addr) (cc : Nat) (wA : Option Addr) (wc nd nt ns zn cn wn : Nat) (dep : Nat → Int) (tide : Nat → Nat → Int) (sw : Nat → Int) (z : Nat → Int) (cl : Nat → Nat) (cu : Nat → Nat → Nat → Int) (wd : Nat → Nat → Int) (R : Nat → Value) : Prop where
 d : Own V b 3 1 (.slice dA nd dc) nd (ints dep)
 t : Own V b 42 2 (.slice tA nt tc) nt (ints2 tide)
 s : Own V b 3 1 (.slice sA ns sc) ns (ints sw)
 z : Own V b 3 1 (.slice zA zn zc) zn (ints z)
 c : Own V b 27 1 (.slice cA cn cc) cn (fun i _ => R i)
 r : ∀ i, i < cn → Own V b 142 3 (R i) (cl i) (ints2 (cu i))
 w : Own V b 142 3 (.slice wA wn wc) wn (ints2 wd)
 dis : DisR cn R (.slice wA wn wc)
theorem OwnD.rd {V : World} {b dc tc sc zc cc wc nd nt ns zn cn wn : Nat} {dA tA sA zA cA wA : Option Addr} {dep : Nat → Int} {tide : Nat → Nat → Int} {sw z : Nat → Int} {cl : Nat → Nat} {cu : Nat → Nat → Nat → Int} {wd : Nat → Nat → Int} {R : Nat → Value} (h : OwnD V b dA dc tA tc sA sc zA zc cA cc wA wc nd nt ns zn cn wn dep tide sw z cl cu wd R) (hl : ∀ i, i < cn → cl i ≤ maxLen) : RdD V V.heap.size dA tA sA zA cA wA nd nt ns zn cn wn dep tide sw z cl cu wd :=
 ⟨⟨Own.rd1' h.d, h.t.rdI, Own.rd1' h.s⟩, Own.rd1' h.z, rdP_own h.c h.r hl, h.w.rdI⟩
theorem OwnD.below {V V' : World} {b dc tc sc zc cc wc nd nt ns zn cn wn : Nat} {dA tA sA zA cA wA : Option Addr} {dep : Nat → Int} {tide : Nat → Nat → Int} {sw z : Nat → Int} {cl : Nat → Nat} {cu : Nat → Nat → Nat → Int} {wd : Nat → Nat → Int} {R : Nat → Value} (h : OwnD V b dA dc tA tc sA sc zA zc cA cc wA wc nd nt ns zn cn wn dep tide sw z cl cu wd R) (hb : Below V.heap.size V V') : OwnD V' b dA dc tA tc sA sc zA zc cA cc wA wc nd nt ns zn cn wn dep tide sw z cl cu wd R :=
 ⟨h.d.below hb, h.t.below hb, h.s.below hb, h.z.below hb, h.c.below hb, fun i hi => (h.r i hi).below hb, h.w.below hb, h.dis⟩
theorem DisR.next {k : Nat} {R : Nat → Value} {v u : Value} {S : Nat} (h : DisR k R v) (hu : ∀ g, u.ownBlock = some g → S ≤ g) (hR : ∀ i, i < k → ∀ g, (R i).ownBlock = some g → g < S) (hv : ∀ g, v.ownBlock = some g → g < S) : DisR (k + 1) (fun i => if i = k then u else R i) v := by
 refine ⟨fun i j hi hj hij g hg hg2 => ?_, fun i hi g hg hg2 => ?_⟩
 ·
  by_cases e : i = k
  ·
   simp only [if_pos e] at hg
   have e2 : ¬ j = k := by omega
   simp only [if_neg e2] at hg2
   have := hu g hg
   have := hR j (by omega) g hg2
   omega
  ·
   simp only [if_neg e] at hg
   by_cases e2 : j = k
   ·
    simp only [if_pos e2] at hg2
    have := hu g hg2
    have := hR i (by omega) g hg
    omega
   ·
    simp only [if_neg e2] at hg2
    exact h.1 i j (by omega) (by omega) hij g hg hg2
 ·
  by_cases e : i = k
  ·
   simp only [if_pos e] at hg
   have := hu g hg
   have := hv g hg2
   omega
  ·
   simp only [if_neg e] at hg
   exact h.2 i (by omega) g hg hg2
structure CpI (X : World) (W H : Int) (dA tA sA : Option Addr) (nd dc nt tc ns sc zn wn : Nat) (z : Nat → Int) (wd : Nat → Nat → Int) (b2 b5 b6 b9 b10 b11 b12 : Bool) (x7 x10 x11 x14 x15 x3 : Value) (V : World) : Prop where
 b : Below X.heap.size X V
 h2 : b2 = true → b5 = false → ∃ g, X.heap.size ≤ g ∧ x7 = .slice (some ⟨g, 0, none⟩) 0 0 ∧ Blk V g 3 #[]
 h5 : b5 = true → ∃ A c, x10 = .slice A zn c ∧ Own V X.heap.size 3 1 (.slice A zn c) zn (ints z)
 h6 : b6 = true → b9 = false → ∃ g, X.heap.size ≤ g ∧ x11 = .slice (some ⟨g, 0, none⟩) 0 0 ∧ Blk V g 142 #[]
 h9 : b9 = true → ∃ A c, x14 = .slice A wn c ∧ Own V X.heap.size 142 3 (.slice A wn c) wn (ints2 wd)
 c10 : b10 = true → b5 = true ∧ b9 = true
 c12 : b12 = true → b10 = true ∧ b11 = true
 h10 : b10 = true → x15 = .agg #[.int .i64 W, .int .i64 H, .slice dA nd dc, .slice tA nt tc, .slice sA ns sc, x10, .slice none 0 0, x14]
 h11 : b11 = true → ∃ g, X.heap.size ≤ g ∧ x3 = .pointer (some ⟨g, 0, none⟩) ∧ Blk V g 29 (if b12 = true then #[.int .i64 W, .int .i64 H, .slice dA nd dc, .slice tA nt tc, .slice sA ns sc, x10, .slice none 0 0, x14] else zero8)
section
variable {X V V' : World} {W H : Int} {dA tA sA : Option Addr} {nd dc nt tc ns sc zn wn : Nat} {z : Nat → Int} {wd : Nat → Nat → Int} {b2 b5 b6 b9 b10 b11 b12 : Bool} {x7 x10 x11 x14 x15 x3 : Value}
theorem CpI.below (h : CpI X W H dA tA sA nd dc nt tc ns sc zn wn z wd b2 b5 b6 b9 b10 b11 b12 x7 x10 x11 x14 x15 x3 V) (hb : Below V.heap.size V V') : CpI X W H dA tA sA nd dc nt tc ns sc zn wn z wd b2 b5 b6 b9 b10 b11 b12 x7 x10 x11 x14 x15 x3 V' := by
 refine ⟨h.b.trans (hb.mono h.b.size), fun p q => ?_, fun p => ?_, fun p q => ?_, fun p => ?_, h.c10, h.c12, h.h10, fun p => ?_⟩
 · obtain ⟨g, e1, e2, e3⟩ := h.h2 p q; exact ⟨g, e1, e2, e3.below' hb⟩
 · obtain ⟨A, c, e1, e2⟩ := h.h5 p; exact ⟨A, c, e1, e2.below hb⟩
 · obtain ⟨g, e1, e2, e3⟩ := h.h6 p q; exact ⟨g, e1, e2, e3.below' hb⟩
 · obtain ⟨A, c, e1, e2⟩ := h.h9 p; exact ⟨A, c, e1, e2.below hb⟩
 · obtain ⟨g, e1, e2, e3⟩ := h.h11 p; exact ⟨g, e1, e2, e3.below' hb⟩
end
section
variable {W H : Int} {dA tA sA zA cA wA : Option Addr} {nd dc nt tc ns sc zn zc cn cc wn wc B : Nat} {dep : Nat → Int} {tide : Nat → Nat → Int} {sw z : Nat → Int} {cl : Nat → Nat} {cu : Nat → Nat → Nat → Int} {wd : Nat → Nat → Int} {w : World}
set_option maxRecDepth 100000 in
set_option maxHeartbeats 6400000 in
theorem rdcopy_own {ok : Bool} (hF : FarOk nd nt ns zn cn wn cl ok) (hR : RdD w B dA tA sA zA cA wA nd nt ns zn cn wn dep tide sw z cl cu wd) (hB : B ≤ w.heap.size) :
  Calls Tryz.prog 14 #[.agg #[.int .i64 W, .int .i64 H, .slice dA nd dc, .slice tA nt tc, .slice sA ns sc, .slice zA zn zc, .slice cA cn cc, .slice wA wn wc]] w fun e w' => (∃ dA' dc' tA' tc' sA' sc' zA' zc' cA' cc' wA' wc', e = .returned (.agg #[.int .i64 W, .int .i64 H, .slice dA' nd dc', .slice tA' nt tc', .slice sA' ns sc', .slice zA' zn zc', .slice cA' cn cc', .slice wA' wn wc']) ∧ ∃ R, OwnD w' w.heap.size dA' dc' tA' tc' sA' sc' zA' zc' cA' cc' wA' wc' nd nt ns zn cn wn dep tide sw z cl cu wd R) ∧ Below w.heap.size w w' := by
 have HB0 := Lib.hid (belowAlloc2 w (.cells #[.int .i64 W, .int .i64 H, .slice dA nd dc, .slice tA nt tc, .slice sA ns sc, .slice zA zn zc, .slice cA cn cc, .slice wA wn wc] 29) (.cells zero8 29))
 have K0 := Lib.hid ((Blk.new w 29 #[.int .i64 W, .int .i64 H, .slice dA nd dc, .slice tA nt tc, .slice sA ns sc, .slice zA zn zc, .slice cA cn cc, .slice wA wn wc]).alloc (.cells zero8 29))
 have Z0 := Lib.hid (Blk.new1 w (.cells #[.int .i64 W, .int .i64 H, .slice dA nd dc, .slice tA nt tc, .slice sA ns sc, .slice zA zn zc, .slice cA cn cc, .slice wA wn wc] 29) 29 zero8)
 have HRX := Lib.hid (fun (V : World) (hb : Below w.heap.size w V) => hR.below (hb.mono hB))
 have hzn := hF.z
 have hwn := hF.w
 have HFO := Lib.hid hF
 obtain ⟨i0, ji, jz0, jz1, jz2⟩ := info_parts int_info
 have MI := Lib.hid (And.intro ji (And.intro jz0 (And.intro jz1 jz2)))
 obtain ⟨i1, ki, kz0, kz1, kz2⟩ := info_parts push_info
 have MP := Lib.hid (And.intro ki (And.intro kz0 (And.intro kz1 kz2)))
 clear ji jz0 jz1 jz2 ki kz0 kz1 kz2 hF hR
 have hsz : ((w.alloc (.cells #[.int .i64 W, .int .i64 H, .slice dA nd dc, .slice tA nt tc, .slice sA ns sc, .slice zA zn zc, .slice cA cn cc, .slice wA wn wc] 29)).alloc (.cells zero8 29)).heap.size = w.heap.size + 2 := by simp
 go_enter Tryz.func14, Tryz.ntmps14
 go_upto_region 1 with fail
 generalize (w.alloc (.cells #[.int .i64 W, .int .i64 H, .slice dA nd dc, .slice tA nt tc, .slice sA ns sc, .slice zA zn zc, .slice cA cn cc, .slice wA wn wc] 29)).alloc (.cells #[.int .i64 0, .int .i64 0, .slice none 0 0, .slice none 0 0, .slice none 0 0, .slice none 0 0, .slice none 0 0, .slice none 0 0] 29) = X at HB0 K0 Z0 hsz ⊢
 refine wp_mono (Q := fun e a' w' => e = .normal ∧ ∃ (g : Nat) (x7 x10 x11 x14 x15 : Value), a' = { tmps := #[.agg #[.int .i64 W, .int .i64 H, .slice dA nd dc, .slice tA nt tc, .slice sA ns sc, .slice zA zn zc, .slice cA cn cc, .slice wA wn wc], .pointer (some ⟨w.heap.size, 0, none⟩), .pointer (some ⟨w.heap.size + 1, 0, none⟩), .pointer (some ⟨g, 0, none⟩), undef, .pointer (some ⟨w.heap.size, 0, none⟩), .agg #[.int .i64 W, .int .i64 H, .slice dA nd dc, .slice tA nt tc, .slice sA ns sc], x7, .pointer (some ⟨w.heap.size, 5, none⟩), .slice zA zn zc, x10, x11, .pointer (some ⟨w.heap.size, 7, none⟩), .slice wA wn wc, x14, x15, undef, undef, undef, undef, undef, undef, undef, undef, undef, undef, undef, undef, undef, undef, undef, undef, undef, undef, undef, undef, undef, undef, undef, undef, undef, undef, undef, undef, undef, undef, undef, undef, undef, undef, undef, undef, undef, undef, undef, undef, undef], defers := [] } ∧ X.heap.size ≤ g ∧ CpI X W H dA tA sA nd dc nt tc ns sc zn wn z wd true true true true true true true x7 x10 x11 x14 x15 (.pointer (some ⟨g, 0, none⟩)) w') ?_ ?_
 ·
  refine wp_region_T 12 (fun w' => Below X.heap.size X w') (by kernel_rfl) (Below.refl _ _).drew ?_
  intro hS
  refine wpAnyT_takeG (i := 0) (v := ?_) rfl (by kernel_rfl) (fun _ _ _ h => absurd h.1 (by simp)) (.inl ⟨by kernel_rfl, ?_⟩) hS ?_
  rotate_left
  · (intro w' hw; obtain ⟨k0, k1, k2, k3⟩ := (K0.out.below' hw).c4; have k4 := (K0.out.below' hw).cell 4; have k5 := (K0.out.below' hw).cell 5; have k7 := (K0.out.below' hw).cell 7; go_simp; try with_reducible rfl)
  try simp only
  refine wpAnyT_takeG (i := 1) (v := ?_) rfl (by kernel_rfl) (fun _ _ _ h => absurd h.1 (by simp)) (.inl ⟨by kernel_rfl, ?_⟩) hS ?_
  rotate_left
  · (intro w' hw; obtain ⟨k0, k1, k2, k3⟩ := (K0.out.below' hw).c4; have k4 := (K0.out.below' hw).cell 4; have k5 := (K0.out.below' hw).cell 5; have k7 := (K0.out.below' hw).cell 7; go_simp; try with_reducible rfl)
  try simp only [put_laws]
  refine wpAnyT_takeG (i := 3) (v := ?_) rfl (by kernel_rfl) (fun _ _ _ h => absurd h.1 (by simp)) (.inl ⟨by kernel_rfl, ?_⟩) hS ?_
  rotate_left
  · (intro w' hw; obtain ⟨k0, k1, k2, k3⟩ := (K0.out.below' hw).c4; have k4 := (K0.out.below' hw).cell 4; have k5 := (K0.out.below' hw).cell 5; have k7 := (K0.out.below' hw).cell 7; go_simp; try with_reducible rfl)
  try simp only [put_laws]
  refine wpAnyT_takeG (i := 4) (v := ?_) rfl (by kernel_rfl) (fun _ _ _ h => absurd h.1 (by simp)) (.inl ⟨by kernel_rfl, ?_⟩) hS ?_
  rotate_left
  · (intro w' hw; obtain ⟨k0, k1, k2, k3⟩ := (K0.out.below' hw).c4; have k4 := (K0.out.below' hw).cell 4; have k5 := (K0.out.below' hw).cell 5; have k7 := (K0.out.below' hw).cell 7; go_simp; try with_reducible rfl)
  try simp only [put_laws]
  refine wpAnyT_takeG (i := 7) (v := ?_) rfl (by kernel_rfl) (fun _ _ _ h => absurd h.1 (by simp)) (.inl ⟨by kernel_rfl, ?_⟩) hS ?_
  rotate_left
  · (intro w' hw; obtain ⟨k0, k1, k2, k3⟩ := (K0.out.below' hw).c4; have k4 := (K0.out.below' hw).cell 4; have k5 := (K0.out.below' hw).cell 5; have k7 := (K0.out.below' hw).cell 7; go_simp; try with_reducible rfl)
  try simp only [put_laws]
  refine wpAnyT_takeG (i := 8) (v := ?_) rfl (by kernel_rfl) (fun _ _ _ h => absurd h.1 (by simp)) (.inl ⟨by kernel_rfl, ?_⟩) hS ?_
  rotate_left
  · (intro w' hw; obtain ⟨k0, k1, k2, k3⟩ := (K0.out.below' hw).c4; have k4 := (K0.out.below' hw).cell 4; have k5 := (K0.out.below' hw).cell 5; have k7 := (K0.out.below' hw).cell 7; go_simp; try with_reducible rfl)
  try simp only [put_laws]
  refine wpAnyT_inv (fun listed a V => ∃ (b2 b5 b6 b9 b10 b11 b12 : Bool) (x7 x10 x11 x14 x15 x3 : Value), listed = #[true, true, b2, true, true, b5, b6, true, true, b9, b10, b11, b12] ∧ a = { tmps := #[.agg #[.int .i64 W, .int .i64 H, .slice dA nd dc, .slice tA nt tc, .slice sA ns sc, .slice zA zn zc, .slice cA cn cc, .slice wA wn wc], .pointer (some ⟨w.heap.size, 0, none⟩), .pointer (some ⟨w.heap.size + 1, 0, none⟩), x3, undef, .pointer (some ⟨w.heap.size, 0, none⟩), .agg #[.int .i64 W, .int .i64 H, .slice dA nd dc, .slice tA nt tc, .slice sA ns sc], x7, .pointer (some ⟨w.heap.size, 5, none⟩), .slice zA zn zc, x10, x11, .pointer (some ⟨w.heap.size, 7, none⟩), .slice wA wn wc, x14, x15, undef, undef, undef, undef, undef, undef, undef, undef, undef, undef, undef, undef, undef, undef, undef, undef, undef, undef, undef, undef, undef, undef, undef, undef, undef, undef, undef, undef, undef, undef, undef, undef, undef, undef, undef, undef, undef, undef, undef, undef, undef], defers := [] } ∧ CpI X W H dA tA sA nd dc nt tc ns sc zn wn z wd b2 b5 b6 b9 b10 b11 b12 x7 x10 x11 x14 x15 x3 V) ?_ ?_ _ _ _ _ (of_decide_eq_true (by kernel_rfl)) ?_
  ·
   rintro listed a V hr ⟨b2, b5, b6, b9, b10, b11, b12, x7, x10, x11, x14, x15, x3, rfl, rfl, hI⟩
   have hall : b2 = true ∧ b5 = true ∧ b6 = true ∧ b9 = true ∧ b10 = true ∧ b11 = true ∧ b12 = true := by
    clear hI
    cases b2 <;> cases b5 <;> cases b6 <;> cases b9 <;> cases b10 <;> cases b11 <;> cases b12 <;> first | exact ⟨rfl, rfl, rfl, rfl, rfl, rfl, rfl⟩ | exact absurd hr (of_decide_eq_false (by kernel_rfl))
   obtain ⟨rfl, rfl, rfl, rfl, rfl, rfl, rfl⟩ := hall
   obtain ⟨g, hg, rfl, hbk⟩ := hI.h11 rfl
   exact ⟨rfl, g, _, _, _, _, _, rfl, hg, hI⟩
  ·
   rintro listed a V i o hlt hun hall ho ⟨b2, b5, b6, b9, b10, b11, b12, x7, x10, x11, x14, x15, x3, rfl, rfl, hI⟩ K' hK'
   have hi : i = 0 ∨ i = 1 ∨ i = 2 ∨ i = 3 ∨ i = 4 ∨ i = 5 ∨ i = 6 ∨ i = 7 ∨ i = 8 ∨ i = 9 ∨ i = 10 ∨ i = 11 ∨ i = 12 := by have hlt' : i < 13 := hlt; omega
   rcases hi with rfl | rfl | rfl | rfl | rfl | rfl | rfl | rfl | rfl | rfl | rfl | rfl | rfl
   · exact absurd hun (by simp)
   · exact absurd hun (by simp)
   ·
    obtain rfl : b2 = false := hun
    have ho' := Option.some.inj ho
    subst ho'
    go_simp
    try simp only [put_laws]
    exact hK'.out _ _ (.inr (hI.b.alloc hI.b.size _)) ⟨true, b5, b6, b9, b10, b11, b12, _, _, _, _, _, _, rfl, rfl, { hI.below (belowAlloc _ _) with h2 := fun _ _ => ⟨_, hI.b.size, rfl, Blk.new _ _ _⟩ }⟩
   · exact absurd hun (by simp)
   · exact absurd hun (by simp)
   ·
    obtain rfl : b5 = false := hun
    have ho' := Option.some.inj ho
    subst ho'
    obtain rfl : b10 = false := by
     cases hb : b10
     · rfl
     · have := (hI.c10 hb).1; cases this
    obtain rfl : b12 = false := by
     cases hb : b12
     · rfl
     · have := (hI.c12 hb).1; cases this
    obtain ⟨g, hg, rfl, hbk⟩ := hI.h2 (hall _ (Array.mem_of_getElem? (i := 0) rfl) rfl) rfl
    refine step_copy (by rfl) (.tmp 7) (.tmp 9) 22 (by rfl) 3 i0 _ 1 8 Tryz.underlying22 MI.out.1 MI.out.2.1 MI.out.2.2.1 MI.out.2.2.2 rfl (by omega) (by omega) (by rfl) hbk (fun _ _ => rfl) (by rfl) (HRX.out _ (HB0.out.trans (hI.b.mono HB0.out.size))).z.v (by omega) ?_
    intro A5 c5 w5 ho5 hb5
    try simp only
    exact hK'.out _ _ (.inr (hI.b.trans (hb5.mono hI.b.size))) ⟨b2, true, b6, b9, false, b11, false, _, _, _, _, _, _, rfl, rfl, { hI.below hb5 with h2 := fun _ h => (by cases h), h5 := fun _ => ⟨_, _, rfl, ho5.less hg⟩, c10 := fun h => (by cases h), c12 := fun h => (by cases h), h10 := fun h => (by cases h), h11 := fun h => (hI.below hb5).h11 h }⟩
   ·
    obtain rfl : b6 = false := hun
    have ho' := Option.some.inj ho
    subst ho'
    go_simp
    try simp only [put_laws]
    exact hK'.out _ _ (.inr (hI.b.alloc hI.b.size _)) ⟨b2, b5, true, b9, b10, b11, b12, _, _, _, _, _, _, rfl, rfl, { hI.below (belowAlloc _ _) with h6 := fun _ _ => ⟨_, hI.b.size, rfl, Blk.new _ _ _⟩ }⟩
   · exact absurd hun (by simp)
   · exact absurd hun (by simp)
   ·
    obtain rfl : b9 = false := hun
    have ho' := Option.some.inj ho
    subst ho'
    obtain rfl : b10 = false := by
     cases hb : b10
     · rfl
     · have := (hI.c10 hb).2; cases this
    obtain rfl : b12 = false := by
     cases hb : b12
     · rfl
     · have := (hI.c12 hb).1; cases this
    obtain ⟨g, hg, rfl, hbk⟩ := hI.h6 (hall _ (Array.mem_of_getElem? (i := 0) rfl) rfl) rfl
    refine step_copy (by rfl) (.tmp 11) (.tmp 13) 27 (by rfl) 142 i1 _ 3 24 Tryz.underlying27 MP.out.1 MP.out.2.1 MP.out.2.2.1 MP.out.2.2.2 rfl (by omega) (by omega) (by rfl) hbk (fun _ _ => rfl) (by rfl) (HRX.out _ (HB0.out.trans (hI.b.mono HB0.out.size))).wd (by omega) ?_
    intro A9 c9 w9 ho9 hb9
    try simp only
    exact hK'.out _ _ (.inr (hI.b.trans (hb9.mono hI.b.size))) ⟨b2, b5, b6, true, false, b11, false, _, _, _, _, _, _, rfl, rfl, { hI.below hb9 with h6 := fun _ h => (by cases h), h9 := fun _ => ⟨_, _, rfl, ho9.less hg⟩, c10 := fun h => (by cases h), c12 := fun h => (by cases h), h10 := fun h => (by cases h), h11 := fun h => (hI.below hb9).h11 h }⟩
   ·
    obtain rfl : b10 = false := hun
    have ho' := Option.some.inj ho
    subst ho'
    obtain rfl : b12 = false := by
     cases hb : b12
     · rfl
     · have := (hI.c12 hb).1; cases this
    have hb5 : b5 = true := hall _ (Array.mem_of_getElem? (i := 1) rfl) rfl
    have hb9 : b9 = true := hall _ (Array.mem_of_getElem? (i := 2) rfl) rfl
    obtain ⟨A5, c5, rfl, ho5⟩ := hI.h5 (hall _ (Array.mem_of_getElem? (i := 1) rfl) rfl)
    obtain ⟨A9, c9, rfl, ho9⟩ := hI.h9 (hall _ (Array.mem_of_getElem? (i := 2) rfl) rfl)
    go_simp
    try simp only [put_laws]
    exact hK'.out _ _ (.inr (hI.b)) ⟨b2, b5, b6, b9, true, b11, false, _, _, _, _, _, _, rfl, rfl, { hI with h10 := fun _ => rfl, c10 := fun _ => ⟨hb5, hb9⟩, c12 := fun h => (by cases h) }⟩
   ·
    obtain rfl : b11 = false := hun
    have ho' := Option.some.inj ho
    subst ho'
    obtain rfl : b12 = false := by
     cases hb : b12
     · rfl
     · have := (hI.c12 hb).2; cases this
    go_simp
    try simp only [put_laws]
    exact hK'.out _ _ (.inr (hI.b.alloc hI.b.size _)) ⟨b2, b5, b6, b9, b10, true, false, _, _, _, _, _, _, rfl, rfl, { hI.below (belowAlloc _ _) with h11 := fun _ => ⟨_, hI.b.size, rfl, Blk.new _ _ _⟩, c12 := fun h => (by cases h) }⟩
   ·
    obtain rfl : b12 = false := hun
    have ho' := Option.some.inj ho
    subst ho'
    have hb10 : b10 = true := hall _ (Array.mem_of_getElem? (i := 1) rfl) rfl
    have hb11 : b11 = true := hall _ (Array.mem_of_getElem? (i := 0) rfl) rfl
    have hb5 := (hI.c10 hb10).1
    have hb9 := (hI.c10 hb10).2
    obtain ⟨A5, c5', rfl, ho5⟩ := hI.h5 hb5
    obtain ⟨A9, c9', rfl, ho9⟩ := hI.h9 hb9
    obtain ⟨g, hg, rfl, hbk⟩ := hI.h11 (hall _ (Array.mem_of_getElem? (i := 0) rfl) rfl)
    obtain rfl := hI.h10 (hall _ (Array.mem_of_getElem? (i := 1) rfl) rfl)
    rw [if_neg (by simp)] at hbk
    obtain ⟨c0, c1, c2, c3, c4, c5, c6, c7⟩ := hbk.c8
    have f0 := hbk.frz 0
    have f1 := hbk.frz 1
    have f2 := hbk.frz 2
    have f3 := hbk.frz 3
    have f4 := hbk.frz 4
    have f5 := hbk.frz 5
    have f6 := hbk.frz 6
    have f7 := hbk.frz 7
    go_simp
    try simp only [put_laws]
    have hgr : V.grownBy ((((((((V.setCell ⟨g, 0, none⟩ (.int .i64 W)).setCell ⟨g, 1, none⟩ (.int .i64 H)).setCell ⟨g, 2, none⟩ (.slice dA nd dc)).setCell ⟨g, 3, none⟩ (.slice tA nt tc)).setCell ⟨g, 4, none⟩ (.slice sA ns sc)).setCell ⟨g, 5, none⟩ (.slice A5 zn c5')).setCell ⟨g, 6, none⟩ (.slice none 0 0)).setCell ⟨g, 7, none⟩ (.slice A9 wn c9')) (some g) := gset (gset (gset (gset (gset (gset (gset (gset (World.grownBy.refl _ _))))))))
    have hbn : Blk ((((((((V.setCell ⟨g, 0, none⟩ (.int .i64 W)).setCell ⟨g, 1, none⟩ (.int .i64 H)).setCell ⟨g, 2, none⟩ (.slice dA nd dc)).setCell ⟨g, 3, none⟩ (.slice tA nt tc)).setCell ⟨g, 4, none⟩ (.slice sA ns sc)).setCell ⟨g, 5, none⟩ (.slice A5 zn c5')).setCell ⟨g, 6, none⟩ (.slice none 0 0)).setCell ⟨g, 7, none⟩ (.slice A9 wn c9')) g 29 #[.int .i64 W, .int .i64 H, .slice dA nd dc, .slice tA nt tc, .slice sA ns sc, .slice A5 zn c5', .slice none 0 0, .slice A9 wn c9'] := (((((((hbk.set_ 0 _).set_ 1 _).set_ 2 _).set_ 3 _).set_ 4 _).set_ 5 _).set_ 6 _).set_ 7 _
    have hbb : Below X.heap.size X ((((((((V.setCell ⟨g, 0, none⟩ (.int .i64 W)).setCell ⟨g, 1, none⟩ (.int .i64 H)).setCell ⟨g, 2, none⟩ (.slice dA nd dc)).setCell ⟨g, 3, none⟩ (.slice tA nt tc)).setCell ⟨g, 4, none⟩ (.slice sA ns sc)).setCell ⟨g, 5, none⟩ (.slice A5 zn c5')).setCell ⟨g, 6, none⟩ (.slice none 0 0)).setCell ⟨g, 7, none⟩ (.slice A9 wn c9')) := hI.b.grown hgr hI.b.size fun r e => by cases e; exact hg
    refine hK'.out _ _ (.inl rfl) ⟨b2, b5, b6, b9, b10, b11, true, _, _, _, _, _, _, rfl, rfl, hbb, fun p q => (by rw [hb5] at q; cases q), fun p => ⟨_, _, rfl, ho5.grown hgr (.inr (Own.ne_blk ho5 hbk (by decide)))⟩, fun p q => (by rw [hb9] at q; cases q), fun p => ⟨_, _, rfl, ho9.grown hgr (.inr (Own.ne_blk ho9 hbk (by decide)))⟩, hI.c10, fun _ => ⟨hb10, hb11⟩, fun _ => rfl, fun _ => ⟨g, hg, rfl, hbn⟩⟩
  · exact ⟨false, false, false, false, false, false, false, undef, undef, undef, undef, undef, undef, rfl, rfl, ⟨hS, fun h => (by cases h), fun h => (by cases h), fun h => (by cases h), fun h => (by cases h), fun h => (by cases h), fun h => (by cases h), fun h => (by cases h), fun h => (by cases h)⟩⟩
 ·
  rintro e a' W1 ⟨rfl, g, x7, x10, x11, x14, x15, rfl, hg, hI⟩
  obtain ⟨A5, c5, rfl, ho5⟩ := hI.h5 rfl
  obtain ⟨A9, c9, rfl, ho9⟩ := hI.h9 rfl
  obtain ⟨g', _, e, hbk⟩ := hI.h11 rfl
  cases e
  rw [if_pos rfl] at hbk
  have C1 := Lib.hid (show CpB w #[.int .i64 W, .int .i64 H, .slice dA nd dc, .slice tA nt tc, .slice sA ns sc, .slice zA zn zc, .slice cA cn cc, .slice wA wn wc] g #[.int .i64 W, .int .i64 H, .slice dA nd dc, .slice tA nt tc, .slice sA ns sc, .slice A5 zn c5, .slice none 0 0, .slice A9 wn c9] W1 from ⟨HB0.out.trans (hI.b.mono (by omega)), K0.out.below' hI.b, Z0.out.below' hI.b, hbk⟩)
  have P := Lib.hid ho5
  have R := Lib.hid ho9
  have hg2 : w.heap.size + 2 ≤ g := by omega
  have HSS := Lib.hid (show w.heap.size + 2 ≤ X.heap.size by omega)
  have hnd := HFO.out.d
  have hnt := HFO.out.t
  have hns := HFO.out.s
  have hcn := HFO.out.c
  have HCL := Lib.hid HFO.out.l
  obtain ⟨i2, li, lz0, lz1, lz2⟩ := info_parts span_info
  have MS := Lib.hid (And.intro li (And.intro lz0 (And.intro lz1 lz2)))
  obtain ⟨i3, mi, mz0, mz1, mz2⟩ := info_parts rows_info
  have MR := Lib.hid (And.intro mi (And.intro mz0 (And.intro mz1 mz2)))
  clear ho5 ho9 hbk hI hg HB0 K0 Z0 hsz li lz0 lz1 lz2 mi mz0 mz1 mz2 HFO
  have BS1 := Lib.hid C1.out.b.size
  generalize X.heap.size = S at P R HSS
  have k2 := C1.out.k.cell 2
  have c2 := C1.out.g.cell 2
  have f2 := C1.out.g.frz 2
  have hl1 := C1.out.g.lt
  have hk1 := C1.out.k.lt
  go_upto_region 3 with (at_builtin; go_must (refine wpList_copy rfl (.tmp 16) (.tmp 19) 22 rfl 3 i0 _ 1 8 Tryz.underlying22 MI.out.1 MI.out.2.1 MI.out.2.2.1 MI.out.2.2.2 rfl (by decide) (by decide) (g := W1.heap.size) rfl (Blk.new W1 3 #[]) (fun _ _ => rfl) rfl (((HRX.out W1 C1.out.b).c.d.v).below ((belowAlloc W1 _).mono (Nat.le_trans hB C1.out.b.size))) (by omega) ?_); intro A1 z1 w7 o7 hb7; have B7 := Lib.hid (C1.out.below ((belowAlloc W1 _).trans (hb7.mono (by simp)))); have V7 := Lib.hid (show Below W1.heap.size W1 w7 from (belowAlloc W1 _).trans (hb7.mono (by simp))); have O7 := Lib.hid o7; clear o7 hb7 k2 c2 f2; have c2 := B7.out.g.cell 2; have f2 := B7.out.g.frz 2)
  clear c2 f2
  have C2 := Lib.hid (show CpB w #[.int .i64 W, .int .i64 H, .slice dA nd dc, .slice tA nt tc, .slice sA ns sc, .slice zA zn zc, .slice cA cn cc, .slice wA wn wc] g #[.int .i64 W, .int .i64 H, .slice A1 nd z1, .slice tA nt tc, .slice sA ns sc, .slice A5 zn c5, .slice none 0 0, .slice A9 wn c9] (w7.setCell ⟨g, 2, none⟩ (.slice A1 nd z1)) from B7.out.set (by omega) 2 (.slice A1 nd z1))
  have N2 := Lib.hid (B7.out.own O7.out (by decide) 2 (.slice A1 nd z1))
  have P' := Lib.hid (B7.out.own (P.out.below V7.out) (by decide) 2 (.slice A1 nd z1))
  have R' := Lib.hid (B7.out.own (R.out.below V7.out) (by decide) 2 (.slice A1 nd z1))
  generalize w7.setCell ⟨g, 2, none⟩ (.slice A1 nd z1) = W2 at *
  clear B7 V7 O7 C1 P R
  have BS2 := Lib.hid C2.out.b.size
  have k3 := C2.out.k.cell 3
  have c3 := C2.out.g.cell 3
  have f3 := C2.out.g.frz 3
  have hl2 := C2.out.g.lt
  have hk2 := C2.out.k.lt
  go_upto_region 4 with (at_builtin; go_must (refine wpList_copy rfl (.tmp 23) (.tmp 26) 23 rfl 42 i2 _ 2 16 Tryz.underlying23 MS.out.1 MS.out.2.1 MS.out.2.2.1 MS.out.2.2.2 rfl (by decide) (by decide) (g := W2.heap.size) rfl (Blk.new W2 42 #[]) (fun _ _ => rfl) rfl (((HRX.out W2 C2.out.b).c.t.v).below ((belowAlloc W2 _).mono (Nat.le_trans hB C2.out.b.size))) (by omega) ?_); intro A2 z2 w7 o7 hb7; have B7 := Lib.hid (C2.out.below ((belowAlloc W2 _).trans (hb7.mono (by simp)))); have V7 := Lib.hid (show Below W2.heap.size W2 w7 from (belowAlloc W2 _).trans (hb7.mono (by simp))); have O7 := Lib.hid o7; clear o7 hb7 k3 c3 f3; have c3 := B7.out.g.cell 3; have f3 := B7.out.g.frz 3)
  clear c3 f3
  have C3 := Lib.hid (show CpB w #[.int .i64 W, .int .i64 H, .slice dA nd dc, .slice tA nt tc, .slice sA ns sc, .slice zA zn zc, .slice cA cn cc, .slice wA wn wc] g #[.int .i64 W, .int .i64 H, .slice A1 nd z1, .slice A2 nt z2, .slice sA ns sc, .slice A5 zn c5, .slice none 0 0, .slice A9 wn c9] (w7.setCell ⟨g, 3, none⟩ (.slice A2 nt z2)) from B7.out.set (by omega) 3 (.slice A2 nt z2))
  have N3 := Lib.hid (B7.out.own O7.out (by decide) 3 (.slice A2 nt z2))
  have N2' := Lib.hid (B7.out.own (N2.out.below V7.out) (by decide) 3 (.slice A2 nt z2))
  have P'' := Lib.hid (B7.out.own (P'.out.below V7.out) (by decide) 3 (.slice A2 nt z2))
  have R'' := Lib.hid (B7.out.own (R'.out.below V7.out) (by decide) 3 (.slice A2 nt z2))
  generalize w7.setCell ⟨g, 3, none⟩ (.slice A2 nt z2) = W3 at *
  clear B7 V7 O7 C2 N2 P' R'
  have BS3 := Lib.hid C3.out.b.size
  have k4 := C3.out.k.cell 4
  have c4 := C3.out.g.cell 4
  have f4 := C3.out.g.frz 4
  have hl3 := C3.out.g.lt
  have hk3 := C3.out.k.lt
  go_upto_region 5 with (at_builtin; go_must (refine wpList_copy rfl (.tmp 30) (.tmp 33) 22 rfl 3 i0 _ 1 8 Tryz.underlying22 MI.out.1 MI.out.2.1 MI.out.2.2.1 MI.out.2.2.2 rfl (by decide) (by decide) (g := W3.heap.size) rfl (Blk.new W3 3 #[]) (fun _ _ => rfl) rfl (((HRX.out W3 C3.out.b).c.s.v).below ((belowAlloc W3 _).mono (Nat.le_trans hB C3.out.b.size))) (by omega) ?_); intro A3 z3 w7 o7 hb7; have B7 := Lib.hid (C3.out.below ((belowAlloc W3 _).trans (hb7.mono (by simp)))); have V7 := Lib.hid (show Below W3.heap.size W3 w7 from (belowAlloc W3 _).trans (hb7.mono (by simp))); have O7 := Lib.hid o7; clear o7 hb7 k4 c4 f4; have c4 := B7.out.g.cell 4; have f4 := B7.out.g.frz 4)
  clear c4 f4
  have C4 := Lib.hid (show CpB w #[.int .i64 W, .int .i64 H, .slice dA nd dc, .slice tA nt tc, .slice sA ns sc, .slice zA zn zc, .slice cA cn cc, .slice wA wn wc] g #[.int .i64 W, .int .i64 H, .slice A1 nd z1, .slice A2 nt z2, .slice A3 ns z3, .slice A5 zn c5, .slice none 0 0, .slice A9 wn c9] (w7.setCell ⟨g, 4, none⟩ (.slice A3 ns z3)) from B7.out.set (by omega) 4 (.slice A3 ns z3))
  have N4 := Lib.hid (B7.out.own O7.out (by decide) 4 (.slice A3 ns z3))
  have N3' := Lib.hid (B7.out.own (N3.out.below V7.out) (by decide) 4 (.slice A3 ns z3))
  have N2'' := Lib.hid (B7.out.own (N2'.out.below V7.out) (by decide) 4 (.slice A3 ns z3))
  have P''' := Lib.hid (B7.out.own (P''.out.below V7.out) (by decide) 4 (.slice A3 ns z3))
  have R''' := Lib.hid (B7.out.own (R''.out.below V7.out) (by decide) 4 (.slice A3 ns z3))
  generalize w7.setCell ⟨g, 4, none⟩ (.slice A3 ns z3) = W4 at *
  clear B7 V7 O7 C3 N3 N2' P'' R''
  have HS := Lib.hid (show w.heap.size ≤ S from Nat.le_trans (by omega) (show w.heap.size + 2 ≤ S by first | exact HSS.out | omega))
  have HQ := Lib.hid (show (Own W4 w.heap.size 3 1 (.slice A1 nd z1) nd (ints dep) ∧ Own W4 w.heap.size 42 2 (.slice A2 nt z2) nt (ints2 tide) ∧ Own W4 w.heap.size 3 1 (.slice A3 ns z3) ns (ints sw) ∧ Own W4 w.heap.size 3 1 (.slice A5 zn c5) zn (ints z) ∧ Own W4 w.heap.size 142 3 (.slice A9 wn c9) wn (ints2 wd)) from ⟨N2''.out.less (by have := BS1.out; omega), N3'.out.less (by have := BS2.out; omega), N4.out.less (by have := BS3.out; omega), P'''.out.less HS.out, R'''.out.less HS.out⟩)
  clear N2'' N3' N4 P''' R'''
  have k6 := C4.out.k.cell 6
  go_wp2_with fail
  clear k6
  go_loopw [4] (fun i wr => ∃ (k : Nat) (v : Value) (R : Nat → Value), k ≤ cn ∧ i = .int .i64 (k : Int) ∧ Hid (CpB w #[.int .i64 W, .int .i64 H, .slice dA nd dc, .slice tA nt tc, .slice sA ns sc, .slice zA zn zc, .slice cA cn cc, .slice wA wn wc] g #[.int .i64 W, .int .i64 H, .slice A1 nd z1, .slice A2 nt z2, .slice A3 ns z3, .slice A5 zn c5, v, .slice A9 wn c9] wr) ∧ Hid (Own wr w.heap.size 27 1 v k (fun i _ => R i)) ∧ Hid (∀ i, i < k → Own wr w.heap.size 142 3 (R i) (cl i) (ints2 (cu i))) ∧ Hid (Own wr w.heap.size 3 1 (.slice A1 nd z1) nd (ints dep) ∧ Own wr w.heap.size 42 2 (.slice A2 nt z2) nt (ints2 tide) ∧ Own wr w.heap.size 3 1 (.slice A3 ns z3) ns (ints sw) ∧ Own wr w.heap.size 3 1 (.slice A5 zn c5) zn (ints z) ∧ Own wr w.heap.size 142 3 (.slice A9 wn c9) wn (ints2 wd)) ∧ Hid (DisR k R (.slice A9 wn c9))) (fun i _ => cn - (intOf i).toNat)
  case atStart => exact ⟨0, _, fun _ => .slice none 0 0, Nat.zero_le _, rfl, C4, Lib.hid Own.nil_, Lib.hid (fun i hi => absurd hi (by omega)), HQ, Lib.hid ⟨fun i j hi => absurd hi (by omega), fun i hi => absurd hi (by omega)⟩⟩
  case round =>
   obtain ⟨k, v, R, hk, rfl, HC, HV, HR, HQ, HD⟩ := hrel
   clear C4
   obtain ⟨vA, vc, rfl⟩ := HV.out.form
   by_cases hlt : k < cn
   ·
    obtain ⟨b, off, rA, rc, rfl, hb, c0, hrd, hcl⟩ := (HRX.out wr HC.out.b).cu.at_ hlt
    have hbl : b < wr.heap.size := Nat.lt_of_lt_of_le hb (Nat.le_trans hB HC.out.b.size)
    have kx : decide (cn ≤ k) = false := decide_eq_false (by omega)
    have g6 := HC.out.g.cell 6
    have k6 := HC.out.k.cell 6
    have hl80 := HCL.out k hlt
    have HRD := Lib.hid hrd
    generalize hclk : cl k = m at c0 hrd hcl hl80 HRD
    have HMK := Lib.hid hclk
    clear hclk hrd hcl
    go_upto_region 8 with fail
    refine wp_nopanic ?_
    refine wp_region_T 10 (fun w' => Below wr.heap.size wr w') (by kernel_rfl) (Below.refl _ _).drew ?_
    intro hS
    refine tkA (i := 0) (v := ?_) rfl (by kernel_rfl) (.inl ⟨by kernel_rfl, ?_⟩) hS ?_
    rotate_left
    · (intro w' hw; have g6 := (HC.out.g.below' hw).cell 6; have k6 := (HC.out.k.below' hw).cell 6; have r0 := (hw.cell (p := ⟨b, off + k, none⟩) hbl).trans c0; go_simp; try with_reducible rfl)
    try simp only [put_laws]
    refine tkA (i := 1) (v := ?_) rfl (by kernel_rfl) (.inl ⟨by kernel_rfl, ?_⟩) hS ?_
    rotate_left
    · (intro w' hw; have g6 := (HC.out.g.below' hw).cell 6; have k6 := (HC.out.k.below' hw).cell 6; have r0 := (hw.cell (p := ⟨b, off + k, none⟩) hbl).trans c0; go_simp; try with_reducible rfl)
    try simp only [put_laws]
    refine tkA (i := 3) (v := ?_) rfl (by kernel_rfl) (.inl ⟨by kernel_rfl, ?_⟩) hS ?_
    rotate_left
    · (intro w' hw; have g6 := (HC.out.g.below' hw).cell 6; have k6 := (HC.out.k.below' hw).cell 6; have r0 := (hw.cell (p := ⟨b, off + k, none⟩) hbl).trans c0; go_simp; try with_reducible rfl)
    try simp only [put_laws]
    refine tkA (i := 4) (v := ?_) rfl (by kernel_rfl) (.inl ⟨by kernel_rfl, ?_⟩) hS ?_
    rotate_left
    · (intro w' hw; have g6 := (HC.out.g.below' hw).cell 6; have k6 := (HC.out.k.below' hw).cell 6; have r0 := (hw.cell (p := ⟨b, off + k, none⟩) hbl).trans c0; go_simp; try with_reducible rfl)
    try simp only [put_laws]
    refine tkA (i := 5) (v := ?_) rfl (by kernel_rfl) (.inl ⟨by kernel_rfl, ?_⟩) hS ?_
    rotate_left
    · (intro w' hw; have g6 := (HC.out.g.below' hw).cell 6; have k6 := (HC.out.k.below' hw).cell 6; have r0 := (hw.cell (p := ⟨b, off + k, none⟩) hbl).trans c0; go_simp; try with_reducible rfl)
    try simp only [put_laws]
    refine tkA (i := 6) (v := ?_) rfl (by kernel_rfl) (.inl ⟨by kernel_rfl, ?_⟩) hS ?_
    rotate_left
    · (intro w' hw; have g6 := (HC.out.g.below' hw).cell 6; have k6 := (HC.out.k.below' hw).cell 6; have r0 := (hw.cell (p := ⟨b, off + k, none⟩) hbl).trans c0; go_simp; try with_reducible rfl)
    try simp only [put_laws]
    refine tkA (i := 7) (v := ?_) rfl (by kernel_rfl) (.inl ⟨by kernel_rfl, ?_⟩) hS ?_
    rotate_left
    · (intro w' hw; have g6 := (HC.out.g.below' hw).cell 6; have k6 := (HC.out.k.below' hw).cell 6; have r0 := (hw.cell (p := ⟨b, off + k, none⟩) hbl).trans c0; go_simp; try with_reducible rfl)
    try simp only [put_laws]
    refine wpAnyT_one (i := 2) (by kernel_rfl) rfl ?_
    intro K' hK'
    go_simp
    refine hK'.out _ _ (.inr (hS.alloc hS.size _)) ?_
    clear hK' K'
    try simp only [put_laws]
    have hS1 := hS.alloc hS.size (.cells #[] 142)
    refine wpAnyT_one (i := 8) (by kernel_rfl) rfl ?_
    intro K' hK'
    refine step_copy (by rfl) (.tmp 46) (.tmp 51) 27 (by rfl) 142 i1 _ 3 24 Tryz.underlying27 MP.out.1 MP.out.2.1 MP.out.2.2.1 MP.out.2.2.2 rfl (by omega) (by omega) (by rfl) (Blk.new _ _ _) (fun _ _ => rfl) (by rfl) (HRD.out.below (hS1.mono (Nat.le_trans hB HC.out.b.size))).v (by omega) ?_
    intro A8 c8 w8 o8 hb8
    have HBK := Lib.hid (fun g (e : (Value.slice A8 m c8).ownBlock = some g) => (show wr.heap.size ≤ g from (o8.block e).1))
    have HDN := Lib.hid (HD.out.next (u := .slice A8 m c8) HBK.out (fun i hi g e => ((HR.out i hi).block e).2) (fun g e => (HQ.out.2.2.2.2.block e).2))
    have hS2 := hS1.trans (hb8.mono hS1.size)
    refine hK'.out _ _ (.inr hS2) ?_
    clear hK' K'
    try simp only [put_laws]
    refine wpAnyT_one (i := 9) (by kernel_rfl) rfl ?_
    intro K' hK'
    go_simp
    refine hK'.out _ _ (.inr (hS2.alloc hS2.size _)) ?_
    clear hK' K'
    try simp only [put_laws]
    have hS3 := hS2.alloc hS2.size (.cells #[.slice A8 m c8] 27)
    have hB9 := Blk.new w8 27 #[.slice A8 m c8]
    have o9 := o8.alloc (.cells #[.slice A8 m c8] 27)
    have HC9 := Lib.hid (HC.out.below hS3)
    have HV9 := Lib.hid (HV.out.below hS3)
    have HR9 := Lib.hid (fun i hi => (HR.out i hi).below hS3)
    have HQ9 := Lib.hid (show (Own (w8.alloc (.cells #[.slice A8 m c8] 27)) w.heap.size 3 1 (.slice A1 nd z1) nd (ints dep) ∧ Own (w8.alloc (.cells #[.slice A8 m c8] 27)) w.heap.size 42 2 (.slice A2 nt z2) nt (ints2 tide) ∧ Own (w8.alloc (.cells #[.slice A8 m c8] 27)) w.heap.size 3 1 (.slice A3 ns z3) ns (ints sw) ∧ Own (w8.alloc (.cells #[.slice A8 m c8] 27)) w.heap.size 3 1 (.slice A5 zn c5) zn (ints z) ∧ Own (w8.alloc (.cells #[.slice A8 m c8] 27)) w.heap.size 142 3 (.slice A9 wn c9) wn (ints2 wd)) from ⟨HQ.out.1.below hS3, HQ.out.2.1.below hS3, HQ.out.2.2.1.below hS3, HQ.out.2.2.2.1.below hS3, HQ.out.2.2.2.2.below hS3⟩)
    refine wpAnyT_one (i := 10) (by kernel_rfl) rfl ?_
    intro K' hK'
    refine step_cat (by rfl) (.tmp 45) (.tmp 53) 26 (by rfl) 27 i3 _ 1 24 Tryz.underlying26 MR.out.1 MR.out.2.1 MR.out.2.2.1 MR.out.2.2.2 rfl (by omega) (by omega) (by rfl) HV9.out (by omega) (Nat.le_trans HC9.out.b.size (Nat.le_refl _)) (G := fun _ _ => .slice A8 m c8) (fun _ _ => rfl) (by rfl) (rdV_blk hB9 (fun i j hi hj => by obtain rfl : i = 0 := (by omega); obtain rfl : j = 0 := (by omega); rfl)) (by omega) ?_
    intro v10 w10 o10 hg10 hat10
    have HC10 := Lib.hid (HC9.out.grown hg10 fun r e => by
     have h1 := (HV9.out.block e).1
     have h2 : r ≠ g := fun e2 => Own.ne_blk HV9.out HC9.out.g (by decide) (by rw [e, e2])
     have h3 : r ≠ w.heap.size := fun e2 => Own.ne_blk HV9.out HC9.out.k (by decide) (by rw [e, e2])
     have h4 : r ≠ w.heap.size + 1 := fun e2 => Own.ne_blk HV9.out HC9.out.z (by decide) (by rw [e, e2])
     exact ⟨h1, h3, h4, h2⟩)
    obtain ⟨vA', vc', rfl⟩ := o10.form
    refine hK'.out _ _ (.inl rfl) ?_
    clear hK' K'
    try simp only [put_laws]
    have HO10 := Lib.hid (o10.congr (F' := fun i _ => (fun i => if i = k then .slice A8 m c8 else R i) i) fun i j hi _ => by
     unfold catF
     by_cases e : i < k
     ·
      rw [if_pos e]
      show R i = if i = k then _ else R i
      rw [if_neg (by omega)]
     ·
      rw [if_neg e]
      show Value.slice A8 m c8 = if i = k then _ else R i
      rw [if_pos (by omega)])
    have HO9 := Lib.hid (show Own w10 w.heap.size 142 3 (.slice A8 m c8) m (ints2 (cu k)) from (o9.less (Nat.le_trans HC.out.b.size (Nat.le_refl _))).apart_grown (Own.apart_type HV9.out o9 (by decide)) hg10)
    have HR10 := Lib.hid (fun i (hi : i < k) => (HR9.out i hi).apart_grown (Own.apart_type HV9.out (HR9.out i hi) (by decide)) hg10)
    have HQ10 := Lib.hid (show (Own w10 w.heap.size 3 1 (.slice A1 nd z1) nd (ints dep) ∧ Own w10 w.heap.size 42 2 (.slice A2 nt z2) nt (ints2 tide) ∧ Own w10 w.heap.size 3 1 (.slice A3 ns z3) ns (ints sw) ∧ Own w10 w.heap.size 3 1 (.slice A5 zn c5) zn (ints z) ∧ Own w10 w.heap.size 142 3 (.slice A9 wn c9) wn (ints2 wd)) from ⟨(HQ9.out.1).apart_grown (Own.apart_type HV9.out (HQ9.out.1) (by decide)) hg10, (HQ9.out.2.1).apart_grown (Own.apart_type HV9.out (HQ9.out.2.1) (by decide)) hg10, (HQ9.out.2.2.1).apart_grown (Own.apart_type HV9.out (HQ9.out.2.2.1) (by decide)) hg10, (HQ9.out.2.2.2.1).apart_grown (Own.apart_type HV9.out (HQ9.out.2.2.2.1) (by decide)) hg10, (HQ9.out.2.2.2.2).apart_grown (Own.apart_type HV9.out (HQ9.out.2.2.2.2) (by decide)) hg10⟩)
    clear o8 o9 o10 hB9 HV9 HR9 HQ9 HC9 hg10 hat10 hS hS1 hS2 hS3 HRD
    have g6' := HC10.out.g.cell 6
    have f6' := HC10.out.g.frz 6
    refine wpAnyT_one (i := 11) (by kernel_rfl) rfl ?_
    intro K' hK'
    go_simp
    refine hK'.out _ _ (.inl rfl) ?_
    clear hK' K'
    try simp only [put_laws]
    refine wpAnyT_one (i := 12) (by kernel_rfl) rfl ?_
    intro K' hK'
    go_simp
    refine hK'.out _ _ (.inl rfl) ?_
    clear hK' K' g6' f6'
    try simp only [put_laws]
    refine wpAnyT_done (by kernel_rfl) ?_ _
    refine ⟨fun x e => (by cases e), ?_⟩
    have HC11 := Lib.hid (show CpB w #[.int .i64 W, .int .i64 H, .slice dA nd dc, .slice tA nt tc, .slice sA ns sc, .slice zA zn zc, .slice (some ⟨b, off, none⟩) cn cc, .slice wA wn wc] g #[.int .i64 W, .int .i64 H, .slice A1 nd z1, .slice A2 nt z2, .slice A3 ns z3, .slice A5 zn c5, .slice vA' (k + 1) vc', .slice A9 wn c9] (w10.setCell ⟨g, 6, none⟩ (.slice vA' (k + 1) vc')) from HC10.out.set hg2 6 (.slice vA' (k + 1) vc'))
    have HO11 := Lib.hid (HC10.out.own HO10.out (by decide) 6 (.slice vA' (k + 1) vc'))
    have HO12 := Lib.hid (HC10.out.own HO9.out (by decide) 6 (.slice vA' (k + 1) vc'))
    have HR11 := Lib.hid (fun i hi => HC10.out.own (HR10.out i hi) (by decide) 6 (.slice vA' (k + 1) vc'))
    have HQ11 := Lib.hid (show (Own (w10.setCell ⟨g, 6, none⟩ (.slice vA' (k + 1) vc')) w.heap.size 3 1 (.slice A1 nd z1) nd (ints dep) ∧ Own (w10.setCell ⟨g, 6, none⟩ (.slice vA' (k + 1) vc')) w.heap.size 42 2 (.slice A2 nt z2) nt (ints2 tide) ∧ Own (w10.setCell ⟨g, 6, none⟩ (.slice vA' (k + 1) vc')) w.heap.size 3 1 (.slice A3 ns z3) ns (ints sw) ∧ Own (w10.setCell ⟨g, 6, none⟩ (.slice vA' (k + 1) vc')) w.heap.size 3 1 (.slice A5 zn c5) zn (ints z) ∧ Own (w10.setCell ⟨g, 6, none⟩ (.slice vA' (k + 1) vc')) w.heap.size 142 3 (.slice A9 wn c9) wn (ints2 wd)) from ⟨HC10.out.own HQ10.out.1 (by decide) 6 (.slice vA' (k + 1) vc'), HC10.out.own HQ10.out.2.1 (by decide) 6 (.slice vA' (k + 1) vc'), HC10.out.own HQ10.out.2.2.1 (by decide) 6 (.slice vA' (k + 1) vc'), HC10.out.own HQ10.out.2.2.2.1 (by decide) 6 (.slice vA' (k + 1) vc'), HC10.out.own HQ10.out.2.2.2.2 (by decide) 6 (.slice vA' (k + 1) vc')⟩)
    generalize (w10.setCell ⟨g, 6, none⟩ (.slice vA' (k + 1) vc')) = wf at HC11 HO11 HO12 HR11 HQ11 ⊢
    go_wp2_with fail
    go_roundw
    case rel =>
     refine ⟨k + 1, _, (fun i => if i = k then .slice A8 m c8 else R i), by omega, by go_num, HC11, HO11, Lib.hid fun i hi => ?_, HQ11, HDN⟩
     by_cases e : i = k
     ·
      subst e
      simp only [if_true]
      rw [HMK.out]
      exact HO12.out
     ·
      simp only [if_neg e]
      exact HR11.out i (by omega)
    case measure => simp [intOf]; omega
   ·
    obtain rfl : k = cn := by omega
    obtain ⟨g0, g1, g2, g3, g4, g5, g6, g7⟩ := HC.out.g.c8
    obtain ⟨y0, y1, y2, y3, y4, y5, y6, y7⟩ := HC.out.z.c8
    have z0' := HC.out.z.frz 0
    have z1' := HC.out.z.frz 1
    have z2' := HC.out.z.frz 2
    have z3' := HC.out.z.frz 3
    have z4' := HC.out.z.frz 4
    have z5' := HC.out.z.frz 5
    have z6' := HC.out.z.frz 6
    have z7' := HC.out.z.frz 7
    have k6 := HC.out.k.cell 6
    go_wp2_with fail
    have hgr : wr.grownBy ((((((((wr.setCell ⟨w.heap.size + 1, 0, none⟩ (.int .i64 W)).setCell ⟨w.heap.size + 1, 1, none⟩ (.int .i64 H)).setCell ⟨w.heap.size + 1, 2, none⟩ (.slice A1 nd z1)).setCell ⟨w.heap.size + 1, 3, none⟩ (.slice A2 nt z2)).setCell ⟨w.heap.size + 1, 4, none⟩ (.slice A3 ns z3)).setCell ⟨w.heap.size + 1, 5, none⟩ (.slice A5 zn c5)).setCell ⟨w.heap.size + 1, 6, none⟩ (.slice vA k vc)).setCell ⟨w.heap.size + 1, 7, none⟩ (.slice A9 wn c9)) (some (w.heap.size + 1)) := gset (gset (gset (gset (gset (gset (gset (gset (World.grownBy.refl _ _))))))))
    have RZ : Blk ((((((((wr.setCell ⟨w.heap.size + 1, 0, none⟩ (.int .i64 W)).setCell ⟨w.heap.size + 1, 1, none⟩ (.int .i64 H)).setCell ⟨w.heap.size + 1, 2, none⟩ (.slice A1 nd z1)).setCell ⟨w.heap.size + 1, 3, none⟩ (.slice A2 nt z2)).setCell ⟨w.heap.size + 1, 4, none⟩ (.slice A3 ns z3)).setCell ⟨w.heap.size + 1, 5, none⟩ (.slice A5 zn c5)).setCell ⟨w.heap.size + 1, 6, none⟩ (.slice vA k vc)).setCell ⟨w.heap.size + 1, 7, none⟩ (.slice A9 wn c9)) (w.heap.size + 1) 29 #[.int .i64 W, .int .i64 H, .slice A1 nd z1, .slice A2 nt z2, .slice A3 ns z3, .slice A5 zn c5, .slice vA k vc, .slice A9 wn c9] := (((((((HC.out.z.set_ 0 _).set_ 1 _).set_ 2 _).set_ 3 _).set_ 4 _).set_ 5 _).set_ 6 _).set_ 7 _
    refine bodyPost_ret (results_cell_row rfl _ _ (w.heap.size + 1) 29 #[.int .i64 W, .int .i64 H, .slice A1 nd z1, .slice A2 nt z2, .slice A3 ns z3, .slice A5 zn c5, .slice vA k vc, .slice A9 wn c9] (0, 0) _ rfl RZ Tryz.underlying29 rfl drift_size) rfl ⟨⟨A1, z1, A2, z2, A3, z3, A5, c5, vA, vc, A9, c9, rfl, R, ⟨(HQ.out.1).grown hgr (.inr (Own.ne_blk HQ.out.1 HC.out.z (by decide))), (HQ.out.2.1).grown hgr (.inr (Own.ne_blk HQ.out.2.1 HC.out.z (by decide))), (HQ.out.2.2.1).grown hgr (.inr (Own.ne_blk HQ.out.2.2.1 HC.out.z (by decide))), (HQ.out.2.2.2.1).grown hgr (.inr (Own.ne_blk HQ.out.2.2.2.1 HC.out.z (by decide))), (HV.out).grown hgr (.inr (Own.ne_blk HV.out HC.out.z (by decide))), fun i hi => (HR.out i hi).grown hgr (.inr (Own.ne_blk (HR.out i hi) HC.out.z (by decide))), (HQ.out.2.2.2.2).grown hgr (.inr (Own.ne_blk HQ.out.2.2.2.2 HC.out.z (by decide))), HD.out⟩⟩, HC.out.b.grown hgr HC.out.b.size fun r e => by cases e; omega⟩
end
end Go.Proofs.YtnbeembnnjdmdaaGreatDoor
