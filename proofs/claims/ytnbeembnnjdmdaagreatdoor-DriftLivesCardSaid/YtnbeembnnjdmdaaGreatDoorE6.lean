/- The reference of layer 2: none, and the marks of a tick of drift. -/
import Derived.Test.YtnbeembnnjdmdaaGreatDoorE1
import Derived.Test.YtnbeembnnjdmdaaGreatDoorBase
import Derived.Test.YtnbeembnnjdmdaaGreatDoorLaA
import Derived.OwnWalk
import Derived.Test.YtnbeembnnjdmdaaGreatDoorD19
namespace Go.Proofs.YtnbeembnnjdmdaaGreatDoor
open Go.RowKit

def Mks (W : World) (base g nd : Nat) (p : Nat → Bool) : Prop := Own W base 4 1 (.slice (some ⟨g, 0, none⟩) (nd + 1) (nd + 1)) (nd + 1) (bools p)
section
variable {W W' : World} {base g nd : Nat} {p q : Nat → Bool}
theorem Mks.below (h : Mks W base g nd p) (hb : Below W.heap.size W W') : Mks W' base g nd p := Own.below h hb
theorem Mks.congr (h : Mks W base g nd p) (hp : ∀ i, i < nd + 1 → p i = q i) : Mks W base g nd q := Own.congr h fun i _ hi _ => by show Value.bool (p i) = Value.bool (q i); rw [hp i hi]
theorem Mks.cell (h : Mks W base g nd p) {i : Nat} (hi : i < nd + 1) : W.cell? ⟨g, i, none⟩ = some (.bool (p i)) := Own.cell1 h hi
theorem Mks.frz (h : Mks W base g nd p) (i : Nat) : W.frozen? ⟨g, i, none⟩ = false := Own.frz h i
theorem Mks.set (h : Mks W base g nd p) (k : Nat) : Mks (W.setCell ⟨g, k, none⟩ (.bool true)) base g nd (fun i => p i || decide (i = k)) := by
 refine Own.congr (Own.set1 h k (.bool true)) fun i j _ _ => ?_
 unfold upd
 by_cases e : i = k
 · rw [if_pos e]; simp [e]
 · rw [if_neg e]; simp [e]
theorem Mks.blk (h : Mks W base g nd p) : base ≤ g ∧ g < W.heap.size := Own.block h rfl
end
section
variable {W H : Int} {dA tA sA zA cA wA : Option Addr} {nd dc nt tc ns sc zn zc cn cc wn wc : Nat} {w : World}
set_option maxRecDepth 100000 in
set_option maxHeartbeats 3200000 in
theorem rnone_any (hnd : nd ≤ 1000000) :
  Calls Tryz.prog 71 #[.agg #[.int .i64 W, .int .i64 H, .slice dA nd dc, .slice tA nt tc, .slice sA ns sc, .slice zA zn zc, .slice cA cn cc, .slice wA wn wc]] w fun e w' => e = .returned (.slice (some ⟨w.heap.size + 1, 0, none⟩) (nd + 1) (nd + 1)) ∧ Mks w' (w.heap.size + 1) (w.heap.size + 1) nd (fun _ => false) ∧ Below w.heap.size w w' := by
 have HB0 := Lib.hid (belowAlloc w (.cells #[.int .i64 W, .int .i64 H, .slice dA nd dc, .slice tA nt tc, .slice sA ns sc, .slice zA zn zc, .slice cA cn cc, .slice wA wn wc] 29))
 have K0 := Lib.hid (Blk.new w 29 #[.int .i64 W, .int .i64 H, .slice dA nd dc, .slice tA nt tc, .slice sA ns sc, .slice zA zn zc, .slice cA cn cc, .slice wA wn wc])
 obtain ⟨i0, ji, jz0, jz1, jz2⟩ := info_parts bool_info
 have MI := Lib.hid (And.intro ji (And.intro jz0 (And.intro jz1 jz2)))
 have hsz : (w.alloc (.cells #[.int .i64 W, .int .i64 H, .slice dA nd dc, .slice tA nt tc, .slice sA ns sc, .slice zA zn zc, .slice cA cn cc, .slice wA wn wc] 29)).heap.size = w.heap.size + 1 := by simp
 clear ji jz0 jz1 jz2
 go_enter Tryz.func71, Tryz.ntmps71
 go_upto_region 1 with fail
 generalize w.alloc (.cells #[.int .i64 W, .int .i64 H, .slice dA nd dc, .slice tA nt tc, .slice sA ns sc, .slice zA zn zc, .slice cA cn cc, .slice wA wn wc] 29) = Y at HB0 K0 hsz ⊢
 have k2 := K0.out.cell 2
 have HSZ := Lib.hid hsz
 clear hsz
 go_wp2_with (at_make; refine wpList_make_full _ rfl (.tmp 7) (.tmp 7) 100 rfl Y.heap.size 4 i0 (.bool false) 1 Tryz.underlying100 MI.out.1 MI.out.2.1 MI.out.2.2.1 .i64 .i64 ((nd : Int) + 1) ((nd : Int) + 1) (nd + 1) rfl rfl (by omega) (by omega) (by rw [MI.out.2.2.2]; omega) (by unfold maxLen; omega) (Nat.le_refl _) ?_; intro w3 hm hg3; have HM3 := Lib.hid (own_made hm); have HG3 := Lib.hid (grown_below hg3); clear hm hg3)
 go_ret
 have hs := HSZ.out
 rw [hs] at HM3
 exact ⟨by rw [hs]; rfl, HM3.out, HB0.out.trans (HG3.out.mono (by omega))⟩
end
end Go.Proofs.YtnbeembnnjdmdaaGreatDoor
/- The reference of layer 2: what step's loops carry. -/
namespace Go.Proofs.YtnbeembnnjdmdaaGreatDoor
open Go.RowKit

namespace M
def stF (d : Dr) (t : Nat) (l h : Int) (c a : Nat) (n : Int) (i : Nat) : Bool := if pushN d.s t h a n.toNat c < 0 then ((i : Int) - 1 == -1) else pushT d.s (d.wd t) t h (fun f => f * l / 4) (pushN d.s t h a n.toNat c).toNat ((i : Int) - 1)
def stA (d : Dr) (t : Nat) (l h : Int) (c i a : Nat) : Bool := bitB (d.cu (d.z c).toNat t 0) a && spanTo (d.cu (d.z c).toNat t 1) (d.cu (d.z c).toNat t 2) fun n => stF d t l h c a n i
def stG (d : Dr) (t : Nat) (l h : Int) (m i b : Nat) : Bool := bitB (d.wd t 0) b && spanTo (d.wd t 1) (d.wd t 2) fun f => pushN d.s t h b (f * l / 4).toNat m == (i : Int) - 1
theorem stepH_A {d : Dr} {t : Nat} {l h : Int} {c i : Nat} (hw : dryB d.s c t h = false) : stepH d t l h c ((i : Int) - 1) = anyTo 6 (stA d t l h c i) := by
 unfold stepH
 rw [hw, if_neg (by simp)]
 rfl
theorem stF_out {d : Dr} {t : Nat} {l h : Int} {c a i : Nat} {n : Int} (hn : pushN d.s t h a n.toNat c < 0) : stF d t l h c a n i = decide (i = 0) := by
 unfold stF
 rw [if_pos hn, Bool.eq_iff_iff, beq_iff_eq, decide_eq_true_eq]
 omega
theorem stF_in {d : Dr} {t : Nat} {l h : Int} {c a i m : Nat} {n : Int} (hn : pushN d.s t h a n.toNat c = (m : Int)) : stF d t l h c a n i = anyTo 6 (stG d t l h m i) := by
 unfold stF
 rw [if_neg (by omega), hn, Int.toNat_natCast]
 rfl
theorem dec_beq (i : Nat) (x : Int) (k : Nat) (h : x = (k : Int) - 1) : (x == (i : Int) - 1) = decide (i = k) := by
 rw [Bool.eq_iff_iff, beq_iff_eq, decide_eq_true_eq]
 omega
end M
structure RS (d : M.Dr) (zA cA wA dA tA sA : Option Addr) (dc tc sc zc cc wc : Nat) (w : World) (W : World) (p : Nat → Bool) : Prop where
 m : Mks W (w.heap.size + 2) (w.heap.size + 2) d.s.nd p
 b : Below w.heap.size w W
 k : Blk W w.heap.size 29 #[.int .i64 (d.s.W : Int), .int .i64 (d.s.H : Int), .slice dA d.s.nd dc, .slice tA d.s.nt tc, .slice sA d.s.nt sc, .slice zA d.s.nd zc, .slice cA d.nz cc, .slice wA (d.s.nt - 1) wc]
section
variable {d : M.Dr} {zA cA wA dA tA sA : Option Addr} {dc tc sc zc cc wc : Nat} {w W W' : World} {p q : Nat → Bool}
theorem RS.below (h : RS d zA cA wA dA tA sA dc tc sc zc cc wc w W p) (hb : Below W.heap.size W W') : RS d zA cA wA dA tA sA dc tc sc zc cc wc w W' p := ⟨h.m.below hb, h.b.trans (hb.mono h.b.size), h.k.below' hb⟩
theorem RS.set (h : RS d zA cA wA dA tA sA dc tc sc zc cc wc w W p) (k : Nat) : RS d zA cA wA dA tA sA dc tc sc zc cc wc w (W.setCell ⟨w.heap.size + 2, k, none⟩ (.bool true)) (fun i => p i || decide (i = k)) :=
 ⟨h.m.set k, h.b.setCell (p := ⟨w.heap.size + 2, k, none⟩) (by simp) _, h.k.far (p := ⟨w.heap.size + 2, k, none⟩) (by show w.heap.size ≠ w.heap.size + 2; omega) _⟩
end
structure RT (d : M.Dr) (zA cA wA dA tA sA : Option Addr) (dc tc sc zc cc wc : Nat) (w : World) (c0 c1 c2 w0 w1 w2 : Int) (x y : Nat) (W : World) (p : Nat → Bool) : Prop where
 s : RS d zA cA wA dA tA sA dc tc sc zc cc wc w W p
 x : Blk W x 142 #[.int .i64 c0, .int .i64 c1, .int .i64 c2]
 y : Blk W y 142 #[.int .i64 w0, .int .i64 w1, .int .i64 w2]
section
variable {d : M.Dr} {zA cA wA dA tA sA : Option Addr} {dc tc sc zc cc wc : Nat} {w W W' : World} {p q : Nat → Bool} {c0 c1 c2 w0 w1 w2 : Int} {x y : Nat}
theorem RT.below (h : RT d zA cA wA dA tA sA dc tc sc zc cc wc w c0 c1 c2 w0 w1 w2 x y W p) (hb : Below W.heap.size W W') : RT d zA cA wA dA tA sA dc tc sc zc cc wc w c0 c1 c2 w0 w1 w2 x y W' p := ⟨h.s.below hb, h.x.below' hb, h.y.below' hb⟩
theorem RT.set (h : RT d zA cA wA dA tA sA dc tc sc zc cc wc w c0 c1 c2 w0 w1 w2 x y W p) (k : Nat) : RT d zA cA wA dA tA sA dc tc sc zc cc wc w c0 c1 c2 w0 w1 w2 x y (W.setCell ⟨w.heap.size + 2, k, none⟩ (.bool true)) (fun i => p i || decide (i = k)) := by
 have hne : ∀ z, Blk W z 142 #[.int .i64 c0, .int .i64 c1, .int .i64 c2] ∨ Blk W z 142 #[.int .i64 w0, .int .i64 w1, .int .i64 w2] → z ≠ w.heap.size + 2 := fun z hz e => by
  subst e
  rcases hz with hz | hz
  · exact Own.ne_blk h.s.m hz (by decide) rfl
  · exact Own.ne_blk h.s.m hz (by decide) rfl
 exact ⟨h.s.set k, h.x.far (p := ⟨w.heap.size + 2, k, none⟩) (hne x (.inl h.x)) _, h.y.far (p := ⟨w.heap.size + 2, k, none⟩) (hne y (.inr h.y)) _⟩
end
theorem bit_one {x : Int} {a : Nat} (h : M.bitB x a = true) : bits .and .i64 (x / 2 ^ a) 1 = 1 := by
 rw [toNat_i64_and_one]
 have h9 : (x / 2 ^ a % 2 == 1) = true := h
 exact beq_iff_eq.1 h9
theorem bit_zero {x : Int} {a : Nat} (h : M.bitB x a = false) : bits .and .i64 (x / 2 ^ a) 1 = 0 := by
 rw [toNat_i64_and_one]
 have h9 : (x / 2 ^ a % 2 == 1) = false := h
 have := beq_eq_false_iff_ne.1 h9
 omega
theorem fl_facts (f l : Nat) (hf : f ≤ 3) (hl : l ≤ 8) : ∃ kf : Nat, (f : Int) * (l : Int) / 4 = (kf : Int) ∧ kf ≤ 6 ∧ wrap64 ((f : Int) * (l : Int)) = (f : Int) * (l : Int) ∧ IntKind.i64.wrap ((f : Int) * (l : Int)) = (f : Int) * (l : Int) ∧ wrap64 (((f : Int) * (l : Int)).tdiv 4) = (kf : Int) ∧ IntKind.i64.wrap (((f : Int) * (l : Int)).tdiv 4) = (kf : Int) := by
 have h0 : 0 ≤ (f : Int) * (l : Int) := Int.mul_nonneg (by omega) (by omega)
 have h1 : (f : Int) * (l : Int) ≤ 3 * 8 := Int.mul_le_mul (by omega) (by omega) (by omega) (by omega)
 obtain ⟨kf, hk⟩ : ∃ kf : Nat, (f : Int) * (l : Int) / 4 = (kf : Int) := ⟨((f : Int) * (l : Int) / 4).toNat, by omega⟩
 have h6 : kf ≤ 6 := by omega
 have ht : ((f : Int) * (l : Int)).tdiv 4 = (kf : Int) := by rw [Int.tdiv_eq_ediv_of_nonneg h0, hk]
 refine ⟨kf, hk, h6, IntWalk.wrap64_in _ (by omega), by rw [IntKind.wrap_i64]; omega, ?_, ?_⟩
 · rw [ht]; exact IntWalk.wrap64_in _ (by omega)
 · rw [ht, IntKind.wrap_i64]; omega
theorem fr_conv {a : Act} {w : World} {F : Nat → Nat → (Nat → Value) → Act} {R : Nat → Nat → World → Prop} (x y : Nat) (h : a = F x y (fun k => a.tmps.getD k undef)) (hR : R x y w) : Exit.normal = Exit.normal ∧ ∃ x y u, a = F x y u ∧ R x y w := ⟨rfl, x, y, _, h, hR⟩
end Go.Proofs.YtnbeembnnjdmdaaGreatDoor
