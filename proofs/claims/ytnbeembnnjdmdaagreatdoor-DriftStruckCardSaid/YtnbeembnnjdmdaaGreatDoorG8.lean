/- The reference's copy of sightings. -/
import Derived.Test.YtnbeembnnjdmdaaGreatDoorG4
import Derived.Test.YtnbeembnnjdmdaaGreatDoorD27
import Derived.Test.YtnbeembnnjdmdaaGreatDoorE9
namespace Go.Proofs.YtnbeembnnjdmdaaGreatDoor
open Go.RowKit

/-- a sighting, its cells given -/
def sgRow (x : SgV) (u : Value) : Nat → Value := fun j => if j = 0 then .int .i64 x.tk else if j = 1 then u else .bool x.seen
def sgVV (X : Nat → SgV) (V : Nat → Value) : Nat → Nat → Value := fun i => sgRow (X i) (V i)
theorem sgRow_one (x : SgV) (A : Option Addr) (n c j : Nat) : (sgRow x (.slice A n c) j).oneCell' = true := by
  unfold sgRow
  split
  · rfl
  · split <;> rfl
theorem sgVV_upd (X : Nat → SgV) (V : Nat → Value) (n : Nat) (x : SgV) (u : Value) : upd (sgVV X V) n (sgRow x u) = sgVV (fun i => if i = n then x else X i) (fun i => if i = n then u else V i) := by
  funext i
  unfold upd sgVV
  by_cases e : i = n
  · simp only [e, if_true]
  · simp only [if_neg e]
/-- the same sighting, its cells elsewhere -/
def SgV.at_ (x : SgV) (u : Value) : SgV := match u with
  | .slice A _ c => ⟨x.tk, A, c, x.L, x.seen⟩
  | _ => x
theorem SgV.at_sg (x : SgV) (u : Value) : (x.at_ u).sg = x.sg := by unfold SgV.at_; split <;> rfl
theorem SgV.at_tk (x : SgV) (u : Value) : (x.at_ u).tk = x.tk := by unfold SgV.at_; split <;> rfl
theorem SgV.at_L (x : SgV) (u : Value) : (x.at_ u).L = x.L := by unfold SgV.at_; split <;> rfl
theorem SgV.at_seen (x : SgV) (u : Value) : (x.at_ u).seen = x.seen := by unfold SgV.at_; split <;> rfl
/-- sightings that a call has made, each with cells that it has made -/
def CS (W : World) (base : Nat) (v : Value) (n : Nat) (X : Nat → SgV) : Prop := ∃ V, Own W base 68 3 v n (sgVV X V) ∧ ∀ i, i < n → IL W base (V i) (X i).L
section
variable {W W' : World} {base n : Nat} {v : Value} {X : Nat → SgV}
theorem CS.below (h : CS W base v n X) (hb : Below W.heap.size W W') : CS W' base v n X := by
  obtain ⟨V, h1, h2⟩ := h
  exact ⟨V, h1.below hb, fun i hi => Own.below (h2 i hi) hb⟩
theorem CS.nil_ : CS W base (.slice none 0 0) 0 X := ⟨fun _ => .slice none 0 0, Own.nil_, fun i hi => absurd hi (by omega)⟩
theorem CS.form (h : CS W base v n X) : ∃ A c, v = .slice A n c := by
  obtain ⟨V, h1, _⟩ := h
  exact h1.form
theorem CS.less {base' : Nat} (h : CS W base v n X) (hb : base' ≤ base) : CS W base' v n X := by
  obtain ⟨V, h1, h2⟩ := h
  exact ⟨V, h1.less hb, fun i hi => Own.less (h2 i hi) hb⟩
theorem CS.congr {X' : Nat → SgV} (h : CS W base v n X) (hX : ∀ i, i < n → X i = X' i) : CS W base v n X' := by
  obtain ⟨V, h1, h2⟩ := h
  refine ⟨V, h1.congr fun i j hi _ => ?_, fun i hi => ?_⟩
  · unfold sgVV; rw [hX i hi]
  · rw [← hX i hi]; exact h2 i hi
theorem CS.rd {A : Option Addr} {c : Nat} (h : CS W base (.slice A n c) n X) (hl : ∀ i, i < n → (X i).L.length ≤ maxLen) : ∃ V : Nat → Value, RdS W W.heap.size A n fun i => (X i).at_ (V i) := by
  obtain ⟨V, h1, h2⟩ := h
  refine ⟨V, ?_⟩
  rcases Nat.eq_zero_or_pos n with h0 | h0
  · exact .inl h0
  · obtain ⟨g, c', e⟩ := Own.nz h1 h0
    cases e
    refine .inr ⟨g, 0, rfl, (Own.block h1 rfl).2, fun i hi => ?_⟩
    have c0 := Own.cell h1 hi (show 0 < 3 by omega)
    have c1 := Own.cell h1 hi (show 1 < 3 by omega)
    have c2 := Own.cell h1 hi (show 2 < 3 by omega)
    have hi2 := h2 i hi
    obtain ⟨A', c', e⟩ := Own.form hi2
    dsimp only
    rw [SgV.at_tk, SgV.at_L, SgV.at_seen]
    have e' : (X i).at_ (V i) = ⟨(X i).tk, A', c', (X i).L, (X i).seen⟩ := by rw [e]; rfl
    rw [e']
    have hrd := Own.rd1' (show Own W base 3 1 (.slice A' (X i).L.length c') (X i).L.length (ints fun j => (X i).L.getD j 0) from by rw [← e]; exact hi2)
    refine ⟨⟨?_, ?_, ?_⟩, hrd, hl i hi⟩
    · rw [Nat.zero_add]; exact c0
    · rw [Nat.zero_add, ← e]; exact c1
    · rw [Nat.zero_add]; exact c2
/-- behind the append of one more -/
theorem CS.app {v' u : Value} {x : SgV} {V : Nat → Value} (h1 : Own W base 68 3 v n (sgVV X V)) (h2 : ∀ i, i < n → IL W base (V i) (X i).L) (hu : IL W base u x.L) (hg : W.grownBy W' v.ownBlock)
    (ho : Own W' base 68 3 v' (n + 1) (upd (sgVV X V) n (sgRow x u))) : CS W' base v' (n + 1) (fun i => if i = n then x else X i) := by
  refine ⟨fun i => if i = n then u else V i, by rw [← sgVV_upd]; exact ho, fun i hi => ?_⟩
  by_cases e : i = n
  · subst e
    simp only [if_true]
    exact Own.apart_grown hu (h1.apart_type hu (by decide)) hg
  · simp only [if_neg e]
    have h3 := h2 i (by omega)
    exact Own.apart_grown h3 (h1.apart_type h3 (by decide)) hg
end
theorem sg_tmp (W : World) (x : SgV) (u : Value) : ∀ j, j < 3 → (W.alloc (.cells #[.int .i64 x.tk, u, .bool x.seen] 68)).cell? ⟨W.heap.size, j, none⟩ = some (sgRow x u j) := by
  intro j hj
  refine ((Blk.new W 68 #[.int .i64 x.tk, u, .bool x.seen]).cell j).trans ?_
  obtain rfl | rfl | rfl : j = 0 ∨ j = 1 ∨ j = 2 := by omega
  all_goals rfl
theorem rd_v {w : World} {B : Nat} {A : Option Addr} {L : List Int} (h : Rd1 w B A L.length (fun k => L.getD k 0)) : RdV w B A 1 L.length (ints fun k => L.getD k 0) := by
  rcases h with h | ⟨b, off, e, hb, hc⟩
  · exact .inl h
  · refine .inr ⟨b, off, e, hb, fun i j hi hj => ?_⟩
    obtain rfl : j = 0 := by omega
    rw [Nat.mul_one, Nat.add_zero]
    exact hc i hi
section
variable (lA : Option Addr) (ln lc B : Nat) (X : Nat → SgV) (w : World)
set_option maxRecDepth 100000 in
set_option maxHeartbeats 6400000 in
theorem rcopyseen_any (hL : RdS w B lA ln X) (hB : B ≤ w.heap.size) (hln : ln ≤ 1048576) (hcn : ∀ i, i < ln → (X i).L.length ≤ 1048576) :
    Calls Tryz.prog 22 #[.slice lA ln lc] w fun e w' => (∃ v, e = .returned v ∧ CS w' w.heap.size v ln X) ∧ Below w.heap.size w w' := by
  have HLR := Lib.hid (fun V (hb : Below w.heap.size w V) => hL.below (hb.mono hB))
  have HBB := Lib.hid hB
  obtain ⟨i0, ji, jz0, jz1, jz2⟩ := info_parts int_info
  have MI := Lib.hid (And.intro ji (And.intro jz0 (And.intro jz1 jz2)))
  obtain ⟨j0, ki, kz0, kz1, kz2⟩ := info_parts sg_info
  have MJ := Lib.hid (And.intro ki (And.intro kz0 (And.intro kz1 kz2)))
  have HCM := Lib.hid hcn
  clear ji jz0 jz1 jz2 ki kz0 kz1 kz2 hB hL hcn
  go_enter Tryz.func22, Tryz.ntmps22
  go_wp2_with fail
  go_loopw [3, 4] (fun v i wr => ∃ k : Nat, k ≤ ln ∧ i = .int .i64 (k : Int) ∧ CS wr w.heap.size v k X ∧ Below w.heap.size w wr) (fun _ i _ => ln - (intOf i).toNat)
  case atStart => exact ⟨0, Nat.zero_le _, rfl, CS.nil_, Below.refl _ _⟩
  case round =>
    obtain ⟨k, hk, rfl, hc, hbw⟩ := hrel
    obtain ⟨V, ho, hcl⟩ := hc
    obtain ⟨oA, oc, rfl⟩ := ho.form
    have HO := Lib.hid ho
    have HCl := Lib.hid hcl
    have HW := Lib.hid hbw
    have hz := hbw.size
    clear ho hcl hbw
    by_cases hlt : k < ln
    · obtain ⟨b, off, rfl, hb, g0, g1, g2, hcr, _⟩ := (HLR.out wr HW.out).at_ hlt
      have kx : decide (ln ≤ k) = false := decide_eq_false (by omega)
      have HCR := Lib.hid hcr
      have HCN := Lib.hid (HCM.out k hlt)
      obtain ⟨l, hl⟩ : ∃ l, l = X k := ⟨_, rfl⟩
      have HLK := Lib.hid hl
      rw [← hl] at g0 g1 g2 HCR HCN
      clear hl hcr
      have HA1 := Lib.hid (belowAlloc wr (.cells #[.int .i64 l.tk, .slice l.A l.L.length l.c, .bool l.seen] 68))
      have D1 := Lib.hid (Blk.new wr 68 #[.int .i64 l.tk, .slice l.A l.L.length l.c, .bool l.seen])
      go_upto_region 6 with fail
      clear g0 g1 g2
      obtain ⟨P, hP⟩ : ∃ P, P = wr.heap.size := ⟨_, rfl⟩
      rw [← hP] at D1
      rw [← hP]
      have HPW := Lib.hid hP
      clear hP
      generalize wr.alloc (.cells #[.int .i64 l.tk, .slice l.A l.L.length l.c, .bool l.seen] 68) = X1 at HA1 D1 ⊢
      have HW1 := Lib.hid (HW.out.trans (HA1.out.mono hz))
      have hz1 := HA1.out.size
      have hPl := D1.out.lt
      have d1 := D1.out.cell 1
      go_upto_region 7 with (at_builtin; go_must (refine wpList_copy rfl (.tmp 16) (.tmp 18) 22 rfl 3 i0 _ 1 8 Tryz.underlying22 MI.out.1 MI.out.2.1 MI.out.2.2.1 MI.out.2.2.2 rfl (by decide) (by decide) (g := X1.heap.size) rfl (Blk.new X1 3 #[]) (fun _ _ => rfl) rfl (((rd_v (HCR.out.below (HA1.out.mono (Nat.le_trans HBB.out hz)))).below ((belowAlloc X1 _).mono (Nat.le_trans HBB.out (Nat.le_trans hz hz1))))) HCN.out ?_); intro A7 z7 w7 o7 hb7; have O7 := Lib.hid o7; have HB7 := Lib.hid ((belowAlloc X1 (.cells #[] 3)).trans (hb7.mono (by simp))); have D7 := Lib.hid (D1.out.below' HB7.out); clear o7 hb7 d1; have d1 := D7.out.cell 1; have f1 := D7.out.frz 1)
      clear d1 f1
      have D8 := Lib.hid (show Blk (w7.setCell ⟨P, 1, none⟩ (.slice A7 l.L.length z7)) P 68 #[.int .i64 l.tk, .slice A7 l.L.length z7, .bool l.seen] from D7.out.set_ 1 (.slice A7 l.L.length z7))
      have HS7 := Lib.hid (fun (b t' m' n' : Nat) (v' : Value) (F' : Nat → Nat → Value) (ho : Own wr b t' m' v' n' F') => (show Own (w7.setCell ⟨P, 1, none⟩ (.slice A7 l.L.length z7)) b t' m' v' n' F' from ((ho.below HA1.out).below HB7.out).setCell (p := ⟨P, 1, none⟩) (fun hh => by have h1 : P < wr.heap.size := (ho.block hh).2; have := HPW.out; omega) (.slice A7 l.L.length z7)))
      have O8 := Lib.hid (HS7.out _ _ _ _ _ _ HO.out)
      have C8 := Lib.hid (fun i (hi : i < k) => (show IL _ _ _ _ from HS7.out _ _ _ _ _ _ (HCl.out i hi)))
      have U8 := Lib.hid (show IL (w7.setCell ⟨P, 1, none⟩ (.slice A7 l.L.length z7)) w.heap.size (.slice A7 l.L.length z7) l.L from (O7.out.less (show w.heap.size ≤ X1.heap.size from Nat.le_trans hz hz1)).setCell (p := ⟨P, 1, none⟩) (fun hh => by have h1 : X1.heap.size ≤ P := (O7.out.block hh).1; omega) (.slice A7 l.L.length z7))
      have HW8 := Lib.hid ((HW1.out.trans (HB7.out.mono HW1.out.size)).setCell (p := ⟨P, 1, none⟩) (by show w.heap.size ≤ P; rw [HPW.out]; exact hz) (.slice A7 l.L.length z7))
      generalize w7.setCell ⟨P, 1, none⟩ (.slice A7 l.L.length z7) = Y8 at D8 O8 C8 U8 HW8 ⊢
      clear HS7 D7 D1 O7 HB7
      have d0 := D8.out.cell 0
      have d1 := D8.out.cell 1
      have d2 := D8.out.cell 2
      have hz8 := HW8.out.size
      go_wp2_with (at_builtin; go_must (refine wpList_app rfl (.tmp 21) (.tmp 23) 45 rfl w.heap.size 68 3 40 Tryz.underlying45 MJ.out.1 MJ.out.2.1 MJ.out.2.2.1 MJ.out.2.2.2 rfl (by decide) (by decide) (O8.out.alloc _) rfl (by omega) (by simp; omega) Y8.heap.size 1 (sgRow l (.slice A7 l.L.length z7)) rfl (sg_tmp Y8 l (.slice A7 l.L.length z7)) (fun j _ => sgRow_one l _ _ _ j) ?_); intro v8 w8 o8 hg8 hat8; have HO8 := Lib.hid o8; have HG8 := Lib.hid hg8; clear o8 hg8 hat8)
      go_roundw
      case rel =>
        refine ⟨k + 1, by omega, by go_num, (CS.app (O8.out.alloc _) (fun i hi => Own.alloc (C8.out i hi) _) (x := l) (Own.alloc U8.out _) HG8.out HO8.out).congr fun i hi => ?_, (HW8.out.alloc hz8 _).grown HG8.out (by simp; omega) (fun g hg => (O8.out.block hg).1)⟩
        by_cases e : i = k
        · subst e; rw [if_pos rfl]; exact HLK.out
        · rw [if_neg e]
      case measure => simp [intOf]; omega
    · obtain rfl : k = ln := by omega
      go_wp2_with fail
      go_ret
      exact ⟨⟨_, rfl, V, HO.out, HCl.out⟩, HW.out⟩
end
end Go.Proofs.YtnbeembnnjdmdaaGreatDoor
