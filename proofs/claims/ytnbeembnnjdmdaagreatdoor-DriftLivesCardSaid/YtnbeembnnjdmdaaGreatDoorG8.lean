/- Appends of many: bounded by the bytes alone. -/
import Derived.Test.YtnbeembnnjdmdaaGreatDoorCp
import Derived.Test.YtnbeembnnjdmdaaGreatDoorG3
import Derived.Test.YtnbeembnnjdmdaaGreatDoorD27
import Derived.Test.YtnbeembnnjdmdaaGreatDoorE9
namespace Go.Proofs.YtnbeembnnjdmdaaGreatDoor
open Go.RowKit

section
variable {P : Program} {ops : Array Oper} {rest : List Oper} {o : Oper} {a : Act} {Q : Exit → Act → World → Prop}
theorem wpList_appB {W : World} (hgd : o.guard = none) (s x : Operand) (t : TypeId) (ho : o.op = .call { callee := .builtin .append, args := #[s, x], argTypes := #[t, t] })
  (base e m bytes : Nat) {i : TypeInfo} {z : Value} (ht : P.underlying t = some (.slice e)) (hi : P.info? e = some i) (hz : i.zero = some z) (hsize : i.size = m) (hby : i.bytes = bytes) (hzs : z.cells.size = m) (hsz : 0 < m) 
  {v : Value} {n : Nat} {F : Nat → Nat → Value} (hown : Own W base e m v n F) (hs : a.eval s = v) (hn : n ≤ 35184372088832) (hnb : (n + 1) * bytes ≤ 140737488355328) (hbase : base ≤ W.heap.size)
  (g c : Nat) (X : Nat → Value) (hx : a.eval x = .slice (some ⟨g, 0, none⟩) 1 c) (hX : ∀ j, j < m → W.cell? ⟨g, j, none⟩ = some (X j)) (h1 : ∀ j, j < m → (X j).oneCell' = true)
  (h : ∀ v' w', Own w' base e m v' (n + 1) (upd F n X) → W.grownBy w' v.ownBlock → (v'.ownBlock = v.ownBlock ∨ v'.ownBlock = some W.heap.size) → wpList P ops Q rest (a.put o.dst v') w') :
  wpList P ops Q (o :: rest) a W := by
 refine wpList_append_own_at W hgd s x t ho base e i z m bytes ht hi hz hsize hby hzs hsz v n (cellsOf n m F) hs hown ⟨g, 0, none⟩ 1 c ((List.range m).map X) hx (by simp) ?_ ?_ (by unfold maxLen; omega) (by omega) hbase ?_
 ·
  intro j u hj
  by_cases hjm : j < m
  ·
   simp [hjm] at hj
   subst hj
   have := hX j hjm
   unfold Addr.add
   split
   · subst_vars; exact this
   · simpa using this
  · simp [hjm] at hj
 ·
  intro u hu
  simp at hu
  obtain ⟨j, hj, rfl⟩ := hu
  exact h1 j hj
 ·
  intro v' w' h2 h3 _ h5
  exact h v' w' (by unfold Own; rw [← cellsOf_succ]; exact h2) h3 h5
end
section
variable {P : Program}
theorem run_copyB (w : World) (t ty e : TypeId) (i : TypeInfo) (z : Value) (m bytes : Nat) (ht : P.underlying t = some (.slice e)) (hi : P.info? e = some i) (hz : i.zero = some z)
  (hsize : i.size = m) (hby : i.bytes = bytes) (hzs : z.cells.size = m) (hsz : 0 < m) 
  {g : Nat} (hblk : Blk w g e #[]) {A : Option Addr} {n c B : Nat} {F : Nat → Nat → Value} (hF : ∀ i j, (F i j).oneCell' = true) (hR : RdV w B A m n F) (hn : n ≤ 35184372088832) (hnb : n * bytes ≤ 140737488355328) :
  ∃ v' w', (Builtin.append_ #[t, t] ty #[.slice (some ⟨g, 0, none⟩) 0 0, .slice A n c]).run P w = .ok v' w' ∧ Own w' g e m v' n (F) ∧ Below w.heap.size w w' := by
 have hg := hblk.lt
 have ho := own_empty (m := m) hblk (F)
 rcases Nat.eq_zero_or_pos n with rfl | hpos
 · exact ⟨_, _, run_append_none w t ty e i ht hi g c A, ho, Below.refl _ _⟩
 ·
  rcases hR with h0 | ⟨b, off, rfl, hb, hc⟩
  · omega
  ·
   have hl : (cellsOf n m (F)).length = n * m := length_cellsOf _ _ _
   have hnews : ∀ j u, (cellsOf n m (F))[j]? = some u → w.cell? ((⟨b, off, none⟩ : Addr).add j) = some u := by
    intro j u hj
    have hjl : j < n * m := by
     have := (List.getElem?_eq_some_iff.1 hj).1
     rwa [hl] at this
    have hd : j / m < n := Nat.div_lt_of_lt_mul (by rw [Nat.mul_comm]; exact hjl)
    have hmod := Nat.mod_lt j hsz
    have hq := hc (j / m) (j % m) hd hmod
    have hjj : j / m * m + j % m = j := by rw [Nat.mul_comm]; exact Nat.div_add_mod j m
    rw [hjj] at hq
    have hv := get_cellsOf (F := F) hd hmod
    rw [hjj, hj] at hv
    have hadd : (⟨b, off, none⟩ : Addr).add j = ⟨b, off + j, none⟩ := by unfold Addr.add; split <;> simp_all
    rw [hadd, hq, hv]
   have h1 : ∀ u ∈ cellsOf n m (F), u.oneCell' = true := by
    intro u hu
    simp [cellsOf] at hu
    obtain ⟨q, _, rfl⟩ := hu
    exact hF _ _
   have hbb : (0 + n) * bytes ≤ 140737488355328 := by rw [Nat.zero_add]; exact hnb
   obtain ⟨v', w', e1, e2, e3, _, e5⟩ := run_append_own_at (P := P) w g t ty e i z m bytes ht hi hz hsize hby hzs hsz _ 0 _ ho ⟨b, off, none⟩ n c _ hl hnews h1 (by unfold maxLen; omega) (by omega) (by omega)
   have er := run_append_grow (P := P) w t ty e i z ht hi hz ⟨g, 0, none⟩ 0 0 [] (by simp) (by simp) ⟨b, off, none⟩ n c (cellsOf n m (F)) (by rw [hsize]; exact hl) hnews (by omega) (by omega) (growslice_fits (by omega) (by rw [hby]; omega))
   rw [er] at e1
   injection e1 with e1 e6
   refine ⟨v', w', by rw [er, e1, e6], ?_, ?_⟩
   ·
    have : cellsOf 0 m (F) ++ cellsOf n m (F) = cellsOf n m (F) := by simp [cellsOf]
    rw [this, Nat.zero_add] at e2
    exact e2
   ·
    rw [← e6]
    exact (Below.refl _ _).drew.alloc (by simp) _

end
theorem wpList_copyB {P : Program} {ops : Array Oper} {rest : List Oper} {o : Oper} {a : Act} {Q : Exit → Act → World → Prop} {W : World} (hgd : o.guard = none) (s x : Operand) (t : TypeId) (ho : o.op = .call { callee := .builtin .append, args := #[s, x], argTypes := #[t, t] })
  (e : TypeId) (i : TypeInfo) (z : Value) (m bytes : Nat) (ht : P.underlying t = some (.slice e)) (hi : P.info? e = some i) (hz : i.zero = some z)
  (hsize : i.size = m) (hby : i.bytes = bytes) (hzs : z.cells.size = m) (hsz : 0 < m) 
  {g : Nat} (hs : a.eval s = .slice (some ⟨g, 0, none⟩) 0 0) (hblk : Blk W g e #[]) {A : Option Addr} {n c B : Nat} {F : Nat → Nat → Value} (hF : ∀ i j, (F i j).oneCell' = true) (hx : a.eval x = .slice A n c) (hR : RdV W B A m n F) (hn : n ≤ 35184372088832) (hnb : n * bytes ≤ 140737488355328)
  (h : ∀ A' c' w', Own w' g e m (.slice A' n c') n F → Below W.heap.size W w' → wpList P ops Q rest (a.put o.dst (.slice A' n c')) w') : wpList P ops Q (o :: rest) a W := by
 refine wpList_plain hgd fun K hK => ?_
 obtain ⟨v', w', hr, h2, h3⟩ := run_copyB (P := P) W t o.type e i z m bytes ht hi hz hsize hby hzs hsz hblk (c := c) hF hR hn hnb
 unfold Oper.wp execOp
 simp only [ho, resolve, invoke, builtin, Sem.run_bind, Sem.run_pure, Result.andThen_ok, List.map_toArray, List.map_cons, List.map_nil, hs, hx, hr]
 obtain ⟨A', c', rfl⟩ := h2.form
 exact hK _ _ (h A' c' w' h2 h3)
section
variable {P : Program}
end
end Go.Proofs.YtnbeembnnjdmdaaGreatDoor
/- The reference's copy of sightings. -/
namespace Go.Proofs.YtnbeembnnjdmdaaGreatDoor
open Go.RowKit

def sgRow (x : SgV) (u : Value) : Nat → Value := fun j => if j = 0 then .int .i64 x.tk else if j = 1 then u else .bool x.seen
def sgVV (X : Nat → SgV) (V : Nat → Value) : Nat → Nat → Value := fun i => sgRow (X i) (V i)
theorem sgRow_one (x : SgV) (A : Option Addr) (n c j : Nat) : (sgRow x (.slice A n c) j).oneCell' = true := by
 unfold sgRow
 split
 · rfl
 · split <;> rfl
theorem sgVV_upd (X : Nat → SgV) (V : Nat → Value) (n : Nat) (x : SgV) (u : Value) : upd (sgVV X V) n (sgRow x u) = sgVV (fun i => if i = n then x else X i) (fun i => if i = n then u else V i) := by
 funext i
 unfold upd sgVV
 by_cases e : i = n
 · simp only [e, if_true]
 · simp only [if_neg e]
def SgV.at_ (x : SgV) (u : Value) : SgV := match u with
 | .slice A _ c => ⟨x.tk, A, c, x.L, x.seen⟩
 | _ => x
theorem SgV.at_sg (x : SgV) (u : Value) : (x.at_ u).sg = x.sg := by unfold SgV.at_; split <;> rfl
theorem SgV.at_tk (x : SgV) (u : Value) : (x.at_ u).tk = x.tk := by unfold SgV.at_; split <;> rfl
theorem SgV.at_L (x : SgV) (u : Value) : (x.at_ u).L = x.L := by unfold SgV.at_; split <;> rfl
theorem SgV.at_seen (x : SgV) (u : Value) : (x.at_ u).seen = x.seen := by unfold SgV.at_; split <;> rfl
def CS (W : World) (base : Nat) (v : Value) (n : Nat) (X : Nat → SgV) : Prop := ∃ V, Own W base 68 3 v n (sgVV X V) ∧ ∀ i, i < n → IL W base (V i) (X i).L
section
variable {W W' : World} {base n : Nat} {v : Value} {X : Nat → SgV}
theorem CS.nil_ : CS W base (.slice none 0 0) 0 X := ⟨fun _ => .slice none 0 0, Own.nil_, fun i hi => absurd hi (by omega)⟩
theorem CS.form (h : CS W base v n X) : ∃ A c, v = .slice A n c := by
 obtain ⟨V, h1, _⟩ := h
 exact h1.form
theorem CS.congr {X' : Nat → SgV} (h : CS W base v n X) (hX : ∀ i, i < n → X i = X' i) : CS W base v n X' := by
 obtain ⟨V, h1, h2⟩ := h
 refine ⟨V, h1.congr fun i j hi _ => ?_, fun i hi => ?_⟩
 · unfold sgVV; rw [hX i hi]
 · rw [← hX i hi]; exact h2 i hi
theorem CS.rd {A : Option Addr} {c : Nat} (h : CS W base (.slice A n c) n X) (hl : ∀ i, i < n → (X i).L.length ≤ maxLen) : ∃ V : Nat → Value, RdS W W.heap.size A n fun i => (X i).at_ (V i) := by
 obtain ⟨V, h1, h2⟩ := h
 refine ⟨V, ?_⟩
 rcases Nat.eq_zero_or_pos n with h0 | h0
 · exact .inl h0
 ·
  obtain ⟨g, c', e⟩ := Own.nz h1 h0
  cases e
  refine .inr ⟨g, 0, rfl, (Own.block h1 rfl).2, fun i hi => ?_⟩
  have c0 := Own.cell h1 hi (show 0 < 3 by omega)
  have c1 := Own.cell h1 hi (show 1 < 3 by omega)
  have c2 := Own.cell h1 hi (show 2 < 3 by omega)
  have hi2 := h2 i hi
  obtain ⟨A', c', e⟩ := Own.form hi2
  dsimp only
  rw [SgV.at_tk, SgV.at_L, SgV.at_seen]
  have e' : (X i).at_ (V i) = ⟨(X i).tk, A', c', (X i).L, (X i).seen⟩ := by rw [e]; rfl
  rw [e']
  have hrd := Own.rd1' (show Own W base 3 1 (.slice A' (X i).L.length c') (X i).L.length (ints fun j => (X i).L.getD j 0) from by rw [← e]; exact hi2)
  refine ⟨⟨?_, ?_, ?_⟩, hrd, hl i hi⟩
  · rw [Nat.zero_add]; exact c0
  · rw [Nat.zero_add, ← e]; exact c1
  · rw [Nat.zero_add]; exact c2
theorem CS.app {v' u : Value} {x : SgV} {V : Nat → Value} (h1 : Own W base 68 3 v n (sgVV X V)) (h2 : ∀ i, i < n → IL W base (V i) (X i).L) (hu : IL W base u x.L) (hg : W.grownBy W' v.ownBlock)
  (ho : Own W' base 68 3 v' (n + 1) (upd (sgVV X V) n (sgRow x u))) : CS W' base v' (n + 1) (fun i => if i = n then x else X i) := by
 refine ⟨fun i => if i = n then u else V i, by rw [← sgVV_upd]; exact ho, fun i hi => ?_⟩
 by_cases e : i = n
 ·
  subst e
  simp only [if_true]
  exact Own.apart_grown hu (h1.apart_type hu (by decide)) hg
 ·
  simp only [if_neg e]
  have h3 := h2 i (by omega)
  exact Own.apart_grown h3 (h1.apart_type h3 (by decide)) hg
end
theorem sg_tmp (W : World) (x : SgV) (u : Value) : ∀ j, j < 3 → (W.alloc (.cells #[.int .i64 x.tk, u, .bool x.seen] 68)).cell? ⟨W.heap.size, j, none⟩ = some (sgRow x u j) := by
 intro j hj
 refine ((Blk.new W 68 #[.int .i64 x.tk, u, .bool x.seen]).cell j).trans ?_
 obtain rfl | rfl | rfl : j = 0 ∨ j = 1 ∨ j = 2 := by omega
 all_goals rfl
theorem rd_v {w : World} {B : Nat} {A : Option Addr} {L : List Int} (h : Rd1 w B A L.length (fun k => L.getD k 0)) : RdV w B A 1 L.length (ints fun k => L.getD k 0) := by
 rcases h with h | ⟨b, off, e, hb, hc⟩
 · exact .inl h
 ·
  refine .inr ⟨b, off, e, hb, fun i j hi hj => ?_⟩
  obtain rfl : j = 0 := by omega
  rw [Nat.mul_one, Nat.add_zero]
  exact hc i hi
section
variable (lA : Option Addr) (ln lc B : Nat) (X : Nat → SgV) (w : World)
set_option maxRecDepth 100000 in
set_option maxHeartbeats 6400000 in
theorem rcopyseen_any (hL : RdS w B lA ln X) (hB : B ≤ w.heap.size) (hln : ln ≤ 3518437208882) (hcn : ∀ i, i < ln → (X i).L.length ≤ 17592186044415) :
  Calls Tryz.prog 22 #[.slice lA ln lc] w fun e w' => (∃ v, e = .returned v ∧ CS w' w.heap.size v ln X) ∧ Below w.heap.size w w' := by
 have HLR := Lib.hid (fun V (hb : Below w.heap.size w V) => hL.below (hb.mono hB))
 have HBB := Lib.hid hB
 obtain ⟨i0, ji, jz0, jz1, jz2⟩ := info_parts int_info
 have MI := Lib.hid (And.intro ji (And.intro jz0 (And.intro jz1 jz2)))
 obtain ⟨j0, ki, kz0, kz1, kz2⟩ := info_parts sg_info
 have MJ := Lib.hid (And.intro ki (And.intro kz0 (And.intro kz1 kz2)))
 have HCM := Lib.hid hcn
 clear ji jz0 jz1 jz2 ki kz0 kz1 kz2 hB hL hcn
 go_enter Tryz.func22, Tryz.ntmps22
 go_wp2_with fail
 go_loopw [3, 4] (fun v i wr => ∃ k : Nat, k ≤ ln ∧ i = .int .i64 (k : Int) ∧ CS wr w.heap.size v k X ∧ Below w.heap.size w wr) (fun _ i _ => ln - (intOf i).toNat)
 case atStart => exact ⟨0, Nat.zero_le _, rfl, CS.nil_, Below.refl _ _⟩
 case round =>
  obtain ⟨k, hk, rfl, hc, hbw⟩ := hrel
  obtain ⟨V, ho, hcl⟩ := hc
  obtain ⟨oA, oc, rfl⟩ := ho.form
  have HO := Lib.hid ho
  have HCl := Lib.hid hcl
  have HW := Lib.hid hbw
  have hz := hbw.size
  clear ho hcl hbw
  by_cases hlt : k < ln
  ·
   obtain ⟨b, off, rfl, hb, g0, g1, g2, hcr, _⟩ := (HLR.out wr HW.out).at_ hlt
   have kx : decide (ln ≤ k) = false := decide_eq_false (by omega)
   have HCR := Lib.hid hcr
   have HCN := Lib.hid (HCM.out k hlt)
   obtain ⟨l, hl⟩ : ∃ l, l = X k := ⟨_, rfl⟩
   have HLK := Lib.hid hl
   rw [← hl] at g0 g1 g2 HCR HCN
   clear hl hcr
   have HA1 := Lib.hid (belowAlloc wr (.cells #[.int .i64 l.tk, .slice l.A l.L.length l.c, .bool l.seen] 68))
   have D1 := Lib.hid (Blk.new wr 68 #[.int .i64 l.tk, .slice l.A l.L.length l.c, .bool l.seen])
   go_upto_region 6 with fail
   clear g0 g1 g2
   obtain ⟨P, hP⟩ : ∃ P, P = wr.heap.size := ⟨_, rfl⟩
   rw [← hP] at D1
   rw [← hP]
   have HPW := Lib.hid hP
   clear hP
   generalize wr.alloc (.cells #[.int .i64 l.tk, .slice l.A l.L.length l.c, .bool l.seen] 68) = X1 at HA1 D1 ⊢
   have HW1 := Lib.hid (HW.out.trans (HA1.out.mono hz))
   have hz1 := HA1.out.size
   have hPl := D1.out.lt
   have d1 := D1.out.cell 1
   go_upto_region 7 with (at_builtin; go_must (refine wpList_copyB rfl (.tmp 16) (.tmp 18) 22 rfl 3 i0 _ 1 8 Tryz.underlying22 MI.out.1 MI.out.2.1 MI.out.2.2.1 MI.out.2.2.2 rfl (by decide) (g := X1.heap.size) rfl (Blk.new X1 3 #[]) (fun _ _ => rfl) rfl (((rd_v (HCR.out.below (HA1.out.mono (Nat.le_trans HBB.out hz)))).below ((belowAlloc X1 _).mono (Nat.le_trans HBB.out (Nat.le_trans hz hz1))))) (by have := HCN.out; omega) (by have := HCN.out; omega) ?_); intro A7 z7 w7 o7 hb7; have O7 := Lib.hid o7; have HB7 := Lib.hid ((belowAlloc X1 (.cells #[] 3)).trans (hb7.mono (by simp))); have D7 := Lib.hid (D1.out.below' HB7.out); clear o7 hb7 d1; have d1 := D7.out.cell 1; have f1 := D7.out.frz 1)
   clear d1 f1
   have D8 := Lib.hid (show Blk (w7.setCell ⟨P, 1, none⟩ (.slice A7 l.L.length z7)) P 68 #[.int .i64 l.tk, .slice A7 l.L.length z7, .bool l.seen] from D7.out.set_ 1 (.slice A7 l.L.length z7))
   have HS7 := Lib.hid (fun (b t' m' n' : Nat) (v' : Value) (F' : Nat → Nat → Value) (ho : Own wr b t' m' v' n' F') => (show Own (w7.setCell ⟨P, 1, none⟩ (.slice A7 l.L.length z7)) b t' m' v' n' F' from ((ho.below HA1.out).below HB7.out).setCell (p := ⟨P, 1, none⟩) (fun hh => by have h1 : P < wr.heap.size := (ho.block hh).2; have := HPW.out; omega) (.slice A7 l.L.length z7)))
   have O8 := Lib.hid (HS7.out _ _ _ _ _ _ HO.out)
   have C8 := Lib.hid (fun i (hi : i < k) => (show IL _ _ _ _ from HS7.out _ _ _ _ _ _ (HCl.out i hi)))
   have U8 := Lib.hid (show IL (w7.setCell ⟨P, 1, none⟩ (.slice A7 l.L.length z7)) w.heap.size (.slice A7 l.L.length z7) l.L from (O7.out.less (show w.heap.size ≤ X1.heap.size from Nat.le_trans hz hz1)).setCell (p := ⟨P, 1, none⟩) (fun hh => by have h1 : X1.heap.size ≤ P := (O7.out.block hh).1; omega) (.slice A7 l.L.length z7))
   have HW8 := Lib.hid ((HW1.out.trans (HB7.out.mono HW1.out.size)).setCell (p := ⟨P, 1, none⟩) (by show w.heap.size ≤ P; rw [HPW.out]; exact hz) (.slice A7 l.L.length z7))
   generalize w7.setCell ⟨P, 1, none⟩ (.slice A7 l.L.length z7) = Y8 at D8 O8 C8 U8 HW8 ⊢
   clear HS7 D7 D1 O7 HB7
   obtain ⟨d0, d1, d2⟩ := D8.out.c3
   have hz8 := HW8.out.size
   go_wp2_with (at_builtin; go_must (refine wpList_appB rfl (.tmp 21) (.tmp 23) 45 rfl w.heap.size 68 3 40 Tryz.underlying45 MJ.out.1 MJ.out.2.1 MJ.out.2.2.1 MJ.out.2.2.2 rfl (by decide) (O8.out.alloc _) rfl (by omega) (by omega) (by simp; omega) Y8.heap.size 1 (sgRow l (.slice A7 l.L.length z7)) rfl (sg_tmp Y8 l (.slice A7 l.L.length z7)) (fun j _ => sgRow_one l _ _ _ j) ?_); intro v8 w8 o8 hg8 hat8; have HO8 := Lib.hid o8; have HG8 := Lib.hid hg8; clear o8 hg8 hat8)
   go_roundw
   case rel =>
    refine ⟨k + 1, by omega, by go_num, (CS.app (O8.out.alloc _) (fun i hi => Own.alloc (C8.out i hi) _) (x := l) (Own.alloc U8.out _) HG8.out HO8.out).congr fun i hi => ?_, (HW8.out.alloc hz8 _).grown HG8.out (by simp; omega) (fun g hg => (O8.out.block hg).1)⟩
    by_cases e : i = k
    · subst e; rw [if_pos rfl]; exact HLK.out
    · rw [if_neg e]
   case measure => simp [intOf]; omega
  ·
   obtain rfl : k = ln := by omega
   go_wp2_with fail
   go_ret
   exact ⟨⟨_, rfl, V, HO.out, HCl.out⟩, HW.out⟩
end
end Go.Proofs.YtnbeembnnjdmdaaGreatDoor
