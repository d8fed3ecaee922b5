/- A drift in memory. -/
import Derived.Test.YtnbeembnnjdmdaaGreatDoorCp
import Derived.Test.YtnbeembnnjdmdaaGreatDoorK1
import Derived.Test.YtnbeembnnjdmdaaGreatDoorLaA
import Derived.Test.YtnbeembnnjdmdaaGreatDoorK4
import Derived.DeepKeys4
import Derived.MapViews
import Derived.StillTailTactics
namespace Go.Proofs.YtnbeembnnjdmdaaGreatDoor
open Go.RowKit

def RdP (w : World) (B : Nat) (A : Option Addr) (n : Nat) (cl : Nat → Nat) (cu : Nat → Nat → Nat → Int) : Prop :=
 n = 0 ∨ ∃ b off, A = some ⟨b, off, none⟩ ∧ b < B ∧ ∀ i, i < n → ∃ rA rc, w.cell? ⟨b, off + i, none⟩ = some (.slice rA (cl i) rc) ∧ Rd w B rA 3 (cl i) (cu i) ∧ cl i ≤ maxLen
structure RdD (w : World) (B : Nat) (dA tA sA zA cA wA : Option Addr) (nd nt ns zn cn wn : Nat) (dep : Nat → Int) (tide : Nat → Nat → Int) (sw : Nat → Int) (z : Nat → Int) (cl : Nat → Nat) (cu : Nat → Nat → Nat → Int) (wd : Nat → Nat → Int) : Prop where
 c : RdC w B dA tA sA nd nt ns dep tide sw
 z : Rd1 w B zA zn z
 cu : RdP w B cA cn cl cu
 wd : Rd w B wA 3 wn wd
section
variable {w w' : World} {B B' m m' n : Nat} {A : Option Addr} {cl : Nat → Nat} {cu : Nat → Nat → Nat → Int}
theorem RdP.below (h : RdP w B A n cl cu) (hb : Below B w w') : RdP w' B A n cl cu := by
 rcases h with h | ⟨b, off, e, hb', hc⟩
 · exact .inl h
 ·
  refine .inr ⟨b, off, e, hb', fun i hi => ?_⟩
  obtain ⟨rA, rc, h1, h2, h3⟩ := hc i hi
  exact ⟨rA, rc, (hb.cell (p := ⟨b, off + i, none⟩) hb').trans h1, h2.below hb, h3⟩
theorem RdP.more (h : RdP w B A n cl cu) (hB : B ≤ B') : RdP w B' A n cl cu := by
 rcases h with h | ⟨b, off, e, hb', hc⟩
 · exact .inl h
 ·
  refine .inr ⟨b, off, e, Nat.lt_of_lt_of_le hb' hB, fun i hi => ?_⟩
  obtain ⟨rA, rc, h1, h2, h3⟩ := hc i hi
  exact ⟨rA, rc, h1, h2.more hB, h3⟩
theorem RdP.at_ (h : RdP w B A n cl cu) {i : Nat} (hi : i < n) : ∃ b off rA rc, A = some ⟨b, off, none⟩ ∧ b < B ∧ w.cell? ⟨b, off + i, none⟩ = some (.slice rA (cl i) rc) ∧ Rd w B rA 3 (cl i) (cu i) ∧ cl i ≤ maxLen := by
 obtain ⟨b, off, e, hb, hc⟩ := h.resolve_left (by omega)
 obtain ⟨rA, rc, h1, h2, h3⟩ := hc i hi
 exact ⟨b, off, rA, rc, e, hb, h1, h2, h3⟩
end
section
variable {w w' : World} {B B' : Nat} {dA tA sA zA cA wA : Option Addr} {nd nt ns zn cn wn : Nat} {dep : Nat → Int} {tide : Nat → Nat → Int} {sw : Nat → Int} {z : Nat → Int} {cl : Nat → Nat} {cu : Nat → Nat → Nat → Int} {wd : Nat → Nat → Int}
theorem RdD.below (h : RdD w B dA tA sA zA cA wA nd nt ns zn cn wn dep tide sw z cl cu wd) (hb : Below B w w') : RdD w' B dA tA sA zA cA wA nd nt ns zn cn wn dep tide sw z cl cu wd := ⟨h.c.below hb, h.z.below hb, h.cu.below hb, h.wd.below hb⟩
theorem RdD.more (h : RdD w B dA tA sA zA cA wA nd nt ns zn cn wn dep tide sw z cl cu wd) (hb : B ≤ B') : RdD w B' dA tA sA zA cA wA nd nt ns zn cn wn dep tide sw z cl cu wd := ⟨h.c.more hb, h.z.more hb, h.cu.more hb, h.wd.more hb⟩
end
end Go.Proofs.YtnbeembnnjdmdaaGreatDoor
/- A drift that is open: its box, and its two maps of what has been reckoned. -/
namespace Go.Proofs.YtnbeembnnjdmdaaGreatDoor
open Go.RowKit Go.Maps

theorem nearT : Tryz.prog.underlying 128 = some (.map 193 3) := Tryz.underlying128
theorem stepsT : Tryz.prog.underlying 127 = some (.map 96 22) := Tryz.underlying127
theorem keyArr_ty : Tryz.prog.keyType 193 = true := by kernel_rfl
theorem keyStay_ty : Tryz.prog.keyType 96 = true := by kernel_rfl
theorem laid_out : laidOutB Tryz.prog = true := by kernel_rfl
theorem nearK : Keyed Tryz.prog 193 := Keyed.of_law (deep_law_laid laid_out (m := 3) (by omega) (of_decide_eq_true (by kernel_rfl)) (by kernel_rfl) (by kernel_rfl))
theorem stepsK : Keyed Tryz.prog 96 := Keyed.of_law (deep_law_laid laid_out (m := 3) (by omega) (of_decide_eq_true (by kernel_rfl)) (by kernel_rfl) (by kernel_rfl))
theorem i64_wf {x : Int} (h : -9223372036854775808 ≤ x ∧ x ≤ 9223372036854775807) : (Lit.int .i64 x).wf = true := WalkArith.wf_i64 (by omega)
theorem types_size : ∃ m, Tryz.prog.types.size = m + 1 := ⟨Tryz.prog.types.size - 1, by have h : 0 < Tryz.prog.types.size := of_decide_eq_true (by kernel_rfl); omega⟩
theorem cells_arr : Tryz.prog.cellsOf 193 = 2 := by kernel_rfl
theorem cells_stay : Tryz.prog.cellsOf 96 = 3 := by kernel_rfl
theorem cells_int : Tryz.prog.cellsOf 3 = 1 := by kernel_rfl
theorem formed_arr (c a : Value) : (Value.agg #[c, a]).formed Tryz.prog 193 = true := by simp [Value.formed, Tryz.underlying193, cells_arr]
theorem formed_stay (c t l : Value) : (Value.agg #[c, t, l]).formed Tryz.prog 96 = true := by simp [Value.formed, Tryz.underlying96, cells_stay]
theorem keyArr (c a : Int) (hc : -9223372036854775808 ≤ c ∧ c ≤ 9223372036854775807) (ha : -9223372036854775808 ≤ a ∧ a ≤ 9223372036854775807) : ∃ l, keyOf Tryz.prog 193 (.agg #[.int .i64 c, .int .i64 a]) = some l := by
 obtain ⟨m, hm⟩ := types_size
 unfold keyOf
 rw [Tryz.underlying193]
 simp only [keyArr_ty, formed_arr, Bool.and_self, if_true]
 rw [hm]
 simp only [Program.keyLits, Tryz.underlying193, Value.cells, cells_arr, cells_int]
 simp [List.range_succ, i64_wf hc, i64_wf ha]
theorem keyStay (c t l : Int) (hc : -9223372036854775808 ≤ c ∧ c ≤ 9223372036854775807) (ht : -9223372036854775808 ≤ t ∧ t ≤ 9223372036854775807) (hl : -9223372036854775808 ≤ l ∧ l ≤ 9223372036854775807) : ∃ k, keyOf Tryz.prog 96 (.agg #[.int .i64 c, .int .i64 t, .int .i64 l]) = some k := by
 obtain ⟨m, hm⟩ := types_size
 unfold keyOf
 rw [Tryz.underlying96]
 simp only [keyStay_ty, formed_stay, Bool.and_self, if_true]
 rw [hm]
 simp only [Program.keyLits, Tryz.underlying96, Value.cells, cells_stay]
 simp [cells_int, i64_wf hc, i64_wf ht, i64_wf hl]
def nearV (i : Nat) : Value := .agg #[.int .i64 ((i / 6 : Nat) : Int), .int .i64 ((i % 6 : Nat) : Int)]
def stepV (i : Nat) : Value := .agg #[.int .i64 ((i / 540 : Nat) : Int), .int .i64 ((i / 9 % 60 : Nat) : Int), .int .i64 ((i % 9 : Nat) : Int)]
theorem nearV_inj {i j : Nat} (h : nearV i = nearV j) : i = j := by
 unfold nearV at h
 simp only [Value.agg.injEq, Array.mk.injEq, List.cons.injEq, Value.int.injEq, true_and, and_true] at h
 omega
theorem stepV_inj {i j : Nat} (h : stepV i = stepV j) : i = j := by
 unfold stepV at h
 simp only [Value.agg.injEq, Array.mk.injEq, List.cons.injEq, Value.int.injEq, true_and, and_true] at h
 omega
def sliceR (v : Value) : Option (DataW Unit × List MemPlace) :=
 match v with
 | .slice none 0 0 => some (.agg [], [])
 | .slice (some ⟨b, off, none⟩) n c => some (.agg [.lit (.int .i64 b), .lit (.int .i64 off), .lit (.int .i64 n), .lit (.int .i64 c)], [])
 | _ => none
def encS (b n c : Nat) : DataW Unit := .agg [.lit (.int .i64 b), .lit (.int .i64 0), .lit (.int .i64 n), .lit (.int .i64 c)]
theorem sliceR_nil : sliceR (.slice none 0 0) = some (.agg [], []) := rfl
theorem sliceR_mk (b n c : Nat) : sliceR (.slice (some ⟨b, 0, none⟩) n c) = some (encS b n c, []) := rfl
theorem sliceR_inv {v : Value} {b n c : Nat} {ps : List MemPlace} (h : sliceR v = some (encS b n c, ps)) : v = .slice (some ⟨b, 0, none⟩) n c := by
 unfold sliceR at h
 split at h
 · simp [encS] at h
 ·
  simp only [encS, Option.some.injEq, Prod.mk.injEq, DataW.agg.injEq, List.cons.injEq, DataW.lit.injEq, Lit.int.injEq, true_and, and_true] at h
  obtain ⟨⟨h1, h2, h3, h4⟩, _⟩ := h
  have e1 := Int.ofNat.inj h1
  have e2 := Int.ofNat.inj h2
  have e3 := Int.ofNat.inj h3
  have e4 := Int.ofNat.inj h4
  subst e1; subst e2; subst e3; subst e4
  rfl
 · cases h
def M.nxt (s : M.Sea) (c a : Nat) : Int := if M.nbIs s.W s.H c a then (M.nbN s.W c a : Nat) else -1
structure SeaM (d : M.Dr) (zA cA wA dA tA sA : Option Addr) (cl : Nat → Nat) (B P m1 m2 : Nat) (cs : Array Value) (T : Nat → Prop) (W : World) : Prop where
 box : Blk W P 130 cs
 rd : RdD W B dA tA sA zA cA wA d.s.nd d.s.nt d.s.nt d.s.nd d.nz (d.s.nt - 1) d.s.dep d.s.tide d.s.sw d.z cl d.cu d.wd
 cl : ∀ i, i < d.nz → cl i + 1 = d.s.nt
 b : B ≤ P ∧ B ≤ m1 ∧ B ≤ m2 ∧ m1 ≠ m2 ∧ B ≤ W.heap.size
 t : T P ∧ T m1 ∧ T m2 ∧ ∀ k, T k → B ≤ k ∧ k < W.heap.size
 way : Ways W ∧ 1 < B
 near : ∃ v : Nat → Option (DataW Unit), MemoM W Tryz.prog 193 (plainElem Tryz.prog 3) m2 864 nearV v ∧ ∀ i y, v i = some y → y = .lit (.int .i64 (M.nxt d.s (i / 6) (i % 6)))
 steps : ∃ v : Nat → Option (DataW Unit), MemoM W Tryz.prog 96 sliceR m1 77760 stepV v ∧ ∀ i y, v i = some y → ∃ g c, T g ∧ y = encS g (M.stepL d (i / 9 % 60) (i % 9 : Nat) (i / 540 : Nat)).length c ∧ Own W B 3 1 (.slice (some ⟨g, 0, none⟩) (M.stepL d (i / 9 % 60) (i % 9 : Nat) (i / 540 : Nat)).length c) (M.stepL d (i / 9 % 60) (i % 9 : Nat) (i / 540 : Nat)).length (ints fun j => (M.stepL d (i / 9 % 60) (i % 9 : Nat) (i / 540 : Nat)).getD j 0)
section
variable {d : M.Dr} {zA cA wA dA tA sA : Option Addr} {cl : Nat → Nat} {B P m1 m2 : Nat} {cs : Array Value} {T : Nat → Prop} {W W' : World}
theorem SeaM.grown {row : Option Nat} (h : SeaM d zA cA wA dA tA sA cl B P m1 m2 cs T W) (hg : W.grownBy W' row) (hr : ∀ r, row = some r → B ≤ r ∧ ¬ T r) : SeaM d zA cA wA dA tA sA cl B P m1 m2 cs T W' := by
 have hne : ∀ k, T k → some k ≠ row := fun k hk e => (hr k e.symm).2 hk
 have hB : Below B W W' := (Below.refl B W).grown hg h.b.2.2.2.2 fun k e => (hr k e).1
 obtain ⟨t1, t2, t3, t4⟩ := h.t
 refine ⟨h.box.grown hg (hne _ t1), h.rd.below hB, h.cl, ⟨h.b.1, h.b.2.1, h.b.2.2.1, h.b.2.2.2.1, Nat.le_trans h.b.2.2.2.2 hg.size⟩, ⟨t1, t2, t3, fun k hk => ⟨(t4 k hk).1, Nat.lt_of_lt_of_le (t4 k hk).2 hg.size⟩⟩, ⟨⟨h.way.1.1.below (hB.mono h.way.2), Nat.lt_of_lt_of_le h.way.1.2 hg.size⟩, h.way.2⟩, ?_, ?_⟩
 ·
  obtain ⟨v, h1, h2⟩ := h.near
  exact ⟨v, h1.kept hg (hne _ t3), h2⟩
 ·
  obtain ⟨v, h1, h2⟩ := h.steps
  refine ⟨v, h1.kept hg (hne _ t2), fun i y hy => ?_⟩
  obtain ⟨g, c, e1, e2, e3⟩ := h2 i y hy
  exact ⟨g, c, e1, e2, e3.grown hg (.inr (hne g e1))⟩
theorem SeaM.below (h : SeaM d zA cA wA dA tA sA cl B P m1 m2 cs T W) (hb : Below W.heap.size W W') : SeaM d zA cA wA dA tA sA cl B P m1 m2 cs T W' := h.grown (below_grown hb none) fun _ e => by cases e
theorem SeaM.alloc (h : SeaM d zA cA wA dA tA sA cl B P m1 m2 cs T W) (o : Obj) : SeaM d zA cA wA dA tA sA cl B P m1 m2 cs T (W.alloc o) := h.below (belowAlloc W o)
theorem SeaM.set_ (h : SeaM d zA cA wA dA tA sA cl B P m1 m2 cs T W) {p : Addr} (hB : B ≤ p.block) (hT : ¬ T p.block) (u : Value) : SeaM d zA cA wA dA tA sA cl B P m1 m2 cs T (W.setCell p u) :=
 h.grown (row := some p.block) ⟨rfl, rfl, rfl, (KeepsWalks.setCell W p u).size, fun k _ hk => Below.heap_setCell _ _ _ k (fun e => hk (by rw [e]))⟩ fun r e => by cases e; exact ⟨hB, hT⟩
theorem SeaM.drewN (h : SeaM d zA cA wA dA tA sA cl B P m1 m2 cs T W) (n : Nat) : SeaM d zA cA wA dA tA sA cl B P m1 m2 cs T (W.drewN n) := h.below ((Below.refl _ W).drewN n)
theorem SeaM.map1 (h : SeaM d zA cA wA dA tA sA cl B P m1 m2 cs T W) : IsMap' W m1 := by obtain ⟨v, h1, _⟩ := h.steps; exact h1.map
theorem SeaM.map2 (h : SeaM d zA cA wA dA tA sA cl B P m1 m2 cs T W) : IsMap' W m2 := by obtain ⟨v, h1, _⟩ := h.near; exact h1.map
end
end Go.Proofs.YtnbeembnnjdmdaaGreatDoor
/- drift: next, dry, pushed. -/
namespace Go.Proofs.YtnbeembnnjdmdaaGreatDoor
open Go.RowKit Go.Maps

theorem nearZ (w : World) : (zeroValue 3).run Tryz.prog w = .ok (.int .i64 0) w := by kernel_rfl
theorem near_key (i : Nat) (hi : i < 864) : ∃ l, keyOf Tryz.prog 193 (nearV i) = some l := keyArr _ _ (by omega) (by omega)
theorem nearV_at {c a : Nat} (ha : a < 6) : nearV (c * 6 + a) = .agg #[.int .i64 (c : Int), .int .i64 (a : Int)] := by
 unfold nearV
 rw [show (c * 6 + a) / 6 = c by omega, show (c * 6 + a) % 6 = a by omega]
theorem near_look {s : M.Sea} {W : World} {m2 : Nat} {v : Nat → Option (DataW Unit)} (hm : MemoM W Tryz.prog 193 (plainElem Tryz.prog 3) m2 864 nearV v) (hv : ∀ i y, v i = some y → y = .lit (.int .i64 (M.nxt s (i / 6) (i % 6)))) {c a : Nat} (hc : c < 144) (ha : a < 6) :
  (Instr.lookup 128 (.map (some m2)) (.agg #[.int .i64 (c : Int), .int .i64 (a : Int)]) true).run Tryz.prog W = .ok (.tuple #[.int .i64 (if (v (c * 6 + a)).isSome then M.nxt s c a else 0), .bool (v (c * 6 + a)).isSome]) W := by
 obtain ⟨x, ps, hrun, hx⟩ := hm.look nearK nearT (nearZ W) (plainElem_int Tryz.underlying3 (by decide)) (i := c * 6 + a) (by omega) (near_key _ (by omega))
 rw [nearV_at ha] at hrun
 rw [hrun]
 obtain ⟨n, rfl, hc2, _⟩ := plainElem_int_inv Tryz.underlying3 hx
 have h2 := congrArg Prod.fst hc2
 cases hvi : v (c * 6 + a) with
 | none =>
  rw [hvi] at h2
  simp only [Option.getD_none, DataW.lit.injEq, Lit.int.injEq, true_and] at h2
  rw [← h2]; rfl
 | some y =>
  have h3 := hv _ _ hvi
  rw [show (c * 6 + a) / 6 = c by omega, show (c * 6 + a) % 6 = a by omega] at h3
  rw [hvi] at h2
  simp only [Option.getD_some, h3, DataW.lit.injEq, Lit.int.injEq, true_and] at h2
  rw [← h2]; rfl
section
variable {d : M.Dr} {zA cA wA dA tA sA : Option Addr} {cl : Nat → Nat} {B P m1 m2 : Nat} {cs : Array Value} {T : Nat → Prop} {W W' : World}
theorem SeaM.mv2 (h : SeaM d zA cA wA dA tA sA cl B P m1 m2 cs T W) (hg : W.grownBy W' (some m2)) {v : Nat → Option (DataW Unit)} (hm : MemoM W' Tryz.prog 193 (plainElem Tryz.prog 3) m2 864 nearV v) (hv : ∀ i y, v i = some y → y = .lit (.int .i64 (M.nxt d.s (i / 6) (i % 6)))) :
  SeaM d zA cA wA dA tA sA cl B P m1 m2 cs T W' := by
 obtain ⟨b1, b2, b3, b4, b5⟩ := h.b
 obtain ⟨t1, t2, t3, t4⟩ := h.t
 have hB : Below B W W' := (Below.refl B W).grown hg b5 fun k e => by cases e; exact b3
 refine ⟨h.box.grown hg (by simpa using h.map2.ne h.box), h.rd.below hB, h.cl, ⟨b1, b2, b3, b4, Nat.le_trans b5 hg.size⟩, ⟨t1, t2, t3, fun k hk => ⟨(t4 k hk).1, Nat.lt_of_lt_of_le (t4 k hk).2 hg.size⟩⟩, ⟨⟨h.way.1.1.below (hB.mono h.way.2), Nat.lt_of_lt_of_le h.way.1.2 hg.size⟩, h.way.2⟩, ⟨v, hm, hv⟩, ?_⟩
 obtain ⟨u, h1, h2⟩ := h.steps
 refine ⟨u, h1.kept hg (by simpa using b4), fun i y hy => ?_⟩
 obtain ⟨g, c, e1, e2, e3⟩ := h2 i y hy
 obtain ⟨cs', hb⟩ := e3.blk
 exact ⟨g, c, e1, e2, e3.grown hg (.inr (by simpa [Value.ownBlock] using h.map2.ne hb))⟩
theorem near_store (h : SeaM d zA cA wA dA tA sA cl B P m1 m2 cs T W) {v : Nat → Option (DataW Unit)} (hm : MemoM W Tryz.prog 193 (plainElem Tryz.prog 3) m2 864 nearV v) (hv : ∀ i y, v i = some y → y = .lit (.int .i64 (M.nxt d.s (i / 6) (i % 6)))) {c a : Nat} (hc : c < 144) (ha : a < 6) (hn : v (c * 6 + a) = none) (hb : -1 ≤ M.nxt d.s c a ∧ M.nxt d.s c a ≤ 1000) :
  ∃ W', (Instr.mapUpdate 128 (.map (some m2)) (.agg #[.int .i64 (c : Int), .int .i64 (a : Int)]) (.int .i64 (M.nxt d.s c a))).run Tryz.prog W = .ok () W' ∧ SeaM d zA cA wA dA tA sA cl B P m1 m2 cs T W' ∧ W.grownBy W' (some m2) := by
 obtain ⟨W', hrun, h1, h2⟩ := hm.store nearK nearT (by unfold maxLen; omega) (i := c * 6 + a) (by omega) (fun j hj => near_key j hj) (fun j _ e => nearV_inj e) hn (x := .int .i64 (M.nxt d.s c a)) (plainElem_int Tryz.underlying3 (i64_wf (by omega)))
 rw [nearV_at ha] at hrun
 refine ⟨W', hrun, h.mv2 h2 h1 fun i y hy => ?_, h2⟩
 by_cases e : i = c * 6 + a
 ·
  simp only [e, if_true, Option.some.injEq] at hy
  rw [← hy, e, show (c * 6 + a) / 6 = c by omega, show (c * 6 + a) % 6 = a by omega]
 ·
  simp only [e, if_false] at hy
  exact hv i y hy
theorem nxt_bd (hd : d.Ok) {c a : Nat} : -1 ≤ M.nxt d.s c a ∧ M.nxt d.s c a < d.s.nd := by
 have := hd.s.nd1
 unfold M.nxt
 split
 ·
  rename_i h
  have := (M.nb_spec h).1
  rw [← hd.s.nd] at this
  omega
 · omega
set_option maxRecDepth 100000 in
set_option maxHeartbeats 3200000 in
theorem dnext_any {dc tc sc zc cc wc : Nat} (hd : d.Ok) (hcs : cs = #[.int .i64 (d.s.W : Int), .int .i64 (d.s.H : Int), .slice dA d.s.nd dc, .slice tA d.s.nt tc, .slice sA d.s.nt sc, .slice zA d.s.nd zc, .slice cA d.nz cc, .slice wA (d.s.nt - 1) wc, .map (some m1), .map (some m2)]) (hM : SeaM d zA cA wA dA tA sA cl B P m1 m2 cs T W) (c a : Nat) (hc : c < d.s.nd) (ha : a < 6) :
  Calls Tryz.prog 139 #[.pointer (some ⟨P, 0, none⟩), .int .i64 (c : Int), .int .i64 (a : Int)] W fun e W' => e = .returned (.int .i64 (M.nxt d.s c a)) ∧ SeaM d zA cA wA dA tA sA cl B P m1 m2 cs T W' ∧ Mv m2 m2 W W' := by
 have hnd := hd.s.nd1
 have HD := Lib.hid hd
 have HMW := Lib.hid hM
 have HBX := Lib.hid (show Blk W P 130 #[.int .i64 (d.s.W : Int), .int .i64 (d.s.H : Int), .slice dA d.s.nd dc, .slice tA d.s.nt tc, .slice sA d.s.nt sc, .slice zA d.s.nd zc, .slice cA d.nz cc, .slice wA (d.s.nt - 1) wc, .map (some m1), .map (some m2)] from hcs ▸ hM.box)
 obtain ⟨v, hv1, hv2⟩ := hM.near
 have HLK := Lib.hid (fun X (hb : Below W.heap.size W X) => near_look (s := d.s) (hv1.kept (below_grown hb none) (by simp)) hv2 (c := c) (a := a) (by omega) ha)
 have HV := Lib.hid (And.intro hv1 hv2)
 have HNB := Lib.hid (nxt_bd hd (c := c) (a := a))
 have HCN := Lib.hid (fun X (hb : Below W.heap.size W X) => cnext_ok d.s dA tA sA dc tc sc B X c a hd.s (hM.way.1.below hb) hc ha (hM.rd.c.below (hb.mono hM.b.2.2.2.2)) (Nat.le_trans hM.b.2.2.2.2 hb.size))
 have HPW := Lib.hid hM.box.lt
 clear hd hM hv1 hv2 hcs
 go_enter Tryz.func139, Tryz.ntmps139
 go_upto_region 2 with fail
 have hb0 := belowAlloc W (.cells #[.int .i64 (c : Int), .int .i64 (a : Int)] 193)
 have KW := Lib.hid (Blk.new W 193 #[.int .i64 (c : Int), .int .i64 (a : Int)])
 have hlt : W.heap.size < (W.alloc (.cells #[.int .i64 (c : Int), .int .i64 (a : Int)] 193)).heap.size := by simp
 have hPX : P < (W.alloc (.cells #[.int .i64 (c : Int), .int .i64 (a : Int)] 193)).heap.size := Nat.lt_of_lt_of_le HPW.out hb0.size
 have HX0 := Lib.hid hb0
 have KP := Lib.hid (HBX.out.alloc (.cells #[.int .i64 (c : Int), .int .i64 (a : Int)] 193))
 generalize W.alloc (.cells #[.int .i64 (c : Int), .int .i64 (a : Int)] 193) = X at HX0 KW KP hlt hPX ⊢
 clear hb0
 have p9 := KP.out.cell 9
 obtain ⟨k0, k1⟩ := KW.out.c2
 have hl1 := fun n => HLK.out (X.drewN n) (HX0.out.drewN n)
 obtain ⟨kn, hkn⟩ : ∃ kn, kn = (v (c * 6 + a)).isSome := ⟨_, rfl⟩
 rw [← hkn] at hl1
 have HKN := Lib.hid hkn
 clear hkn
 go_quiet (fail)
 have HB1 := Lib.hid (HX0.out.drewN nq)
 have KP1 := Lib.hid (show Blk (X.drewN nq) P 130 _ from KP.out)
 have KW1 := Lib.hid (show Blk (X.drewN nq) W.heap.size 193 _ from KW.out)
 generalize X.drewN nq = Y at HB1 KP1 KW1 ⊢
 clear p9 k0 k1 hl1 KP KW HX0 hlt hPX
 cases kn
 ·
  have HNO := Lib.hid (show v (c * 6 + a) = none by have := HKN.out; cases h : v (c * 6 + a) with
   | none => rfl
   | some y => rw [h] at this; cases this)
  obtain ⟨p0, p1, p2, p3⟩ := KP1.out.c4
  have p4 := KP1.out.cell 4
  have HN2 := Lib.hid (HCN.out Y HB1.out)
  have HNX := Lib.hid (show M.nxt d.s c a = if M.nbIs d.s.W d.s.H c a then ((M.nbN d.s.W c a : Nat) : Int) else -1 from rfl)
  have HNV := Lib.hid (show M.nbV d.s.W d.s.H c a = if M.nbIs d.s.W d.s.H c a then ((M.nbN d.s.W c a : Nat) : Int) else 0 from rfl)
  clear HKN HLK
  cases hnb : M.nbIs d.s.W d.s.H c a
  ·
   rw [hnb] at HN2 HNX HNV
   simp only [Bool.false_eq_true, if_false] at HNX HNV
   rw [HNV.out] at HN2
   clear hnb HNV
   go_upto_region 6 with (go_at_call 147; go_must (refine HN2.out.mono ?_); rintro e w2 ⟨⟨k, rfl, hk⟩, hb2⟩; have hk0 : ¬ k = 0 := (by simpa using hk); have HB2 := Lib.hid (HB1.out.trans (hb2.mono HB1.out.size)); have KP2 := Lib.hid (KP1.out.below' hb2); have KW2 := Lib.hid (KW1.out.below' hb2); clear hb2 hk)
   clear p0 p1 p2 p3 p4
   go_upto_region 8 with fail
   rw [← HNX.out]
   have HM2 := Lib.hid (HMW.out.below HB2.out)
   obtain ⟨w3, hrun, hM3, hg3⟩ := near_store (W := w2.drew) (HMW.out.below HB2.out.drew) (HV.out.1.kept (below_grown HB2.out.drew none) (by simp)) HV.out.2 (c := c) (a := a) (by omega) ha HNO.out (by have := HNB.out; omega)
   have HM3 := Lib.hid hM3
   have HG3 := Lib.hid hg3
   have p9 := KP2.out.cell 9
   obtain ⟨k0, k1⟩ := KW2.out.c2
   clear hM3 hg3
   go_still_tail 6, (by kernel_rfl)
   go_wp2_with fail
   go_ret
   exact ⟨rfl, HM3.out, (Mv.of_below HB2.out.drew).trans (Mv.grown2 HG3.out)⟩
  ·
   rw [hnb] at HN2 HNX HNV
   simp only [if_true] at HNX HNV
   rw [HNV.out] at HN2
   clear hnb HNV
   go_upto_region 6 with (go_at_call 147; go_must (refine HN2.out.mono ?_); rintro e w2 ⟨⟨k, rfl, hk⟩, hb2⟩; have hk0 : k = 0 := (by simpa using hk); subst hk0; have HB2 := Lib.hid (HB1.out.trans (hb2.mono HB1.out.size)); have KP2 := Lib.hid (KP1.out.below' hb2); have KW2 := Lib.hid (KW1.out.below' hb2); clear hb2 hk)
   clear p0 p1 p2 p3 p4
   go_upto_region 8 with fail
   rw [← HNX.out]
   have HM2 := Lib.hid (HMW.out.below HB2.out)
   obtain ⟨w3, hrun, hM3, hg3⟩ := near_store (W := w2.drew) (HMW.out.below HB2.out.drew) (HV.out.1.kept (below_grown HB2.out.drew none) (by simp)) HV.out.2 (c := c) (a := a) (by omega) ha HNO.out (by have := HNB.out; omega)
   have HM3 := Lib.hid hM3
   have HG3 := Lib.hid hg3
   have p9 := KP2.out.cell 9
   obtain ⟨k0, k1⟩ := KW2.out.c2
   clear hM3 hg3
   go_still_tail 6, (by kernel_rfl)
   go_wp2_with fail
   go_ret
   exact ⟨rfl, HM3.out, (Mv.of_below HB2.out.drew).trans (Mv.grown2 HG3.out)⟩
 ·
  go_wp2_with fail
  go_ret
  exact ⟨rfl, HMW.out.below HB1.out, Mv.of_below HB1.out⟩
end
end Go.Proofs.YtnbeembnnjdmdaaGreatDoor
/- drift: dry, pushed. -/
namespace Go.Proofs.YtnbeembnnjdmdaaGreatDoor
open Go.RowKit Go.Maps

section
variable {d : M.Dr} {zA cA wA dA tA sA : Option Addr} {cl : Nat → Nat} {B P m1 m2 dc tc sc zc cc wc : Nat} {T : Nat → Prop} {W W' : World}
set_option maxRecDepth 100000 in
set_option maxHeartbeats 3200000 in
theorem ddry_any (hd : d.Ok) (hM : SeaM d zA cA wA dA tA sA cl B P m1 m2 #[.int .i64 (d.s.W : Int), .int .i64 (d.s.H : Int), .slice dA d.s.nd dc, .slice tA d.s.nt tc, .slice sA d.s.nt sc, .slice zA d.s.nd zc, .slice cA d.nz cc, .slice wA (d.s.nt - 1) wc, .map (some m1), .map (some m2)] T W) (c t : Nat) (h : Int) (hc : c < d.s.nd) (ht : t < d.s.nt) (hh : 0 ≤ h ∧ h ≤ 200) :
  Calls Tryz.prog 89 #[.pointer (some ⟨P, 0, none⟩), .int .i64 (c : Int), .int .i64 (t : Int), .int .i64 h] W fun e W' => e = .returned (.bool (M.dryB d.s c t h)) ∧ ∃ n, W' = W.drewN n := by
 have hdp := hd.s.dep c hc
 have hsw := hd.s.sw t ht
 obtain ⟨db, doff, rfl, hdb, q0⟩ := hM.rd.c.d.at_ hc
 obtain ⟨sb, soff, rfl, hsb, q1⟩ := hM.rd.c.s.at_ ht
 have p2 := hM.box.cell 2
 have p4 := hM.box.cell 4
 have w1 : IntKind.i64.wrap (d.s.dep c + h) = d.s.dep c + h := by rw [IntKind.wrap_i64]; omega
 have w2 : IntKind.i64.wrap (d.s.dep c + h - d.s.sw t) = d.s.dep c + h - d.s.sw t := by rw [IntKind.wrap_i64]; omega
 have HD := Lib.hid (show M.dryB d.s c t h = decide (d.s.dep c + h - d.s.sw t < 1) from rfl)
 clear hd hM hdp hsw
 go_enter Tryz.func89, Tryz.ntmps89
 go_upto_region 1 with fail
 go_quiet (fail)
 go_wp2_with fail
 go_ret
 rw [HD.out]
 exact ⟨rfl, nq, rfl⟩
set_option maxRecDepth 100000 in
set_option maxHeartbeats 3200000 in
theorem dpushed_any (hd : d.Ok) (hM : SeaM d zA cA wA dA tA sA cl B P m1 m2 #[.int .i64 (d.s.W : Int), .int .i64 (d.s.H : Int), .slice dA d.s.nd dc, .slice tA d.s.nt tc, .slice sA d.s.nt sc, .slice zA d.s.nd zc, .slice cA d.nz cc, .slice wA (d.s.nt - 1) wc, .map (some m1), .map (some m2)] T W) (c k a t : Nat) (h : Int) (hc : c < d.s.nd) (ha : a < 6) (ht : t < d.s.nt) (hh : 0 ≤ h ∧ h ≤ 200) (hk : k ≤ 100) :
  Calls Tryz.prog 119 #[.pointer (some ⟨P, 0, none⟩), .int .i64 (c : Int), .int .i64 (k : Int), .int .i64 (a : Int), .int .i64 (t : Int), .int .i64 h] W fun e W' => e = .returned (.int .i64 (M.pushN d.s t h a k c)) ∧ SeaM d zA cA wA dA tA sA cl B P m1 m2 #[.int .i64 (d.s.W : Int), .int .i64 (d.s.H : Int), .slice dA d.s.nd dc, .slice tA d.s.nt tc, .slice sA d.s.nt sc, .slice zA d.s.nd zc, .slice cA d.nz cc, .slice wA (d.s.nt - 1) wc, .map (some m1), .map (some m2)] T W' ∧ Mv m2 m2 W W' := by
 have HD := Lib.hid hd
 have HM := Lib.hid hM
 have hnd := hd.s.nd1
 have hNX := Lib.hid (fun X (hX : SeaM d zA cA wA dA tA sA cl B P m1 m2 #[.int .i64 (d.s.W : Int), .int .i64 (d.s.H : Int), .slice dA d.s.nd dc, .slice tA d.s.nt tc, .slice sA d.s.nt sc, .slice zA d.s.nd zc, .slice cA d.nz cc, .slice wA (d.s.nt - 1) wc, .map (some m1), .map (some m2)] T X) (c' : Nat) (hc' : c' < d.s.nd) => dnext_any (W := X) hd rfl hX c' a hc' ha)
 have hDR := Lib.hid (fun X (hX : SeaM d zA cA wA dA tA sA cl B P m1 m2 #[.int .i64 (d.s.W : Int), .int .i64 (d.s.H : Int), .slice dA d.s.nd dc, .slice tA d.s.nt tc, .slice sA d.s.nt sc, .slice zA d.s.nd zc, .slice cA d.nz cc, .slice wA (d.s.nt - 1) wc, .map (some m1), .map (some m2)] T X) (c' : Nat) (hc' : c' < d.s.nd) => ddry_any (W := X) hd hX c' t h hc' ht hh)
 clear hd hM
 go_enter Tryz.func119, Tryz.ntmps119
 go_wp2_with fail
 go_loopw [1, 15] (fun u i wr => ∃ j c' : Nat, j ≤ k ∧ c' < d.s.nd ∧ i = .int .i64 (j : Int) ∧ u = .int .i64 (c' : Int) ∧ Hid (M.pushN d.s t h a (k - j) c' = M.pushN d.s t h a k c) ∧ Hid (SeaM d zA cA wA dA tA sA cl B P m1 m2 #[.int .i64 (d.s.W : Int), .int .i64 (d.s.H : Int), .slice dA d.s.nd dc, .slice tA d.s.nt tc, .slice sA d.s.nt sc, .slice zA d.s.nd zc, .slice cA d.nz cc, .slice wA (d.s.nt - 1) wc, .map (some m1), .map (some m2)] T wr) ∧ Hid (Mv m2 m2 W wr)) (fun _ i _ => k - (intOf i).toNat)
 case atStart => exact ⟨0, c, Nat.zero_le _, hc, rfl, rfl, Lib.hid (by rw [Nat.sub_zero]), HM, Lib.hid (Mv.refl _ _ _)⟩
 case round =>
  obtain ⟨j, c', hj, hc', rfl, rfl, HE, HS, HV⟩ := hrel
  by_cases hlt : j < k
  ·
   have HN1 := Lib.hid (hNX.out wr HS.out c' hc')
   have HPN := Lib.hid (show M.pushN d.s t h a (k - j) c' = if M.nbIs d.s.W d.s.H c' a then (if M.dryB d.s (M.nbN d.s.W c' a) t h then (c' : Int) else M.pushN d.s t h a (k - (j + 1)) (M.nbN d.s.W c' a)) else -1 by
    rw [show k - j = (k - (j + 1)) + 1 by omega]; rfl)
   have HXE := Lib.hid (show M.nxt d.s c' a = if M.nbIs d.s.W d.s.H c' a then ((M.nbN d.s.W c' a : Nat) : Int) else -1 from rfl)
   cases hnb : M.nbIs d.s.W d.s.H c' a
   ·
    rw [hnb] at HPN HXE
    simp only [Bool.false_eq_true, if_false] at HPN HXE
    rw [HXE.out] at HN1
    clear hnb
    go_wp2_with (go_at_call 139; go_must (refine HN1.out.mono ?_); rintro e w2 ⟨rfl, hm2, hv2⟩; have HM2 := Lib.hid hm2; have HV2 := Lib.hid hv2; clear hm2 hv2)
    go_ret
    exact ⟨by rw [← HE.out, HPN.out]; rfl, HM2.out, HV.out.trans HV2.out⟩
   ·
    have hnl : M.nbN d.s.W c' a < d.s.nd := by rw [HD.out.s.nd]; exact (M.nb_spec hnb).1
    rw [hnb] at HPN HXE
    simp only [if_true] at HPN HXE
    rw [HXE.out] at HN1
    clear hnb
    obtain ⟨nb, hnbe⟩ : ∃ nb, nb = M.nbN d.s.W c' a := ⟨_, rfl⟩
    rw [← hnbe] at HPN HN1 hnl
    clear hnbe HXE
    have HD2 := Lib.hid (fun X (hX : SeaM d zA cA wA dA tA sA cl B P m1 m2 #[.int .i64 (d.s.W : Int), .int .i64 (d.s.H : Int), .slice dA d.s.nd dc, .slice tA d.s.nt tc, .slice sA d.s.nt sc, .slice zA d.s.nd zc, .slice cA d.nz cc, .slice wA (d.s.nt - 1) wc, .map (some m1), .map (some m2)] T X) => hDR.out X hX nb hnl)
    obtain ⟨db, hdb⟩ : ∃ db, db = M.dryB d.s nb t h := ⟨_, rfl⟩
    rw [← hdb] at HPN HD2
    clear hdb
    cases db
    ·
     simp only [Bool.false_eq_true, if_false] at HPN
     go_wp2_with (first
      | (go_at_call 139; go_must (refine HN1.out.mono ?_); rintro e w2 ⟨rfl, hm2, hv2⟩; have HM2 := Lib.hid hm2; have HV2 := Lib.hid hv2; clear hm2 hv2)
      | (go_at_call 89; go_must (refine (HD2.out w2 HM2.out).mono ?_); rintro e w3 ⟨rfl, hn3⟩; have HN3 := Lib.hid hn3; clear hn3))
     go_roundw
     case rel =>
      obtain ⟨n3, e3⟩ := HN3.out
      exact ⟨j + 1, nb, by omega, hnl, by go_num, rfl, Lib.hid (HPN.out.symm.trans HE.out), by rw [e3]; exact Lib.hid (HM2.out.drewN n3), by rw [e3]; exact Lib.hid ((HV.out.trans HV2.out).drewN n3)⟩
     case measure => simp [intOf]; omega
    ·
     simp only [if_true] at HPN
     go_wp2_with (first
      | (go_at_call 139; go_must (refine HN1.out.mono ?_); rintro e w2 ⟨rfl, hm2, hv2⟩; have HM2 := Lib.hid hm2; have HV2 := Lib.hid hv2; clear hm2 hv2)
      | (go_at_call 89; go_must (refine (HD2.out w2 HM2.out).mono ?_); rintro e w3 ⟨rfl, hn3⟩; have HN3 := Lib.hid hn3; clear hn3))
     go_ret
     obtain ⟨n3, e3⟩ := HN3.out
     exact ⟨by rw [← HE.out, HPN.out]; rfl, by rw [e3]; exact HM2.out.drewN n3, by rw [e3]; exact (HV.out.trans HV2.out).drewN n3⟩
  ·
   obtain rfl : j = k := by omega
   go_wp2_with fail
   go_ret
   have he := HE.out
   rw [Nat.sub_self] at he
   exact ⟨by rw [← he]; rfl, HS.out, HV.out⟩
end
end Go.Proofs.YtnbeembnnjdmdaaGreatDoor
