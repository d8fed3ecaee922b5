/- drift: the drift's own blocks, told by the memory alone. -/
import Derived.Test.YtnbeembnnjdmdaaGreatDoorD22
import Derived.Test.YtnbeembnnjdmdaaGreatDoorCp
namespace Go.Proofs.YtnbeembnnjdmdaaGreatDoor
open Go.RowKit Go.Maps

theorem cntS_congr {α : Type} {v v' : Nat → Option α} : ∀ {n : Nat}, (∀ i, i < n → v i = v' i) → cntS v n = cntS v' n
 | 0, _ => rfl
 | n + 1, h => by
  unfold cntS
  rw [cntS_congr fun i hi => h i (by omega), h n (by omega)]
theorem MemoM.congr {H : Type} {W : World} {P : Program} {k : TypeId} {R : Value → Option (DataW H × List MemPlace)} {b N : Nat} {kv : Nat → Value} {v v' : Nat → Option (DataW H)} (h : MemoM W P k R b N kv v) (hv : ∀ i, i < N → v i = v' i) : MemoM W P k R b N kv v' := by
 obtain ⟨n, D, h1, h2, h3⟩ := h
 exact ⟨n, D, h1, by rw [← cntS_congr hv]; exact h2, fun i hi => by rw [← hv i hi]; exact h3 i hi⟩
def TS (P m1 m2 : Nat) (W : World) : Nat → Prop := fun k => k = P ∨ k = m1 ∨ k = m2 ∨ ∃ i n c : Nat, i < 77760 ∧ (Instr.lookup 127 (.map (some m1)) (stepV i) true).run Tryz.prog W = .ok (.tuple #[.slice (some ⟨k, 0, none⟩) n c, .bool true]) W
section
variable {d : M.Dr} {zA cA wA dA tA sA : Option Addr} {cl : Nat → Nat} {B P m1 m2 dc tc sc zc cc wc : Nat} {T : Nat → Prop} {W W' : World}
theorem look_at {B' : Nat} {T' : Nat → Prop} {W' : World} {v : Nat → Option (DataW Unit)} (hm : MemoM W Tryz.prog 96 sliceR m1 77760 stepV v) (hv : ∀ i y, v i = some y → StepE d B' T' W' i y) {i : Nat} (hi : i < 77760) :
  (Instr.lookup 127 (.map (some m1)) (stepV i) true).run Tryz.prog W = .ok (.tuple #[unS (v i), .bool (v i).isSome]) W := by
 have h1 : i = stepI (i / 540) (i / 9 % 60) (i % 9) := by unfold stepI; omega
 have h2 := step_look hm hv (c := i / 540) (t := i / 9 % 60) (l := i % 9) (by omega) (by omega) (by omega)
 rw [← h1, ← stepV_at (c := i / 540) (t := i / 9 % 60) (l := i % 9) (by omega) (by omega), ← h1] at h2
 exact h2
theorem SeaM.ts_sub (h : SeaM d zA cA wA dA tA sA cl B P m1 m2 #[.int .i64 (d.s.W : Int), .int .i64 (d.s.H : Int), .slice dA d.s.nd dc, .slice tA d.s.nt tc, .slice sA d.s.nt sc, .slice zA d.s.nd zc, .slice cA d.nz cc, .slice wA (d.s.nt - 1) wc, .map (some m1), .map (some m2)] T W) {k : Nat} (hk : TS P m1 m2 W k) : T k := by
 rcases hk with rfl | rfl | rfl | ⟨i, n, c, hi, hl⟩
 · exact h.t.1
 · exact h.t.2.1
 · exact h.t.2.2.1
 ·
  obtain ⟨v, h1, h2⟩ := h.stepv
  have h3 := look_at h1 h2 hi
  rw [h3] at hl
  cases hv : v i with
  | none => rw [hv] at hl; simp at hl
  | some y =>
   obtain ⟨g, c', e1, e2, _⟩ := h2 i y hv
   rw [hv, e2, unS_enc] at hl
   simp at hl
   rw [← hl.1]; exact e1
theorem SeaM.canon (h : SeaM d zA cA wA dA tA sA cl B P m1 m2 #[.int .i64 (d.s.W : Int), .int .i64 (d.s.H : Int), .slice dA d.s.nd dc, .slice tA d.s.nt tc, .slice sA d.s.nt sc, .slice zA d.s.nd zc, .slice cA d.nz cc, .slice wA (d.s.nt - 1) wc, .map (some m1), .map (some m2)] T W) : SeaM d zA cA wA dA tA sA cl B P m1 m2 #[.int .i64 (d.s.W : Int), .int .i64 (d.s.H : Int), .slice dA d.s.nd dc, .slice tA d.s.nt tc, .slice sA d.s.nt sc, .slice zA d.s.nd zc, .slice cA d.nz cc, .slice wA (d.s.nt - 1) wc, .map (some m1), .map (some m2)] (TS P m1 m2 W) W := by
 refine ⟨h.box, h.rd, h.cl, h.b, ⟨.inl rfl, .inr (.inl rfl), .inr (.inr (.inl rfl)), fun k hk => h.t.2.2.2 k (h.ts_sub hk)⟩, h.way, h.near, ?_⟩
 obtain ⟨v, h1, h2⟩ := h.stepv
 refine ⟨fun i => if i < 77760 then v i else none, h1.congr fun i hi => (if_pos hi).symm, fun i y hy => ?_⟩
 by_cases hi : i < 77760
 ·
  simp only [hi, if_true] at hy
  obtain ⟨g, c, e1, e2, e3⟩ := h2 i y hy
  refine ⟨g, c, .inr (.inr (.inr ⟨i, (M.stepL d (i / 9 % 60) (i % 9 : Nat) (i / 540 : Nat)).length, c, hi, ?_⟩)), e2, e3⟩
  rw [look_at h1 h2 hi, hy, e2, unS_enc]
  rfl
 ·
  simp only [hi, if_false] at hy
  cases hy
end
abbrev SeaT (d : M.Dr) (zA cA wA dA tA sA : Option Addr) (cl : Nat → Nat) (B P m1 m2 dc tc sc zc cc wc : Nat) (W : World) : Prop := SeaM d zA cA wA dA tA sA cl B P m1 m2 #[.int .i64 (d.s.W : Int), .int .i64 (d.s.H : Int), .slice dA d.s.nd dc, .slice tA d.s.nt tc, .slice sA d.s.nt sc, .slice zA d.s.nd zc, .slice cA d.nz cc, .slice wA (d.s.nt - 1) wc, .map (some m1), .map (some m2)] (TS P m1 m2 W) W
def AbT (d : M.Dr) (zA cA wA dA tA sA : Option Addr) (cl : Nat → Nat) (B P m1 m2 dc tc sc zc cc wc : Nat) (W W' : World) : Prop :=
 Mv m1 m2 W W' ∧ (SeaT d zA cA wA dA tA sA cl B P m1 m2 dc tc sc zc cc wc W → SeaT d zA cA wA dA tA sA cl B P m1 m2 dc tc sc zc cc wc W' ∧ ∀ k, TS P m1 m2 W' k → TS P m1 m2 W k ∨ W.heap.size ≤ k)
section
variable {d : M.Dr} {zA cA wA dA tA sA : Option Addr} {cl : Nat → Nat} {B P m1 m2 dc tc sc zc cc wc : Nat} {W W' : World}
theorem SeaT.grown {row : Option Nat} (h : SeaT d zA cA wA dA tA sA cl B P m1 m2 dc tc sc zc cc wc W) (hg : W.grownBy W' row) (hr : ∀ r, row = some r → B ≤ r ∧ ¬ TS P m1 m2 W r) : SeaT d zA cA wA dA tA sA cl B P m1 m2 dc tc sc zc cc wc W' ∧ ∀ k, TS P m1 m2 W' k → TS P m1 m2 W k :=
 have h1 := SeaM.grown h hg hr
 ⟨h1.canon, fun _ hk => h1.ts_sub hk⟩
theorem AbT.of_sea {T' : Nat → Prop} (hv : Mv m1 m2 W W') (hs : SeaM d zA cA wA dA tA sA cl B P m1 m2 #[.int .i64 (d.s.W : Int), .int .i64 (d.s.H : Int), .slice dA d.s.nd dc, .slice tA d.s.nt tc, .slice sA d.s.nt sc, .slice zA d.s.nd zc, .slice cA d.nz cc, .slice wA (d.s.nt - 1) wc, .map (some m1), .map (some m2)] T' W') (hT : ∀ k, T' k → TS P m1 m2 W k ∨ W.heap.size ≤ k) : AbT d zA cA wA dA tA sA cl B P m1 m2 dc tc sc zc cc wc W W' :=
 ⟨hv, fun _ => ⟨hs.canon, fun k hk => hT k (hs.ts_sub hk)⟩⟩
theorem AbT.below (hb : Below W.heap.size W W') : AbT d zA cA wA dA tA sA cl B P m1 m2 dc tc sc zc cc wc W W' :=
 ⟨Mv.of_below hb, fun h => ⟨(SeaT.grown h (below_grown hb none) fun _ e => by cases e).1, fun k hk => .inl ((SeaT.grown h (below_grown hb none) fun _ e => by cases e).2 k hk)⟩⟩
theorem AbT.trans {W'' : World} (h : AbT d zA cA wA dA tA sA cl B P m1 m2 dc tc sc zc cc wc W W') (k : AbT d zA cA wA dA tA sA cl B P m1 m2 dc tc sc zc cc wc W' W'') : AbT d zA cA wA dA tA sA cl B P m1 m2 dc tc sc zc cc wc W W'' :=
 ⟨h.1.trans k.1, fun hs => ⟨(k.2 (h.2 hs).1).1, fun q hq => ((k.2 (h.2 hs).1).2 q hq).elim ((h.2 hs).2 q) fun h3 => .inr (Nat.le_trans h.1.size h3)⟩⟩
end
namespace M
def spanL (lo hi : Int) (p : Int → Bool) : List Int := ((List.range (hi - lo + 1).toNat).map fun (i : Nat) => lo + (i : Int)).filter p
theorem mem_spanL {lo hi x : Int} {p : Int → Bool} : x ∈ spanL lo hi p ↔ (lo ≤ x ∧ x ≤ hi) ∧ p x = true := by
 unfold spanL
 rw [List.mem_filter, List.mem_map]
 constructor
 ·
  rintro ⟨⟨i, hi, rfl⟩, h⟩
  rw [List.mem_range] at hi
  exact ⟨by omega, h⟩
 ·
  rintro ⟨h, hp⟩
  exact ⟨⟨(x - lo).toNat, List.mem_range.2 (by omega), by omega⟩, hp⟩
theorem spanL_nil {lo : Int} {p : Int → Bool} : spanL lo (lo - 1) p = [] := by
 unfold spanL
 rw [show (lo - 1 - lo + 1).toNat = 0 by omega]; rfl
theorem spanL_succ {lo h : Int} {p : Int → Bool} (hl : lo ≤ h) : spanL lo h p = spanL lo (h - 1) p ++ if p h then [h] else [] := by
 unfold spanL
 rw [show (h - lo + 1).toNat = (h - 1 - lo + 1).toNat + 1 by omega, List.range_succ, List.map_append, List.filter_append]
 congr 1
 simp only [List.map_cons, List.map_nil]
 rw [show lo + (((h - 1 - lo + 1).toNat : Nat) : Int) = h by omega]
 cases hp : p h <;> simp [hp]
end M
end Go.Proofs.YtnbeembnnjdmdaaGreatDoor
/- drift: the iterator over the leeways. -/
namespace Go.Proofs.YtnbeembnnjdmdaaGreatDoor
open Go.RowKit Go.Maps Go.Shelf

attribute [local go_sem] Oper.semAt_some
theorem some_ne_nil (W : World) (a : Addr) (l c : Nat) : (binOp .neq 62 (.slice (some a) l c) (.slice none 0 0)).run Tryz.prog W = .ok (.bool true) W := by
 have h := Lib.run_eql_slice_nil (P := Tryz.prog) W 62 22 (some a) l c 0 0 Tryz.underlying62
 simp only [binOp] at h ⊢
 simp [Op.equal, Op.maxDepth, Lib.run_equalIn_slice_nil W 9999 62 22 (some a) l c 0 0 Tryz.underlying62]
theorem nil_ne_nil (W : World) : (binOp .neq 62 (.slice none 0 0) (.slice none 0 0)).run Tryz.prog W = .ok (.bool false) W := by
 simp only [binOp]
 simp [Op.equal, Op.maxDepth, Lib.run_equalIn_slice_nil W 9999 62 22 none 0 0 0 0 Tryz.underlying62]
structure ChI (d : M.Dr) (zA cA wA dA tA sA : Option Addr) (cl : Nat → Nat) (B P m1 m2 dc tc sc zc cc wc : Nat) (cb fb B' ta xc hn hc : Nat) (xL : List Int) (lo hi fc ft fl : Int) (xA hA : Option Addr) (Xs : Nat → SgV) (W : World) : Prop where
 sm : SeaT d zA cA wA dA tA sA cl B P m1 m2 dc tc sc zc cc wc W
 kc : Blk W cb 105 #[.pointer (some ⟨P, 0, none⟩), .int .i64 (ta : Int), .slice xA xL.length xc, .int .i64 lo, .int .i64 hi, .slice hA hn hc]
 kf : Blk W fb 96 #[.int .i64 fc, .int .i64 ft, .int .i64 fl]
 rs : RdS W B' hA hn Xs
 rx : Rd1 W B' xA xL.length (fun k => xL.getD k 0)
 b : B' ≤ W.heap.size
section
variable {d : M.Dr} {zA cA wA dA tA sA : Option Addr} {cl : Nat → Nat} {B P m1 m2 dc tc sc zc cc wc : Nat} {cb fb B' ta xc hn hc n : Nat} {xL : List Int} {lo hi fc ft fl : Int} {xA hA : Option Addr} {Xs : Nat → SgV} {W W' : World}
theorem ChI.ab (h : ChI d zA cA wA dA tA sA cl B P m1 m2 dc tc sc zc cc wc cb fb B' ta xc hn hc xL lo hi fc ft fl xA hA Xs W) (hab : AbT d zA cA wA dA tA sA cl B P m1 m2 dc tc sc zc cc wc W W') : ChI d zA cA wA dA tA sA cl B P m1 m2 dc tc sc zc cc wc cb fb B' ta xc hn hc xL lo hi fc ft fl xA hA Xs W' :=
 ⟨(hab.2 h.sm).1, h.kc.mv hab.1 h.sm.map1 h.sm.map2, h.kf.mv hab.1 h.sm.map1 h.sm.map2, h.rs.mv hab.1 h.sm.map1 h.sm.map2, h.rx.mv hab.1 h.sm.map1 h.sm.map2, Nat.le_trans h.b hab.1.size⟩
theorem RdS.grown {w w' : World} {B n : Nat} {A : Option Addr} {X : Nat → SgV} (h : RdS w B A n X) {row : Option Nat} (hg : w.grownBy w' row) (hB : B ≤ w.heap.size) (hr : ∀ r, row = some r → B ≤ r) : RdS w' B A n X := h.below ((Below.refl B w).grown hg hB hr)
theorem ChI.grown {row : Option Nat} (h : ChI d zA cA wA dA tA sA cl B P m1 m2 dc tc sc zc cc wc cb fb B' ta xc hn hc xL lo hi fc ft fl xA hA Xs W) (hg : W.grownBy W' row) (hr : ∀ r, row = some r → B ≤ r ∧ ¬ TS P m1 m2 W r ∧ r ≠ cb ∧ r ≠ fb ∧ B' ≤ r) : ChI d zA cA wA dA tA sA cl B P m1 m2 dc tc sc zc cc wc cb fb B' ta xc hn hc xL lo hi fc ft fl xA hA Xs W' :=
 ⟨(SeaT.grown h.sm hg fun r e => ⟨(hr r e).1, (hr r e).2.1⟩).1, h.kc.grown hg fun e => (hr cb e.symm).2.2.1 rfl, h.kf.grown hg fun e => (hr fb e.symm).2.2.2.1 rfl, h.rs.grown hg h.b fun r e => (hr r e).2.2.2.2, h.rx.below ((Below.refl B' W).grown hg h.b fun r e => (hr r e).2.2.2.2), Nat.le_trans h.b hg.size⟩
theorem ts_cells (h : SeaT d zA cA wA dA tA sA cl B P m1 m2 dc tc sc zc cc wc W) {k : Nat} (hk : TS P m1 m2 W k) (h1 : k ≠ m1) (h2 : k ≠ m2) : ∃ t cs, Blk W k t cs := by
 rcases hk with rfl | rfl | rfl | ⟨i, n, c, hi, hl⟩
 · exact ⟨_, _, h.box⟩
 · exact absurd rfl h1
 · exact absurd rfl h2
 ·
  obtain ⟨v, k1, k2⟩ := SeaM.stepv h
  have h3 := look_at k1 k2 hi
  rw [h3] at hl
  cases hv : v i with
  | none => rw [hv] at hl; simp at hl
  | some y =>
   obtain ⟨g, c', e1, e2, e3⟩ := k2 i y hv
   rw [hv, e2, unS_enc] at hl
   simp at hl
   obtain ⟨cs, hb⟩ := Own.blk e3
   rw [← hl.1]; exact ⟨_, _, hb⟩
theorem ts_notes (h : SeaT d zA cA wA dA tA sA cl B P m1 m2 dc tc sc zc cc wc W) {r lo' : Nat} (hr : lo' ≤ r) {o : Obj} (ho : W.heap[r]? = some o) (hc : o.isCells = false) (h1 : m1 < lo') (h2 : m2 < lo') : ¬ TS P m1 m2 W r := fun hk => by
 obtain ⟨t, cs, hb⟩ := ts_cells h hk (by omega) (by omega)
 rw [show W.heap[r]? = _ from hb] at ho
 cases ho; cases hc
theorem ChI.notes {row : Option Nat} {lo' : Nat} (h : ChI d zA cA wA dA tA sA cl B P m1 m2 dc tc sc zc cc wc cb fb B' ta xc hn hc xL lo hi fc ft fl xA hA Xs W) (hg : W.grownBy W' row) (hr : ∀ r, row = some r → lo' ≤ r ∧ ∃ o, W.heap[r]? = some o ∧ o.isCells = false) (hB : B ≤ lo') (hB' : B' ≤ lo') (h1 : m1 < lo') (h2 : m2 < lo') : ChI d zA cA wA dA tA sA cl B P m1 m2 dc tc sc zc cc wc cb fb B' ta xc hn hc xL lo hi fc ft fl xA hA Xs W' :=
 h.grown hg fun r e => by
  obtain ⟨h3, o, ho, hc⟩ := hr r e
  have hne : ∀ {b t : Nat} {cs : Array Value}, Blk W b t cs → r ≠ b := fun hb e => by
   subst e
   rw [show W.heap[r]? = _ from hb] at ho
   cases ho; cases hc
  exact ⟨by omega, ts_notes h.sm h3 ho hc h1 h2, hne h.kc, hne h.kf, by omega⟩
theorem AbT.grown {W0 : World} {row : Option Nat} (h : AbT d zA cA wA dA tA sA cl B P m1 m2 dc tc sc zc cc wc W0 W) (hs : SeaT d zA cA wA dA tA sA cl B P m1 m2 dc tc sc zc cc wc W) (hg : W.grownBy W' row) (hr : ∀ r, row = some r → W0.heap.size ≤ r ∧ B ≤ r ∧ ¬ TS P m1 m2 W r) : AbT d zA cA wA dA tA sA cl B P m1 m2 dc tc sc zc cc wc W0 W' :=
 ⟨h.1.trans_grown hg fun r e => (hr r e).1, fun h0 => ⟨(SeaT.grown hs hg fun r e => (hr r e).2).1, fun k hk => (h.2 h0).2 k ((SeaT.grown hs hg fun r e => (hr r e).2).2 k hk)⟩⟩
def leeP (d : M.Dr) (ta n hn : Nat) (xL : List Int) (Xs : Nat → SgV) (ft fc : Int) : Int → Bool := fun l => M.posB d ta l (fun c => xL.contains c) (trFit Xs hn ta ft fc) (n - 1)
structure YdL (d : M.Dr) (P m1 m2 ta n hn : Nat) (xL : List Int) (Xs : Nat → SgV) (lo hi ft fc : Int) (W0 : World) (x : Int × Nat × (Nat → Value)) (W : World) : Prop where
 l : lo ≤ x.1 ∧ x.1 ≤ hi
 p : leeP d ta n hn xL Xs ft fc x.1 = true
 o : Own W W0.heap.size 22 1 (.slice (some ⟨x.2.1, 0, none⟩) n n) n (fun i _ => x.2.2 i)
 t : ¬ TS P m1 m2 W x.2.1
 r : ∀ k, k < n → IL W W0.heap.size (x.2.2 k) (M.rwL d ta x.1 (fun c => xL.contains c) (trFit Xs hn ta ft fc) (n - 1) k)
 rt : ∀ k, k < n → ∀ g, (x.2.2 k).ownBlock = some g → ¬ TS P m1 m2 W g
 rd : ∀ k j, k < n → j < n → k ≠ j → ∀ g, (x.2.2 k).ownBlock = some g → (x.2.2 j).ownBlock ≠ some g
set_option maxRecDepth 100000 in
set_option maxHeartbeats 8000000 in
theorem leeways1_seq (hd : d.Ok) (hhn : hn ≤ maxLen) (hx1 : xL.Pairwise (· < ·)) (hx2 : ∀ x, x ∈ xL → 0 ≤ x ∧ x < d.s.nd) (hx4 : xL.length ≤ 1048576) (htn : ta + n = d.s.nt) (hn1 : 1 ≤ n) (hlo : 0 ≤ lo) (hhi : hi ≤ 8) (hlh : lo ≤ hi) :
  SeqY Fence.wide 3 Tryz.prog 102 #[.pointer (some ⟨cb, 0, none⟩), .pointer (some ⟨fb, 0, none⟩)] (fun x : Int × Nat × (Nat → Value) => #[.int .i64 x.1, .slice (some ⟨x.2.1, 0, none⟩) n n])
   (AbT d zA cA wA dA tA sA cl B P m1 m2 dc tc sc zc cc wc) (ChI d zA cA wA dA tA sA cl B P m1 m2 dc tc sc zc cc wc cb fb B' ta xc hn hc xL lo hi fc ft fl xA hA Xs) (YdL d P m1 m2 ta n hn xL Xs lo hi ft fc)
   (fun xs => xs.map (·.1) = M.spanL lo hi (leeP d ta n hn xL Xs ft fc)) (fun xs => ∃ f, lo ≤ f ∧ f ≤ hi ∧ leeP d ta n hn xL Xs ft fc f = true ∧ xs.map (·.1) = M.spanL lo f (leeP d ta n hn xL Xs ft fc)) 9 := by
 intro l J Jx W hIv hAb hAbx hY h0
 show CallsIn Fence.wide 3 Tryz.prog 102 #[.func (.yield l) #[] #[], .pointer (some ⟨cb, 0, none⟩), .pointer (some ⟨fb, 0, none⟩)] W _
 have HIV := Lib.hid hIv
 have HAB := Lib.hid hAb
 have HY := Lib.hid hY
 have HJ0 := Lib.hid h0
 obtain ⟨lp, hlp⟩ : ∃ lp, lp = leeP d ta n hn xL Xs ft fc := ⟨_, rfl⟩
 rw [← hlp]
 have HLP := Lib.hid hlp
 have HTR := Lib.hid (fun X (hX : ChI d zA cA wA dA tA sA cl B P m1 m2 dc tc sc zc cc wc cb fb B' ta xc hn hc xL lo hi fc ft fl xA hA Xs X) (ln : Nat) (hl : ln ≤ 8) => tracks_any (n := n) (hc := hc) (xc := xc) (lo := lo) (hi := hi) (fc := fc) (ft := ft) (fl := fl) hd hX.sm (hX.rs.more hX.b) hhn hx1 hx2 (hX.rx.more hX.b) hx4 hl htn hn1)
 have x3 := (hIv [] W h0).kc.cell 3
 clear hIv hAb hAbx hY h0 hlp hd hx1 hx2
 refine callsIn_of_wp Tryz.func102 rfl trivial ?_ rfl
 simp only [Tryz.ntmps102, List.size_toArray, List.length_cons, List.length_nil, Nat.reduceAdd, Nat.reduceSub, Array.replicate_succ, Array.replicate_zero, List.push_toArray, List.append_toArray, List.nil_append, List.cons_append]
 gi_wp2_with fail
 gi_loopw [4] (fun i wr => ∃ (f : Int) (pre : List (Int × Nat × (Nat → Value))), lo ≤ f ∧ f ≤ hi + 1 ∧ i = .int .i64 f ∧ Hid (J pre wr) ∧ Hid (pre.map (·.1) = M.spanL lo (f - 1) lp) ∧ (pre.length : Int) ≤ f - lo) (fun i _ => (hi + 1 - intOf i).toNat)
 case atStart => exact ⟨lo, [], by omega, by omega, rfl, HJ0, Lib.hid (by rw [M.spanL_nil]; rfl), by simp⟩
 case round =>
  obtain ⟨f, pre, hf1, hf2, rfl, HJ, HS, hlen⟩ := hrel
  have x4 := (HIV.out _ _ HJ.out).kc.cell 4
  by_cases hle : f ≤ hi
  ·
   have y0 := (HIV.out _ _ HJ.out).kc.cell 0
   have y1 := (HIV.out _ _ HJ.out).kc.cell 1
   have y2 := (HIV.out _ _ HJ.out).kc.cell 2
   have y3 := (HIV.out _ _ HJ.out).kc.cell 3
   have y5 := (HIV.out _ _ HJ.out).kc.cell 5
   obtain ⟨z0, z1, z2⟩ := (HIV.out _ _ HJ.out).kf.c3
   have htr := HTR.out wr (HIV.out _ _ HJ.out) f.toNat (by omega)
   rw [show ((f.toNat : Nat) : Int) = f by omega] at htr
   have HT := Lib.hid htr
   clear htr
   clear x3
   gi_wp2_with fail
   refine ⟨trivial, ?_⟩
   refine (callsIn_wide.2 HT.out).mono ?_
   rintro e w1 ⟨T', hT1, hT2, hs1, hmv, hcase⟩
   have HABW := Lib.hid (AbT.of_sea (d := d) (dc := dc) (tc := tc) (sc := sc) (zc := zc) (cc := cc) (wc := wc) hmv hs1 hT2)
   have HJ1 := Lib.hid (HAB.out _ _ _ HJ.out HABW.out)
   have hpe : M.posB d ta f (fun c => xL.contains c) (trFit Xs hn ta ft fc) (n - 1) = lp f := by rw [HLP.out]; rfl
   rw [hpe] at hcase
   rcases hcase with ⟨hp, rfl⟩ | ⟨hp, rwb, V, rfl, ho, hnt, hro, hrt, hrd⟩
   ·
    have HP := Lib.hid hp
    have hnn := nil_ne_nil
    clear hp hT1 hT2 hs1 hmv x4 y0 y1 y2 y3 y5 z0 z1 z2
    gi_wp2_with fail
    (try refine ⟨fun f h => (by cases h), ?_⟩)
    gi_wp2_with fail
    go_roundw
    case rel => exact ⟨f + 1, pre, by omega, by omega, by go_num, HJ1, Lib.hid (by rw [show f + 1 - 1 = f by omega, M.spanL_succ hf1, HP.out, ← HS.out]; simp), by omega⟩
    case measure => simp [intOf]; omega
   ·
    have HP := Lib.hid hp
    have HYD := Lib.hid (show YdL d P m1 m2 ta n hn xL Xs lo hi ft fc wr (f, rwb, V) w1 from ⟨⟨hf1, hle⟩, by rw [← HLP.out]; exact hp, ho, fun h => hnt (hs1.ts_sub h), hro, fun k hk g e h => hrt k hk g e (hs1.ts_sub h), hrd⟩)
    have hsn := some_ne_nil
    clear hp hT1 hT2 hs1 hmv ho hnt hro hrt hrd x4 y0 y1 y2 y3 y5 z0 z1 z2
    obtain ⟨fn, tmps, assign, body, hy, hR⟩ := HY.out pre (f, rwb, V) wr w1 HJ.out HABW.out HYD.out (by omega)
    dsimp only at hy
    have HRD := Lib.hid hR
    clear hR
    gi_wp2_with fail
    refine HRD.out.mono ?_
    rintro e w7 (⟨rfl, hj7⟩ | ⟨rfl, hj7⟩)
    ·
     have HJ7 := Lib.hid hj7
     clear hj7
     gi_wp2_with fail
     go_roundw
     case rel => exact ⟨f + 1, pre ++ [(f, rwb, V)], by omega, by omega, by go_num, HJ7, Lib.hid (by rw [show f + 1 - 1 = f by omega, M.spanL_succ hf1, HP.out, ← HS.out]; simp), by rw [List.length_append]; simp only [List.length_cons, List.length_nil]; omega⟩
     case measure => simp [intOf]; omega
    ·
     have HJ7 := Lib.hid hj7
     clear hj7
     gi_wp2_with fail
     (try simp only [Exit.inBlock, Exit.then])
     refine bodyPost_ret (results_none rfl _ _ _) rfl ?_
     exact ⟨⟨_, rfl⟩, .inr ⟨_, ⟨f, hf1, hle, HP.out, by rw [M.spanL_succ hf1, HP.out, ← HS.out]; simp⟩, HJ7.out⟩⟩
  ·
   have hfe : f = hi + 1 := by omega
   subst hfe
   gi_wp2_with fail
   go_end0
   exact ⟨⟨_, rfl⟩, .inl ⟨pre, by have := HS.out; rwa [show hi + 1 - 1 = hi by omega] at this, HJ.out⟩⟩
end
end Go.Proofs.YtnbeembnnjdmdaaGreatDoor
