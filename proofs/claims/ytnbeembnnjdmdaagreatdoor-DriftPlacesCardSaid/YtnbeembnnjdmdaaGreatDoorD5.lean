/- drift: the two force functions, and AppendSeq over an iterator that writes the map of neighbours. -/
import Derived.Test.YtnbeembnnjdmdaaGreatDoorD4
import Derived.Maps.OwnIn
import Derived.RangeFuncBox
import Derived.Test.YtnbeembnnjdmdaaGreatDoorMp
namespace Go.Proofs.YtnbeembnnjdmdaaGreatDoor
open Go.RowKit Go.Shelf

attribute [local go_sem] Oper.semAt_some
set_option maxRecDepth 100000 in
set_option maxHeartbeats 3200000 in
theorem step1_any (f : Int) (W : World) : Calls Tryz.prog 87 #[.int .i64 f] W fun e w' => e = .returned (.int .i64 f) ∧ W = w' := by
  go_enter Tryz.func87, Tryz.ntmps87
  go_wp2_with fail
  go_ret
  exact ⟨rfl, rfl⟩
set_option maxRecDepth 100000 in
set_option maxHeartbeats 3200000 in
theorem step2_any (f c t l : Int) (xb : Nat) (W : World) (hb : Blk W xb 96 #[.int .i64 c, .int .i64 t, .int .i64 l]) (hf : 0 ≤ f ∧ f ≤ 3) (hl : 0 ≤ l ∧ l ≤ 8) :
    Calls Tryz.prog 88 #[.int .i64 f, .pointer (some ⟨xb, 0, none⟩)] W fun e w' => e = .returned (.int .i64 (f * l / 4)) ∧ W = w' := by
  have x2 := hb.cell 2
  have h0 : 0 ≤ f * l := Int.mul_nonneg hf.1 hl.1
  have h1 : f * l ≤ 3 * 8 := Int.mul_le_mul hf.2 hl.2 hl.1 (by omega)
  have e1 : wrap64 (f * l) = f * l := IntWalk.wrap64_in _ (by omega)
  have e2 : IntKind.i64.wrap (f * l) = f * l := by rw [IntKind.wrap_i64]; omega
  have hq := fun W => run_quo (P := Tryz.prog) (w := W) (f * l) 4 ⟨h0, by omega, by omega⟩
  go_enter Tryz.func88, Tryz.ntmps88
  go_wp2_with fail
  go_ret
  exact ⟨rfl, rfl⟩
/-- a list of ints, owned -/
def IL (W : World) (B : Nat) (v : Value) (L : List Int) : Prop := Own W B 3 1 v L.length (ints fun j => L.getD j 0)
/-- all but the map m and the block r lies as it lay -/
structure Kp (m : Nat) (r : Option Nat) (W W' : World) : Prop where
  os : W'.os = W.os
  tape : W'.tape = W.tape
  output : W'.output = W.output
  size : W.heap.size ≤ W'.heap.size
  block : ∀ k, k < W.heap.size → k ≠ m → some k ≠ r → W'.heap[k]? = W.heap[k]?
section
variable {W W' W'' : World} {m : Nat} {r : Option Nat}
theorem Kp.refl (m : Nat) (r : Option Nat) (W : World) : Kp m r W W := ⟨rfl, rfl, rfl, Nat.le_refl _, fun _ _ _ _ => rfl⟩
theorem Kp.mv (h : Kp m r W W') (k : Mv m m W' W'') : Kp m r W W'' :=
  ⟨k.os.trans h.os, k.tape.trans h.tape, k.output.trans h.output, Nat.le_trans h.size k.size, fun i hi h1 h2 => (k.block i (Nat.lt_of_lt_of_le hi h.size) h1 h1).trans (h.block i hi h1 h2)⟩
theorem Kp.grown {row : Option Nat} (h : Kp m r W W') (k : W'.grownBy W'' row) (hr : ∀ q, row = some q → W.heap.size ≤ q ∨ some q = r) : Kp m r W W'' :=
  ⟨k.os.trans h.os, k.tape.trans h.tape, k.output.trans h.output, Nat.le_trans h.size k.size, fun i hi h1 h2 => (k.block i (Nat.lt_of_lt_of_le hi h.size) (fun e => by
    rcases hr i e.symm with h3 | h3
    · omega
    · exact h2 h3)).trans (h.block i hi h1 h2)⟩
theorem Own.cells_ne {B t k n q : Nat} {v : Value} {F : Nat → Nat → Value} {o : Obj} (ho : Own W B t k v n F) (hq : W.heap[q]? = some o) (hc : o.isCells = false) : v.ownBlock ≠ some q := by
  obtain ⟨_, ⟨rfl, _⟩ | ⟨g, c, cur, rfl, _, h2, _⟩⟩ := ho
  · simp [Value.ownBlock]
  · intro e
    obtain rfl : g = q := by simpa [Value.ownBlock] using e
    rw [h2] at hq; cases hq; cases hc
theorem Own.keeps {B t k n : Nat} {v : Value} {F : Nat → Nat → Value} (ho : Own W B t k v n F) (hg : W.grownBy W' v.ownBlock) (C : Nat) : KeepsFrom C W W' :=
  ⟨hg.size, fun q _ _ hq hc => (hg.block q (Array.getElem?_eq_some_iff.1 hq).1 fun e => ho.cells_ne hq hc e.symm).trans hq⟩
theorem Blk.keepsSet {g t : Nat} {cs : Array Value} (hb : Blk W g t cs) (i : Nat) (u : Value) (C : Nat) : KeepsFrom C W (W.setCell ⟨g, i, none⟩ u) :=
  ⟨(KeepsWalks.setCell W _ u).size, fun q o _ hq hc => (Below.heap_setCell _ _ _ q (fun e => by
    have e' : q = g := e
    subst e'
    rw [show W.heap[q]? = _ from hb] at hq; cases hq; cases hc)).trans hq⟩
theorem IL.app {B : Nat} {v : Value} {L : List Int} {x : Int} (h : W.ownsRow B 3 1 v (L.length + 1) (cellsOf L.length 1 (ints fun j => L.getD j 0) ++ [.int .i64 x])) : IL W B v (L ++ [x]) := by
  unfold IL
  have e : cellsOf L.length 1 (ints fun j => L.getD j 0) ++ [.int .i64 x] = cellsOf (L.length + 1) 1 (ints fun j => (L ++ [x]).getD j 0) := by
    have := cellsOf_succ L.length 1 (ints fun j => L.getD j 0) (fun _ => .int .i64 x)
    rw [show [Value.int .i64 x] = (List.range 1).map fun _ => .int .i64 x from rfl, this]
    refine cellsOf_congr fun i j hi _ => ?_
    unfold upd ints
    by_cases h2 : i = L.length
    · subst h2; simp
    · rw [if_neg h2]
      have : i < L.length := by omega
      simp [List.getD_eq_getElem?_getD, List.getElem?_append_left this]
  rw [e] at h
  rw [List.length_append, List.length_singleton]
  exact h
theorem wpListIn_apI {Fe : Fence} {n : Nat} (w : World) {ops : Array Oper} {rest : List Oper} {o : Oper} {a : Act} {Q : Exit → Act → World → Prop} (hgd : o.guard = none) (s x : Operand)
    (ho : o.op = .call { callee := .builtin .append, args := #[s, x], argTypes := #[22, 22] }) {B : Nat} {v : Value} {L : List Int} (hs : a.eval s = v) (hown : IL w B v L) {g c : Nat} {y : Int} (hx : a.eval x = .slice (some ⟨g, 0, none⟩) 1 c)
    (hc : w.cell? ⟨g, 0, none⟩ = some (.int .i64 y)) (hL : L.length < 1000000) (hB : B ≤ w.heap.size)
    (hK : ∀ g' c' w', IL w' B (.slice (some ⟨g', 0, none⟩) (L.length + 1) c') (L ++ [y]) → w.grownBy w' v.ownBlock → (some g' = v.ownBlock ∨ w.heap.size = g') → wpListIn Fe n Tryz.prog ops Q rest (a.put o.dst (.slice (some ⟨g', 0, none⟩) (L.length + 1) c')) w') :
    wpListIn Fe n Tryz.prog ops Q (o :: rest) a w := by
  obtain ⟨i0, h1, h2, h3, h4⟩ := info_parts int_info
  refine wpListIn_append_own_at w hgd s x 22 ho B 3 i0 (.int .i64 0) 1 8 Tryz.underlying22 h1 h2 h3 h4 rfl (by decide) v L.length _ hs hown ⟨g, 0, none⟩ 1 c [.int .i64 y] hx rfl (fun j u hu => ?_) (fun u hu => by rw [List.mem_singleton.1 hu]; rfl) (by unfold maxLen; omega) (by omega) hB ?_
  · rcases j with _ | j
    · simp only [List.getElem?_cons_zero, Option.some.injEq] at hu; subst hu; exact hc
    · simp at hu
  · intro v' w' r1 r2 _ r4
    obtain ⟨g', c', rfl⟩ := ownsRow_succ r1
    refine hK g' c' w' (IL.app r1) r2 ?_
    rcases r4 with r4 | r4
    · exact .inl r4
    · exact .inr (by simpa [Value.ownBlock] using r4.symm)
end
/-- what AppendSeq has gathered -/
def AsI {α : Type} (SM R : World → Prop) (m2 : Nat) (w : World) (Bv : Nat) (v : Value) (L : List Int) (enc : α → Int) (N : Nat) (pre : List α) (W : World) : Prop :=
  pre.length ≤ N ∧ SM W ∧ R W ∧ w.heap.size + 1 ≤ W.heap.size ∧ Kp m2 v.ownBlock w W ∧ ∃ v', Blk W w.heap.size 22 #[v'] ∧ IL W Bv v' (L ++ pre.map enc) ∧ (v'.ownBlock = v.ownBlock ∨ ∃ g, v'.ownBlock = some g ∧ w.heap.size < g)
theorem AsI.own {α : Type} {SM R : World → Prop} {m2 : Nat} {w : World} {Bv : Nat} {v : Value} {L : List Int} {enc : α → Int} {N : Nat}
    (hSM : ∀ X Y row, SM X → X.grownBy Y row → (∀ r, row = some r → w.heap.size ≤ r ∨ some r = v.ownBlock) → SM Y) (hR : ∀ X Y row, R X → X.grownBy Y row → (∀ r, row = some r → w.heap.size ≤ r ∨ some r = v.ownBlock) → R Y) :
    OwnFrom (w.heap.size + 1) (AsI SM R m2 w Bv v L enc N) := by
  rintro s X Y row ⟨h0, h1, h2, h3, h4, v', h5, h6, h7⟩ hg hr
  have hr' : ∀ r, row = some r → w.heap.size ≤ r ∨ some r = v.ownBlock := fun r e => .inl (by have := (hr r e).1; omega)
  refine ⟨h0, hSM X Y row h1 hg hr', hR X Y row h2 hg hr', Nat.le_trans h3 hg.size, h4.grown hg hr', v', h5.grown hg fun e => ?_, Own.grown h6 hg ?_, h7⟩
  · have := (hr _ e.symm).1; omega
  · cases row with
    | none =>
      cases hv : v'.ownBlock with
      | none => exact .inl rfl
      | some g => exact .inr (by simp)
    | some r =>
      obtain ⟨o, ho, hc⟩ := (hr r rfl).2
      exact .inr (Own.cells_ne h6 ho hc)
theorem AsI.mv {α : Type} {SM R : World → Prop} {m2 : Nat} {w : World} {Bv : Nat} {v : Value} {L : List Int} {enc : α → Int} {N : Nat} {s : List α} {X Y : World} (h : AsI SM R m2 w Bv v L enc N s X) (hv : Mv m2 m2 X Y) (hm : IsMap' X m2) (h1 : SM Y) (h2 : R Y) :
    AsI SM R m2 w Bv v L enc N s Y := by
  obtain ⟨h0, _, _, h3, h4, v', h5, h6, h7⟩ := h
  exact ⟨h0, h1, h2, Nat.le_trans h3 hv.size, h4.mv hv, v', h5.mv hv hm hm, Own.mv h6 hv hm hm, h7⟩
section
variable {d : M.Dr} {zA cA wA dA tA sA : Option Addr} {cl : Nat → Nat} {B P m1 m2 dc tc sc zc cc wc : Nat} {T : Nat → Prop} {W W' : World}
set_option maxRecDepth 100000 in
set_option maxHeartbeats 3200000 in
theorem appendSeq_any {α : Type} (gf : Nat) (lb : Array Value) (enc : α → Int) (R : World → Prop) (Sf : List α → Prop) (N : Nat) (eg : ∀ args w, (callFunc gf args).run Tryz.prog w = .ok (.enter gf args) w)
    (hseq : SeqB Fence.wide 3 Tryz.prog gf lb (fun x : α => #[.int .i64 (enc x)]) (fun X Y => Mv m2 m2 X Y ∧ (SeaM d zA cA wA dA tA sA cl B P m1 m2 #[.int .i64 (d.s.W : Int), .int .i64 (d.s.H : Int), .slice dA d.s.nd dc, .slice tA d.s.nt tc, .slice sA d.s.nt sc, .slice zA d.s.nd zc, .slice cA d.nz cc, .slice wA (d.s.nt - 1) wc, .map (some m1), .map (some m2)] T X → SeaM d zA cA wA dA tA sA cl B P m1 m2 #[.int .i64 (d.s.W : Int), .int .i64 (d.s.H : Int), .slice dA d.s.nd dc, .slice tA d.s.nt tc, .slice sA d.s.nt sc, .slice zA d.s.nd zc, .slice cA d.nz cc, .slice wA (d.s.nt - 1) wc, .map (some m1), .map (some m2)] T Y)) (fun W => SeaM d zA cA wA dA tA sA cl B P m1 m2 #[.int .i64 (d.s.W : Int), .int .i64 (d.s.H : Int), .slice dA d.s.nd dc, .slice tA d.s.nt tc, .slice sA d.s.nt sc, .slice zA d.s.nd zc, .slice cA d.nz cc, .slice wA (d.s.nt - 1) wc, .map (some m1), .map (some m2)] T W ∧ R W) Sf (fun _ => True) N) (hN : N ≤ 1000)
    (w : World) (hS : SeaM d zA cA wA dA tA sA cl B P m1 m2 #[.int .i64 (d.s.W : Int), .int .i64 (d.s.H : Int), .slice dA d.s.nd dc, .slice tA d.s.nt tc, .slice sA d.s.nt sc, .slice zA d.s.nd zc, .slice cA d.nz cc, .slice wA (d.s.nt - 1) wc, .map (some m1), .map (some m2)] T w) (hRw : R w) (Bv : Nat) (v : Value) (L : List Int) (hL : IL w Bv v L) (hB : Bv ≤ w.heap.size) (hLl : L.length ≤ 100000) (hvT : ∀ r, v.ownBlock = some r → B ≤ r ∧ ¬ T r)
    (hR : ∀ X Y row, R X → X.grownBy Y row → (∀ r, row = some r → w.heap.size ≤ r ∨ some r = v.ownBlock) → R Y) (hRm : ∀ X Y, R X → SeaM d zA cA wA dA tA sA cl B P m1 m2 #[.int .i64 (d.s.W : Int), .int .i64 (d.s.H : Int), .slice dA d.s.nd dc, .slice tA d.s.nt tc, .slice sA d.s.nt sc, .slice zA d.s.nd zc, .slice cA d.nz cc, .slice wA (d.s.nt - 1) wc, .map (some m1), .map (some m2)] T X → Mv m2 m2 X Y → R Y) :
    Calls Tryz.prog 91 #[v, .func (.func gf) #[] lb] w fun e w' => ∃ v' xs, e = .returned v' ∧ Sf xs ∧ xs.length ≤ N ∧ IL w' Bv v' (L ++ xs.map enc) ∧ (v'.ownBlock = v.ownBlock ∨ ∃ g, v'.ownBlock = some g ∧ w.heap.size ≤ g) ∧ Kp m2 v.ownBlock w w' ∧ SeaM d zA cA wA dA tA sA cl B P m1 m2 #[.int .i64 (d.s.W : Int), .int .i64 (d.s.H : Int), .slice dA d.s.nd dc, .slice tA d.s.nt tc, .slice sA d.s.nt sc, .slice zA d.s.nd zc, .slice cA d.nz cc, .slice wA (d.s.nt - 1) wc, .map (some m1), .map (some m2)] T w' ∧ R w' := by
  obtain ⟨vA, vc, rfl⟩ := Own.form hL
  refine (callsIn_wide (n := 4)).1 ?_
  refine callsIn_of_wp_marks Tryz.func91 rfl trivial ?_ rfl
  simp only [Tryz.ntmps91, List.size_toArray, List.length_cons, List.length_nil, Nat.reduceAdd, Nat.reduceSub, Array.replicate_succ, Array.replicate_zero, List.push_toArray, List.append_toArray, List.nil_append, List.cons_append]
  refine wpIn_wide.2 ?_
  go_wp2_with fail
  have hm2 : m2 < w.heap.size := (hS.t.2.2.2 m2 hS.t.2.2.1).2
  have hSM : ∀ X Y row, (SeaM d zA cA wA dA tA sA cl B P m1 m2 #[.int .i64 (d.s.W : Int), .int .i64 (d.s.H : Int), .slice dA d.s.nd dc, .slice tA d.s.nt tc, .slice sA d.s.nt sc, .slice zA d.s.nd zc, .slice cA d.nz cc, .slice wA (d.s.nt - 1) wc, .map (some m1), .map (some m2)] T X) → X.grownBy Y row → (∀ r, row = some r → w.heap.size ≤ r ∨ some r = (Value.slice vA L.length vc).ownBlock) → (SeaM d zA cA wA dA tA sA cl B P m1 m2 #[.int .i64 (d.s.W : Int), .int .i64 (d.s.H : Int), .slice dA d.s.nd dc, .slice tA d.s.nt tc, .slice sA d.s.nt sc, .slice zA d.s.nd zc, .slice cA d.nz cc, .slice wA (d.s.nt - 1) wc, .map (some m1), .map (some m2)] T Y) := fun X Y row h hg hr => h.grown hg fun r e => by
    rcases hr r e with h1 | h1
    · exact ⟨by have := hS.b.2.2.2.2; omega, fun h2 => by have := (hS.t.2.2.2 r h2).2; omega⟩
    · exact hvT r h1.symm
  have hown := AsI.own (α := α) (m2 := m2) (Bv := Bv) (L := L) (enc := enc) (N := N) hSM hR
  obtain ⟨AX, hAX⟩ : ∃ AX : α → Act, AX = fun x => { tmps := #[Value.slice vA L.length vc, .func (.func gf) #[] lb, .pointer (some ⟨w.heap.size, 0, none⟩), undef, .slice none 0 0, .int .i64 (enc x), .func (.func gf) #[] lb, .int .i64 (enc x), undef, undef, undef, undef, undef], defers := [] } := ⟨_, rfl⟩
  have hsz : (w.alloc (.cells #[Value.slice vA L.length vc] 22)).heap.size = w.heap.size + 1 := by simp
  refine (wpIn_wide (n := 4)).1 ?_
  refine wpIn_rangeFunc_B (F := Fence.wide) (n := 4) rfl (by omega) (gf := gf) (lb := lb) rfl trivial eg hseq (fun _ => rfl) (AsI (fun W => SeaM d zA cA wA dA tA sA cl B P m1 m2 #[.int .i64 (d.s.W : Int), .int .i64 (d.s.H : Int), .slice dA d.s.nd dc, .slice tA d.s.nt tc, .slice sA d.s.nt sc, .slice zA d.s.nd zc, .slice cA d.nz cc, .slice wA (d.s.nt - 1) wc, .map (some m1), .map (some m2)] T W) R m2 w Bv (.slice vA L.length vc) L enc N) (fun _ _ _ => False) (by rw [hsz]; exact hown) (fun _ _ _ _ _ h _ _ => h)
    (fun A B h => h.1.keeps (by rw [hsz]; omega) (by rw [hsz]; omega)) (fun s A B h hab => h.mv hab.1 h.2.1.map2 (hab.2 h.2.1) (hRm _ _ h.2.2.1 h.2.1 hab.1)) (fun _ _ _ _ h _ => h) (fun s A h => ⟨h.2.1, h.2.2.1⟩) ?h0 (fun x a' _ => a' = AX x) (fun _ _ _ _ _ _ h _ _ => h) ?has ?hbody ?hdone (fun _ _ _ _ _ _ h _ => h.elim)
  case h0 => exact ⟨Nat.zero_le _, hS.alloc _, hR _ _ none hRw (World.grownBy_alloc _ _ _) (fun _ e => by cases e), by simp, (Kp.refl _ _ _).grown (World.grownBy_alloc _ _ none) (fun _ e => by cases e), _, Blk.new _ _ _, by rw [List.map_nil, List.append_nil]; exact Own.alloc hL _, .inl rfl⟩
  case has =>
    intro l pre x W K hi hK
    have HK := Lib.hid (hK (AX x) W (KeepsFrom.refl _ _) hi rfl)
    clear hK
    gi_wp2_with fail
    rw [hAX] at HK
    exact HK.out
  case hbody =>
    intro l pre x a' W hl hlp hi ha hlen
    subst ha
    obtain ⟨h0, h1, h2, h3, h4, v', h5, h6, h7⟩ := hi
    obtain ⟨L2, hL2⟩ : ∃ L2, L2 = L ++ pre.map enc := ⟨_, rfl⟩
    rw [← hL2] at h6
    have HL2 := Lib.hid hL2
    have hlen2 : L2.length < 1000000 := by rw [hL2, List.length_append, List.length_map]; omega
    clear hL2
    obtain ⟨A', c', rfl⟩ := Own.form h6
    rw [hAX]
    have x0 := h5.cell 0
    have hrow : ∀ r, (Value.slice A' L2.length c').ownBlock = some r → w.heap.size ≤ r ∨ some r = (Value.slice vA L.length vc).ownBlock := fun r e => by
      rcases h7 with h7 | ⟨g, h7, h8⟩
      · exact .inr (e.symm.trans h7)
      · rw [h7] at e; cases e; exact .inl (by omega)
    have H1 := Lib.hid h1
    have H2 := Lib.hid h2
    have H4 := Lib.hid h4
    have H5 := Lib.hid h5
    have H6 := Lib.hid h6
    have H7 := Lib.hid h7
    have HROW := Lib.hid hrow
    have HSM := Lib.hid hSM
    have HR := Lib.hid hR
    clear h1 h2 h4 h5 h6 h7 hrow hSM hR hRm hvT hown hseq hS hRw hL
    gi_wp2_with (gi_at_builtin; go_must (refine wpListIn_apI _ rfl (.tmp 8) (.tmp 10) rfl (B := Bv) (L := L2) rfl (Own.alloc H6.out _) rfl ((Blk.new _ _ _).cell 0) hlen2 (by simp; omega) ?_); intro g6 c6 w6 hi6 hg6 hb6; have HI6 := Lib.hid hi6; have HG6 := Lib.hid hg6; have HB6 := Lib.hid hb6; have H56 := Lib.hid (Blk.grown_own (H5.out.alloc _) (Own.alloc H6.out _) (by decide) hg6); clear hi6 hg6 hb6 x0; have x0 := H56.out.cell 0; have f0 := H56.out.frz 0)
    have hK6 : ∀ (RR : World → Prop), (∀ X Y row, RR X → X.grownBy Y row → (∀ r, row = some r → w.heap.size ≤ r ∨ some r = (Value.slice vA L.length vc).ownBlock) → RR Y) → RR W → ∀ u, RR (w6.setCell ⟨w.heap.size, 0, none⟩ u) := fun RR hRR h u => by
      refine hRR _ _ _ (hRR _ _ _ (hRR _ _ none h (World.grownBy_alloc _ _ _) (fun _ e => by cases e)) HG6.out HROW.out) (grownBy_setCell' _ _ _) fun r e => ?_
      cases e
      exact .inl (Nat.le_refl _)
    have hne : (Value.slice (some ⟨g6, 0, none⟩) (L2.length + 1) c6).ownBlock ≠ some w.heap.size := Own.ne_blk HI6.out H56.out (by decide)
    refine ⟨?_, by rw [List.length_append, List.length_singleton]; omega, hK6 _ HSM.out H1.out _, hK6 _ HR.out H2.out _, ?_, hK6 (Kp m2 _ w) (fun X Y row h hg hr => h.grown hg hr) H4.out _, _, Blk.set_ H56.out 0 _, ?_, ?_⟩
    · exact (((KeepsFrom.of_grownBy (World.grownBy_alloc _ _ none) fun _ e => by cases e).trans (Own.keeps (Own.alloc H6.out _) HG6.out _))).trans (Blk.keepsSet H56.out 0 _ _)
    · have := HG6.out.size
      simp at this ⊢
      omega
    · have := Own.setCell HI6.out hne (p := ⟨w.heap.size, 0, none⟩)
      rw [List.map_append, ← List.append_assoc, ← HL2.out]
      exact this _
    · rcases HB6.out with e | e
      · rcases H7.out with e7 | ⟨g, e7, e8⟩
        · exact .inl ((show some g6 = (Value.slice A' L2.length c').ownBlock from e).trans e7)
        · exact .inr ⟨g, (show some g6 = (Value.slice A' L2.length c').ownBlock from e).trans e7, e8⟩
      · exact .inr ⟨g6, rfl, by simp at e; omega⟩
  case hdone =>
    intro D xs W hD hSf hi hdf
    obtain ⟨h0, h1, h2, h3, h4, v', h5, h6, h7⟩ := id hi
    have x0 := h5.cell 0
    clear h0 h1 h2 h3 h4 h6 h7
    go_wp2_with fail
    refine leaves_marks (lo := w.heap.size + 1) [D] W ⟨by rw [hsz] at hD; exact hD, hdf, fun x hx => (by cases hx), trivial⟩ fun w' hk => ⟨v', by simp [results, Tryz.f91, go_sem], ?_⟩
    obtain ⟨⟨k0, k1, k2, k3, k4, v2, k5, k6, k7⟩, k8⟩ := hk (fun _ X => AsI (fun W => SeaM d zA cA wA dA tA sA cl B P m1 m2 #[.int .i64 (d.s.W : Int), .int .i64 (d.s.H : Int), .slice dA d.s.nd dc, .slice tA d.s.nt tc, .slice sA d.s.nt sc, .slice zA d.s.nd zc, .slice cA d.nz cc, .slice wA (d.s.nt - 1) wc, .map (some m1), .map (some m2)] T W) R m2 w Bv (.slice vA L.length vc) L enc N xs X ∧ Blk X w.heap.size 22 #[v']) (fun _ X Y row hs hg hr => ⟨hown xs X Y row hs.1 hg hr, hs.2.grown hg fun e => by have := (hr _ e.symm).1; omega⟩) ⟨hi, h5⟩
    have e : v2 = v' := by
      have := (show w'.heap[w.heap.size]? = _ from k5).symm.trans k8
      simpa using this
    subst e
    exact ⟨_, xs, rfl, hSf, k0, k6, k7.imp_right fun ⟨g, e1, e2⟩ => ⟨g, e1, Nat.le_of_lt e2⟩, k4, k1, k2⟩
end
end Go.Proofs.YtnbeembnnjdmdaaGreatDoor
