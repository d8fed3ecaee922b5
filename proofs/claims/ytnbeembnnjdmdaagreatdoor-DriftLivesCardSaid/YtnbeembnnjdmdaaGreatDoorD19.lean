/- drift: the two predicates of tracks. -/
import Derived.Test.YtnbeembnnjdmdaaGreatDoorD17
import Derived.Test.YtnbeembnnjdmdaaGreatDoorLaA
namespace Go.Proofs.YtnbeembnnjdmdaaGreatDoor
open Go.RowKit Go.Maps

theorem RdS.mv {w w' : World} {B n m m' : Nat} {A : Option Addr} {X : Nat → SgV} (h : RdS w B A n X) (hv : Mv m m' w w') (h1 : IsMap' w m) (h2 : IsMap' w m') : RdS w' B A n X := by
 rcases h with h | ⟨b, off, e, hb', hc⟩
 · exact .inl h
 ·
  refine .inr ⟨b, off, e, hb', fun i hi => ?_⟩
  obtain ⟨⟨k1, k2, k3⟩, k4, k5⟩ := hc i hi
  exact ⟨⟨cell_mv k1 hv h1 h2, cell_mv k2 hv h1 h2, cell_mv k3 hv h1 h2⟩, k4.mv hv h1 h2, k5⟩
theorem M.anyTo_any {L : List Int} {p : Int → Bool} : M.anyTo L.length (fun j => p (L.getD j 0)) = L.any p := by
 rw [Bool.eq_iff_iff, M.anyTo_iff, List.any_eq_true]
 constructor
 ·
  rintro ⟨i, hi, h⟩
  rw [List.getD_eq_getElem?_getD, List.getElem?_eq_getElem hi, Option.getD_some] at h
  exact ⟨_, List.getElem_mem hi, h⟩
 ·
  rintro ⟨x, hx, h⟩
  obtain ⟨i, hi, rfl⟩ := List.getElem_of_mem hx
  exact ⟨i, hi, by rw [List.getD_eq_getElem?_getD, List.getElem?_eq_getElem hi, Option.getD_some]; exact h⟩
theorem idx3 (A : Option Addr) (n c B : Nat) (f : Nat → Int) (caps : Array Value) (p : Int → Bool) (w : World) (hn : n ≤ maxLen) (hR : Rd1 w B A n f)
  (hf : ∀ x, Calls Tryz.prog 126 (#[.int .i64 x] ++ caps) w fun e w' => e = .returned (.bool (p x)) ∧ w' = w) :
  Calls Tryz.prog 65 #[.slice A n c, .func (.func 126) #[] caps] w fun e w' => ∃ r : Int, e = .returned (.int .i64 r) ∧ decide (0 ≤ r) = M.anyTo n (fun i => p (f i)) ∧ w' = w := by
 unfold maxLen at hn
 have HFN := Lib.hid hf
 have HR := Lib.hid hR
 clear hf hR
 go_enter Tryz.func65, Tryz.ntmps65
 go_wp2_with fail
 go_loopw [5, 8] (fun _ i wr => ∃ k : Nat, k ≤ n ∧ i = .int .i64 k ∧ M.anyTo k (fun i => p (f i)) = false ∧ wr = w) (fun _ i _ => n - (intOf i).toNat)
 case atStart => exact ⟨0, Nat.zero_le _, rfl, rfl, rfl⟩
 case round =>
  obtain ⟨k, hk, rfl, hf, rfl⟩ := hrel
  have HF := Lib.hid hf
  clear hf
  by_cases hlt : k < n
  ·
   obtain ⟨b, off, rfl, hb, c0⟩ := HR.out.at_ hlt
   cases hp : p (f k)
   ·
    have HP := Lib.hid hp
    clear hp
    go_wp2_with (refine (HFN.out _).mono ?_; rw [HP.out]; rintro e w1 ⟨rfl, rfl⟩)
    go_roundw
    case rel => exact ⟨k + 1, by omega, by go_num, by simp [M.anyTo, HF.out, HP.out], by first | rfl | trivial⟩
    case measure => simp [intOf]; omega
   ·
    have HP := Lib.hid hp
    clear hp
    go_wp2_with (refine (HFN.out _).mono ?_; rw [HP.out]; rintro e w1 ⟨rfl, rfl⟩)
    go_ret
    exact ⟨_, rfl, (by rw [M.anyTo_iff.2 ⟨k, hlt, HP.out⟩]; exact decide_eq_true (by omega)), rfl⟩
  ·
   obtain rfl : k = n := by omega
   go_wp2_with fail
   go_ret
   exact ⟨_, rfl, (by rw [HF.out]; rfl), rfl⟩
theorem con3 (A : Option Addr) (L : List Int) (c B : Nat) (caps : Array Value) (p : Int → Bool) (w : World) (hn : L.length ≤ maxLen) (hR : Rd1 w B A L.length (fun i => L.getD i 0))
  (hf : ∀ x, Calls Tryz.prog 126 (#[.int .i64 x] ++ caps) w fun e w' => e = .returned (.bool (p x)) ∧ w' = w) :
  Calls Tryz.prog 114 #[.slice A L.length c, .func (.func 126) #[] caps] w fun e w' => e = .returned (.bool (L.any p)) ∧ w' = w := by
 have HI := Lib.hid (idx3 A L.length c B _ caps p w hn hR hf)
 rw [M.anyTo_any] at HI
 clear hf hR
 go_enter Tryz.func114, Tryz.ntmps114
 go_wp2_with (go_at_call 65; refine HI.out.mono ?_; rintro e w1 ⟨r, rfl, hr, rfl⟩; have HR := Lib.hid hr; clear hr)
 go_ret
 exact ⟨ret_bool HR.out, rfl⟩
section
variable {d : M.Dr} {zA cA wA dA tA sA : Option Addr} {cl : Nat → Nat} {B P m1 m2 dc tc sc zc cc wc : Nat} {T : Nat → Prop} {W W' : World} {hn hc xc : Nat} {at_ lo hi lw fc ft fl : Int} {xL : List Int} {xA hA : Option Addr} {Xs : Nat → SgV} {W0 X : World} {rb rw n : Nat} {T' : Nat → Prop} {V : Nat → Value} {D : Nat → Prop} {R : Nat → List Int}
theorem sm_grown (hB : B ≤ W0.heap.size) : ∀ (T1 : Nat → Prop) (X Y : World) (row : Option Nat), (fun T' X => SeaM d zA cA wA dA tA sA cl B P m1 m2 #[.int .i64 (d.s.W : Int), .int .i64 (d.s.H : Int), .slice dA d.s.nd dc, .slice tA d.s.nt tc, .slice sA d.s.nt sc, .slice zA d.s.nd zc, .slice cA d.nz cc, .slice wA (d.s.nt - 1) wc, .map (some m1), .map (some m2)] T' X ∧ (∀ k, T k → T' k) ∧ ∀ k, T' k → T k ∨ W0.heap.size ≤ k) T1 X → X.grownBy Y row → (∀ r, row = some r → W0.heap.size ≤ r ∧ ¬ T1 r) → (fun T' X => SeaM d zA cA wA dA tA sA cl B P m1 m2 #[.int .i64 (d.s.W : Int), .int .i64 (d.s.H : Int), .slice dA d.s.nd dc, .slice tA d.s.nt tc, .slice sA d.s.nt sc, .slice zA d.s.nd zc, .slice cA d.nz cc, .slice wA (d.s.nt - 1) wc, .map (some m1), .map (some m2)] T' X ∧ (∀ k, T k → T' k) ∧ ∀ k, T' k → T k ∨ W0.heap.size ≤ k) T1 Y :=
 fun _ _ _ _ h hg hr => ⟨h.1.grown hg fun r e => ⟨Nat.le_trans hB (hr r e).1, (hr r e).2⟩, h.2⟩
theorem sm_step {Y : World} {T2 T1 : Nat → Prop} (h : (fun T' X => SeaM d zA cA wA dA tA sA cl B P m1 m2 #[.int .i64 (d.s.W : Int), .int .i64 (d.s.H : Int), .slice dA d.s.nd dc, .slice tA d.s.nt tc, .slice sA d.s.nt sc, .slice zA d.s.nd zc, .slice cA d.nz cc, .slice wA (d.s.nt - 1) wc, .map (some m1), .map (some m2)] T' X ∧ (∀ k, T k → T' k) ∧ ∀ k, T' k → T k ∨ W0.heap.size ≤ k) T1 X) (hX : W0.heap.size ≤ X.heap.size) (hs : SeaM d zA cA wA dA tA sA cl B P m1 m2 #[.int .i64 (d.s.W : Int), .int .i64 (d.s.H : Int), .slice dA d.s.nd dc, .slice tA d.s.nt tc, .slice sA d.s.nt sc, .slice zA d.s.nd zc, .slice cA d.nz cc, .slice wA (d.s.nt - 1) wc, .map (some m1), .map (some m2)] T2 Y) (h1 : ∀ k, T1 k → T2 k) (h2 : ∀ k, T2 k → T1 k ∨ X.heap.size ≤ k) : (fun T' X => SeaM d zA cA wA dA tA sA cl B P m1 m2 #[.int .i64 (d.s.W : Int), .int .i64 (d.s.H : Int), .slice dA d.s.nd dc, .slice tA d.s.nt tc, .slice sA d.s.nt sc, .slice zA d.s.nd zc, .slice cA d.nz cc, .slice wA (d.s.nt - 1) wc, .map (some m1), .map (some m2)] T' X ∧ (∀ k, T k → T' k) ∧ ∀ k, T' k → T k ∨ W0.heap.size ≤ k) T2 Y :=
 ⟨hs, fun k hk => h1 k (h.2.1 k hk), fun k hk => (h2 k hk).elim (h.2.2 k) fun h3 => .inr (Nat.le_trans hX h3)⟩
def DelI (SM : (Nat → Prop) → World → Prop) (m1 m2 : Nat) (W0 : World) (cs : Array Value) (lw fc ft fl : Int) (rb rw n : Nat) (V : Nat → Value) (D : Nat → Prop) (R : Nat → List Int) (b : Nat) (y : Int) (own : Option Nat) (X : World) : Prop :=
 ∃ T', TrI SM m1 m2 W0 cs lw fc ft fl rb rw n T' V D R X ∧ Blk X b 3 #[.int .i64 y] ∧ ∀ r, own = some r → ¬ T' r ∧ r < X.heap.size
theorem DelI.grown {SM : (Nat → Prop) → World → Prop} {cs : Array Value} {b : Nat} {y : Int} {own : Option Nat} {Y : World} (h : DelI SM m1 m2 W0 cs lw fc ft fl rb rw n V D R b y own X) (hg : X.grownBy Y own) (hrb : rb < W0.heap.size + 6) (hrw : rw < W0.heap.size + 6)
  (hown : ∀ r, own = some r → W0.heap.size + 6 ≤ r ∧ r ≠ b ∧ ∀ j, j < n → D j → (V j).ownBlock ≠ some r) (hSM : ∀ T X Y row, SM T X → X.grownBy Y row → (∀ r, row = some r → W0.heap.size ≤ r ∧ ¬ T r) → SM T Y) : DelI SM m1 m2 W0 cs lw fc ft fl rb rw n V D R b y own Y := by
 obtain ⟨T', h1, h2, h3⟩ := h
 exact ⟨T', h1.grown hg hrb hrw (fun r e => ⟨(hown r e).1, (h3 r e).1, (hown r e).2.2⟩) hSM, h2.grown hg fun e => (hown b e.symm).2.1 rfl, fun r e => ⟨(h3 r e).1, Nat.lt_of_lt_of_le (h3 r e).2 hg.size⟩⟩
theorem dels2 {tb : Nat} {tick : Int} {own : Option Nat} {L : List Int} (hB : B ≤ W0.heap.size) (hm : IsMap' W0 m1 ∧ IsMap' W0 m2) (hR : RdS W0 W0.heap.size hA hn Xs) (hhn : hn ≤ maxLen) (hrb : rb < W0.heap.size + 6) (hrw : rw < W0.heap.size + 6) :
  Dels 124 #[.pointer (some ⟨W0.heap.size + 3, 0, none⟩), .pointer (some ⟨tb, 0, none⟩)] (fun x => !(M.agAll (fun i => (Xs i).sg) hn tick x && M.fixB ft fc tick x)) m1 m2 L (DelI (fun T' X => SeaM d zA cA wA dA tA sA cl B P m1 m2 #[.int .i64 (d.s.W : Int), .int .i64 (d.s.H : Int), .slice dA d.s.nd dc, .slice tA d.s.nt tc, .slice sA d.s.nt sc, .slice zA d.s.nd zc, .slice cA d.nz cc, .slice wA (d.s.nt - 1) wc, .map (some m1), .map (some m2)] T' X ∧ (∀ k, T k → T' k) ∧ ∀ k, T' k → T k ∨ W0.heap.size ≤ k) m1 m2 W0 #[.pointer (some ⟨P, 0, none⟩), .int .i64 at_, .slice xA xL.length xc, .int .i64 lo, .int .i64 hi, .slice hA hn hc] lw fc ft fl rb rw n V D R tb tick own) := by
 rintro Z x ⟨T', h1, h2, h3⟩ hx
 have := nofit_any (P := P) (hc := hc) (xc := xc) (at_ := at_) (lo := lo) (hi := hi) (xL := xL) (xA := xA) W0.heap.size (W0.heap.size + 2) (W0.heap.size + 3) tb tick h1.k7 h2 h1.k3 h1.k5 (hR.mv h1.mv hm.1 hm.2) h1.mv.size hhn x
 refine Calls.mono (by simpa using this) ?_
 rintro e w' ⟨rfl, hb⟩
 exact ⟨ret_bool (by simp), ⟨T', h1.below hb hrb hrw (sm_grown hB), h2.below' hb, fun r e => ⟨(h3 r e).1, Nat.lt_of_lt_of_le (h3 r e).2 hb.size⟩⟩, Mv.of_below hb⟩
theorem in_next {ib i : Nat} (h : TrI (fun T' X => SeaM d zA cA wA dA tA sA cl B P m1 m2 #[.int .i64 (d.s.W : Int), .int .i64 (d.s.H : Int), .slice dA d.s.nd dc, .slice tA d.s.nt tc, .slice sA d.s.nt sc, .slice zA d.s.nd zc, .slice cA d.nz cc, .slice wA (d.s.nt - 1) wc, .map (some m1), .map (some m2)] T' X ∧ (∀ k, T k → T' k) ∧ ∀ k, T' k → T k ∨ W0.heap.size ≤ k) m1 m2 W0 #[.pointer (some ⟨P, 0, none⟩), .int .i64 at_, .slice xA xL.length xc, .int .i64 lo, .int .i64 hi, .slice hA hn hc] lw fc ft fl rb rw n T' V D R X) (hib : Blk X ib 3 #[.int .i64 (i : Int)]) (hi : i + 1 < n) (hn : n ≤ 60) (hD : D (i + 1)) (hRl : (R (i + 1)).length ≤ 9223372036854775807) (k : Int) :
  Calls Tryz.prog 126 #[.int .i64 k, .pointer (some ⟨rb, 0, none⟩), .pointer (some ⟨ib, 0, none⟩)] X fun e w' => e = .returned (.bool ((R (i + 1)).contains k)) ∧ w' = X := by
 have x0 := h.k8.cell 0
 have x1 := hib.cell 0
 have hro := h.ro (i + 1) hi hD
 obtain ⟨A, c, hv⟩ := Own.form hro
 have x2 : X.cell? ⟨rw, i + 1, none⟩ = some (.slice A (R (i + 1)).length c) := by rw [← hv]; exact Own.cell1 h.rs hi
 rw [hv] at hro
 have HC := Lib.hid (contains_any A (R (i + 1)) c X.heap.size k X hRl hro.rd)
 clear h hib hro hv
 go_enter Tryz.func126, Tryz.ntmps126
 go_wp2_with (go_at_call 67; refine HC.out.mono ?_; rintro e w1 ⟨rfl, rfl⟩)
 go_ret
 exact ⟨ret_bool (by simp), rfl⟩
set_option maxRecDepth 100000 in
set_option maxHeartbeats 3200000 in
theorem dels3 {ib i ta ln : Nat} {own : Option Nat} {L : List Int} (hd : d.Ok) (hl : ln ≤ 8) (htn : ta + n = d.s.nt) (hi1 : i + 1 < n) (hD : D (i + 1)) (hRl : (R (i + 1)).length ≤ 9223372036854775807) (hLb : ∀ x, x ∈ L → -1 ≤ x ∧ x < d.s.nd) (hat : at_ = (ta : Int)) (hlw : lw = (ln : Int)) :
  Dels 125 #[.pointer (some ⟨W0.heap.size, 0, none⟩), .pointer (some ⟨ib, 0, none⟩), .pointer (some ⟨W0.heap.size + 1, 0, none⟩), .pointer (some ⟨rb, 0, none⟩)] (fun x => !((M.stepL d (ta + i) (ln : Int) x).any fun k => (R (i + 1)).contains k)) m1 m2 L (DelI (fun T' X => SeaM d zA cA wA dA tA sA cl B P m1 m2 #[.int .i64 (d.s.W : Int), .int .i64 (d.s.H : Int), .slice dA d.s.nd dc, .slice tA d.s.nt tc, .slice sA d.s.nt sc, .slice zA d.s.nd zc, .slice cA d.nz cc, .slice wA (d.s.nt - 1) wc, .map (some m1), .map (some m2)] T' X ∧ (∀ k, T k → T' k) ∧ ∀ k, T' k → T k ∨ W0.heap.size ≤ k) m1 m2 W0 #[.pointer (some ⟨P, 0, none⟩), .int .i64 at_, .slice xA xL.length xc, .int .i64 lo, .int .i64 hi, .slice hA hn hc] lw fc ft fl rb rw n V D R ib (i : Int) own) := by
 have h60 := hd.s.t2
 have hnd := hd.s.nd1
 subst hat; subst hlw
 rintro Z x ⟨T', h1, h2, h3⟩ hx
 have hst := dstep_any hd h1.sm.1 x (ta + i) ln (hLb x hx) (by omega) hl
 rw [show ((ta + i : Nat) : Int) = (ta : Int) + (i : Int) from by omega] at hst
 have HST := Lib.hid hst
 have H1 := Lib.hid h1
 have H2 := Lib.hid h2
 have H3 := Lib.hid h3
 obtain ⟨x0, x1⟩ := h1.k3.c2
 have x2 := h2.cell 0
 have x3 := h1.k4.cell 0
 have hlen : (M.stepL d (ta + i) (ln : Int) x).length ≤ maxLen := by
  have := M.listB_len d.s.nd (M.stepB d (ta + i) (ln : Int) x)
  unfold M.stepL maxLen; omega
 simp only [List.append_toArray, List.cons_append, List.nil_append]
 clear hst h1 h2 h3
 go_enter Tryz.func125, Tryz.ntmps125
 go_wp2_with (first | (go_at_call 48; refine HST.out.mono ?_; rintro e w1 ⟨T2, g2, c2, hT1, hT2, hTg, rfl, hM2, hI2, hmv⟩; have HI2 := Lib.hid hI2; have HMV := Lib.hid hmv; have K1 := Lib.hid (H1.out.mvs hmv ⟨H1.out.sm.1.map1, H1.out.sm.1.map2⟩ (sm_step H1.out.sm H1.out.mv.size hM2 hT1 hT2) hT2); have K2 := Lib.hid (H2.out.mv hmv H1.out.sm.1.map1 H1.out.sm.1.map2); have K3 := Lib.hid hT2; clear hM2 hI2 hmv hT1 hT2 hTg) | (go_at_call 114; refine (con3 _ (M.stepL d (ta + i) (ln : Int) x) c2 _ #[.pointer (some ⟨rb, 0, none⟩), .pointer (some ⟨ib, 0, none⟩)] (fun k => (R (i + 1)).contains k) _ hlen HI2.out.rd (fun k => in_next K1.out K2.out hi1 (by omega) hD hRl k)).mono ?_; rintro e w2 ⟨rfl, rfl⟩))
 go_ret
 exact ⟨ret_bool (by simp), ⟨T2, K1.out, K2.out, fun r e => ⟨fun h => (K3.out r h).elim (H3.out r e).1 fun h4 => by have := (H3.out r e).2; omega, Nat.lt_of_lt_of_le (H3.out r e).2 HMV.out.size⟩⟩, HMV.out⟩
end
end Go.Proofs.YtnbeembnnjdmdaaGreatDoor
/- drift: append of a list of numbers to an own one; two operations that may come up. -/
namespace Go.Proofs.YtnbeembnnjdmdaaGreatDoor
open Go.RowKit Go.Maps

theorem IL.cat {w : World} {B : Nat} {v : Value} {L L2 : List Int} (h : Own w B 3 1 v (L.length + L2.length) (catF L.length (ints fun j => L.getD j 0) (ints fun j => L2.getD j 0))) : IL w B v (L ++ L2) := by
 unfold IL
 rw [List.length_append]
 refine Own.congr h fun i j hi _ => ?_
 unfold catF ints
 by_cases e : i < L.length
 ·
  rw [if_pos e]
  simp [List.getD_eq_getElem?_getD, List.getElem?_append_left e]
 ·
  rw [if_neg e]
  simp [List.getD_eq_getElem?_getD, List.getElem?_append_right (Nat.le_of_not_lt e)]
theorem wpList_catI (w : World) {ops : Array Oper} {rest : List Oper} {o : Oper} {a : Act} {Q : Exit → Act → World → Prop} (hgd : o.guard = none) (s x : Operand)
  (ho : o.op = .call { callee := .builtin .append, args := #[s, x], argTypes := #[22, 22] }) {B B2 : Nat} {v : Value} {L L2 : List Int} (hs : a.eval s = v) (hown : IL w B v L) (hL : L.length ≤ 1000000) (hB : B ≤ w.heap.size) {A : Option Addr} {c : Nat} (hx : a.eval x = .slice A L2.length c)
  (hR : Rd1 w B2 A L2.length (fun j => L2.getD j 0)) (hL2 : L2.length ≤ 1000000)
  (hK : ∀ v' w', IL w' B v' (L ++ L2) → w.grownBy w' v.ownBlock → (v'.ownBlock = v.ownBlock ∨ v'.ownBlock = some w.heap.size) → wpList Tryz.prog ops Q rest (a.put o.dst v') w') :
  wpList Tryz.prog ops Q (o :: rest) a w := by
 obtain ⟨i0, h1, h2, h3, h4⟩ := info_parts int_info
 exact wpList_cat hgd s x 22 ho 3 i0 (.int .i64 0) 1 8 Tryz.underlying22 h1 h2 h3 h4 rfl (by decide) (by decide) hs hown (by omega) hB (fun _ _ => rfl) hx hR.v (by omega) fun v' w' k1 k2 k3 => hK v' w' (IL.cat k1) k2 k3
section
variable {P : Program} {ops : Array Oper} {Q : Exit → Act → World → Prop} {md : Region.Mode} {S : World → Prop} {e : Nat}
theorem wpAnyT_two {i j : Nat} {oi oj : Oper} {fuel : Nat} {listed : Array Bool} {a : Act} {w : World} (hr : Region.ready md ops listed = [i, j]) (hoi : ops[i]? = some oi) (hoj : ops[j]? = some oj)
  (h1 : ∀ K' : Act → World → Prop, Hid (∀ a w, ((listed.setIfInBounds i true).getD e false = true ∨ S w) → wpAnyT P md ops Q S e fuel (listed.setIfInBounds i true) a w → K' a w) → if Region.wanted oi (yielded ops a.tmps) = true then Oper.wp P oi a w K' Q else K' (a.put oi.dst undef) w)
  (h2 : ∀ K' : Act → World → Prop, Hid (∀ a w, ((listed.setIfInBounds j true).getD e false = true ∨ S w) → wpAnyT P md ops Q S e fuel (listed.setIfInBounds j true) a w → K' a w) → if Region.wanted oj (yielded ops a.tmps) = true then Oper.wp P oj a w K' Q else K' (a.put oj.dst undef) w) :
  wpAnyT P md ops Q S e (fuel + 1) listed a w := by
 refine ⟨fun h0 => (by rw [hr] at h0; cases h0), fun q hq => ?_⟩
 rw [hr] at hq
 have hq' : q = i ∨ q = j := by simpa using hq
 rcases hq' with rfl | rfl
 · exact wpOp_step hoi fun K' hK => h1 K' (Lib.hid fun a w h1 h2 => hK a w ⟨h1, h2⟩)
 · exact wpOp_step hoj fun K' hK => h2 K' (Lib.hid fun a w h1 h2 => hK a w ⟨h1, h2⟩)
end
def sndN : Nat → Code → Code
 | 0, c => c
 | n + 1, .seq _ b => sndN n b
 | _, c => c
def restAt (f : Func) (n : Nat) : Code :=
 match f.body with
 | some b => sndN n b
 | none => .skip
theorem TrI.congr {SM : (Nat → Prop) → World → Prop} {m1 m2 : Nat} {W0 : World} {cs : Array Value} {lw fc ft fl : Int} {rb rw n : Nat} {T' : Nat → Prop} {V : Nat → Value} {D D' : Nat → Prop} {R R' : Nat → List Int} {X : World} (k : TrI SM m1 m2 W0 cs lw fc ft fl rb rw n T' V D R X) (hD : ∀ i, i < n → D' i → D i) (hR : ∀ i, i < n → D' i → R i = R' i) :
  TrI SM m1 m2 W0 cs lw fc ft fl rb rw n T' V D' R' X :=
 { k with ro := fun i hi h => by rw [← hR i hi h]; exact k.ro i hi (hD i hi h), rt := fun i hi h => k.rt i hi (hD i hi h), rd := fun i j hi hj h1 h2 => k.rd i j hi hj (hD i hi h1) (hD j hj h2) }
end Go.Proofs.YtnbeembnnjdmdaaGreatDoor
