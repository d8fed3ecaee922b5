/- begin. -/
import Derived.Test.YtfnfjmjejffjiaaDoorT6
import Derived.Laws.Rows
import Derived.Test.YtfnfjmjejffjiaaDoorS6
namespace Go.Proofs.YtfnfjmjejffjiaaDoor
open Go.RowKit

/-- an array of a state's cells -/
def Sv (cs : Array Value) (F : Nat → Int) : Prop := cs.size = 38 ∧ ∀ i, i < 38 → cs[i]? = some (.int .i64 (F i))
theorem Sv.one {cs : Array Value} {F : Nat → Int} (h : Sv cs F) : cs.all (·.oneCell') = true := by
  rw [Array.all_eq_true]
  intro i hi
  have h1 := h.2 i (by have := h.1; omega)
  rw [Array.getElem?_eq_getElem hi] at h1
  injection h1 with h1
  rw [h1]; rfl
theorem Sf.of {w : World} {g : Nat} {cs : Array Value} {F : Nat → Int} (hb : Blk w g 57 cs) (h : Sv cs F) : Sf w g F := ⟨cs, hb, h.1, h.2⟩
theorem Sf.arr {w : World} {g : Nat} {F : Nat → Int} (h : Sf w g F) : ∃ cs, Blk w g 57 cs ∧ Sv cs F := by
  obtain ⟨cs, h1, h2, h3⟩ := h
  exact ⟨cs, h1, h2, h3⟩
def zeroS : M.St := ⟨fun _ _ => 0, fun _ _ => 0, 0⟩
def litZ : Array Value := #[.int .i64 0, .int .i64 0, .int .i64 0, .int .i64 0, .int .i64 0, .int .i64 0, .int .i64 0, .int .i64 0, .int .i64 0, .int .i64 0, .int .i64 0, .int .i64 0, .int .i64 0, .int .i64 0, .int .i64 0, .int .i64 0, .int .i64 0, .int .i64 0, .int .i64 0, .int .i64 0, .int .i64 0, .int .i64 0, .int .i64 0, .int .i64 0, .int .i64 0, .int .i64 0, .int .i64 0, .int .i64 0, .int .i64 0, .int .i64 0, .int .i64 0, .int .i64 0, .int .i64 0, .int .i64 0, .int .i64 0, .int .i64 0, .int .i64 0, .int .i64 0]
def litN (n : Nat) : Array Value := #[.int .i64 (n : Int), .int .i64 0, .int .i64 0, .int .i64 0, .int .i64 0, .int .i64 0, .int .i64 0, .int .i64 0, .int .i64 0, .int .i64 0, .int .i64 0, .int .i64 0, .int .i64 0, .int .i64 0, .int .i64 0, .int .i64 0, .int .i64 0, .int .i64 0, .int .i64 0, .int .i64 0, .int .i64 0, .int .i64 0, .int .i64 0, .int .i64 0, .int .i64 0, .int .i64 0, .int .i64 0, .int .i64 0, .int .i64 0, .int .i64 0, .int .i64 0, .int .i64 0, .int .i64 0, .int .i64 0, .int .i64 0, .int .i64 0, .int .i64 0, .int .i64 0]
theorem litN_sv (n : Nat) : Sv (litN n) (stF n zeroS) := by
  refine ⟨rfl, fun i hi => ?_⟩
  have : i = 0 ∨ i = 1 ∨ i = 2 ∨ i = 3 ∨ i = 4 ∨ i = 5 ∨ i = 6 ∨ i = 7 ∨ i = 8 ∨ i = 9 ∨ i = 10 ∨ i = 11 ∨ i = 12 ∨ i = 13 ∨ i = 14 ∨ i = 15 ∨ i = 16 ∨ i = 17 ∨ i = 18 ∨ i = 19 ∨ i = 20 ∨ i = 21 ∨ i = 22 ∨ i = 23 ∨ i = 24 ∨ i = 25 ∨ i = 26 ∨ i = 27 ∨ i = 28 ∨ i = 29 ∨ i = 30 ∨ i = 31 ∨ i = 32 ∨ i = 33 ∨ i = 34 ∨ i = 35 ∨ i = 36 ∨ i = 37 := by omega
  rcases this with rfl | rfl | rfl | rfl | rfl | rfl | rfl | rfl | rfl | rfl | rfl | rfl | rfl | rfl | rfl | rfl | rfl | rfl | rfl | rfl | rfl | rfl | rfl | rfl | rfl | rfl | rfl | rfl | rfl | rfl | rfl | rfl | rfl | rfl | rfl | rfl | rfl | rfl <;> rfl
theorem state_size : (Tryd.prog.info? 57).map (·.size) = some 38 := by kernel_rfl
section
variable {ops : Array Oper} {Q : Exit → Act → World → Prop} {b : Act} {rest : List Oper} {o : Oper} {W : World} {g : Nat} {cs old : Array Value}
theorem wpList_ldS (hgd : o.guard = none) (x : Operand) (ho : o.op = .load 57 x) (hx : b.eval x = .pointer (some ⟨g, 0, none⟩)) (h : Blk W g 57 cs) (hs : cs.size = 38)
    (hK : wpList Tryd.prog ops Q rest (b.put o.dst (.agg cs)) W) : wpList Tryd.prog ops Q (o :: rest) b W :=
  wpList_load_row hgd 57 x ho g hx 57 cs (0, 0) _ h Tryd.underlying57 rfl (by rw [hs]; exact state_size) hK
theorem wpList_stS (hgd : o.guard = none) (x y : Operand) (ho : o.op = .store 57 x y) (hx : b.eval x = .pointer (some ⟨g, 0, none⟩)) (hy : b.eval y = .agg cs) (h : Blk W g 57 old) (hold : old.size = 38) (hs : cs.size = 38) (h1 : cs.all (·.oneCell') = true)
    (hK : ∀ w', Blk w' g 57 cs → W.grownBy w' (some g) → wpList Tryd.prog ops Q rest (b.put o.dst undef) w') : wpList Tryd.prog ops Q (o :: rest) b W :=
  wpList_store_row hgd 57 x y ho g cs hx hy 57 old h (by rw [hs]; exact state_size) (by rw [hold, hs]) h1
    (hK _ (setRow_heap W g old cs _ _ h) ⟨rfl, rfl, rfl, by simp [World.setRow], fun k _ hk => setRow_other W g k _ fun e => hk (by rw [e])⟩)
end
theorem below_of_grown {w w' : World} {g : Nat} (h : w.grownBy w' (some g)) (hg : w.heap.size ≤ g) : Below w.heap.size w w' := ⟨h.os, h.tape, h.output, h.size, fun k hk => h.block k hk (fun e => by injection e with e; omega)⟩
theorem grown_of_below {w w' : World} {r : Option Nat} (h : Below w.heap.size w w') : w.grownBy w' r := ⟨h.os, h.tape, h.output, h.size, fun k hk _ => h.block k hk⟩
set_option maxRecDepth 100000 in
set_option maxHeartbeats 3200000 in
theorem begin_any (n o : Nat) (ho : o < 4) (w : World) :
    Calls Tryd.prog 27 #[.int .i64 (n : Int), .int .i64 (o : Int)] w fun e w' => (∃ cs, e = .returned (.agg cs) ∧ Sv cs (stF n (M.init o))) ∧ Below w.heap.size w w' := by
  go_enter Tryd.func27, Tryd.ntmps27
  go_upto_region 2 with (refine wpList_stS rfl (.tmp 5) (.tmp 7) rfl rfl rfl (cs := litN n) (Blk.new1 w _ _ litZ) rfl rfl (litN_sv n).one ?_; intro w2 b2 g2; have B2 := Lib.hid b2; have B0 := Lib.hid (((Blk.new w 57 litZ).alloc (.cells litZ 57)).grown g2 (fun e => by injection e with e; omega)); have L2 := Lib.hid (below_of_grown (w := w) (g := w.heap.size + 1) ((World.grownBy_alloc w (.cells litZ 57) _).trans ((World.grownBy_alloc _ (.cells litZ 57) _).trans g2)) (by omega)); clear b2 g2)
  have S2 := Lib.hid (Sf.of B2.out (litN_sv n))
  have x1 := idx_cen (w.heap.size + 1) o ho
  obtain ⟨c0, c1, c2⟩ := S2.out.cen ho
  have z0 := S2.out.frz (1 + o * 3)
  have hz := B2.out.lt
  go_upto_region 3 with fail
  obtain ⟨X3, hX3⟩ : ∃ X3, X3 = w2.setCell ⟨w.heap.size + 1, 1 + o * 3, none⟩ (.int .i64 1) := ⟨_, rfl⟩
  have S3 : Sf X3 (w.heap.size + 1) (stF n (M.init (o : Int))) := by rw [hX3]; exact S2.out.set1 ho 1
  have D0 := Lib.hid (show Blk X3 w.heap.size 57 litZ by rw [hX3]; exact B0.out.far (by show w.heap.size ≠ w.heap.size + 1; omega) _)
  have L3 := Lib.hid (show Below w.heap.size w X3 by rw [hX3]; exact L2.out.setCell (by show w.heap.size ≤ w.heap.size + 1; omega) _)
  rw [← hX3]
  clear hX3 x1 c0 c1 c2 z0 hz
  obtain ⟨cs, b3, sv⟩ := S3.arr
  have B3 := Lib.hid b3
  have SV := Lib.hid sv
  clear b3 sv S3 S2 B2
  go_wp2_with (first | (refine wpList_ldS rfl (.tmp 5) rfl rfl B3.out SV.out.1 ?_) | (refine wpList_stS rfl (.tmp 4) (.tmp 12) rfl rfl rfl D0.out rfl SV.out.1 SV.out.one ?_; intro w4 b4 g4; have B4 := Lib.hid b4; have G4 := Lib.hid g4; clear b4 g4))
  refine bodyPost_ret (results_cell_row rfl _ _ w.heap.size 57 cs (0, 0) _ rfl B4.out Tryd.underlying57 rfl (by rw [SV.out.1]; exact state_size)) rfl ⟨⟨cs, rfl, SV.out⟩, ?_⟩
  exact ⟨G4.out.os.trans L3.out.os, G4.out.tape.trans L3.out.tape, G4.out.output.trans L3.out.output, Nat.le_trans L3.out.size G4.out.size, fun k hk => (G4.out.block k (by have := L3.out.size; omega) (fun e => by injection e with e; omega)).trans (L3.out.block k hk)⟩
end Go.Proofs.YtfnfjmjejffjiaaDoor
/- run, where its arguments are valid. -/
namespace Go.Proofs.YtfnfjmjejffjiaaDoor
open Go.RowKit

theorem results_cell_row2 {P : Program} {fn : Func} {p u v : Tmp} {ty : TypeId} (h : fn.results = #[.cell p ty, .tmp u, .tmp v]) (tmps : Array Value) (w : World) (g : Nat) (t : TypeId) (cs : Array Value) (fr : Nat × Nat) (d : TypeDesc)
    (hp : tmps.getD p undef = .pointer (some ⟨g, 0, none⟩)) (hg : w.heap[g]? = some (.cells cs t fr))
    (hu : P.underlying ty = some d) (hd : (match d with | .struct _ | .array _ _ => true | _ => false) = true) (hi : (P.info? ty).map (·.size) = some cs.size) :
    (results fn tmps).run P w = .ok (.tuple #[.agg cs, tmps.getD u undef, tmps.getD v undef]) w := by
  have hp' : tmps[p]?.getD undef = .pointer (some ⟨g, 0, none⟩) := by simpa using hp
  simp [results, h, hp', asAddr, run_loadVar_row w g t ty cs fr d hg hu hd hi]
theorem bool_info : (Tryd.prog.info? 4).map (fun i => (i.zero, i.size, i.bytes)) = some (some (.bool false), 1, 1) := by kernel_rfl
abbrev bools (f : Nat → Bool) : Nat → Nat → Value := fun i _ => .bool (f i)
theorem app_bools {f : Nat → Bool} {k : Nat} (i j : Nat) (hi : i < k + 1) : upd (bools f) k (fun _ => .bool (f k)) i j = bools f i j := by
  unfold upd bools
  by_cases h : i = k
  · subst h; simp
  · rw [if_neg h]
/-- what run leaves where its arguments are valid -/
def RunV (n o : Nat) (E : Nat → Nat → Int) (en : Nat) (w : World) (e : Ending) (w' : World) : Prop :=
  ∃ cs v, e = .returned (.tuple #[.agg cs, v, .int .i64 0]) ∧ Sv cs (stF n (M.runF n o E en)) ∧ Own w' w.heap.size 4 1 v en (bools (M.done n o E))
theorem M.Out.init (o : Int) : M.Out (M.init o) := fun _ _ _ => rfl
theorem M.Out.run {n : Nat} (o : Int) (E : Nat → Nat → Int) (i : Nat) : M.Out (M.runF n o E i) := by
  induction i with
  | zero => exact M.Out.init o
  | succ i ih => exact ih.go _ _ _
set_option maxRecDepth 100000 in
set_option maxHeartbeats 6400000 in
theorem run_ok (n o : Nat) (A : Option Addr) (en ec B : Nat) (E : Nat → Nat → Int) (w : World) (hn : 2 ≤ n ∧ n ≤ 4) (ho : o < n) (hen : en ≤ 200) (hR : Rd w B A 3 en E) (hB : B ≤ w.heap.size) :
    Calls Tryd.prog 15 #[.int .i64 (n : Int), .int .i64 (o : Int), .slice A en ec] w fun e w' => RunV n o E en w e w' ∧ Below w.heap.size w w' := by
  have g1 : decide ((n : Int) < 2) = false := decide_eq_false (by omega)
  have g2 : decide ((4 : Int) < (n : Int)) = false := decide_eq_false (by omega)
  have g3 : decide ((o : Int) < 0) = false := decide_eq_false (by omega)
  have g4 : decide ((n : Int) ≤ (o : Int)) = false := decide_eq_false (by omega)
  have g4n : decide (n ≤ o) = false := decide_eq_false (by omega)
  have g5 : decide ((200 : Int) < (en : Int)) = false := decide_eq_false (by omega)
  have hof : (0 : Int) ≤ o ∧ (o : Int) < n := by omega
  have HWF := Lib.hid (fun i => M.Wf.run (n := n) hof E i)
  have HOU := Lib.hid (fun i => M.Out.run (n := n) (o : Int) E i)
  obtain ⟨bi, ki, kz0, kz1, kz2⟩ := info_parts bool_info
  have BI := Lib.hid (And.intro ki (And.intro kz0 (And.intro kz1 kz2)))
  have HR := Lib.hid hR
  have hn2 := hn.1
  have hn4 := hn.2
  clear ki kz0 kz1 kz2 hR hof hn
  have D0 := Lib.hid (Blk.new w 57 litZ)
  have hb0 := Lib.hid (belowAlloc w (.cells litZ 57))
  go_enter Tryd.func15, Tryd.ntmps15
  go_upto_region 7 with (first
    | (go_at_call 27; refine (begin_any n o (by omega) _).mono ?_; rintro e w1 ⟨⟨cs, rfl, sv⟩, hb1⟩; have SV := Lib.hid sv; have HB1 := Lib.hid hb1; clear sv hb1)
    | (refine wpList_stS rfl (.tmp 9) (.tmp 35) rfl rfl rfl (Blk.new w1 _ litZ) rfl SV.out.1 SV.out.one ?_; intro w2 b2 g2; have B2 := Lib.hid b2; have G2 := Lib.hid g2; clear b2 g2))
  have hz1 : w.heap.size + 1 ≤ w1.heap.size := by have := HB1.out.size; simpa using this
  obtain ⟨S, hS⟩ : ∃ S, S = w1.heap.size := ⟨_, rfl⟩
  rw [← hS] at B2 G2 hz1
  have S2 := Lib.hid (Sf.of B2.out SV.out)
  have T2 := Lib.hid ((((D0.out.below HB1.out (by simp)).alloc (.cells litZ 57)).grown G2.out (fun e => by injection e with e; omega)))
  have L2 := Lib.hid (show Below w.heap.size w w2 from ⟨G2.out.os.trans (HB1.out.os.trans hb0.out.os), G2.out.tape.trans (HB1.out.tape.trans hb0.out.tape), G2.out.output.trans (HB1.out.output.trans hb0.out.output), Nat.le_trans hb0.out.size (Nat.le_trans HB1.out.size (Nat.le_trans (by simp) G2.out.size)), fun k hk => ((G2.out.block k (by simp; omega) (fun e => by injection e with e; omega)).trans ((belowAlloc w1 (.cells litZ 57)).block k (by omega))).trans ((HB1.out.block k (by simp; omega)).trans (hb0.out.block k hk))⟩)
  have hSw : S < w2.heap.size := B2.out.lt
  rw [← hS]
  clear hS B2 G2 HB1 hb0 D0 SV
  go_wp2_with fail
  go_loopw [10, 12, 38] (fun v _ i wr => ∃ k : Nat, k ≤ en ∧ i = .int .i64 k ∧ Sf wr S (stF n (M.runF n o E k)) ∧ Own wr (S + 1) 4 1 v k (bools (M.done n o E)) ∧ Below S w2 wr) (fun _ _ i _ => en - (intOf i).toNat)
  case atStart => exact ⟨0, Nat.zero_le _, rfl, S2.out, Own.nil_, Below.refl _ _⟩
  case round =>
    obtain ⟨k, hk, rfl, hs, o0, hbw⟩ := hrel
    obtain ⟨vA, vc, rfl⟩ := o0.form
    have HS := Lib.hid hs
    have O0 := Lib.hid o0
    have HB := Lib.hid hbw
    have hz := hbw.size
    have hSr := hs.lt
    by_cases hlt : k < en
    · obtain ⟨b, off, rfl, hb, c0, c1, c2⟩ := ((HR.out.below (L2.out.mono hB)).below (hbw.mono (by omega))).at3 hlt
      have hbs : b < wr.heap.size := by omega
      have HX := Lib.hid (show M.runF n o E (k + 1) = M.go n (M.runF n o E k) (E k 0) (E k 1) (E k 2) from rfl)
      clear hs o0 hbw
      go_wp2_with (first
        | (go_at_call 28; go_must (refine (apply_any n S (M.runF n o E k) (E k 0) (E k 1) (E k 2) _ (HS.out.alloc _) hn4 (HWF.out k) (HOU.out k)).mono ?_); rintro e w3 ⟨rfl, h3, g3'⟩; have H3 := Lib.hid h3; have G3 := Lib.hid g3'; have O3 := Lib.hid ((O0.out.alloc (.cells #[.int .i64 (E k 0), .int .i64 (E k 1), .int .i64 (E k 2)] 38)).grown g3' (.inr (fun e => by have := (O0.out.block e).1; omega))); have hz3 : wr.heap.size + 1 ≤ w3.heap.size := (by have := g3'.size; simpa using this); clear h3 g3')
        | (at_builtin; refine wpList_app rfl (.tmp 42) (.tmp 45) 32 rfl (S + 1) 4 1 1 Tryd.underlying32 BI.out.1 BI.out.2.1 BI.out.2.2.1 BI.out.2.2.2 rfl (by decide) (by decide) (O3.out.alloc _) rfl (by omega) (by simp; omega) w3.heap.size 1 (fun _ => .bool (M.step n (M.runF n o E k) (E k 0) (E k 1) (E k 2)).isSome) rfl (cell_last rfl) (fun _ _ => rfl) ?_; intro v6 w6 o6 hg6 hat6; obtain ⟨A6, z6, rfl⟩ := o6.form; have HO6 := Lib.hid o6; have HG6 := Lib.hid hg6; clear o6 hg6 hat6))
      go_roundw
      case rel =>
        refine ⟨k + 1, by omega, by go_num, ?_, HO6.out.congr fun i j hi _ => app_bools i j hi, ?_⟩
        · rw [HX.out]
          exact (H3.out.alloc _).grown HG6.out (fun e => by have := (O3.out.block e.symm).1; omega)
        · exact ((((HB.out.alloc (by omega) _).grown G3.out (by simp; omega) (fun q hq => by injection hq with hq; omega)).alloc (by omega) _).grown HG6.out (by simp; omega) (fun q hq => by have := (O3.out.block hq).1; omega))
      case measure => simp [intOf]; omega
    · obtain rfl : k = en := by omega
      obtain ⟨cs', b3, sv⟩ := hs.arr
      have B3 := Lib.hid b3
      have SV := Lib.hid sv
      have T3 := Lib.hid (T2.out.below hbw (by omega))
      clear hs o0 hbw b3 sv
      go_wp2_with (first | (refine wpList_ldS rfl (.tmp 9) rfl rfl B3.out SV.out.1 ?_) | (refine wpList_stS rfl (.tmp 6) (.tmp 48) rfl rfl rfl T3.out rfl SV.out.1 SV.out.one ?_; intro w4 b4 g4; have B4 := Lib.hid b4; have G4 := Lib.hid g4; clear b4 g4))
      refine bodyPost_ret (results_cell_row2 rfl _ _ w.heap.size 57 cs' (0, 0) _ rfl B4.out Tryd.underlying57 rfl (by rw [SV.out.1]; exact state_size)) rfl ⟨⟨cs', .slice vA k vc, rfl, SV.out, ?_⟩, ?_⟩
      · exact (O0.out.grown G4.out (.inr (fun e => by have := (O0.out.block e).1; omega))).less (by omega)
      · exact ((L2.out.trans (HB.out.mono (by omega))).grown G4.out (by omega) (fun q hq => by injection hq with hq; omega))
end Go.Proofs.YtfnfjmjejffjiaaDoor
