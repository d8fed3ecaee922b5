/- The examples of the drift's statements, plain; sameInts. -/
import Derived.Test.YtnbeembnnjdmdaaGreatDoorE9
import Derived.Test.YtnbeembnnjdmdaaGreatDoorD31
import Derived.Test.YtnbeembnnjdmdaaGreatDoorD13
namespace Go.Proofs.YtnbeembnnjdmdaaGreatDoor
open Go.RowKit

def sameF (n n' : Nat) (f f' : Nat → Int) : Bool := decide (n = n') && M.allTo n fun i => decide (f i = f' i)

set_option maxHeartbeats 1000000 in
theorem sameInts_any (A A' : Option Addr) (n n' c c' B : Nat) (f f' : Nat → Int) (w : World) (hn : n ≤ maxLen) (hn' : n' ≤ maxLen) (hR : Rd1 w B A n f) (hR' : Rd1 w B A' n' f') :
  Calls Tryz.prog 19 #[.slice A n c, .slice A' n' c'] w fun e w' => e = .returned (.bool (sameF n n' f f')) ∧ Below w.heap.size w w' := by
 unfold maxLen at hn hn'
 by_cases h : n = n'
 ·
  subst h
  go_enter Tryz.func19, Tryz.ntmps19
  go_wp2_with fail
  go_loopw [5] (fun i wr => ∃ k : Nat, k ≤ n ∧ i = .int .i64 k ∧ M.allTo k (fun i => decide (f i = f' i)) = true ∧ Below w.heap.size w wr ∧ wr.heap = w.heap) (fun i _ => n - (intOf i).toNat)
  case atStart => exact ⟨0, Nat.zero_le _, rfl, rfl, Below.refl _ _, rfl⟩
  case round =>
   obtain ⟨k, hk, rfl, hf, hbw, hh⟩ := hrel
   have HF := Lib.hid hf
   have HW := Lib.hid hbw
   have HH := Lib.hid hh
   have keep : ∀ p : Addr, wr.cell? p = w.cell? p := fun p => by unfold World.cell?; rw [hh]
   by_cases hlt : k < n
   ·
    obtain ⟨b, off, rfl, hb, c0⟩ := (hR.keep fun p _ => keep p).at_ hlt
    obtain ⟨b', off', rfl, hb', c0'⟩ := (hR'.keep fun p _ => keep p).at_ hlt
    clear hf hbw hh keep hR hR'
    by_cases he : f k = f' k
    all_goals
     go_wp2_with fail
     go_quiet (fail)
     go_wp2_with fail
    ·
     go_roundw
     case rel => exact ⟨k + 1, by omega, by go_num, by simp [M.allTo, HF.out, he], HW.out.drewN _, HH.out⟩
     case measure => simp [intOf]; omega
    ·
     go_ret
     refine ⟨ret_bool ?_, HW.out.drewN _⟩
     unfold sameF
     refine (Bool.eq_false_iff.2 fun h => ?_).symm
     simp only [Bool.and_eq_true] at h
     have := M.allTo_iff.1 h.2 k hlt
     simp [he] at this
   ·
    obtain rfl : k = n := by omega
    clear hf hbw hh keep hR hR'
    go_wp2_with fail
    go_ret
    exact ⟨ret_bool (by simp [sameF, HF.out]), HW.out⟩
 ·
  go_enter Tryz.func19, Tryz.ntmps19
  go_wp2_with fail
  go_ret
  exact ⟨ret_bool (by simp [sameF, h]), Below.refl _ _⟩

theorem same_self (n : Nat) (f : Nat → Int) : sameF n n f f = true := by
 unfold sameF
 rw [M.allTo_iff.2 fun i _ => by simp]; simp
def exD : Nat → Int := fun i => ([0, 0, -50, -90, 30, 20, 10, -20, 60, 60, 40, 30] : List Int).getD i 0
def exT : Nat → Nat → Int := fun t j => ([10, 14, 20, 26, 30, 36, 20, 26, 10, 14] : List Int).getD (t * 2 + j) 0
def exW : Nat → Int := fun t => ([5, 5, 5, 5, 5] : List Int).getD t 0
def exS : M.Sea := ⟨4, 3, 12, 5, exD, exT, exW⟩
def exZ : Nat → Int := fun i => ([1, 1, 1, 1, 0, 0, 0, 0, 0, 0, 0, 0] : List Int).getD i 0
def exC : Nat → Nat → Nat → Int := fun z _ f => if z = 0 then ([1, 0, 1] : List Int).getD f 0 else ([1, 0, 0] : List Int).getD f 0
def exP : Nat → Nat → Int := fun _ f => ([2, 0, 2] : List Int).getD f 0
def exDr : M.Dr := ⟨exS, 2, exZ, exC, exP⟩
def exX (A0 A1 : Option Addr) (c0 c1 : Nat) : Nat → SgV := fun i => if i = 0 then ⟨1, A0, c0, [4, 5], false⟩ else ⟨2, A1, c1, [10], true⟩
set_option maxRecDepth 100000 in
theorem ex_ok : exS.Ok := by
 refine ⟨by decide, by decide, by decide, by decide, rfl, by decide, by decide, ?_, ?_, ?_⟩
 ·
  exact fun i hi => by
   have h : M.allTo 12 (fun i => M.inB (-1000) 1000 (exD i)) = true := by kernel_rfl
   exact M.inB_iff.1 (M.allTo_iff.1 h i hi)
 ·
  exact fun t ht => by
   have h : M.allTo 5 (fun t => M.inB 0 (exT t 1) (exT t 0) && M.inB 0 200 (exT t 1)) = true := by kernel_rfl
   have := M.allTo_iff.1 h t ht
   simp only [Bool.and_eq_true, M.inB_iff] at this
   exact ⟨this.1.1, this.1.2, this.2.2⟩
 ·
  exact fun t ht => by
   have h : M.allTo 5 (fun t => M.inB 0 100 (exW t)) = true := by kernel_rfl
   exact M.inB_iff.1 (M.allTo_iff.1 h t ht)
theorem exDr_ok : exDr.Ok := by
 refine ⟨ex_ok, by decide, by decide, ?_, ?_, ?_⟩
 ·
  exact fun c hc => by
   have h : M.allTo 12 (fun i => M.inB 0 1 (exZ i)) = true := by kernel_rfl
   have := M.inB_iff.1 (M.allTo_iff.1 h c hc)
   exact ⟨this.1, Int.lt_of_le_of_lt this.2 (by decide)⟩
 ·
  exact fun i hi t _ => by
   have h : M.allTo 2 (fun i => M.pushB (exC i 0)) = true := by kernel_rfl
   exact M.allTo_iff.1 h i hi
 ·
  exact fun t _ => by
   have h : M.pushB (exP 0) = true := by kernel_rfl
   exact h
set_option maxRecDepth 100000 in
theorem ex_step : M.stepL exDr 0 4 4 = [-1, 4, 5, 9, 10] := by kernel_rfl
set_option maxRecDepth 100000 in
theorem ex_stepB : (M.stepB exDr 0 4 4 4 && M.stepB exDr 1 4 4 10 && M.stepB exDr 2 4 10 10 && M.stepB exDr 3 4 10 10) = true := by kernel_rfl
section
variable (A0 A1 : Option Addr) (c0 c1 : Nat)
theorem ex_chkX : chkX 12 5 0 2 4 [4] = true := by kernel_rfl
theorem ex_chkS : chkS 12 5 0 2 (exX A0 A1 c0 c1) = true := by kernel_rfl
theorem ex_ask : askB 12 5 0 4 1 = true := by kernel_rfl
theorem ex_no {n : Nat} {Y : Nat → SgV} (h0 : Y 0 = exX A0 A1 c0 c1 0) (hn : 0 < n) : M.spanTo 2 4 (leeP exDr 0 5 n [4] Y 1 4) = false := by
 refine Bool.eq_false_iff.2 fun h => ?_
 obtain ⟨l, _, _, h2⟩ := M.spanTo_iff.1 h
 obtain ⟨f, hf⟩ := M.posB_iff.1 h2
 have h3 := hf.fit 1 (by decide)
 unfold trFit M.fitF at h3
 rw [Bool.and_eq_true] at h3
 have h4 := M.allTo_iff.1 h3.1 0 hn
 have h5 := h3.2
 unfold M.fixB at h5
 have h6 : f 1 = 4 := by simpa using h5
 rw [h6] at h4
 simp only [h0] at h4
 exact absurd (h4.symm.trans rfl) (by decide : ¬ (true = false))
theorem ex_strP : strP exDr 0 2 4 [4] 2 (exX A0 A1 c0 c1) 4 1 = false := ex_no A0 A1 c0 c1 rfl (by decide)
theorem ex_g0 : strG exDr 0 2 4 [4] (exX A0 A1 c0 c1) 4 1 [0] = false := ex_no A0 A1 c0 c1 (n := 1) (Y := fun i => exX A0 A1 c0 c1 (([0] : List Nat).getD i 0)) rfl (by decide)
theorem ex_g1 : strG exDr 0 2 4 [4] (exX A0 A1 c0 c1) 4 1 [1] = true := by
 refine M.spanTo_iff.2 ⟨4, by decide, by decide, M.posB_iff.2 ⟨fun i => if i ≤ 1 then 4 else 10, ?_⟩⟩
 have hs := ex_stepB
 simp only [Bool.and_eq_true] at hs
 refine ⟨fun i _ => by by_cases h : i ≤ 1 <;> simp only [h, if_true, if_false] <;> decide, by decide, fun i hi => ?_, fun i hi => ?_⟩
 ·
  have hi : i ≤ 4 := hi
  obtain rfl | rfl | rfl | rfl | rfl : i = 0 ∨ i = 1 ∨ i = 2 ∨ i = 3 ∨ i = 4 := by omega
  all_goals exact rfl
 ·
  have hi : i < 4 := hi
  obtain rfl | rfl | rfl | rfl : i = 0 ∨ i = 1 ∨ i = 2 ∨ i = 3 := by omega
  · exact hs.1.1.1
  · exact hs.1.1.2
  · exact hs.1.2
  · exact hs.2
theorem ex_kp : M.kp (strG exDr 0 2 4 [4] (exX A0 A1 c0 c1) 4 1) 2 2 = [0] := by
 have h1 : M.kp (strG exDr 0 2 4 [4] (exX A0 A1 c0 c1) 4 1) 2 1 = [0] := by
  show (if strG exDr 0 2 4 [4] (exX A0 A1 c0 c1) 4 1 [1] then [0] else []) = [0]
  rw [ex_g1]; rfl
 show (if strG exDr 0 2 4 [4] (exX A0 A1 c0 c1) 4 1 (M.kp (strG exDr 0 2 4 [4] (exX A0 A1 c0 c1) 4 1) 2 1 ++ []) then M.kp (strG exDr 0 2 4 [4] (exX A0 A1 c0 c1) 4 1) 2 1 ++ [1] else M.kp (strG exDr 0 2 4 [4] (exX A0 A1 c0 c1) 4 1) 2 1) = [0]
 rw [h1, List.append_nil, ex_g0]; rfl
end
theorem chart_size : (Tryz.prog.info? 25).map (·.size) = some 5 := by kernel_rfl
set_option maxRecDepth 100000 in
set_option maxHeartbeats 3200000 in
theorem chartEx_any (w : World) :
  Calls Tryz.prog 81 #[] w fun e w' => (e = .returned (.agg #[.int .i64 4, .int .i64 3, .slice (some ⟨w.heap.size + 1, 0, none⟩) 12 12, .slice (some ⟨w.heap.size + 1 + 1, 0, none⟩) 5 5, .slice (some ⟨w.heap.size + 1 + 1 + 1, 0, none⟩) 5 5]) ∧ RdC w' w'.heap.size (some ⟨w.heap.size + 1, 0, none⟩) (some ⟨w.heap.size + 1 + 1, 0, none⟩) (some ⟨w.heap.size + 1 + 1 + 1, 0, none⟩) 12 5 5 exD exT exW) ∧ Below w.heap.size w w' := by
 go_enter Tryz.func81, Tryz.ntmps81
 go_wp2_with fail
 obtain ⟨S, hS⟩ : ∃ S, S = w.heap.size := ⟨_, rfl⟩
 rw [← hS]
 refine bodyPost_ret (results_cell_row rfl _ _ S 25 #[.int .i64 4, .int .i64 3, .slice (some ⟨S + 1, 0, none⟩) 12 12, .slice (some ⟨S + 1 + 1, 0, none⟩) 5 5, .slice (some ⟨S + 1 + 1 + 1, 0, none⟩) 5 5] (0, 0) _ rfl (by rw [hS]; exact (((Blk.new w _ _).alloc _).alloc _).alloc _) Tryz.underlying25 rfl chart_size) rfl ⟨⟨rfl, ?_, ?_, ?_⟩, ?_⟩
 ·
  refine .inr ⟨S + 1, 0, rfl, by rw [hS]; simp <;> omega, fun i hi => ?_⟩
  rw [Nat.zero_add, hS]
  refine (((Blk.new1 w _ _ _).alloc _).alloc _ |>.cell i).trans ?_
  have h : M.allTo 12 (fun i => decide ((#[(0 : Int), 0, -50, -90, 30, 20, 10, -20, 60, 60, 40, 30] : Array Int)[i]? = some (exD i))) = true := by kernel_rfl
  have h2 := of_decide_eq_true (M.allTo_iff.1 h i hi)
  have e : (#[Value.int .i64 0, .int .i64 0, .int .i64 (-50), .int .i64 (-90), .int .i64 30, .int .i64 20, .int .i64 10, .int .i64 (-20), .int .i64 60, .int .i64 60, .int .i64 40, .int .i64 30] : Array Value) = (#[(0 : Int), 0, -50, -90, 30, 20, 10, -20, 60, 60, 40, 30] : Array Int).map (Value.int .i64) := by simp
  rw [e, Array.getElem?_map, h2]
  rfl
 ·
  refine .inr ⟨S + 1 + 1, 0, rfl, by rw [hS]; simp <;> omega, fun i j hi hj => ?_⟩
  rw [Nat.zero_add, hS]
  refine ((Blk.new2 w _ _ _ _).alloc _ |>.cell (i * 2 + j)).trans ?_
  obtain rfl | rfl | rfl | rfl | rfl : i = 0 ∨ i = 1 ∨ i = 2 ∨ i = 3 ∨ i = 4 := by omega
  all_goals (obtain rfl | rfl : j = 0 ∨ j = 1 := by omega)
  all_goals rfl
 ·
  refine .inr ⟨S + 1 + 1 + 1, 0, rfl, by rw [hS]; simp <;> omega, fun i hi => ?_⟩
  rw [Nat.zero_add, hS]
  refine ((Blk.new3 w _ _ _ _ _).cell i).trans ?_
  obtain rfl | rfl | rfl | rfl | rfl : i = 0 ∨ i = 1 ∨ i = 2 ∨ i = 3 ∨ i = 4 := by omega
  all_goals rfl
 ·
  rw [hS]
  exact (belowAlloc3 w _ _ _).alloc (by simp; omega) _
end Go.Proofs.YtnbeembnnjdmdaaGreatDoor
/- The examples, walked: Example. -/
namespace Go.Proofs.YtnbeembnnjdmdaaGreatDoor
open Go.RowKit

theorem results_cc1 {P : Program} {fn : Func} {p q u : Tmp} {ty ty2 : TypeId} (h : fn.results = #[.cell p ty, .cell q ty2, .tmp u]) (tmps : Array Value) (w : World) (g g2 : Nat) (t t2 : TypeId) (cs cs2 : Array Value) (fr fr2 : Nat × Nat) (d d2 : TypeDesc)
  (hp : tmps.getD p undef = .pointer (some ⟨g, 0, none⟩)) (hg : w.heap[g]? = some (.cells cs t fr)) (hq : tmps.getD q undef = .pointer (some ⟨g2, 0, none⟩)) (hg2 : w.heap[g2]? = some (.cells cs2 t2 fr2))
  (hu : P.underlying ty = some d) (hd : (match d with | .struct _ | .array _ _ => true | _ => false) = true) (hi : (P.info? ty).map (·.size) = some cs.size)
  (hu2 : P.underlying ty2 = some d2) (hd2 : (match d2 with | .struct _ | .array _ _ => true | _ => false) = true) (hi2 : (P.info? ty2).map (·.size) = some cs2.size) :
  (results fn tmps).run P w = .ok (.tuple #[.agg cs, .agg cs2, tmps.getD u undef]) w := by
 have hp' : tmps[p]?.getD undef = .pointer (some ⟨g, 0, none⟩) := by simpa using hp
 have hq' : tmps[q]?.getD undef = .pointer (some ⟨g2, 0, none⟩) := by simpa using hq
 simp [results, h, hp', hq', asAddr, run_loadVar_row w g t ty cs fr d hg hu hd hi, run_loadVar_row w g2 t2 ty2 cs2 fr2 d2 hg2 hu2 hd2 hi2]
theorem Rd1.keepB {w w' : World} {B b o n : Nat} {f : Nat → Int} (h : Rd1 w B (some ⟨b, o, none⟩) n f) (hk : ∀ i, w'.cell? ⟨b, i, none⟩ = w.cell? ⟨b, i, none⟩) : Rd1 w' B (some ⟨b, o, none⟩) n f := by
 rcases h with h | ⟨b', o', he, hb, hc⟩
 · exact .inl h
 ·
  injection he with he
  injection he with e1 e2 _
  subst e1; subst e2
  exact .inr ⟨b, o, rfl, hb, fun i hi => (hk _).trans (hc i hi)⟩
theorem Rd.keepB {w w' : World} {B b o m n : Nat} {f : Nat → Nat → Int} (h : Rd w B (some ⟨b, o, none⟩) m n f) (hk : ∀ i, w'.cell? ⟨b, i, none⟩ = w.cell? ⟨b, i, none⟩) : Rd w' B (some ⟨b, o, none⟩) m n f := by
 rcases h with h | ⟨b', o', he, hb, hc⟩
 · exact .inl h
 ·
  injection he with he
  injection he with e1 e2 _
  subst e1; subst e2
  exact .inr ⟨b, o, rfl, hb, fun i j hi hj => (hk _).trans (hc i j hi hj)⟩
theorem drifter_size : (Tryz.prog.info? 44).map (·.size) = some 4 := by kernel_rfl
theorem gtrans {W V V' : World} {g : Nat} {row : Option Nat} (h : W.grownBy V (some g)) (k : V.grownBy V' row) (hr : ∀ r, row = some r → W.heap.size ≤ r ∨ r = g) : W.grownBy V' (some g) :=
 ⟨k.os.trans h.os, k.tape.trans h.tape, k.output.trans h.output, Nat.le_trans h.size k.size, fun i hi hne => (k.block i (Nat.lt_of_lt_of_le hi h.size) (fun e => by
  rcases hr i e.symm with h2 | h2
  · omega
  · exact hne (by rw [h2]))).trans (h.block i hi hne)⟩
theorem row_tmp (W : World) (a b c : Int) : ∀ j, j < 3 → (W.alloc (.cells #[.int .i64 a, .int .i64 b, .int .i64 c] 142)).cell? ⟨W.heap.size, j, none⟩ = some (.int .i64 (([a, b, c] : List Int).getD j 0)) := by
 intro j hj
 refine ((Blk.new W 142 #[.int .i64 a, .int .i64 b, .int .i64 c]).cell j).trans ?_
 obtain rfl | rfl | rfl : j = 0 ∨ j = 1 ∨ j = 2 := by omega
 all_goals rfl
theorem rows_app {l : List Int} {k i j : Nat} : upd (ints2 fun _ j => l.getD j 0) k (fun j => .int .i64 (l.getD j 0)) i j = ints2 (fun _ j => l.getD j 0) i j := by
 unfold upd
 by_cases e : i = k
 · rw [if_pos e]
 · rw [if_neg e]
abbrev rows (l : List Int) : Nat → Nat → Value := ints2 fun _ j => l.getD j 0
structure ExL (A1 A2 A3 : Option Addr) (zb : Nat) (W2 : World) (g k4 k5 k7 : Nat) (v4 v5 v7 u : Value) (V : World) : Prop where
 hg : W2.grownBy V (some g)
 o4 : Own V W2.heap.size 142 3 v4 k4 (rows [1, 0, 1])
 o5 : Own V W2.heap.size 142 3 v5 k5 (rows [1, 0, 0])
 o7 : Own V W2.heap.size 142 3 v7 k7 (rows [2, 0, 2])
 a45 : Apart v4 v5
 a47 : Apart v4 v7
 a57 : Apart v5 v7
 b : Blk V g 29 #[.int .i64 4, .int .i64 3, .slice A1 12 12, .slice A2 5 5, .slice A3 5 5, .slice (some ⟨zb, 0, none⟩) 12 12, .slice none 0 0, u]
theorem blk_lt {V : World} {b t m n s : Nat} {v : Value} {F : Nat → Nat → Value} (h : Own V b t m v n F) (hs : V.heap.size ≤ s) : ∀ g, v.ownBlock = some g → g < s := fun _ e => Nat.lt_of_lt_of_le (h.block e).2 hs
section
variable {A1 A2 A3 : Option Addr} {zb g k4 k5 k7 : Nat} {W2 V V' : World} {v4 v5 v7 v' u : Value}
theorem ExL.alloc (h : ExL A1 A2 A3 zb W2 g k4 k5 k7 v4 v5 v7 u V) (o : Obj) : ExL A1 A2 A3 zb W2 g k4 k5 k7 v4 v5 v7 u (V.alloc o) :=
 ⟨gtrans h.hg (below_grown (belowAlloc V o) none) fun _ e => (by cases e), h.o4.alloc o, h.o5.alloc o, h.o7.alloc o, h.a45, h.a47, h.a57, h.b.alloc o⟩
theorem ExL.app4 (h : ExL A1 A2 A3 zb W2 g k4 k5 k7 v4 v5 v7 u V) (ho : Own V' W2.heap.size 142 3 v' (k4 + 1) (upd (rows [1, 0, 1]) k4 fun j => .int .i64 (([1, 0, 1] : List Int).getD j 0))) (hg : V.grownBy V' v4.ownBlock) (hat : v'.ownBlock = v4.ownBlock ∨ v'.ownBlock = some V.heap.size) : ExL A1 A2 A3 zb W2 g (k4 + 1) k5 k7 v' v5 v7 u V' :=
 ⟨gtrans h.hg hg fun r e => .inl (h.o4.block e).1, ho.congr fun _ _ _ _ => rows_app, h.o5.apart_grown h.a45 hg, h.o7.apart_grown h.a47 hg, h.a45.app hat (blk_lt h.o5 (Nat.le_refl _)), h.a47.app hat (blk_lt h.o7 (Nat.le_refl _)), h.a57, h.b.grown_own h.o4 (by decide) hg⟩
theorem ExL.app5 (h : ExL A1 A2 A3 zb W2 g k4 k5 k7 v4 v5 v7 u V) (ho : Own V' W2.heap.size 142 3 v' (k5 + 1) (upd (rows [1, 0, 0]) k5 fun j => .int .i64 (([1, 0, 0] : List Int).getD j 0))) (hg : V.grownBy V' v5.ownBlock) (hat : v'.ownBlock = v5.ownBlock ∨ v'.ownBlock = some V.heap.size) : ExL A1 A2 A3 zb W2 g k4 (k5 + 1) k7 v4 v' v7 u V' :=
 ⟨gtrans h.hg hg fun r e => .inl (h.o5.block e).1, h.o4.apart_grown h.a45.symm hg, ho.congr fun _ _ _ _ => rows_app, h.o7.apart_grown h.a57 hg, (h.a45.symm.app hat (blk_lt h.o4 (Nat.le_refl _))).symm, h.a47, h.a57.app hat (blk_lt h.o7 (Nat.le_refl _)), h.b.grown_own h.o5 (by decide) hg⟩
theorem ExL.app7 (h : ExL A1 A2 A3 zb W2 g k4 k5 k7 v4 v5 v7 u V) (ho : Own V' W2.heap.size 142 3 v' (k7 + 1) (upd (rows [2, 0, 2]) k7 fun j => .int .i64 (([2, 0, 2] : List Int).getD j 0))) (hg : V.grownBy V' v7.ownBlock) (hat : v'.ownBlock = v7.ownBlock ∨ v'.ownBlock = some V.heap.size) : ExL A1 A2 A3 zb W2 g k4 k5 (k7 + 1) v4 v5 v' u V' :=
 ⟨gtrans h.hg hg fun r e => .inl (h.o7.block e).1, h.o4.apart_grown h.a47.symm hg, h.o5.apart_grown h.a57.symm hg, ho.congr fun _ _ _ _ => rows_app, h.a45, (h.a47.symm.app hat (blk_lt h.o4 (Nat.le_refl _))).symm, (h.a57.symm.app hat (blk_lt h.o5 (Nat.le_refl _))).symm, h.b.grown_own h.o7 (by decide) hg⟩
theorem ExL.set (h : ExL A1 A2 A3 zb W2 g k4 k5 k7 v4 v5 v7 u V) (x : Value) : ExL A1 A2 A3 zb W2 g k4 k5 k7 v4 v5 v7 x (V.setCell ⟨g, 7, none⟩ x) :=
 ⟨gset h.hg, h.o4.setCell (p := ⟨g, 7, none⟩) (Own.ne_blk h.o4 h.b (by decide)) x, h.o5.setCell (p := ⟨g, 7, none⟩) (Own.ne_blk h.o5 h.b (by decide)) x, h.o7.setCell (p := ⟨g, 7, none⟩) (Own.ne_blk h.o7 h.b (by decide)) x, h.a45, h.a47, h.a57, h.b.set_ 7 x⟩
end
set_option maxRecDepth 100000 in
set_option maxHeartbeats 6400000 in
theorem driftEx_any (w : World) :
  Calls Tryz.prog 42 #[] w fun e w' => (∃ dA tA sA zA cA wA xA hA A0 A1 dc tc sc zc cc wc xc hc c0 c1, e = .returned (.tuple #[.agg #[.int .i64 4, .int .i64 3, .slice dA 12 dc, .slice tA 5 tc, .slice sA 5 sc, .slice zA 12 zc, .slice cA 2 cc, .slice wA 4 wc], .agg #[.int .i64 0, .slice xA 1 xc, .int .i64 2, .int .i64 4], .slice hA 2 hc]) ∧
   RdD w' w'.heap.size dA tA sA zA cA wA 12 5 5 12 2 4 exD exT exW exZ (fun _ => 4) exC exP ∧ Rd1 w' w'.heap.size xA 1 (fun k => ([4] : List Int).getD k 0) ∧ RdS w' w'.heap.size hA 2 (exX A0 A1 c0 c1)) ∧ Below w.heap.size w w' := by
 have HB0 := Lib.hid (belowAlloc2 w (.cells zero8 29) (.cells #[.int .i64 0, .slice none 0 0, .int .i64 0, .int .i64 0] 44))
 have Z0 := Lib.hid ((Blk.new w 29 zero8).alloc (.cells #[.int .i64 0, .slice none 0 0, .int .i64 0, .int .i64 0] 44))
 have Z1 := Lib.hid (Blk.new1 w (.cells zero8 29) 44 #[.int .i64 0, .slice none 0 0, .int .i64 0, .int .i64 0])
 have hsz : ((w.alloc (.cells zero8 29)).alloc (.cells #[.int .i64 0, .slice none 0 0, .int .i64 0, .int .i64 0] 44)).heap.size = w.heap.size + 2 := by simp
 go_enter Tryz.func42, Tryz.ntmps42
 go_upto_region 1 with fail
 generalize (w.alloc (.cells #[.int .i64 0, .int .i64 0, .slice none 0 0, .slice none 0 0, .slice none 0 0, .slice none 0 0, .slice none 0 0, .slice none 0 0] 29)).alloc (.cells #[.int .i64 0, .slice none 0 0, .int .i64 0, .int .i64 0] 44) = X at HB0 Z0 Z1 hsz ⊢
 have HCE := Lib.hid ((chartEx_any X).mono (R' := fun e w' => ∃ a1 a2 a3 : Nat, (X.heap.size ≤ a1 ∧ X.heap.size ≤ a2 ∧ X.heap.size ≤ a3 ∧ a1 < w'.heap.size ∧ a2 < w'.heap.size ∧ a3 < w'.heap.size) ∧ e = .returned (.agg #[.int .i64 4, .int .i64 3, .slice (some ⟨a1, 0, none⟩) 12 12, .slice (some ⟨a2, 0, none⟩) 5 5, .slice (some ⟨a3, 0, none⟩) 5 5]) ∧ RdC w' w'.heap.size (some ⟨a1, 0, none⟩) (some ⟨a2, 0, none⟩) (some ⟨a3, 0, none⟩) 12 5 5 exD exT exW ∧ Below X.heap.size X w') fun e w' h => by
  obtain ⟨⟨he, hc⟩, hb⟩ := h
  obtain ⟨b1, o1, e1, l1, _⟩ := hc.d.at_ (show 0 < 12 by omega)
  obtain ⟨b2, o2, e2, l2, _⟩ := hc.t.at2 (show 0 < 5 by omega)
  obtain ⟨b3, o3, e3, l3, _⟩ := hc.s.at_ (show 0 < 5 by omega)
  cases e1
  cases e2
  cases e3
  exact ⟨_, _, _, ⟨by omega, by omega, by omega, l1, l2, l3⟩, he, hc, hb⟩)
 go_upto_region 3 with (go_at_call 81; go_must (refine HCE.out.mono ?_); rintro e w1 ⟨a1, a2, a3, hbd, rfl, hc, hb1⟩; have HBD := Lib.hid hbd; clear hbd; have HC := Lib.hid hc; have HB1 := Lib.hid hb1; clear hc hb1)
 have HBW := Lib.hid (HB0.out.trans (HB1.out.mono HB0.out.size))
 have G2 := Lib.hid (Blk.new1 w1 (.cells #[.int .i64 1, .int .i64 1, .int .i64 1, .int .i64 1, .int .i64 0, .int .i64 0, .int .i64 0, .int .i64 0, .int .i64 0, .int .i64 0, .int .i64 0, .int .i64 0] 3) 29 #[.int .i64 4, .int .i64 3, .slice (some ⟨a1, 0, none⟩) 12 12, .slice (some ⟨a2, 0, none⟩) 5 5, .slice (some ⟨a3, 0, none⟩) 5 5, .slice (some ⟨w1.heap.size, 0, none⟩) 12 12, .slice none 0 0, .slice none 0 0])
 have Q2 := Lib.hid ((Blk.new w1 3 #[.int .i64 1, .int .i64 1, .int .i64 1, .int .i64 1, .int .i64 0, .int .i64 0, .int .i64 0, .int .i64 0, .int .i64 0, .int .i64 0, .int .i64 0, .int .i64 0]).alloc (.cells #[.int .i64 4, .int .i64 3, .slice (some ⟨a1, 0, none⟩) 12 12, .slice (some ⟨a2, 0, none⟩) 5 5, .slice (some ⟨a3, 0, none⟩) 5 5, .slice (some ⟨w1.heap.size, 0, none⟩) 12 12, .slice none 0 0, .slice none 0 0] 29))
 have HB2 := Lib.hid (belowAlloc2 w1 (.cells #[.int .i64 1, .int .i64 1, .int .i64 1, .int .i64 1, .int .i64 0, .int .i64 0, .int .i64 0, .int .i64 0, .int .i64 0, .int .i64 0, .int .i64 0, .int .i64 0] 3) (.cells #[.int .i64 4, .int .i64 3, .slice (some ⟨a1, 0, none⟩) 12 12, .slice (some ⟨a2, 0, none⟩) 5 5, .slice (some ⟨a3, 0, none⟩) 5 5, .slice (some ⟨w1.heap.size, 0, none⟩) 12 12, .slice none 0 0, .slice none 0 0] 29))
 have hs1 : X.heap.size ≤ w1.heap.size := HB1.out.size
 have hs2 : ((w1.alloc (.cells #[.int .i64 1, .int .i64 1, .int .i64 1, .int .i64 1, .int .i64 0, .int .i64 0, .int .i64 0, .int .i64 0, .int .i64 0, .int .i64 0, .int .i64 0, .int .i64 0] 3)).alloc (.cells #[.int .i64 4, .int .i64 3, .slice (some ⟨a1, 0, none⟩) 12 12, .slice (some ⟨a2, 0, none⟩) 5 5, .slice (some ⟨a3, 0, none⟩) 5 5, .slice (some ⟨w1.heap.size, 0, none⟩) 12 12, .slice none 0 0, .slice none 0 0] 29)).heap.size = w1.heap.size + 2 := by simp
 have HC2 := Lib.hid (HC.out.below HB2.out)
 have Y0 := Lib.hid ((Z0.out.below' HB1.out).below' HB2.out)
 have Y1 := Lib.hid ((Z1.out.below' HB1.out).below' HB2.out)
 have HBX := Lib.hid (HBW.out.trans (HB2.out.mono HBW.out.size))
 generalize (w1.alloc (.cells #[.int .i64 1, .int .i64 1, .int .i64 1, .int .i64 1, .int .i64 0, .int .i64 0, .int .i64 0, .int .i64 0, .int .i64 0, .int .i64 0, .int .i64 0, .int .i64 0] 3)).alloc (.cells #[.int .i64 4, .int .i64 3, .slice (some ⟨a1, 0, none⟩) 12 12, .slice (some ⟨a2, 0, none⟩) 5 5, .slice (some ⟨a3, 0, none⟩) 5 5, .slice (some ⟨w1.heap.size, 0, none⟩) 12 12, .slice none 0 0, .slice none 0 0] 29) = W2 at G2 Q2 HB2 hs2 HC2 Y0 Y1 HBX ⊢
 obtain ⟨zb, hzb⟩ : ∃ zb, zb = w1.heap.size := ⟨_, rfl⟩
 obtain ⟨g, hg⟩ : ∃ g, g = w1.heap.size + 1 := ⟨_, rfl⟩
 rw [← hg] at G2
 rw [← hzb] at G2 Q2 HC2 HBD
 rw [← hzb] at hg hs2 hs1
 have hF : Hid (∀ {P : Prop}, P → P) := Lib.hid fun h => h
 rw [← hzb]
 rw [show zb + 1 = g from hg.symm]
 have HGE := Lib.hid hg
 have hgl : g < W2.heap.size := by omega
 clear hzb hg HB0 HB1 HC Z0 Z1 HBW HB2 HCE hF
 have HE0 := Lib.hid (show ExL (some ⟨a1, 0, none⟩) (some ⟨a2, 0, none⟩) (some ⟨a3, 0, none⟩) zb W2 g 0 0 0 (.slice none 0 0) (.slice none 0 0) (.slice none 0 0) (.slice none 0 0) W2 from ⟨World.grownBy.refl _ _, Own.nil_, Own.nil_, Own.nil_, Apart.nil_left, Apart.nil_left, Apart.nil_left, G2.out⟩)
 obtain ⟨i1, ki, kz0, kz1, kz2⟩ := info_parts push_info
 have MP := Lib.hid (And.intro ki (And.intro kz0 (And.intro kz1 kz2)))
 clear ki kz0 kz1 kz2
 go_wp2_with fail
 go_loopw [4, 5, 6] (fun v4 v5 i wr => ∃ (k : Nat) (v7 : Value), k ≤ 4 ∧ i = .int .i64 (k : Int) ∧ Hid (ExL (some ⟨a1, 0, none⟩) (some ⟨a2, 0, none⟩) (some ⟨a3, 0, none⟩) zb W2 g k k k v4 v5 v7 v7 wr)) (fun _ _ i _ => 4 - (intOf i).toNat)
 case atStart => exact ⟨0, _, by omega, rfl, HE0⟩
 case round =>
  obtain ⟨k, v7, hk, rfl, HE⟩ := hrel
  clear HE0
  have hbs := HE.out.hg.size
  by_cases hlt : k < 4
  ·
   have hlt4 : (k : Int) < 4 := by omega
   obtain ⟨p4, q4, rfl⟩ := HE.out.o4.form
   obtain ⟨p5, q5, rfl⟩ := HE.out.o5.form
   obtain ⟨p7, q7, rfl⟩ := HE.out.o7.form
   go_upto_region 7 with (at_builtin; go_must (refine wpList_app rfl (.tmp 14) (.tmp 17) 27 rfl W2.heap.size 142 3 24 Tryz.underlying27 MP.out.1 MP.out.2.1 MP.out.2.2.1 MP.out.2.2.2 rfl (by decide) (by decide) (HE.out.alloc (.cells #[.int .i64 1, .int .i64 0, .int .i64 1] 142)).o4 rfl (by omega) (by simp; omega) _ 1 (fun j => .int .i64 (([1, 0, 1] : List Int).getD j 0)) rfl (row_tmp _ 1 0 1) (fun _ _ => rfl) ?_); intro n4 w4 o4 hg4 hat4; have HE4 := Lib.hid ((HE.out.alloc (.cells #[.int .i64 1, .int .i64 0, .int .i64 1] 142)).app4 o4 hg4 hat4); clear o4 hg4 hat4)
   have hb4 := HE4.out.hg.size
   go_upto_region 8 with (at_builtin; go_must (refine wpList_app rfl (.tmp 19) (.tmp 21) 27 rfl W2.heap.size 142 3 24 Tryz.underlying27 MP.out.1 MP.out.2.1 MP.out.2.2.1 MP.out.2.2.2 rfl (by decide) (by decide) (HE4.out.alloc (.cells #[.int .i64 1, .int .i64 0, .int .i64 0] 142)).o5 rfl (by omega) (by simp; omega) _ 1 (fun j => .int .i64 (([1, 0, 0] : List Int).getD j 0)) rfl (row_tmp _ 1 0 0) (fun _ _ => rfl) ?_); intro n5 w5 o5 hg5 hat5; have HE5 := Lib.hid ((HE4.out.alloc (.cells #[.int .i64 1, .int .i64 0, .int .i64 0] 142)).app5 o5 hg5 hat5); clear o5 hg5 hat5)
   have hb5 := HE5.out.hg.size
   have g7 := HE5.out.b.cell 7
   go_upto_region 5 with (at_builtin; go_must (refine wpList_app rfl (.tmp 24) (.tmp 27) 27 rfl W2.heap.size 142 3 24 Tryz.underlying27 MP.out.1 MP.out.2.1 MP.out.2.2.1 MP.out.2.2.2 rfl (by decide) (by decide) (HE5.out.alloc (.cells #[.int .i64 2, .int .i64 0, .int .i64 2] 142)).o7 rfl (by omega) (by simp; omega) _ 1 (fun j => .int .i64 (([2, 0, 2] : List Int).getD j 0)) rfl (row_tmp _ 2 0 2) (fun _ _ => rfl) ?_); intro n7 w7 o7 hg7 hat7; obtain ⟨r7, s7, rfl⟩ := Own.form o7; have HE7 := Lib.hid ((HE5.out.alloc (.cells #[.int .i64 2, .int .i64 0, .int .i64 2] 142)).app7 o7 hg7 hat7); clear o7 hg7 hat7; have g7 := HE7.out.b.cell 7; have f7 := HE7.out.b.frz 7)
   go_wp2_with fail
   go_roundw
   case rel => exact ⟨k + 1, _, by omega, by go_num, Lib.hid (HE7.out.set _)⟩
   case measure => simp [intOf]; omega
  ·
   obtain rfl : k = 4 := by omega
   obtain ⟨p4, q4, rfl⟩ := HE.out.o4.form
   obtain ⟨p5, q5, rfl⟩ := HE.out.o5.form
   obtain ⟨p7, q7, rfl⟩ := HE.out.o7.form
   obtain ⟨g0, g1, g2, g3, g4, g5, g6, g7⟩ := HE.out.b.c8
   have f6 := HE.out.b.frz 6
   have hgw := HE.out.b.lt
   go_upto_region 10 with fail
   obtain ⟨q, hq⟩ : ∃ q, q = wr.heap.size := ⟨_, rfl⟩
   have hgr : wr.grownBy ((wr.setCell ⟨g, 6, none⟩ (.slice (some ⟨wr.heap.size, 0, none⟩) 2 2)).alloc (.cells #[.slice p4 4 q4, .slice p5 4 q5] 27)) (some g) := gtrans (gset (World.grownBy.refl wr _)) (below_grown (belowAlloc _ _) none) fun _ e => (by cases e)
   have hgA := gtrans HE.out.hg hgr fun r e => .inr (by cases e; rfl)
   have B9 := Lib.hid (show Blk ((wr.setCell ⟨g, 6, none⟩ (.slice (some ⟨wr.heap.size, 0, none⟩) 2 2)).alloc (.cells #[.slice p4 4 q4, .slice p5 4 q5] 27)) g 29 #[.int .i64 4, .int .i64 3, .slice (some ⟨a1, 0, none⟩) 12 12, .slice (some ⟨a2, 0, none⟩) 5 5, .slice (some ⟨a3, 0, none⟩) 5 5, .slice (some ⟨zb, 0, none⟩) 12 12, .slice (some ⟨wr.heap.size, 0, none⟩) 2 2, .slice p7 4 q7] from (HE.out.b.set_ 6 _).alloc _)
   have hqb := Blk.new (wr.setCell ⟨g, 6, none⟩ (.slice (some ⟨wr.heap.size, 0, none⟩) 2 2)) 27 #[.slice p4 4 q4, .slice p5 4 q5]
   rw [show (wr.setCell ⟨g, 6, none⟩ (.slice (some ⟨wr.heap.size, 0, none⟩) 2 2)).heap.size = wr.heap.size from by simp] at hqb
   have O4 := Lib.hid (HE.out.o4.grown hgr (.inr (Own.ne_blk HE.out.o4 HE.out.b (by decide))))
   have O5 := Lib.hid (HE.out.o5.grown hgr (.inr (Own.ne_blk HE.out.o5 HE.out.b (by decide))))
   have O7 := Lib.hid (HE.out.o7.grown hgr (.inr (Own.ne_blk HE.out.o7 HE.out.b (by decide))))
   have HQ := Lib.hid hqb
   have HGA := Lib.hid hgA
   have hq2 : g < wr.heap.size := hgw
   clear hqb hgA hgr g0 g1 g2 g3 g4 g5 g6 g7 f6 HE
   generalize hW9 : (wr.setCell ⟨g, 6, none⟩ (.slice (some ⟨wr.heap.size, 0, none⟩) 2 2)).alloc (.cells #[.slice p4 4 q4, .slice p5 4 q5] 27) = W9 at B9 O4 O5 O7 HQ HGA ⊢
   clear hW9
   rw [← hq] at B9 HQ
   rw [← hq]
   have HQE := Lib.hid hq
   clear hq
   have hS := Y0.out.lt
   have hgz := HGE.out
   have N0 := Lib.hid (Y0.out.grown HGA.out (by simp; omega))
   have N1 := Lib.hid (Y1.out.grown HGA.out (by simp; omega))
   have BB := Lib.hid ((Below.refl (zb + 1) W2).grown HGA.out (by omega) fun r e => by cases e; omega)
   have RC := Lib.hid ((HC2.out.below (BB.out.mono (by omega))))
   have QZ := Lib.hid (Q2.out.grown HGA.out (by simp; omega))
   have HBZ := Lib.hid (HBX.out.grown HGA.out HBX.out.size fun r e => by cases e; omega)
   clear Y0 Y1 HC2 Q2 G2 HBX HGA BB hgz
   obtain ⟨g0, g1, g2, g3, g4, g5, g6, g7⟩ := B9.out.c8
   have s0 : W9.cell? ⟨w.heap.size, 0, none⟩ = some (.int .i64 0) := N0.out.cell 0
   have t0 := N0.out.frz 0
   have s1 : W9.cell? ⟨w.heap.size, 1, none⟩ = some (.int .i64 0) := N0.out.cell 1
   have t1 := N0.out.frz 1
   have s2 : W9.cell? ⟨w.heap.size, 2, none⟩ = some (.slice none 0 0) := N0.out.cell 2
   have t2 := N0.out.frz 2
   have s3 : W9.cell? ⟨w.heap.size, 3, none⟩ = some (.slice none 0 0) := N0.out.cell 3
   have t3 := N0.out.frz 3
   have s4 : W9.cell? ⟨w.heap.size, 4, none⟩ = some (.slice none 0 0) := N0.out.cell 4
   have t4 := N0.out.frz 4
   have s5 : W9.cell? ⟨w.heap.size, 5, none⟩ = some (.slice none 0 0) := N0.out.cell 5
   have t5 := N0.out.frz 5
   have s6 : W9.cell? ⟨w.heap.size, 6, none⟩ = some (.slice none 0 0) := N0.out.cell 6
   have t6 := N0.out.frz 6
   have s7 : W9.cell? ⟨w.heap.size, 7, none⟩ = some (.slice none 0 0) := N0.out.cell 7
   have t7 := N0.out.frz 7
   have d0 := N1.out.cell 0
   have e0 := N1.out.frz 0
   have d1 := N1.out.cell 1
   have e1 := N1.out.frz 1
   have d2 := N1.out.cell 2
   have e2 := N1.out.frz 2
   have d3 := N1.out.cell 3
   have e3 := N1.out.frz 3
   have hs0 := N0.out.lt
   have hs1' := N1.out.lt
   have hS2 : w.heap.size < W9.heap.size + 1 := by omega
   have hS3 : w.heap.size < W9.heap.size + 1 + 1 := by omega
   have hS4 : w.heap.size < W9.heap.size + 1 + 1 + 1 := by omega
   have hT2 : w.heap.size + 1 < W9.heap.size + 1 := by omega
   have hT3 : w.heap.size + 1 < W9.heap.size + 1 + 1 := by omega
   have hT4 : w.heap.size + 1 < W9.heap.size + 1 + 1 + 1 := by omega
   go_wp2_with fail
   have hbd := HBD.out
   have hgz := HGE.out
   have hzl := QZ.out.lt
   have h1 : W9.grownBy ((((((((W9.setCell ⟨w.heap.size, 0, none⟩ (.int .i64 4)).setCell ⟨w.heap.size, 1, none⟩ (.int .i64 3)).setCell ⟨w.heap.size, 2, none⟩ (.slice (some ⟨a1, 0, none⟩) 12 12)).setCell ⟨w.heap.size, 3, none⟩ (.slice (some ⟨a2, 0, none⟩) 5 5)).setCell ⟨w.heap.size, 4, none⟩ (.slice (some ⟨a3, 0, none⟩) 5 5)).setCell ⟨w.heap.size, 5, none⟩ (.slice (some ⟨zb, 0, none⟩) 12 12)).setCell ⟨w.heap.size, 6, none⟩ (.slice (some ⟨q, 0, none⟩) 2 2)).setCell ⟨w.heap.size, 7, none⟩ (.slice p7 4 q7)) (some w.heap.size) := gset (gset (gset (gset (gset (gset (gset (gset (World.grownBy.refl _ _))))))))
   have K0 : Blk ((((((((W9.setCell ⟨w.heap.size, 0, none⟩ (.int .i64 4)).setCell ⟨w.heap.size, 1, none⟩ (.int .i64 3)).setCell ⟨w.heap.size, 2, none⟩ (.slice (some ⟨a1, 0, none⟩) 12 12)).setCell ⟨w.heap.size, 3, none⟩ (.slice (some ⟨a2, 0, none⟩) 5 5)).setCell ⟨w.heap.size, 4, none⟩ (.slice (some ⟨a3, 0, none⟩) 5 5)).setCell ⟨w.heap.size, 5, none⟩ (.slice (some ⟨zb, 0, none⟩) 12 12)).setCell ⟨w.heap.size, 6, none⟩ (.slice (some ⟨q, 0, none⟩) 2 2)).setCell ⟨w.heap.size, 7, none⟩ (.slice p7 4 q7)) w.heap.size 29 #[.int .i64 4, .int .i64 3, .slice (some ⟨a1, 0, none⟩) 12 12, .slice (some ⟨a2, 0, none⟩) 5 5, .slice (some ⟨a3, 0, none⟩) 5 5, .slice (some ⟨zb, 0, none⟩) 12 12, .slice (some ⟨q, 0, none⟩) 2 2, .slice p7 4 q7] := (((((((N0.out.set_ 0 _).set_ 1 _).set_ 2 _).set_ 3 _).set_ 4 _).set_ 5 _).set_ 6 _).set_ 7 _
   have hz1 : ((((((((W9.setCell ⟨w.heap.size, 0, none⟩ (.int .i64 4)).setCell ⟨w.heap.size, 1, none⟩ (.int .i64 3)).setCell ⟨w.heap.size, 2, none⟩ (.slice (some ⟨a1, 0, none⟩) 12 12)).setCell ⟨w.heap.size, 3, none⟩ (.slice (some ⟨a2, 0, none⟩) 5 5)).setCell ⟨w.heap.size, 4, none⟩ (.slice (some ⟨a3, 0, none⟩) 5 5)).setCell ⟨w.heap.size, 5, none⟩ (.slice (some ⟨zb, 0, none⟩) 12 12)).setCell ⟨w.heap.size, 6, none⟩ (.slice (some ⟨q, 0, none⟩) 2 2)).setCell ⟨w.heap.size, 7, none⟩ (.slice p7 4 q7)).heap.size = W9.heap.size := by simp
   generalize ((((((((W9.setCell ⟨w.heap.size, 0, none⟩ (.int .i64 4)).setCell ⟨w.heap.size, 1, none⟩ (.int .i64 3)).setCell ⟨w.heap.size, 2, none⟩ (.slice (some ⟨a1, 0, none⟩) 12 12)).setCell ⟨w.heap.size, 3, none⟩ (.slice (some ⟨a2, 0, none⟩) 5 5)).setCell ⟨w.heap.size, 4, none⟩ (.slice (some ⟨a3, 0, none⟩) 5 5)).setCell ⟨w.heap.size, 5, none⟩ (.slice (some ⟨zb, 0, none⟩) 12 12)).setCell ⟨w.heap.size, 6, none⟩ (.slice (some ⟨q, 0, none⟩) 2 2)).setCell ⟨w.heap.size, 7, none⟩ (.slice p7 4 q7)) = V1 at h1 K0 hz1 ⊢
   have N1' := N1.out.grown h1 (by simp)
   have h2 : V1.grownBy ((((V1.setCell ⟨w.heap.size + 1, 0, none⟩ (.int .i64 0)).setCell ⟨w.heap.size + 1, 1, none⟩ (.slice (some ⟨W9.heap.size, 0, none⟩) 1 1)).setCell ⟨w.heap.size + 1, 2, none⟩ (.int .i64 2)).setCell ⟨w.heap.size + 1, 3, none⟩ (.int .i64 4)) (some (w.heap.size + 1)) := gset (gset (gset (gset (World.grownBy.refl _ _))))
   have K1 : Blk ((((V1.setCell ⟨w.heap.size + 1, 0, none⟩ (.int .i64 0)).setCell ⟨w.heap.size + 1, 1, none⟩ (.slice (some ⟨W9.heap.size, 0, none⟩) 1 1)).setCell ⟨w.heap.size + 1, 2, none⟩ (.int .i64 2)).setCell ⟨w.heap.size + 1, 3, none⟩ (.int .i64 4)) (w.heap.size + 1) 44 #[.int .i64 0, .slice (some ⟨W9.heap.size, 0, none⟩) 1 1, .int .i64 2, .int .i64 4] := (((N1'.set_ 0 _).set_ 1 _).set_ 2 _).set_ 3 _
   have K0' := K0.grown h2 (by simp)
   have hz2 : ((((V1.setCell ⟨w.heap.size + 1, 0, none⟩ (.int .i64 0)).setCell ⟨w.heap.size + 1, 1, none⟩ (.slice (some ⟨W9.heap.size, 0, none⟩) 1 1)).setCell ⟨w.heap.size + 1, 2, none⟩ (.int .i64 2)).setCell ⟨w.heap.size + 1, 3, none⟩ (.int .i64 4)).heap.size = W9.heap.size := by simp [hz1]
   generalize ((((V1.setCell ⟨w.heap.size + 1, 0, none⟩ (.int .i64 0)).setCell ⟨w.heap.size + 1, 1, none⟩ (.slice (some ⟨W9.heap.size, 0, none⟩) 1 1)).setCell ⟨w.heap.size + 1, 2, none⟩ (.int .i64 2)).setCell ⟨w.heap.size + 1, 3, none⟩ (.int .i64 4)) = V2 at h2 K1 K0' hz2 ⊢
   rw [← hz2] at K1
   rw [← hz2]
   have hB4 : Below V2.heap.size V2 ((((V2.alloc (.cells #[.int .i64 4] 3)).alloc (.cells #[.int .i64 4, .int .i64 5] 3)).alloc (.cells #[.int .i64 10] 3)).alloc (.cells #[.int .i64 1, .slice (some ⟨V2.heap.size + 1, 0, none⟩) 2 2, .bool false, .int .i64 2, .slice (some ⟨V2.heap.size + 1 + 1, 0, none⟩) 1 1, .bool true] 68)) := ((belowAlloc3 V2 _ _ _).alloc (by simp; omega) _)
   have L1 := (((Blk.new V2 3 #[.int .i64 4]).alloc (.cells #[.int .i64 4, .int .i64 5] 3)).alloc (.cells #[.int .i64 10] 3)).alloc (.cells #[.int .i64 1, .slice (some ⟨V2.heap.size + 1, 0, none⟩) 2 2, .bool false, .int .i64 2, .slice (some ⟨V2.heap.size + 1 + 1, 0, none⟩) 1 1, .bool true] 68)
   have L2 := ((Blk.new1 V2 (.cells #[.int .i64 4] 3) 3 #[.int .i64 4, .int .i64 5]).alloc (.cells #[.int .i64 10] 3)).alloc (.cells #[.int .i64 1, .slice (some ⟨V2.heap.size + 1, 0, none⟩) 2 2, .bool false, .int .i64 2, .slice (some ⟨V2.heap.size + 1 + 1, 0, none⟩) 1 1, .bool true] 68)
   have L3 := (Blk.new2 V2 (.cells #[.int .i64 4] 3) (.cells #[.int .i64 4, .int .i64 5] 3) 3 #[.int .i64 10]).alloc (.cells #[.int .i64 1, .slice (some ⟨V2.heap.size + 1, 0, none⟩) 2 2, .bool false, .int .i64 2, .slice (some ⟨V2.heap.size + 1 + 1, 0, none⟩) 1 1, .bool true] 68)
   have L4 := Blk.new3 V2 (.cells #[.int .i64 4] 3) (.cells #[.int .i64 4, .int .i64 5] 3) (.cells #[.int .i64 10] 3) 68 #[.int .i64 1, .slice (some ⟨V2.heap.size + 1, 0, none⟩) 2 2, .bool false, .int .i64 2, .slice (some ⟨V2.heap.size + 1 + 1, 0, none⟩) 1 1, .bool true]
   have hzF : ((((V2.alloc (.cells #[.int .i64 4] 3)).alloc (.cells #[.int .i64 4, .int .i64 5] 3)).alloc (.cells #[.int .i64 10] 3)).alloc (.cells #[.int .i64 1, .slice (some ⟨V2.heap.size + 1, 0, none⟩) 2 2, .bool false, .int .i64 2, .slice (some ⟨V2.heap.size + 1 + 1, 0, none⟩) 1 1, .bool true] 68)).heap.size = V2.heap.size + 4 := by simp
   generalize (((V2.alloc (.cells #[.int .i64 4] 3)).alloc (.cells #[.int .i64 4, .int .i64 5] 3)).alloc (.cells #[.int .i64 10] 3)).alloc (.cells #[.int .i64 1, .slice (some ⟨V2.heap.size + 1, 0, none⟩) 2 2, .bool false, .int .i64 2, .slice (some ⟨V2.heap.size + 1 + 1, 0, none⟩) 1 1, .bool true] 68) = VF at hB4 L1 L2 L3 L4 hzF ⊢
   have hown : ∀ (b t m n : Nat) (v : Value) (F : Nat → Nat → Value), t ≠ 29 → t ≠ 44 → Own W9 b t m v n F → Own VF b t m v n F := fun b t m n v F e1 e2 ho =>
    have h3 := ho.grown h1 (.inr (Own.ne_blk ho N0.out e1))
    (h3.grown h2 (.inr (Own.ne_blk h3 N1' e2))).below hB4
   have hcell : ∀ a : Nat, a < W9.heap.size → a ≠ w.heap.size → a ≠ w.heap.size + 1 → VF.heap[a]? = W9.heap[a]? := fun a ha e1 e2 =>
    (hB4.block a (by omega)).trans ((h2.block a (by omega) (fun e => e2 (by injection e))).trans (h1.block a ha (fun e => e1 (by injection e))))
   have hFz : zb ≤ VF.heap.size := by omega
   refine bodyPost_ret (results_cc1 rfl _ _ w.heap.size (w.heap.size + 1) 29 44 #[.int .i64 4, .int .i64 3, .slice (some ⟨a1, 0, none⟩) 12 12, .slice (some ⟨a2, 0, none⟩) 5 5, .slice (some ⟨a3, 0, none⟩) 5 5, .slice (some ⟨zb, 0, none⟩) 12 12, .slice (some ⟨q, 0, none⟩) 2 2, .slice p7 4 q7] #[.int .i64 0, .slice (some ⟨V2.heap.size, 0, none⟩) 1 1, .int .i64 2, .int .i64 4] (0, 0) (0, 0) _ _ rfl (K0'.below' hB4) rfl (K1.below' hB4) Tryz.underlying29 rfl drift_size Tryz.underlying44 rfl drifter_size) rfl ⟨⟨_, _, _, _, _, _, _, _, some ⟨V2.heap.size + 1, 0, none⟩, some ⟨V2.heap.size + 1 + 1, 0, none⟩, _, _, _, _, _, _, _, _, 2, 1, rfl, ⟨⟨?_, ?_, ?_⟩, ?_, ?_, ?_⟩, ?_, ?_⟩, ?_⟩
   · exact ((Rd1.keepB RC.out.d fun i => World.cell?_of_block (hcell a1 (by omega) (by omega) (by omega)))).more hFz
   · exact ((Rd.keepB RC.out.t fun i => World.cell?_of_block (hcell a2 (by omega) (by omega) (by omega)))).more hFz
   · exact ((Rd1.keepB RC.out.s fun i => World.cell?_of_block (hcell a3 (by omega) (by omega) (by omega)))).more hFz
   ·
    refine .inr ⟨zb, 0, rfl, by omega, fun i hi => ?_⟩
    rw [Nat.zero_add]
    have hb : Blk VF zb 3 #[.int .i64 1, .int .i64 1, .int .i64 1, .int .i64 1, .int .i64 0, .int .i64 0, .int .i64 0, .int .i64 0, .int .i64 0, .int .i64 0, .int .i64 0, .int .i64 0] := (hcell zb (by omega) (by omega) (by omega)).trans QZ.out
    refine (hb.cell i).trans ?_
    have h : M.allTo 12 (fun i => decide ((#[(1 : Int), 1, 1, 1, 0, 0, 0, 0, 0, 0, 0, 0] : Array Int)[i]? = some (exZ i))) = true := by kernel_rfl
    have h2 := of_decide_eq_true (M.allTo_iff.1 h i hi)
    have e : (#[.int .i64 1, .int .i64 1, .int .i64 1, .int .i64 1, .int .i64 0, .int .i64 0, .int .i64 0, .int .i64 0, .int .i64 0, .int .i64 0, .int .i64 0, .int .i64 0] : Array Value) = (#[(1 : Int), 1, 1, 1, 0, 0, 0, 0, 0, 0, 0, 0] : Array Int).map (Value.int .i64) := by simp
    rw [e, Array.getElem?_map, h2]
    rfl
   ·
    have hb : Blk VF q 27 #[.slice p4 4 q4, .slice p5 4 q5] := (hcell q (by have := HQ.out.lt; omega) (by have := HQE.out; omega) (by have := HQE.out; omega)).trans HQ.out
    refine .inr ⟨q, 0, rfl, hb.lt, fun i hi => ?_⟩
    obtain rfl | rfl : i = 0 ∨ i = 1 := by omega
    · exact ⟨p4, q4, hb.cell 0, (hown _ _ _ _ _ _ (by decide) (by decide) O4.out).rdI, by show (4 : Nat) ≤ maxLen; unfold maxLen; omega⟩
    · exact ⟨p5, q5, hb.cell 1, (hown _ _ _ _ _ _ (by decide) (by decide) O5.out).rdI, by show (4 : Nat) ≤ maxLen; unfold maxLen; omega⟩
   · exact (hown _ _ _ _ _ _ (by decide) (by decide) O7.out).rdI
   ·
    refine .inr ⟨V2.heap.size, 0, rfl, by omega, fun i hi => ?_⟩
    obtain rfl : i = 0 := by omega
    exact L1.cell 0
   ·
    refine .inr ⟨V2.heap.size + 1 + 1 + 1, 0, rfl, by omega, fun i hi => ?_⟩
    obtain rfl | rfl : i = 0 ∨ i = 1 := by omega
    ·
     refine ⟨⟨L4.cell 0, L4.cell 1, L4.cell 2⟩, .inr ⟨V2.heap.size + 1, 0, rfl, by omega, fun j hj => ?_⟩, by show (2 : Nat) ≤ maxLen; unfold maxLen; omega⟩
     have hj : j < 2 := hj
     obtain rfl | rfl : j = 0 ∨ j = 1 := by omega
     · exact L2.cell 0
     · exact L2.cell 1
    ·
     refine ⟨⟨L4.cell 3, L4.cell 4, L4.cell 5⟩, .inr ⟨V2.heap.size + 1 + 1, 0, rfl, by omega, fun j hj => ?_⟩, by show (1 : Nat) ≤ maxLen; unfold maxLen; omega⟩
     have hj : j < 1 := hj
     obtain rfl : j = 0 := by omega
     exact L3.cell 0
   ·
    have hb1 := (HBZ.out.grown h1 HBZ.out.size fun r e => by cases e; omega)
    have hb2 := hb1.grown h2 hb1.size fun r e => by cases e; omega
    exact hb2.trans (hB4.mono hb2.size)
end Go.Proofs.YtnbeembnnjdmdaaGreatDoor
/- The examples, walked: works. -/
namespace Go.Proofs.YtnbeembnnjdmdaaGreatDoor
open Go.RowKit Go.Maps

set_option maxRecDepth 100000 in
set_option maxHeartbeats 6400000 in
theorem works_any (w : World) (hw : Ways w) : Calls Tryz.prog 13 #[] w fun e w' => e = .returned (.bool true) ∧ Below w.heap.size w w' := by
 have HE := Lib.hid (driftEx_any w)
 have HWY := Lib.hid hw
 clear hw
 go_enter Tryz.func13, Tryz.ntmps13
 go_upto_region 2 with (go_at_call 42; go_must (refine HE.out.mono ?_); rintro e w1 ⟨⟨dA, tA, sA, zA, cA, wA, xA, hA, A0, A1, dc, tc, sc, zc, cc, wc, xc, hc, c0, c1, rfl, hd, hx, hs⟩, hb1⟩; have HD := Lib.hid hd; have HX := Lib.hid hx; have HS := Lib.hid hs; have HB1 := Lib.hid hb1; clear hd hx hs hb1)
 have D0 := Lib.hid ((Blk.new w1 29 #[.int .i64 4, .int .i64 3, .slice dA 12 dc, .slice tA 5 tc, .slice sA 5 sc, .slice zA 12 zc, .slice cA 2 cc, .slice wA 4 wc]).alloc (.cells #[.int .i64 0, .slice xA 1 xc, .int .i64 2, .int .i64 4] 44))
 have X0 := Lib.hid (Blk.new1 w1 (.cells #[.int .i64 4, .int .i64 3, .slice dA 12 dc, .slice tA 5 tc, .slice sA 5 sc, .slice zA 12 zc, .slice cA 2 cc, .slice wA 4 wc] 29) 44 #[.int .i64 0, .slice xA 1 xc, .int .i64 2, .int .i64 4])
 have HA2 := Lib.hid (belowAlloc2 w1 (.cells #[.int .i64 4, .int .i64 3, .slice dA 12 dc, .slice tA 5 tc, .slice sA 5 sc, .slice zA 12 zc, .slice cA 2 cc, .slice wA 4 wc] 29) (.cells #[.int .i64 0, .slice xA 1 xc, .int .i64 2, .int .i64 4] 44))
 have HBX := Lib.hid (HB1.out.trans (HA2.out.mono HB1.out.size))
 generalize (w1.alloc (.cells #[.int .i64 4, .int .i64 3, .slice dA 12 dc, .slice tA 5 tc, .slice sA 5 sc, .slice zA 12 zc, .slice cA 2 cc, .slice wA 4 wc] 29)).alloc (.cells #[.int .i64 0, .slice xA 1 xc, .int .i64 2, .int .i64 4] 44) = X at D0 X0 HA2 HBX ⊢
 have HDX := Lib.hid (HD.out.below HA2.out)
 have HXX := Lib.hid (HX.out.below HA2.out)
 have HSX := Lib.hid (HS.out.below HA2.out)
 have HWX := Lib.hid (HWY.out.below HBX.out)
 have hst := dStep_ok (d := exDr) (dA := dA) (tA := tA) (sA := sA) (zA := zA) (cA := cA) (wA := wA) (cl := fun _ => 4) (dc := dc) (tc := tc) (sc := sc) (zc := zc) (cc := cc) (wc := wc) exDr_ok (fun _ _ => rfl) HDX.out HA2.out.size HWX.out 4 0 4
 have HST := Lib.hid (show Calls Tryz.prog 15 #[.agg #[.int .i64 4, .int .i64 3, .slice dA 12 dc, .slice tA 5 tc, .slice sA 5 sc, .slice zA 12 zc, .slice cA 2 cc, .slice wA 4 wc], .int .i64 4, .int .i64 0, .int .i64 4] X fun e w' => Below X.heap.size X w' ∧ ∃ v, e = .returned (.tuple #[v, .int .i64 0]) ∧ IL w' X.heap.size v [-1, 4, 5, 9, 10] from hst.mono fun e w' h => by
  obtain ⟨hb, h2⟩ := h
  rw [if_pos (by kernel_rfl)] at h2
  obtain ⟨v, e1, e2⟩ := h2
  refine ⟨hb, v, e1, ?_⟩
  rw [show Int.toNat 0 = 0 from rfl, ex_step] at e2
  exact e2)
 clear hst
 obtain ⟨d0, d1, d2, d3, d4, d5, d6, d7⟩ := D0.out.c8
 go_upto_region 3 with (go_at_call 15; go_must (refine HST.out.mono ?_); rintro e w2 ⟨hb2, v2, rfl, hi2⟩; have HB2 := Lib.hid hb2; have HI2 := Lib.hid hi2; clear hb2 hi2)
 have D2 := Lib.hid (D0.out.below' HB2.out)
 have X2 := Lib.hid (X0.out.below' HB2.out)
 have HZ2 := Lib.hid (HBX.out.trans (HB2.out.mono HBX.out.size))
 have hsk := struck_ok (d := exDr) (dA := dA) (tA := tA) (sA := sA) (zA := zA) (cA := cA) (wA := wA) (xA := xA) (hA := hA) (hn := 2) (Xs := exX A0 A1 c0 c1) (xL := [4]) (at_ := 0) (lo := 2) (hi := 4) (cl := fun _ => 4) (dc := dc) (tc := tc) (sc := sc) (zc := zc) (cc := cc) (wc := wc) (xc := xc) (hc := hc) exDr_ok (fun _ _ => rfl) (HDX.out.below (HB2.out.mono HA2.out.size)) (Nat.le_trans HA2.out.size HB2.out.size) (HWY.out.below HZ2.out) (HXX.out.below (HB2.out.mono HA2.out.size)) (by show (1 : Nat) ≤ maxLen; unfold maxLen; omega) (HSX.out.below (HB2.out.mono HA2.out.size)) (by unfold maxLen; omega) 4 1 ex_chkX (ex_chkS A0 A1 c0 c1)
 have HSK := Lib.hid (show Calls Tryz.prog 25 #[.agg #[.int .i64 4, .int .i64 3, .slice dA 12 dc, .slice tA 5 tc, .slice sA 5 sc, .slice zA 12 zc, .slice cA 2 cc, .slice wA 4 wc], .agg #[.int .i64 0, .slice xA 1 xc, .int .i64 2, .int .i64 4], .slice hA 2 hc, .int .i64 4, .int .i64 1] w2 fun e w' => Below w2.heap.size w2 w' ∧ ∃ v, e = .returned (.tuple #[v, .int .i64 0]) ∧ LfP w2.heap.size w' v [0] from hsk.mono fun e w' h => by
  obtain ⟨hb, h⟩ := h
  refine ⟨hb, ?_⟩
  rcases h with ⟨h1, _⟩ | ⟨_, h1, _⟩ | ⟨_, _, v, h1, h2⟩
  · cases h1.symm.trans ex_ask
  · cases h1.symm.trans (ex_strP A0 A1 c0 c1)
  ·
   refine ⟨v, h1, ?_⟩
   have h3 := h2
   rw [show strG exDr 0 2 4 [4] (exX A0 A1 c0 c1) 4 1 = strG exDr 0 2 4 [4] (exX A0 A1 c0 c1) 4 1 from rfl, ex_kp A0 A1 c0 c1] at h3
   exact h3)
 clear hsk d0 d1 d2 d3 d4 d5 d6 d7
 obtain ⟨d0, d1, d2, d3, d4, d5, d6, d7⟩ := D2.out.c8
 obtain ⟨x0, x1, x2, x3⟩ := X2.out.c4
 go_upto_region 4 with (go_at_call 25; go_must (refine HSK.out.mono ?_); rintro e w3 ⟨hb3, v3, rfl, hl3⟩; have HB3 := Lib.hid hb3; have HL3 := Lib.hid hl3; clear hb3 hl3)
 have HI3 := Lib.hid (HI2.out.below HB3.out)
 obtain ⟨B2, m2, rfl⟩ := Own.form HI3.out
 obtain ⟨g3, m3, e3, hm3, hm3', hg3, hc3⟩ := HL3.out.1.resolve_left (by simp)
 subst e3
 have HC3 := Lib.hid hc3
 have HZ3 := Lib.hid (HZ2.out.trans (HB3.out.mono HZ2.out.size))
 clear d0 d1 d2 d3 d4 d5 d6 d7 x0 x1 x2 x3 hc3 hm3 hm3' HST HSK
 have hsa := sameInts_any B2 (some ⟨w3.heap.size, 0, none⟩) 5 5 m2 5 (w3.heap.size + 1) (fun i => ([-1, 4, 5, 9, 10] : List Int).getD i 0) (fun i => ([-1, 4, 5, 9, 10] : List Int).getD i 0) (w3.alloc (.cells #[.int .i64 (-1), .int .i64 4, .int .i64 5, .int .i64 9, .int .i64 10] 3)) (by unfold maxLen; omega) (by unfold maxLen; omega) (((Own.rd1' HI3.out).below (belowAlloc w3 _)).more (by omega)) (.inr ⟨w3.heap.size, 0, rfl, by omega, fun i hi => by
  rw [Nat.zero_add]
  refine ((Blk.new w3 3 #[.int .i64 (-1), .int .i64 4, .int .i64 5, .int .i64 9, .int .i64 10]).cell i).trans ?_
  obtain rfl | rfl | rfl | rfl | rfl : i = 0 ∨ i = 1 ∨ i = 2 ∨ i = 3 ∨ i = 4 := by omega
  all_goals rfl⟩)
 rw [same_self] at hsa
 have HSA := Lib.hid hsa
 have HB4 := Lib.hid (belowAlloc w3 (.cells #[.int .i64 (-1), .int .i64 4, .int .i64 5, .int .i64 9, .int .i64 10] 3))
 have HSB := Lib.hid (fun (V : World) (hb : Below w3.heap.size w3 V) => (show Calls Tryz.prog 19 #[.slice (some ⟨g3, 0, none⟩) 1 m3, .slice (some ⟨V.heap.size, 0, none⟩) 1 1] (V.alloc (.cells #[.int .i64 0] 3)) fun e w' => e = .returned (.bool (sameF 1 1 (fun _ => 0) (fun _ => 0))) ∧ Below (V.alloc (.cells #[.int .i64 0] 3)).heap.size (V.alloc (.cells #[.int .i64 0] 3)) w' from sameInts_any (some ⟨g3, 0, none⟩) (some ⟨V.heap.size, 0, none⟩) 1 1 m3 1 (V.heap.size + 1) (fun _ => 0) (fun _ => 0) _ (by unfold maxLen; omega) (by unfold maxLen; omega) (.inr ⟨g3, 0, rfl, by have := hb.size; omega, fun i hi => by
   obtain rfl : i = 0 := by omega
   refine ((belowAlloc V _).cell (p := ⟨g3, 0 + 0, none⟩) (by show g3 < V.heap.size; have := hb.size; omega)).trans ((hb.cell (p := ⟨g3, 0 + 0, none⟩) hg3).trans ?_)
   exact HC3.out 0 (by decide)⟩) (.inr ⟨V.heap.size, 0, rfl, by omega, fun i hi => by
   obtain rfl : i = 0 := by omega
   exact (Blk.new V 3 #[.int .i64 0]).cell 0⟩)))
 clear hsa
 go_wp2_with fail
 refine HSA.out.mono ?_
 rintro e w4 ⟨rfl, hb4⟩
 have HB5 := Lib.hid (HB4.out.trans (hb4.mono (by simp)))
 clear hb4
 have HSC := Lib.hid (HSB.out w4 HB5.out)
 rw [same_self] at HSC
 clear HSB HSA
 go_wp2_with fail
 refine HSC.out.mono ?_
 rintro e w5 ⟨rfl, hb5⟩
 have HB6 := Lib.hid (HB5.out.trans (((belowAlloc w4 (.cells #[.int .i64 0] 3)).trans (hb5.mono (by simp))).mono HB5.out.size))
 clear hb5
 go_wp2_with fail
 go_ret
 exact ⟨rfl, HZ3.out.trans (HB6.out.mono HZ3.out.size)⟩
end Go.Proofs.YtnbeembnnjdmdaaGreatDoor
