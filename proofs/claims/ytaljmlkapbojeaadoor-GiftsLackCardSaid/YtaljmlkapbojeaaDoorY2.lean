/- The iterator reserves, and its callers Appeal and lasts. -/
import Derived.Test.YtaljmlkapbojeaaDoorY1
import Derived.Test.YtaljmlkapbojeaaDoorOwn
import Derived.RangeFuncNested
import Derived.RangeFuncBound
import Derived.RangeFuncCalls
import Derived.RangeFuncLeaves
import Derived.RangeFuncBox
import Derived.Shelf.Abstract
import Derived.Shelf.RegionOpen
import Derived.OwnWalkIn
import Derived.TacticsInMore
import Derived.LoopNIn
import Derived.LoopIn
namespace Go.Proofs.YtaljmlkapbojeaaDoor
open Go.RowKit Go.Shelf

attribute [local go_sem] Oper.semAt_some

/-- What has come when k rounds are over. -/
def upto (n k : Nat) : List (Fin n) := (List.finRange n).take k
theorem upto_succ {n k : Nat} (h : k < n) : upto n (k + 1) = upto n k ++ [⟨k, h⟩] := by
  unfold upto
  rw [List.take_succ_eq_append_getElem (by simpa using h)]
  simp
theorem upto_length {n k : Nat} (h : k ≤ n) : (upto n k).length = k := by simp [upto]; omega

/-- What a round of the loop keeps: all below n, and block g. -/
def KeepG (n g : Nat) (W W' : World) : Prop := W.heap.size ≤ W'.heap.size ∧ ∀ b, b < n ∨ b = g → W'.heap[b]? = W.heap[b]?
theorem KeepG.refl (n g : Nat) (W : World) : KeepG n g W W := ⟨Nat.le_refl _, fun _ _ => rfl⟩
theorem KeepG.trans {n g : Nat} {A B C : World} (h : KeepG n g A B) (k : KeepG n g B C) : KeepG n g A C := ⟨Nat.le_trans h.1 k.1, fun b hb => (k.2 b hb).trans (h.2 b hb)⟩
theorem KeepG.below {n g : Nat} {A B : World} (h : Below A.heap.size A B) (hn : n ≤ A.heap.size) (hg : g < A.heap.size) : KeepG n g A B := ⟨h.size, fun b hb => h.block b (by rcases hb with hb | hb <;> omega)⟩
theorem KeepG.cell {n g : Nat} {A B : World} (h : KeepG n g A B) {p : Addr} (hp : p.block < n ∨ p.block = g) : B.cell? p = A.cell? p := World.cell?_of_block (w := A) (h.2 p.block hp)
theorem KeepG.rd {n g m k : Nat} {W W' : World} {A : Option Addr} {f : Nat → Nat → Int} (h : KeepG n g W W') (hr : Rd W n A m k f) : Rd W' n A m k f := hr.keep fun _ hp => h.cell (.inl hp)
theorem KeepG.put {n g : Nat} {w : World} (hn : n ≤ w.heap.size) (hg : g < w.heap.size) (W : World) (l : Nat) (o o' : Obj) (hl : w.heap.size ≤ l) (_ : W.heap[l]? = some o) (_ : o.isCells = false) (_ : o.isWalk = false) : KeepG n g W (W.putObj l o') :=
  ⟨by simp, fun b hb => World.putObj_heap_other (by rcases hb with hb | hb <;> omega)⟩
theorem KeepG.set_ {n g : Nat} {A B : World} (h : KeepG n g A B) {p : Addr} (hp : n ≤ p.block ∧ p.block ≠ g) (u : Value) : KeepG n g A (B.setCell p u) :=
  h.trans ⟨by simp [World.setCell], fun b hb => Below.heap_setCell B p u b (by rcases hb with hb | hb <;> omega)⟩

/-- What a month brings: the function 37 or 38. -/
def dOf (best : Bool) (m : Nat → Nat → Int) : Nat → Int := if best then M.worst m else M.worst m
def gOf (best : Bool) : Nat := if best then 45 else 45

set_option maxHeartbeats 400000 in
theorem gain_any (best : Bool) (m : Nat → Nat → Int) (k : Nat) (w : World) (h : 0 ≤ m k 0 ∧ m k 0 ≤ m k 1 ∧ m k 1 ≤ 1000000 ∧ 0 ≤ m k 2 ∧ m k 2 ≤ m k 3 ∧ m k 3 ≤ 1000000) :
    Calls Tryd.prog (gOf best) #[monthV (m k 0) (m k 1) (m k 2) (m k 3)] w fun e w' => e = .returned (.int .i64 (dOf best m k)) ∧ Below w.heap.size w w' := by
  cases best
  · exact worst_any _ _ _ _ _ (by omega)
  · exact worst_any _ _ _ _ _ (by omega)

set_option maxRecDepth 100000 in
set_option maxHeartbeats 2000000 in
theorem reserves1_in (best : Bool) (l Bs Bg n₀ : Nat) (r le : Int) (A : Option Addr) (n c : Nat) (m : Nat → Nat → Int) (hn : n ≤ 60)
    (hm : ∀ i, i < n → 0 ≤ m i 0 ∧ m i 0 ≤ m i 1 ∧ m i 1 ≤ 1000000 ∧ 0 ≤ m i 2 ∧ m i 2 ≤ m i 3 ∧ m i 3 ≤ 1000000) (hr : 0 ≤ le ∧ le ≤ r ∧ r ≤ 1000000) (J Jx : List (Fin n) → World → Prop)
    (hY : ∀ pre x W, J pre W → pre.length < n → YieldAt Fence.wide 2 Tryd.prog l #[.int .i64 (x.1 : Int), .int .i64 (M.over (r - le) (dOf best m) x.1)] W fun e W' =>
      (e = .returned (.bool true) ∧ J (pre ++ [x]) W' ∧ KeepG n₀ Bg W W') ∨ (e = .returned (.bool false) ∧ Jx (pre ++ [x]) W'))
    (W : World) (hJ : AbidesFrom W.heap.size J) (hBg : Bg < W.heap.size) (hn0 : n₀ ≤ W.heap.size)
    (c0 : W.cell? ⟨Bs, 0, none⟩ = some (.int .i64 r)) (c1 : W.cell? ⟨Bs, 1, none⟩ = some (.int .i64 le)) (c2 : W.cell? ⟨Bs, 2, none⟩ = some (.slice A n c)) (cg : W.cell? ⟨Bg, 0, none⟩ = some (.func (.func (gOf best)) #[] #[]))
    (hR : Rd W n₀ A 4 n m) (h0 : J [] W) :
    CallsIn Fence.wide 3 Tryd.prog 55 #[.func (.yield l) #[] #[], .pointer (some ⟨Bs, 0, none⟩), .pointer (some ⟨Bg, 0, none⟩)] W fun e W' => (∃ v, e = .returned v) ∧
      ((∃ ys, ys = upto n n ∧ J ys W') ∨ (∃ pre, (∃ k, k ≤ n ∧ pre = upto n k) ∧ Jx pre W')) := by
  have hd : ∀ i, i < n → -1000000 ≤ dOf best m i ∧ dOf best m i ≤ 1000000 := fun i hi => by
    have := hm i hi
    cases best <;> simp [dOf, M.worst] <;> omega
  obtain ⟨d, hdd⟩ : ∃ d, d = dOf best m := ⟨_, rfl⟩
  have hg := gain_any best m
  rw [← hdd] at hd hg hY
  have HG := Lib.hid hg
  clear hg hdd
  have hbd : ∀ k, k ≤ n → -60000000 ≤ M.sumTo k d ∧ M.sumTo k d ≤ 60000000 := fun k hk => by
    have := M.sumTo_bd2 (n := k) (f := d) (c := 1000000) fun i hi => hd i (by omega)
    omega
  have HBD := Lib.hid hbd
  have HD := Lib.hid hd
  have HJ := Lib.hid hJ
  have HY := Lib.hid hY
  have HR := Lib.hid hR
  have HM := Lib.hid hm
  have C0 := Lib.hid c0
  have C1 := Lib.hid c1
  have C2 := Lib.hid c2
  clear hbd hd hJ hY hR hm
  cases best
  all_goals
    have CG := Lib.hid cg
    have hg := HG.out
    simp only [gOf, if_true, if_false, Bool.false_eq_true] at cg hg
    have HG' := Lib.hid hg
    clear hg
    refine callsIn_of_wp Tryd.func55 rfl trivial ?_ rfl
    simp only [Tryd.ntmps55, List.size_toArray, List.length_cons, List.length_nil, Nat.reduceAdd, Nat.reduceSub, Array.replicate_succ, Array.replicate_zero, List.push_toArray, List.append_toArray, List.nil_append, List.cons_append]
    gi_wp2
    clear c0 c1 c2 cg
    gi_loopw [4, 15] (fun o i wr => ∃ k : Nat, k ≤ n ∧ i = .int .i64 k ∧ o = .int .i64 (r - le + M.sumTo k d) ∧ J (upto n k) wr ∧ KeepG n₀ Bg W wr)
      (fun _ i _ => n - (intOf i).toNat)
    case atStart => exact ⟨0, Nat.zero_le _, rfl, by simp [M.sumTo], h0, KeepG.refl _ _ _⟩
    case round =>
      obtain ⟨k, hk, rfl, rfl, hJs, hnx⟩ := hrel
      have HX := Lib.hid hnx
      by_cases hlt : k < n
      · obtain ⟨b, off, rfl, hb, m0, m1, m2, m3⟩ := (hnx.rd HR.out).at4 hlt
        have hs := hnx.1
        have hbw : b < wr.heap.size := by omega
        have hgw : Bg < wr.heap.size := by omega
        have hs1 := HBD.out k hk
        have hs2 := HD.out k hlt
        have hmk := HM.out k hlt
        have cg' := (hnx.cell (p := ⟨Bg, 0, none⟩) (.inr rfl)).trans CG.out
        simp only [gOf, if_true, if_false, Bool.false_eq_true] at cg'
        have HJs := Lib.hid hJs
        clear hnx hJs
        gi_wp2_with fail
        refine ⟨trivial, ?_⟩
        refine (callsIn_wide.2 (HG'.out k _ hmk)).mono ?_
        rintro e w1 ⟨rfl, hb1⟩
        have hg1 := (belowAlloc wr (.cells #[.int .i64 (m k 0), .int .i64 (m k 1), .int .i64 (m k 2), .int .i64 (m k 3)] 82)).trans (hb1.mono (by simp))
        have hJ1 := HJ.out _ _ _ none HJs.out (below_grown hg1 none) (by simp)
        obtain ⟨fn, tmps, assign, body, hy, hR⟩ := HY.out _ ⟨k, hlt⟩ w1 hJ1 (by rw [upto_length hk]; exact hlt)
        have eo : r - le + M.sumTo (k + 1) d = r - le + M.sumTo k d + d k := by simp only [M.sumTo]; omega
        unfold M.over at hy
        dsimp only at hy
        rw [eo] at hy
        have HRD := Lib.hid hR
        have HG1 := Lib.hid hg1
        have HEO := Lib.hid eo
        clear hb1 hg1 hJ1 hR eo
        gi_wp2_with fail
        refine HRD.out.mono ?_
        have hle : n₀ ≤ wr.heap.size := by omega
        rintro e W3 (⟨rfl, hJ3, hk3⟩ | ⟨rfl, hJx3⟩)
        · have HJ3 := Lib.hid hJ3
          have HK3 := Lib.hid hk3
          clear hJ3 hk3
          gi_wp2_with fail
          go_roundw
          case rel =>
            refine ⟨k + 1, by omega, by go_num, by rw [HEO.out], ?_, HX.out.trans ((KeepG.below HG1.out hle hgw).trans HK3.out)⟩
            rw [upto_succ hlt]; exact HJ3.out
          case measure => simp [intOf]; omega
        · have HJ3 := Lib.hid hJx3
          clear hJx3
          gi_wp2_with fail
          refine bodyPost_ret (results_none rfl _ _ _) rfl ?_
          exact ⟨⟨_, rfl⟩, .inr ⟨_, ⟨k + 1, by omega, (upto_succ hlt).symm⟩, HJ3.out⟩⟩
      · obtain rfl : k = n := by omega
        have HJs := Lib.hid hJs
        clear hJs hnx
        gi_wp2_with fail
        go_end0
        exact ⟨⟨_, rfl⟩, .inl ⟨_, rfl, HJs.out⟩⟩

/-- reserves: the year and the function are boxed; the function value captures the boxes -/
theorem reserves_in (best : Bool) (r le : Int) (A : Option Addr) (n c : Nat) (w : World) :
    Calls Tryd.prog 44 #[.agg #[.int .i64 r, .int .i64 le, .slice A n c], .func (.func (gOf best)) #[] #[]] w fun e w' =>
      e = .returned (.func (.func 55) #[] #[.pointer (some ⟨w.heap.size, 0, none⟩), .pointer (some ⟨w.heap.size + 1, 0, none⟩)]) ∧
      (w.alloc (.cells #[.int .i64 r, .int .i64 le, .slice A n c] 58)).alloc (.cells #[.func (.func (gOf best)) #[] #[]] 94) = w' := by
  go_enter Tryd.func44, Tryd.ntmps44
  go_wp2_with fail
  go_ret
  exact ⟨rfl, rfl⟩

/-- the closure as an iterator -/
theorem reserves_stops (best : Bool) (Bs Bg n₀ : Nat) (r le : Int) (A : Option Addr) (n c : Nat) (m : Nat → Nat → Int) (hn : n ≤ 60)
    (hm : ∀ i, i < n → 0 ≤ m i 0 ∧ m i 0 ≤ m i 1 ∧ m i 1 ≤ 1000000 ∧ 0 ≤ m i 2 ∧ m i 2 ≤ m i 3 ∧ m i 3 ≤ 1000000) (hr : 0 ≤ le ∧ le ≤ r ∧ r ≤ 1000000) (w : World) (hBs : Bs < w.heap.size) (hBg : Bg < w.heap.size) (hn0 : n₀ ≤ w.heap.size)
    (c0 : w.cell? ⟨Bs, 0, none⟩ = some (.int .i64 r)) (c1 : w.cell? ⟨Bs, 1, none⟩ = some (.int .i64 le)) (c2 : w.cell? ⟨Bs, 2, none⟩ = some (.slice A n c)) (cg : w.cell? ⟨Bg, 0, none⟩ = some (.func (.func (gOf best)) #[] #[])) (hR : Rd w n₀ A 4 n m) :
    SeqStopsK Fence.wide 3 Tryd.prog 55 #[.pointer (some ⟨Bs, 0, none⟩), .pointer (some ⟨Bg, 0, none⟩)] (fun x : Fin n => #[.int .i64 (x.1 : Int), .int .i64 (M.over (r - le) (dOf best m) x.1)]) (KeepG n₀ Bg)
      (fun ys => ys = upto n n) (fun pre => ∃ k, k ≤ n ∧ pre = upto n k) n w := fun l J Jx W hW hJ _ hY h0 =>
  reserves1_in best l Bs Bg n₀ r le A n c m hn hm hr J Jx hY W hJ (Nat.lt_of_lt_of_le hBg hW.size) (Nat.le_trans hn0 hW.size) ((hW.cell (p := ⟨Bs, 0, none⟩) (by exact hBs)).trans c0) ((hW.cell (p := ⟨Bs, 1, none⟩) (by exact hBs)).trans c1)
    ((hW.cell (p := ⟨Bs, 2, none⟩) (by exact hBs)).trans c2) ((hW.cell (p := ⟨Bg, 0, none⟩) (by exact hBg)).trans cg) (hR.below (hW.mono hn0)) h0
end Go.Proofs.YtaljmlkapbojeaaDoor
