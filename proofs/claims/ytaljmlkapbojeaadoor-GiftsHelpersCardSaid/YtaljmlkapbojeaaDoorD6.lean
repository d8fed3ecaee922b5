/- GiftsShops, walked. -/
import Derived.Test.YtaljmlkapbojeaaDoorD5
import Derived.Test.YtaljmlkapbojeaaDoorW2
namespace Go.Proofs.YtaljmlkapbojeaaDoor
open Go.RowKit

theorem shop_info : (Tryd.prog.info? 54).map (fun i => (i.zero, i.size, i.bytes)) = some (some (.agg #[.int .i64 0, .int .i64 0, .int .i64 0]), 3, 24) := by kernel_rfl
/-- the shops that are opened, and what they bring -/
def shL (n : Nat) (st : Int) (S : Nat → Nat → Int) : List Nat := if M.chkS n st S = 0 then M.elL n (M.shTo n S st (2 ^ n)).1 else []
def shN (n : Nat) (st : Int) (S : Nat → Nat → Int) : Int := if M.chkS n st S = 0 then (M.shTo n S st (2 ^ n)).2 else 0
theorem ShopsV.form {n : Nat} {st : Int} {S : Nat → Nat → Int} {e : Ending} {w : World} (h : ShopsV n st S e w) : ∃ A c, e = .returned (.tuple #[.slice A (shL n st S).length c, .int .i64 (shN n st S), .int .i64 (M.chkS n st S)]) ∧ Rd1 w w.heap.size A (shL n st S).length (nats (shL n st S)) := by
  rcases h with ⟨h0, rfl⟩ | ⟨h0, A, c, rfl, hr⟩
  · refine ⟨none, 0, ?_, ?_⟩
    · unfold shL shN; rw [if_neg h0, if_neg h0]; rfl
    · unfold shL; rw [if_neg h0]; exact .inl rfl
  · refine ⟨A, c, ?_, ?_⟩
    · unfold shL shN; rw [if_pos h0, if_pos h0, h0]
    · unfold shL; rw [if_pos h0]; exact hr
theorem shL_len (n : Nat) (st : Int) (S : Nat → Nat → Int) : (shL n st S).length ≤ n := by
  unfold shL; split
  · exact M.elL_len _ _
  · simp
theorem Own.rdS {w : World} {b t m n n' c : Nat} {A : Option Addr} {f : Nat → Nat → Int} (h : Own w b t m (.slice A n' c) n (ints2 f)) : Rd w w.heap.size A m n f := by
  obtain ⟨A', c', e, h⟩ := h.rd
  injection e with e1 e2 e3
  subst e1
  exact h
theorem sameF_self (n : Nat) (f : Nat → Int) : sameF n n f f = true := by simp [sameF, M.allTo_iff]
section
variable {P : Program} {ops : Array Oper} {rest : List Oper} {o : Oper} {a : Act} {Q : Exit → Act → World → Prop}
/-- append of a whole slice to an empty one, in a plain region -/
theorem wpList_copyS {W : World} (hgd : o.guard = none) (s x : Operand) (t : TypeId) (ho : o.op = .call { callee := .builtin .append, args := #[s, x], argTypes := #[t, t] })
    (e : TypeId) (i : TypeInfo) (z : Value) (m bytes : Nat) (ht : P.underlying t = some (.slice e)) (hi : P.info? e = some i) (hz : i.zero = some z)
    (hsize : i.size = m) (hby : i.bytes = bytes) (hzs : z.cells.size = m) (hsz : 0 < m) (hbm : bytes ≤ 4096)
    {g : Nat} (hs : a.eval s = .slice (some ⟨g, 0, none⟩) 0 0) (hblk : Blk W g e #[]) {A : Option Addr} {n c B : Nat} {F : Nat → Nat → Int} (hx : a.eval x = .slice A n c) (hR : Rd W B A m n F) (hn : n ≤ 1048576)
    (h : ∀ A' c' w', Own w' g e m (.slice A' n c') n (ints2 F) → Below W.heap.size W w' → wpList P ops Q rest (a.put o.dst (.slice A' n c')) w') : wpList P ops Q (o :: rest) a W := by
  refine wpList_plain hgd fun K hK => ?_
  obtain ⟨v', w', hr, h2, h3⟩ := run_copy (P := P) W t o.type e i z m bytes ht hi hz hsize hby hzs hsz hbm hblk (c := c) hR hn
  unfold Oper.wp execOp
  simp only [ho, resolve, invoke, builtin, Sem.run_bind, Sem.run_pure, Result.andThen_ok, List.map_toArray, List.map_cons, List.map_nil, hs, hx, hr]
  obtain ⟨A', c', rfl⟩ := h2.form
  exact hK _ _ (h A' c' w' h2 h3)
end
section
variable (A : Option Addr) (n c B : Nat) (st : Int) (S : Nat → Nat → Int) (w : World) (hn : n ≤ maxLen) (hR : Rd w B A 3 n S) (hB : B ≤ w.heap.size)
include hn hR hB
set_option maxRecDepth 100000 in
set_option maxHeartbeats 8000000 in
theorem giftsShops_any (hT : TabAt 1 Lib.deBruijn64tab w) (hG : 1 < w.heap.size) :
    Calls Tryd.prog 5 #[.slice A n c, .int .i64 st] w fun e w' => e = .returned (.bool true) ∧ Below w.heap.size w w' := by
  have HT := Lib.hid hT
  clear hT
  by_cases hw : (8 < n ∧ n ≤ 12) ∨ 14 < n
  · by_cases h1 : 8 < n ∧ n ≤ 12
    · have e0 := decide_eq_true h1.1
      have e1 := decide_eq_true h1.2
      go_enter Tryd.func5, Tryd.ntmps5
      go_wp2_with (go_at_call 8; refine (works_any _).mono ?_; rintro e w9 ⟨rfl, hb9⟩; have HB9 := Lib.hid hb9; clear hb9)
      go_ret
      exact ⟨rfl, HB9.out⟩
    · have h3 : 14 < n := by omega
      have e0 : decide (8 < n) = true := decide_eq_true (by omega)
      have e1 : decide (n ≤ 12) = false := decide_eq_false (by omega)
      have e2 := decide_eq_true h3
      go_enter Tryd.func5, Tryd.ntmps5
      go_wp2_with (go_at_call 8; refine (works_any _).mono ?_; rintro e w9 ⟨rfl, hb9⟩; have HB9 := Lib.hid hb9; clear hb9)
      go_ret
      exact ⟨rfl, HB9.out⟩
  obtain ⟨si, hi, hz0, hz1, hz2⟩ := info_parts shop_info
  have MI := Lib.hid (And.intro hi (And.intro hz0 (And.intro hz1 hz2)))
  clear hi hz0 hz1 hz2
  have hl := shL_len n st S
  obtain ⟨L, hL⟩ : ∃ L, L = shL n st S := ⟨_, rfl⟩
  have hrs := fun W (hb : Below w.heap.size w W) => (rshops_any A n c B st S W hn (hR.below (hb.mono hB)) (Nat.le_trans hB hb.size)).mono fun e W' h => (⟨h.1.form, h.2⟩ : (∃ A c, e = .returned (.tuple #[.slice A (shL n st S).length c, .int .i64 (shN n st S), .int .i64 (M.chkS n st S)]) ∧ Rd1 W' W'.heap.size A (shL n st S).length (nats (shL n st S))) ∧ Below W.heap.size W W')
  have hgs := fun (A1 : Option Addr) c1 W (hr : Rd W W.heap.size A1 3 n S) (hb : Below w.heap.size w W) => (gshops_any A1 n c1 W.heap.size st S W hn hr (Nat.le_refl _) (TabAt.below (g := 1) (tab := Lib.deBruijn64tab) (w := w) HT.out hb hG) (Nat.lt_of_lt_of_le hG hb.size)).mono fun e W' h => (⟨h.1.form, h.2⟩ : (∃ A c, e = .returned (.tuple #[.slice A (shL n st S).length c, .int .i64 (shN n st S), .int .i64 (M.chkS n st S)]) ∧ Rd1 W' W'.heap.size A (shL n st S).length (nats (shL n st S))) ∧ Below W.heap.size W W')
  generalize M.chkS n st S = er at hrs hgs
  generalize shN n st S = net at hrs hgs
  rw [← hL] at hrs hgs hl
  have HRS := Lib.hid hrs
  have HGS := Lib.hid hgs
  clear hrs hgs hL
  go_enter Tryd.func5, Tryd.ntmps5
  go_wp2_with (at_builtin; go_must (refine wpList_copyS rfl (.tmp 26) (.tmp 27) 46 rfl 54 si _ 3 24 Tryd.underlying46 MI.out.1 MI.out.2.1 MI.out.2.2.1 MI.out.2.2.2 rfl (by decide) (by decide) rfl (by exact Blk.new _ _ _) rfl (by exact hR.below ((belowAlloc _ _).mono hB)) (by unfold maxLen at hn; omega) ?_); intro A1 c1 w1 ho1 hb1; have HO1 := Lib.hid ho1.rdS; have HB1 := Lib.hid ((belowAlloc _ _).trans (hb1.mono (by simp))); clear ho1 hb1)
  all_goals
    refine (HGS.out A1 c1 w1 HO1.out HB1.out).mono ?_
    rintro e w2 ⟨⟨X, cx, rfl, hx⟩, hb2⟩
    have HXR := Lib.hid hx
    have HB2 := Lib.hid (HB1.out.trans (hb2.mono HB1.out.size))
    clear hx hb2
    go_wp2_with fail
    refine (HRS.out w2 HB2.out).mono ?_
    rintro e w3 ⟨⟨Y, cy, rfl, hy⟩, hb3⟩
    have HX3 := Lib.hid ((HXR.out.below hb3).more hb3.size)
    have HY3 := Lib.hid hy
    have HB3 := Lib.hid (HB2.out.trans (hb3.mono HB2.out.size))
    clear hy hb3
    go_wp2_with fail
    refine (sameInts_any X Y L.length L.length cx cy w3.heap.size (nats L) (nats L) w3 (by omega) (by omega) HX3.out HY3.out).mono ?_
    rw [sameF_self]
    rintro e w4 ⟨rfl, hb4⟩
    have HB4 := Lib.hid (HB3.out.trans (hb4.mono HB3.out.size))
    clear hb4
    go_wp2_with (go_at_call 8; refine (works_any _).mono ?_; rintro e w9 ⟨rfl, hb9⟩; have HB9 := Lib.hid hb9; clear hb9)
    go_ret
    exact ⟨rfl, HB4.out.trans (HB9.out.mono HB4.out.size)⟩
end
end Go.Proofs.YtaljmlkapbojeaaDoor
