/- GiftsLasts, walked. -/
import Derived.Test.YtaljmlkapbojeaaY7
import Derived.Test.YtaljmlkapbojeaaY8
import Derived.Test.YtaljmlkapbojeaaW2
namespace Go.Proofs.Ytaljmlkapbojeaa
open Go.RowKit

def l0 (ok : Bool) (x : Int) : Int := if ok then x else 0
def lE (ok : Bool) : Int := if ok then 0 else 111
def lastW (r le : Int) (n : Nat) (m : Nat → Nat → Int) : Int := (M.lastTo (M.over (r - le) (M.worst m)) n : Nat)
def lastB (r le : Int) (n : Nat) (m : Nat → Nat → Int) : Int := (M.lastTo (M.over (r - le) (M.best m)) n : Nat)
def onceV (r le : Int) (n : Nat) (m : Nat → Nat → Int) : Int := M.onceTo (M.over (r - le) (M.worst m)) n
def monV (r le : Int) (n : Nat) (m : Nat → Nat → Int) : Int := M.monTo (M.over (r - le) (M.worst m)) n
section
variable (r le : Int) (A : Option Addr) (n c B : Nat) (m : Nat → Nat → Int) (w : World) (hn : n ≤ maxLen) (hR : Rd w B A 4 n m) (hB : B ≤ w.heap.size)
include hn hR hB
theorem glasts_any : Calls Try.prog 15 #[.agg #[.int .i64 r, .int .i64 le, .slice A n c]] w fun e w' => e = .returned (.tuple #[.int .i64 (l0 (M.okY r le n m) (lastW r le n m)), .int .i64 (l0 (M.okY r le n m) (lastB r le n m)), .int .i64 (lE (M.okY r le n m))]) ∧ Below w.heap.size w w' := by
  cases h : M.okY r le n m
  · exact glasts_bad r le A n c B m w hn hR hB h
  · exact glasts_ok r le A n c B m w hR hB h
theorem rlasts_any : Calls Try.prog 16 #[.agg #[.int .i64 r, .int .i64 le, .slice A n c]] w fun e w' => e = .returned (.tuple #[.int .i64 (l0 (M.okY r le n m) (lastW r le n m)), .int .i64 (l0 (M.okY r le n m) (lastB r le n m)), .int .i64 (lE (M.okY r le n m))]) ∧ Below w.heap.size w w' := by
  cases h : M.okY r le n m
  · exact rlasts_bad r le A n c B m w hn hR hB h
  · exact rlasts_ok r le A n c B m w hR hB h
theorem gappeal_any : Calls Try.prog 17 #[.agg #[.int .i64 r, .int .i64 le, .slice A n c]] w fun e w' => e = .returned (.tuple #[.int .i64 (l0 (M.okY r le n m) (onceV r le n m)), .int .i64 (l0 (M.okY r le n m) (monV r le n m)), .int .i64 (lE (M.okY r le n m))]) ∧ Below w.heap.size w w' := by
  cases h : M.okY r le n m
  · exact appeal_bad r le A n c B m w hn hR hB h
  · exact appeal_ok r le A n c B m w hR hB h
theorem rappeal_any : Calls Try.prog 18 #[.agg #[.int .i64 r, .int .i64 le, .slice A n c]] w fun e w' => e = .returned (.tuple #[.int .i64 (l0 (M.okY r le n m) (onceV r le n m)), .int .i64 (l0 (M.okY r le n m) (monV r le n m)), .int .i64 (lE (M.okY r le n m))]) ∧ Below w.heap.size w w' := by
  cases h : M.okY r le n m
  · exact rappeal_bad r le A n c B m w hn hR hB h
  · exact rappeal_ok r le A n c B m w hR hB h
end

section
variable {P : Program} {ops : Array Oper} {rest : List Oper} {o : Oper} {a : Act} {Q : Exit → Act → World → Prop}
/-- append of a whole slice to an empty one, in a plain region -/
theorem wpList_copy {W : World} (hgd : o.guard = none) (s x : Operand) (t : TypeId) (ho : o.op = .call { callee := .builtin .append, args := #[s, x], argTypes := #[t, t] })
    (e : TypeId) (i : TypeInfo) (z : Value) (m bytes : Nat) (ht : P.underlying t = some (.slice e)) (hi : P.info? e = some i) (hz : i.zero = some z)
    (hsize : i.size = m) (hby : i.bytes = bytes) (hzs : z.cells.size = m) (hsz : 0 < m) (hbm : bytes ≤ 4096)
    {g : Nat} (hs : a.eval s = .slice (some ⟨g, 0, none⟩) 0 0) (hblk : Blk W g e #[]) {A : Option Addr} {n c B : Nat} {F : Nat → Nat → Int} (hx : a.eval x = .slice A n c) (hR : Rd W B A m n F) (hn : n ≤ 1048576)
    (h : ∀ A' c' w', Own w' g e m (.slice A' n c') n (ints2 F) → Below W.heap.size W w' → wpList P ops Q rest (a.put o.dst (.slice A' n c')) w') : wpList P ops Q (o :: rest) a W := by
  refine wpList_plain hgd fun K hK => ?_
  obtain ⟨v', w', hr, h2, h3⟩ := run_copy (P := P) W t o.type e i z m bytes ht hi hz hsize hby hzs hsz hbm hblk (c := c) hR hn
  unfold Oper.wp execOp
  simp only [ho, resolve, invoke, builtin, Sem.run_bind, Sem.run_pure, Result.andThen_ok, List.map_toArray, List.map_cons, List.map_nil, hs, hx, hr]
  obtain ⟨A', c', rfl⟩ := h2.form
  exact hK _ _ (h A' c' w' h2 h3)
end

set_option maxRecDepth 100000 in
set_option maxHeartbeats 6400000 in
theorem giftsLasts_any (r le : Int) (A : Option Addr) (n c B : Nat) (m : Nat → Nat → Int) (w : World) (hn : n ≤ maxLen) (hR : Rd w B A 4 n m) (hB : B ≤ w.heap.size) :
    Calls Try.prog 4 #[.agg #[.int .i64 r, .int .i64 le, .slice A n c]] w fun e w' => e = .returned (.bool true) ∧ Below w.heap.size w w' := by
  unfold maxLen at hn
  by_cases h : 62 < n
  · go_enter Try.func4, Try.ntmps4
    go_wp2_with (go_at_call 12; refine (works_any _).mono ?_; rintro e w9 ⟨rfl, hb9⟩; have HB9 := Lib.hid hb9; clear hb9)
    go_ret
    exact ⟨rfl, (belowAlloc _ _).trans (HB9.out.mono (by simp))⟩
  · obtain ⟨gi, hi, hz0, hz1, hz2⟩ := info_parts month_info
    have MI := Lib.hid (And.intro hi (And.intro hz0 (And.intro hz1 hz2)))
    clear hi hz0 hz1 hz2
    go_enter Try.func4, Try.ntmps4
    go_wp2_with (at_builtin; refine wpList_copy rfl (.tmp 22) (.tmp 24) 41 rfl 78 gi _ 4 32 Try.underlying41 MI.out.1 MI.out.2.1 MI.out.2.2.1 MI.out.2.2.2 rfl (by omega) (by omega) rfl (by exact Blk.new2 _ _ _ _ _) rfl (by exact hR.below (((belowAlloc2 _ _ _).alloc (by simp; omega) _).mono hB)) (by omega) ?_; intro A1 c1 w1 ho1 hb1; obtain ⟨hc1, hf1⟩ := bcell hb1; have HO1 := Lib.hid ho1; have HB1 := Lib.hid hb1; clear ho1 hb1)
    have kS := (((Blk.new w 43 #[.int .i64 r, .int .i64 le, .slice A n c]).alloc (.cells #[.int .i64 r, .int .i64 le, .slice A n c] 43)).alloc (.cells #[] 78)).below HB1.out (by simp; omega) |>.far (p := ⟨w.heap.size + 1, 2, none⟩) (by simp) (.slice A1 n c1)
    have kZ := ((Blk.new1 w (.cells #[.int .i64 r, .int .i64 le, .slice A n c] 43) 43 #[.int .i64 r, .int .i64 le, .slice A n c]).alloc (.cells #[] 78)).below HB1.out (by simp) |>.set_ 2 (.slice A1 n c1)
    have oX := HO1.out.setCell (p := ⟨w.heap.size + 1, 2, none⟩) (Ne.symm (HO1.out.ne_ (by simp))) (.slice A1 n c1)
    have bX := (((belowAlloc2 _ _ _).alloc (by simp; omega) _).trans (HB1.out.mono (by simp; omega))).setCell (p := ⟨w.heap.size + 1, 2, none⟩) (by simp) (.slice A1 n c1)
    clear HO1 HB1 hc1 hf1
    generalize w1.setCell ⟨w.heap.size + 1, 2, none⟩ (.slice A1 n c1) = X at *
    have KS := Lib.hid kS
    have KZ := Lib.hid kZ
    have HRX := Lib.hid (hR.below (bX.mono hB))
    obtain ⟨A1', c1', e1, hrz⟩ := oX.rd
    injection e1 with e1 _ _
    subst e1
    have HRZ := Lib.hid hrz
    have hBX : B ≤ X.heap.size := Nat.le_trans hB bX.size
    have HB0 := Lib.hid (Below.refl X.heap.size X)
    have HBX := Lib.hid bX
    clear kS kZ oX hrz bX hR
    refine (glasts_any r le A1 n _ X.heap.size m _ (by unfold maxLen; omega) (by exact HRZ.out.below (HB0.out.mono (Nat.le_refl _))) (by have := HB0.out.size; omega)).mono ?_
    rintro e wa ⟨rfl, hb1⟩
    have HB1 := Lib.hid (HB0.out.trans (hb1.mono HB0.out.size))
    have kS := KS.out.below HB1.out KS.out.lt
    have kZ := KZ.out.below HB1.out KZ.out.lt
    have s0 := kS.cell 0
    have s1 := kS.cell 1
    have s2 := kS.cell 2
    have z0 := kZ.cell 0
    have z1 := kZ.cell 1
    have z2 := kZ.cell 2
    clear hb1 kS kZ
    go_wp2_with fail
    clear s0 s1 s2 z0 z1 z2
    refine (rlasts_any r le A n _ B m _ (by unfold maxLen; omega) (by exact HRX.out.below (HB1.out.mono hBX)) (by have := HB1.out.size; omega)).mono ?_
    rintro e wb ⟨rfl, hb2⟩
    have HB2 := Lib.hid (HB1.out.trans (hb2.mono HB1.out.size))
    have kS := KS.out.below HB2.out KS.out.lt
    have kZ := KZ.out.below HB2.out KZ.out.lt
    have s0 := kS.cell 0
    have s1 := kS.cell 1
    have s2 := kS.cell 2
    have z0 := kZ.cell 0
    have z1 := kZ.cell 1
    have z2 := kZ.cell 2
    clear hb2 kS kZ
    go_wp2_with fail
    clear s0 s1 s2 z0 z1 z2
    refine (gappeal_any r le A1 n _ X.heap.size m _ (by unfold maxLen; omega) (by exact HRZ.out.below (HB2.out.mono (Nat.le_refl _))) (by have := HB2.out.size; omega)).mono ?_
    rintro e wc ⟨rfl, hb3⟩
    have HB3 := Lib.hid (HB2.out.trans (hb3.mono HB2.out.size))
    have kS := KS.out.below HB3.out KS.out.lt
    have kZ := KZ.out.below HB3.out KZ.out.lt
    have s0 := kS.cell 0
    have s1 := kS.cell 1
    have s2 := kS.cell 2
    have z0 := kZ.cell 0
    have z1 := kZ.cell 1
    have z2 := kZ.cell 2
    clear hb3 kS kZ
    go_wp2_with fail
    clear s0 s1 s2 z0 z1 z2
    refine (rappeal_any r le A n _ B m _ (by unfold maxLen; omega) (by exact HRX.out.below (HB3.out.mono hBX)) (by have := HB3.out.size; omega)).mono ?_
    rintro e wd ⟨rfl, hb4⟩
    have HB4 := Lib.hid (HB3.out.trans (hb4.mono HB3.out.size))
    clear hb4
    go_wp2_with (go_at_call 12; refine (works_any _).mono ?_; rintro e w9 ⟨rfl, hb9⟩; have HB9 := Lib.hid hb9; clear hb9)
    go_ret
    exact ⟨rfl, (HBX.out.trans (HB4.out.mono HBX.out.size)).trans (HB9.out.mono (Nat.le_trans HBX.out.size HB4.out.size))⟩
end Go.Proofs.Ytaljmlkapbojeaa
