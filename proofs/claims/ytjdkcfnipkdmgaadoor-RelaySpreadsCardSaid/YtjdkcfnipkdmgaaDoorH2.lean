/- RelaySpreads, walked. -/
import Derived.Test.YtjdkcfnipkdmgaaDoorS9
import Derived.Test.YtjdkcfnipkdmgaaDoorC1
import Derived.Test.YtjdkcfnipkdmgaaDoorT11
namespace Go.Proofs.YtjdkcfnipkdmgaaDoor
open Go.RowKit

theorem wpList_copy {P : Program} {ops : Array Oper} {rest : List Oper} {o : Oper} {a : Act} {Q : Exit → Act → World → Prop} {W : World} (hgd : o.guard = none) (s x : Operand) (t : TypeId) (ho : o.op = .call { callee := .builtin .append, args := #[s, x], argTypes := #[t, t] })
    (e : TypeId) (i : TypeInfo) (z : Value) (m bytes : Nat) (ht : P.underlying t = some (.slice e)) (hi : P.info? e = some i) (hz : i.zero = some z)
    (hsize : i.size = m) (hby : i.bytes = bytes) (hzs : z.cells.size = m) (hsz : 0 < m) (hbm : bytes ≤ 4096)
    {g : Nat} (hs : a.eval s = .slice (some ⟨g, 0, none⟩) 0 0) (hblk : Blk W g e #[]) {A : Option Addr} {n c B : Nat} {F : Nat → Nat → Value} (hF : ∀ i j, (F i j).oneCell' = true) (hx : a.eval x = .slice A n c) (hR : RdV W B A m n F) (hn : n ≤ 1048576)
    (h : ∀ A' c' w', Own w' g e m (.slice A' n c') n F → Below W.heap.size W w' → wpList P ops Q rest (a.put o.dst (.slice A' n c')) w') : wpList P ops Q (o :: rest) a W := by
  refine wpList_plain hgd fun K hK => ?_
  obtain ⟨v', w', hr, h2, h3⟩ := run_copy (P := P) W t o.type e i z m bytes ht hi hz hsize hby hzs hsz hbm hblk (c := c) hF hR hn
  unfold Oper.wp execOp
  simp only [ho, resolve, invoke, builtin, Sem.run_bind, Sem.run_pure, Result.andThen_ok, List.map_toArray, List.map_cons, List.map_nil, hs, hx, hr]
  obtain ⟨A', c', rfl⟩ := h2.form
  exact hK _ _ (h A' c' w' h2 h3)
theorem near_of {n : Nat} {f : Nat → ByteArray} (h : farF n f = false) : n ≤ 60 ∧ ∀ i, i < n → (f i).size ≤ 1048576 := by
  unfold farF at h
  simp only [Bool.or_eq_false_iff, decide_eq_false_iff_not] at h
  refine ⟨by omega, fun i hi => ?_⟩
  refine Classical.byContradiction fun hn => ?_
  rw [M.anyTo_iff.2 ⟨i, hi, decide_eq_true (by omega)⟩] at h
  cases h.1
theorem drewN_below {w w' : World} {B : Nat} (h : ∃ m, w' = w.drewN m) : Below B w w' := by
  obtain ⟨m, rfl⟩ := h
  exact (Below.refl _ _).drewN m
section
variable (A : Option Addr) (n c B : Nat) (f : Nat → ByteArray) (w : World) (hn : n ≤ maxLen) (hR : RdS w B A n f) (hB : B ≤ w.heap.size)
include hn hR hB
set_option maxRecDepth 100000 in
set_option maxHeartbeats 3200000 in
theorem relaySpreads_any :
    Calls Tryd.prog 5 #[.slice A n c] w fun en w' => en = .returned (.bool true) ∧ Below w.heap.size w w' := by
  cases h1 : farF n f
  · obtain ⟨h60, hS⟩ := near_of h1
    have H1 := Lib.hid h1
    have HS := Lib.hid hS
    have HR := Lib.hid hR
    obtain ⟨si, hi, hz0, hz1, hz2⟩ := info_parts str_info
    have SI := Lib.hid (And.intro hi (And.intro hz0 (And.intro hz1 hz2)))
    obtain ⟨cn, hcn⟩ : ∃ x, x = capN n f := ⟨_, rfl⟩
    obtain ⟨ce, hce⟩ : ∃ x, x = capE n f := ⟨_, rfl⟩
    have CN := Lib.hid hcn
    have CE := Lib.hid hce
    have e1 : (cn == cn) = true := by simp
    have e2 : (ce == ce) = true := by simp
    clear hi hz0 hz1 hz2 h1 hS hR hcn hce
    go_enter Tryd.func5, Tryd.ntmps5
    go_wp2_with fail
    refine (farwords_any A n c B f _ hn HR.out).mono ?_
    rw [H1.out]
    rintro en w1 ⟨rfl, rfl⟩
    go_wp2_with (first
      | (at_builtin; go_must (refine wpList_copy rfl (.tmp 11) (.tmp 12) 22 rfl 9 si _ 1 16 Tryd.underlying22 SI.out.1 SI.out.2.1 SI.out.2.2.1 SI.out.2.2.2 rfl (by omega) (by omega) rfl (by exact Blk.new _ _ _) (F := strs f) (fun _ _ => rfl) rfl (HR.out.below ((belowAlloc w _).mono hB)).v (by omega) ?_); intro A1 c1 w1 ho1 hb1; have HO1 := Lib.hid ho1.rdS; have HB1 := Lib.hid ((belowAlloc w _).trans (hb1.mono (by simp))); clear ho1 hb1)
      | (go_at_call 25; go_must (refine (pcap_any A1 n c1 w1.heap.size f w1 (by omega) HO1.out.1 (Nat.le_refl _) HS.out HO1.out.2.1 HO1.out.2.2).mono ?_); rw [← CN.out, ← CE.out]; rintro en w2 ⟨rfl, hb2⟩; have HB2 := Lib.hid (HB1.out.trans (hb2.mono HB1.out.size)); clear hb2)
      | (go_at_call 26; go_must (refine (rcap_any A n c B f w2 (by omega) (HR.out.below (HB2.out.mono hB)) HS.out).mono ?_); rw [← CN.out, ← CE.out]; rintro en w3 ⟨rfl, hb3⟩; have HB3 := Lib.hid (HB2.out.trans (drewN_below hb3)); clear hb3)
      | (go_at_call 15; refine (works_any _).mono ?_; rintro en w9 ⟨rfl, hb9⟩; have HB9 := Lib.hid hb9; clear hb9))
    go_ret
    exact ⟨rfl, HB3.out.trans (HB9.out.mono HB3.out.size)⟩
  · have H1 := Lib.hid h1
    clear h1
    go_enter Tryd.func5, Tryd.ntmps5
    go_wp2_with (first
      | (go_at_call 14; refine (farwords_any _ _ _ B f _ hn hR).mono ?_; rw [H1.out]; rintro en w1 ⟨rfl, rfl⟩)
      | (go_at_call 15; refine (works_any _).mono ?_; rintro en w9 ⟨rfl, hb9⟩; have HB9 := Lib.hid hb9; clear hb9))
    go_ret
    exact ⟨rfl, HB9.out⟩
end
end Go.Proofs.YtjdkcfnipkdmgaaDoor
