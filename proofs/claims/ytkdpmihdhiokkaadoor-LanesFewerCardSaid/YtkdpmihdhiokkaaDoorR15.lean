/- The reference's copies: of a chart (cobleref01.Copy, coblelaw06.copied), of legs (cobleref06.Copy). -/
import Derived.Test.YtkdpmihdhiokkaaDoorK28
import Derived.Test.YtkdpmihdhiokkaaDoorW
namespace Go.Proofs.YtkdpmihdhiokkaaDoor
open Go.RowKit

theorem spanC_info : (Tryd.prog.info? 52).map (fun i => (i.zero, i.size, i.bytes)) = some (some (.agg #[.int .i64 0, .int .i64 0]), 2, 16) := by kernel_rfl
theorem Rd1.v {w : World} {B n : Nat} {A : Option Addr} {f : Nat → Int} (h : Rd1 w B A n f) : RdV w B A 1 n (ints f) := by
  rcases h with h | ⟨b, off, e, hb, hc⟩
  · exact .inl h
  · refine .inr ⟨b, off, e, hb, fun i j hi hj => ?_⟩
    obtain rfl : j = 0 := by omega
    rw [Nat.mul_one, Nat.add_zero]
    exact hc i hi
/-- legs that a call has made, each with cells that it has made -/
def CL (W : World) (base : Nat) (v : Value) (n : Nat) (L : Nat → M.Leg) : Prop := ∃ V, Own W base 41 5 v n (legV L V) ∧ ∀ i, i < n → Own W base 3 1 (V i) (L i).n (ints (L i).c)
section
variable {W W' : World} {base n : Nat} {v : Value} {L : Nat → M.Leg}
theorem CL.below (h : CL W base v n L) (hb : Below W.heap.size W W') : CL W' base v n L := by
  obtain ⟨V, h1, h2⟩ := h
  exact ⟨V, h1.below hb, fun i hi => (h2 i hi).below hb⟩
theorem CL.nil_ : CL W base (.slice none 0 0) 0 L := ⟨fun _ => .slice none 0 0, Own.nil_, fun i hi => absurd hi (by omega)⟩
theorem CL.form (h : CL W base v n L) : ∃ A c, v = .slice A n c := by
  obtain ⟨V, h1, _⟩ := h
  exact h1.form
theorem CL.less {base' : Nat} (h : CL W base v n L) (hb : base' ≤ base) : CL W base' v n L := by
  obtain ⟨V, h1, h2⟩ := h
  exact ⟨V, h1.less hb, fun i hi => (h2 i hi).less hb⟩
theorem CL.congr {L' : Nat → M.Leg} (h : CL W base v n L) (hL : ∀ i, i < n → L i = L' i) : CL W base v n L' := by
  obtain ⟨V, h1, h2⟩ := h
  refine ⟨V, h1.congr fun i j hi _ => ?_, fun i hi => ?_⟩
  · unfold legV; rw [hL i hi]
  · rw [← hL i hi]; exact h2 i hi
theorem CL.rd {A : Option Addr} {c : Nat} (h : CL W base (.slice A n c) n L) (hl : ∀ i, i < n → (L i).n ≤ maxLen) : RdL W W.heap.size A n L := by
  obtain ⟨V, h1, h2⟩ := h
  have ho : OwnL W W.heap.size base (.slice A n c) n L := ⟨V, h1, fun i hi => ⟨hl i hi, .inr (h2 i hi)⟩⟩
  exact ho.rd (Nat.le_refl _)
/-- behind the append of one more -/
theorem CL.app {v' u : Value} {l : M.Leg} {V : Nat → Value} (h1 : Own W base 41 5 v n (legV L V)) (h2 : ∀ i, i < n → Own W base 3 1 (V i) (L i).n (ints (L i).c)) (hu : Own W base 3 1 u l.n (ints l.c)) (hg : W.grownBy W' v.ownBlock)
    (ho : Own W' base 41 5 v' (n + 1) (upd (legV L V) n (legRow l u))) : CL W' base v' (n + 1) (fun i => if i = n then l else L i) := by
  refine ⟨fun i => if i = n then u else V i, by rw [← legV_upd]; exact ho, fun i hi => ?_⟩
  by_cases e : i = n
  · subst e
    simp only [if_true]
    exact hu.apart_grown (h1.apart_type hu (by decide)) hg
  · simp only [if_neg e]
    have h3 := h2 i (by omega)
    exact h3.apart_grown (h1.apart_type h3 (by decide)) hg
end
/-- a chart's rows that a call has made -/
def OwnC (W : World) (base : Nat) (d t u : Value) (nd nt ns : Nat) (dep : Nat → Int) (tide : Nat → Nat → Int) (sw : Nat → Int) : Prop := Own W base 3 1 d nd (ints dep) ∧ Own W base 52 2 t nt (ints2 tide) ∧ Own W base 3 1 u ns (ints sw)
theorem OwnC.rd {W : World} {base nd nt ns dc tc sc : Nat} {dA tA sA : Option Addr} {dep : Nat → Int} {tide : Nat → Nat → Int} {sw : Nat → Int} (h : OwnC W base (.slice dA nd dc) (.slice tA nt tc) (.slice sA ns sc) nd nt ns dep tide sw) : RdC W W.heap.size dA tA sA nd nt ns dep tide sw :=
  ⟨Own.rd1' h.1, h.2.1.rdI, Own.rd1' h.2.2⟩
theorem OwnC.below {W W' : World} {base nd nt ns : Nat} {d t u : Value} {dep : Nat → Int} {tide : Nat → Nat → Int} {sw : Nat → Int} (h : OwnC W base d t u nd nt ns dep tide sw) (hb : Below W.heap.size W W') : OwnC W' base d t u nd nt ns dep tide sw := ⟨h.1.below hb, h.2.1.below hb, h.2.2.below hb⟩
theorem OwnC.less {W : World} {base base' nd nt ns : Nat} {d t u : Value} {dep : Nat → Int} {tide : Nat → Nat → Int} {sw : Nat → Int} (h : OwnC W base d t u nd nt ns dep tide sw) (hb : base' ≤ base) : OwnC W base' d t u nd nt ns dep tide sw := ⟨h.1.less hb, h.2.1.less hb, h.2.2.less hb⟩
theorem OwnC.set_ {W : World} {base nd nt ns : Nat} {d t u : Value} {dep : Nat → Int} {tide : Nat → Nat → Int} {sw : Nat → Int} (h : OwnC W base d t u nd nt ns dep tide sw) {g : Nat} (hg : g < base) (i : Nat) (x : Value) : OwnC (W.setCell ⟨g, i, none⟩ x) base d t u nd nt ns dep tide sw := by
  refine ⟨h.1.setCell (p := ⟨g, i, none⟩) (fun hh => ?_) x, h.2.1.setCell (p := ⟨g, i, none⟩) (fun hh => ?_) x, h.2.2.setCell (p := ⟨g, i, none⟩) (fun hh => ?_) x⟩
  · have h1 : base ≤ g := (h.1.block hh).1; omega
  · have h1 : base ≤ g := (h.2.1.block hh).1; omega
  · have h1 : base ≤ g := (h.2.2.block hh).1; omega
theorem leg_tmp (W : World) (l : M.Leg) (u : Value) : ∀ j, j < 5 → (W.alloc (.cells #[.int .i64 l.at_, .int .i64 l.lv, .int .i64 l.dr, .bool l.tail, u] 41)).cell? ⟨W.heap.size, j, none⟩ = some (legRow l u j) := by
  intro j hj
  refine ((Blk.new W 41 #[.int .i64 l.at_, .int .i64 l.lv, .int .i64 l.dr, .bool l.tail, u]).cell j).trans ?_
  obtain rfl | rfl | rfl | rfl | rfl : j = 0 ∨ j = 1 ∨ j = 2 ∨ j = 3 ∨ j = 4 := by omega
  all_goals rfl
theorem cstep_own {w X w7 : World} {S k n c e m : Nat} {A : Option Addr} {F : Nat → Nat → Value} {cs zs : Array Value} {o : Obj} (hb : Below S w X) (h1 : Blk X S 25 cs) (h2 : Blk X (S + 1) 25 zs) (h7 : Own w7 X.heap.size e m (.slice A n c) n F) (hb7 : Below (X.alloc o).heap.size (X.alloc o) w7) :
    Below S w (w7.setCell ⟨S, k, none⟩ (.slice A n c)) ∧ Blk (w7.setCell ⟨S, k, none⟩ (.slice A n c)) S 25 (cs.setIfInBounds k (.slice A n c)) ∧ Blk (w7.setCell ⟨S, k, none⟩ (.slice A n c)) (S + 1) 25 zs ∧ Own (w7.setCell ⟨S, k, none⟩ (.slice A n c)) X.heap.size e m (.slice A n c) n F ∧
      ∀ (b t' m' n' : Nat) (v' : Value) (F' : Nat → Nat → Value), S < b → Own X b t' m' v' n' F' → Own (w7.setCell ⟨S, k, none⟩ (.slice A n c)) b t' m' v' n' F' := by
  have hl := h1.lt
  have hl2 := h2.lt
  have hX : Below X.heap.size X w7 := (belowAlloc X o).trans (hb7.mono (by simp))
  have hS : S ≤ X.heap.size := by omega
  refine ⟨(hb.trans (hX.mono hS)).setCell (p := ⟨S, k, none⟩) (Nat.le_refl _) _, (h1.below' hX).set_ k _, (h2.below' hX).far (p := ⟨S, k, none⟩) (by show S + 1 ≠ S; omega) _, h7.setCell (p := ⟨S, k, none⟩) (fun hh => ?_) _, fun b t' m' n' v' F' hsb ho => (ho.below hX).setCell (p := ⟨S, k, none⟩) (fun hh => ?_) _⟩
  · have := (h7.block hh).1; show False; simp at this; omega
  · have := (ho.block hh).1; show False; simp at this; omega
section
variable (dA tA sA : Option Addr) (nd dc nt tc ns sc B : Nat) (W H : Int) (dep : Nat → Int) (tide : Nat → Nat → Int) (sw : Nat → Int) (w : World)
set_option maxRecDepth 100000 in
set_option maxHeartbeats 6400000 in
theorem rccopy_any (hnd : nd ≤ 1048576) (hnt : nt ≤ 1048576) (hns : ns ≤ 1048576) (hR : RdC w B dA tA sA nd nt ns dep tide sw) (hB : B ≤ w.heap.size) :
    Calls Tryd.prog 52 #[.agg #[.int .i64 W, .int .i64 H, .slice dA nd dc, .slice tA nt tc, .slice sA ns sc]] w fun e w' => (∃ dA' dc' tA' tc' sA' sc', e = .returned (.agg #[.int .i64 W, .int .i64 H, .slice dA' nd dc', .slice tA' nt tc', .slice sA' ns sc']) ∧ OwnC w' w.heap.size (.slice dA' nd dc') (.slice tA' nt tc') (.slice sA' ns sc') nd nt ns dep tide sw) ∧ Below w.heap.size w w' := by
  have HB0 := Lib.hid (belowAlloc2 w (.cells #[.int .i64 W, .int .i64 H, .slice dA nd dc, .slice tA nt tc, .slice sA ns sc] 25) (.cells #[.int .i64 0, .int .i64 0, .slice none 0 0, .slice none 0 0, .slice none 0 0] 25))
  have C0 := Lib.hid ((Blk.new w 25 #[.int .i64 W, .int .i64 H, .slice dA nd dc, .slice tA nt tc, .slice sA ns sc]).alloc (.cells #[.int .i64 0, .int .i64 0, .slice none 0 0, .slice none 0 0, .slice none 0 0] 25))
  have R0 := Lib.hid (Blk.new1 w (.cells #[.int .i64 W, .int .i64 H, .slice dA nd dc, .slice tA nt tc, .slice sA ns sc] 25) 25 #[.int .i64 0, .int .i64 0, .slice none 0 0, .slice none 0 0, .slice none 0 0])
  obtain ⟨X, hX⟩ : ∃ X, X = (w.alloc (.cells #[.int .i64 W, .int .i64 H, .slice dA nd dc, .slice tA nt tc, .slice sA ns sc] 25)).alloc (.cells #[.int .i64 0, .int .i64 0, .slice none 0 0, .slice none 0 0, .slice none 0 0] 25) := ⟨_, rfl⟩
  have HXe := Lib.hid hX
  rw [← hX] at HB0 C0 R0
  clear hX
  have HRC := Lib.hid (fun V (hb : Below w.heap.size w V) => hR.below (hb.mono hB))
  have HBB := Lib.hid hB
  obtain ⟨i0, ji, jz0, jz1, jz2⟩ := info_parts int_info
  have MI := Lib.hid (And.intro ji (And.intro jz0 (And.intro jz1 jz2)))
  obtain ⟨j0, ki, kz0, kz1, kz2⟩ := info_parts spanC_info
  have MJ := Lib.hid (And.intro ki (And.intro kz0 (And.intro kz1 kz2)))
  clear ji jz0 jz1 jz2 ki kz0 kz1 kz2 hR hB
  have c2 := C0.out.cell 2
  have f2 := C0.out.frz 2
  go_enter Tryd.func52, Tryd.ntmps52
  go_upto_region 1 with fail
  rw [← HXe.out]
  clear HXe
  obtain ⟨S, hS⟩ : ∃ S, S = w.heap.size := ⟨_, rfl⟩
  have HSe := Lib.hid hS
  rw [← hS] at HB0 C0 R0 c2 f2
  rw [← hS]
  have hSl := C0.out.lt
  have hSr := R0.out.lt
  clear hS
  go_upto_region 2 with (at_builtin; go_must (refine wpList_copy rfl (.tmp 3) (.tmp 5) 22 rfl 3 i0 _ 1 8 Tryd.underlying22 MI.out.1 MI.out.2.1 MI.out.2.2.1 MI.out.2.2.2 rfl (by decide) (by decide) (g := X.heap.size) rfl (Blk.new X 3 #[]) (fun _ _ => rfl) rfl (((HRC.out X (by rw [← HSe.out]; exact HB0.out)).d.v).below ((belowAlloc X _).mono (Nat.le_trans HBB.out (by rw [← HSe.out]; omega)))) hnd ?_); intro A7 z7 w7 o7 hb7; have P1 := Lib.hid (cstep_own (k := 2) HB0.out C0.out R0.out o7 hb7); clear c2 f2; have CC := C0.out.below' ((belowAlloc X _).trans (hb7.mono (by simp))); have c2 := CC.cell 2; have f2 := CC.frz 2; clear CC; clear o7 hb7)
  generalize w7.setCell ⟨S, 2, none⟩ (.slice A7 nd z7) = X1 at P1 ⊢
  clear c2 f2
  have B1 := Lib.hid P1.out.1
  have C1 := Lib.hid (show Blk X1 S 25 #[.int .i64 W, .int .i64 H, .slice A7 nd z7, .slice tA nt tc, .slice sA ns sc] from P1.out.2.1)
  have R1 := Lib.hid P1.out.2.2.1
  have O1 := Lib.hid P1.out.2.2.2.1
  clear P1 HB0 C0 R0
  have hS1 := R1.out.lt
  have hT1 := C1.out.lt
  have c3 := C1.out.cell 3
  have f3 := C1.out.frz 3
  go_upto_region 3 with (at_builtin; go_must (refine wpList_copy rfl (.tmp 8) (.tmp 10) 23 rfl 52 j0 _ 2 16 Tryd.underlying23 MJ.out.1 MJ.out.2.1 MJ.out.2.2.1 MJ.out.2.2.2 rfl (by decide) (by decide) (g := X1.heap.size) rfl (Blk.new X1 52 #[]) (fun _ _ => rfl) rfl (((HRC.out X1 (by rw [← HSe.out]; exact B1.out)).t.v).below ((belowAlloc X1 _).mono (Nat.le_trans HBB.out (by rw [← HSe.out]; omega)))) hnt ?_); intro A8 z8 w8 o8 hb8; have P1 := Lib.hid (cstep_own (k := 3) B1.out C1.out R1.out o8 hb8); clear c3 f3; have CC := C1.out.below' ((belowAlloc X1 _).trans (hb8.mono (by simp))); have c3 := CC.cell 3; have f3 := CC.frz 3; clear CC; clear o8 hb8)
  generalize w8.setCell ⟨S, 3, none⟩ (.slice A8 nt z8) = X2 at P1 ⊢
  clear c3 f3
  have B2 := Lib.hid P1.out.1
  have C2 := Lib.hid (show Blk X2 S 25 #[.int .i64 W, .int .i64 H, .slice A7 nd z7, .slice A8 nt z8, .slice sA ns sc] from P1.out.2.1)
  have R2 := Lib.hid P1.out.2.2.1
  have O2 := Lib.hid P1.out.2.2.2.1
  have O1' := Lib.hid (P1.out.2.2.2.2 _ _ _ _ _ _ (by omega) O1.out)
  clear P1 B1 C1 R1 O1
  have hS2 := R2.out.lt
  have hT2 := C2.out.lt
  have c4 := C2.out.cell 4
  have f4 := C2.out.frz 4
  go_upto_region 4 with (at_builtin; go_must (refine wpList_copy rfl (.tmp 13) (.tmp 15) 22 rfl 3 i0 _ 1 8 Tryd.underlying22 MI.out.1 MI.out.2.1 MI.out.2.2.1 MI.out.2.2.2 rfl (by decide) (by decide) (g := X2.heap.size) rfl (Blk.new X2 3 #[]) (fun _ _ => rfl) rfl (((HRC.out X2 (by rw [← HSe.out]; exact B2.out)).s.v).below ((belowAlloc X2 _).mono (Nat.le_trans HBB.out (by rw [← HSe.out]; omega)))) hns ?_); intro A9 z9 w9 o9 hb9; have P1 := Lib.hid (cstep_own (k := 4) B2.out C2.out R2.out o9 hb9); clear c4 f4; have CC := C2.out.below' ((belowAlloc X2 _).trans (hb9.mono (by simp))); have c4 := CC.cell 4; have f4 := CC.frz 4; clear CC; clear o9 hb9)
  generalize w9.setCell ⟨S, 4, none⟩ (.slice A9 ns z9) = X3 at P1 ⊢
  clear c4 f4
  have B3 := Lib.hid P1.out.1
  have C3 := Lib.hid (show Blk X3 S 25 #[.int .i64 W, .int .i64 H, .slice A7 nd z7, .slice A8 nt z8, .slice A9 ns z9] from P1.out.2.1)
  have R3 := Lib.hid P1.out.2.2.1
  have O3 := Lib.hid P1.out.2.2.2.1
  have O2' := Lib.hid (P1.out.2.2.2.2 _ _ _ _ _ _ (by omega) O2.out)
  have O1 := Lib.hid (P1.out.2.2.2.2 _ _ _ _ _ _ (by omega) O1'.out)
  clear P1 B2 C2 R2 O1' O2
  have Q0 := C3.out.cell 0
  have Q1 := C3.out.cell 1
  have Q2 := C3.out.cell 2
  have Q3 := C3.out.cell 3
  have Q4 := C3.out.cell 4
  have hT3 := C3.out.lt
  have hS3 := R3.out.lt
  have q0 := R3.out.cell 0
  have q1 := R3.out.cell 1
  have q2 := R3.out.cell 2
  have q3 := R3.out.cell 3
  have q4 := R3.out.cell 4
  have r0 := R3.out.frz 0
  have r1 := R3.out.frz 1
  have r2 := R3.out.frz 2
  have r3 := R3.out.frz 3
  have r4 := R3.out.frz 4
  go_wp2_with fail
  have RZ := ((((R3.out.set_ 0 (.int .i64 W)).set_ 1 (.int .i64 H)).set_ 2 (.slice A7 nd z7)).set_ 3 (.slice A8 nt z8)).set_ 4 (.slice A9 ns z9)
  have BZ := ((((B3.out.setCell (p := ⟨S + 1, 0, none⟩) (by simp) (.int .i64 W)).setCell (p := ⟨S + 1, 1, none⟩) (by simp) (.int .i64 H)).setCell (p := ⟨S + 1, 2, none⟩) (by simp) (.slice A7 nd z7)).setCell (p := ⟨S + 1, 3, none⟩) (by simp) (.slice A8 nt z8)).setCell (p := ⟨S + 1, 4, none⟩) (by simp) (.slice A9 ns z9)
  have hX2 : S + 1 < X2.heap.size := hS2
  have hX1 : S + 1 < X1.heap.size := hS1
  have hX0 : S + 1 < X.heap.size := hSr
  have OO := Lib.hid (fun (b t' m' n' : Nat) (v' : Value) (F' : Nat → Nat → Value) (i : Nat) (u : Value) (V : World) (hb : S + 1 < b) (ho : Own V b t' m' v' n' F') => (show Own (V.setCell ⟨S + 1, i, none⟩ u) b t' m' v' n' F' from ho.setCell (p := ⟨S + 1, i, none⟩) (fun hh => by have := (ho.block hh).1; simp at this; omega) u))
  have N1 := OO.out _ _ _ _ _ _ 4 (.slice A9 ns z9) _ hX0 (OO.out _ _ _ _ _ _ 3 (.slice A8 nt z8) _ hX0 (OO.out _ _ _ _ _ _ 2 (.slice A7 nd z7) _ hX0 (OO.out _ _ _ _ _ _ 1 (.int .i64 H) _ hX0 (OO.out _ _ _ _ _ _ 0 (.int .i64 W) _ hX0 O1.out))))
  have N2 := OO.out _ _ _ _ _ _ 4 (.slice A9 ns z9) _ hX1 (OO.out _ _ _ _ _ _ 3 (.slice A8 nt z8) _ hX1 (OO.out _ _ _ _ _ _ 2 (.slice A7 nd z7) _ hX1 (OO.out _ _ _ _ _ _ 1 (.int .i64 H) _ hX1 (OO.out _ _ _ _ _ _ 0 (.int .i64 W) _ hX1 O2'.out))))
  have N3 := OO.out _ _ _ _ _ _ 4 (.slice A9 ns z9) _ hX2 (OO.out _ _ _ _ _ _ 3 (.slice A8 nt z8) _ hX2 (OO.out _ _ _ _ _ _ 2 (.slice A7 nd z7) _ hX2 (OO.out _ _ _ _ _ _ 1 (.int .i64 H) _ hX2 (OO.out _ _ _ _ _ _ 0 (.int .i64 W) _ hX2 O3.out))))
  refine bodyPost_ret (results_cell_row rfl _ _ (S + 1) 25 #[.int .i64 W, .int .i64 H, .slice A7 nd z7, .slice A8 nt z8, .slice A9 ns z9] (0, 0) _ rfl RZ Tryd.underlying25 rfl chart_size) rfl ⟨⟨A7, z7, A8, z8, A9, z9, rfl, (by rw [← HSe.out]; exact ⟨N1.less (by omega), N2.less (by omega), N3.less (by omega)⟩)⟩, (by rw [← HSe.out]; exact BZ)⟩
end
section
variable (dA tA sA : Option Addr) (nd dc nt tc ns sc B : Nat) (W H : Int) (dep : Nat → Int) (tide : Nat → Nat → Int) (sw : Nat → Int) (w : World)
set_option maxRecDepth 100000 in
set_option maxHeartbeats 6400000 in
theorem copied_any (hnd : nd ≤ 1048576) (hnt : nt ≤ 1048576) (hns : ns ≤ 1048576) (hR : RdC w B dA tA sA nd nt ns dep tide sw) (hB : B ≤ w.heap.size) :
    Calls Tryd.prog 24 #[.agg #[.int .i64 W, .int .i64 H, .slice dA nd dc, .slice tA nt tc, .slice sA ns sc]] w fun e w' => (∃ dA' dc' tA' tc' sA' sc', e = .returned (.agg #[.int .i64 W, .int .i64 H, .slice dA' nd dc', .slice tA' nt tc', .slice sA' ns sc']) ∧ OwnC w' w.heap.size (.slice dA' nd dc') (.slice tA' nt tc') (.slice sA' ns sc') nd nt ns dep tide sw) ∧ Below w.heap.size w w' := by
  have HB0 := Lib.hid (belowAlloc2 w (.cells #[.int .i64 W, .int .i64 H, .slice dA nd dc, .slice tA nt tc, .slice sA ns sc] 25) (.cells #[.int .i64 0, .int .i64 0, .slice none 0 0, .slice none 0 0, .slice none 0 0] 25))
  have C0 := Lib.hid ((Blk.new w 25 #[.int .i64 W, .int .i64 H, .slice dA nd dc, .slice tA nt tc, .slice sA ns sc]).alloc (.cells #[.int .i64 0, .int .i64 0, .slice none 0 0, .slice none 0 0, .slice none 0 0] 25))
  have R0 := Lib.hid (Blk.new1 w (.cells #[.int .i64 W, .int .i64 H, .slice dA nd dc, .slice tA nt tc, .slice sA ns sc] 25) 25 #[.int .i64 0, .int .i64 0, .slice none 0 0, .slice none 0 0, .slice none 0 0])
  obtain ⟨X, hX⟩ : ∃ X, X = (w.alloc (.cells #[.int .i64 W, .int .i64 H, .slice dA nd dc, .slice tA nt tc, .slice sA ns sc] 25)).alloc (.cells #[.int .i64 0, .int .i64 0, .slice none 0 0, .slice none 0 0, .slice none 0 0] 25) := ⟨_, rfl⟩
  have HXe := Lib.hid hX
  rw [← hX] at HB0 C0 R0
  clear hX
  have HCC := Lib.hid (rccopy_any dA tA sA nd dc nt tc ns sc B W H dep tide sw X hnd hnt hns (hR.below (HB0.out.mono hB)) (Nat.le_trans hB HB0.out.size))
  clear hR hB
  have c0 := C0.out.cell 0
  have c1 := C0.out.cell 1
  have c2 := C0.out.cell 2
  have c3 := C0.out.cell 3
  have c4 := C0.out.cell 4
  go_enter Tryd.func24, Tryd.ntmps24
  go_upto_region 1 with fail
  rw [← HXe.out]
  clear HXe
  obtain ⟨S, hS⟩ : ∃ S, S = w.heap.size := ⟨_, rfl⟩
  have HSe := Lib.hid hS
  rw [← hS] at HB0 C0 R0 c0 c1 c2 c3 c4
  rw [← hS]
  clear hS
  have hSr := R0.out.lt
  go_wp2_with (go_at_call 52; go_must (refine HCC.out.mono ?_); rintro e w3 ⟨⟨A7, z7, A8, z8, A9, z9, rfl, ho⟩, hb3⟩; have O3 := Lib.hid ho; have B3 := Lib.hid (HB0.out.trans (hb3.mono (show S ≤ X.heap.size by omega))); have R3 := Lib.hid (R0.out.below' hb3); clear ho hb3; have q0 := R3.out.cell 0; have q1 := R3.out.cell 1; have q2 := R3.out.cell 2; have q3 := R3.out.cell 3; have q4 := R3.out.cell 4; have r0 := R3.out.frz 0; have r1 := R3.out.frz 1; have r2 := R3.out.frz 2; have r3 := R3.out.frz 3; have r4 := R3.out.frz 4)
  have RZ := ((((R3.out.set_ 0 (.int .i64 W)).set_ 1 (.int .i64 H)).set_ 2 (.slice A7 nd z7)).set_ 3 (.slice A8 nt z8)).set_ 4 (.slice A9 ns z9)
  have BZ := ((((B3.out.setCell (p := ⟨S + 1, 0, none⟩) (by simp) (.int .i64 W)).setCell (p := ⟨S + 1, 1, none⟩) (by simp) (.int .i64 H)).setCell (p := ⟨S + 1, 2, none⟩) (by simp) (.slice A7 nd z7)).setCell (p := ⟨S + 1, 3, none⟩) (by simp) (.slice A8 nt z8)).setCell (p := ⟨S + 1, 4, none⟩) (by simp) (.slice A9 ns z9)
  have OZ := ((((O3.out.set_ hSr 0 (.int .i64 W)).set_ hSr 1 (.int .i64 H)).set_ hSr 2 (.slice A7 nd z7)).set_ hSr 3 (.slice A8 nt z8)).set_ hSr 4 (.slice A9 ns z9)
  refine bodyPost_ret (results_cell_row rfl _ _ (S + 1) 25 #[.int .i64 W, .int .i64 H, .slice A7 nd z7, .slice A8 nt z8, .slice A9 ns z9] (0, 0) _ rfl RZ Tryd.underlying25 rfl chart_size) rfl ⟨⟨A7, z7, A8, z8, A9, z9, rfl, OZ.less (by rw [← HSe.out]; omega)⟩, by first | exact BZ | (rw [← HSe.out]; exact BZ)⟩
end
section
variable (lA : Option Addr) (ln lc B : Nat) (L : Nat → M.Leg) (w : World)
set_option maxRecDepth 100000 in
set_option maxHeartbeats 6400000 in
theorem rlcopy_any (hL : RdL w B lA ln L) (hB : B ≤ w.heap.size) (hln : ln ≤ 1048576) (hcn : ∀ i, i < ln → (L i).n ≤ 1048576) :
    Calls Tryd.prog 17 #[.slice lA ln lc] w fun e w' => (∃ v, e = .returned v ∧ CL w' w.heap.size v ln L) ∧ Below w.heap.size w w' := by
  have HLR := Lib.hid (fun V (hb : Below w.heap.size w V) => hL.below (hb.mono hB))
  have HBB := Lib.hid hB
  obtain ⟨i0, ji, jz0, jz1, jz2⟩ := info_parts int_info
  have MI := Lib.hid (And.intro ji (And.intro jz0 (And.intro jz1 jz2)))
  obtain ⟨j0, ki, kz0, kz1, kz2⟩ := info_parts leg_info
  have MJ := Lib.hid (And.intro ki (And.intro kz0 (And.intro kz1 kz2)))
  have HCM := Lib.hid hcn
  clear ji jz0 jz1 jz2 ki kz0 kz1 kz2 hB hL hcn
  go_enter Tryd.func17, Tryd.ntmps17
  go_wp2_with fail
  go_loopw [3, 4] (fun v i wr => ∃ k : Nat, k ≤ ln ∧ i = .int .i64 (k : Int) ∧ CL wr w.heap.size v k L ∧ Below w.heap.size w wr) (fun _ i _ => ln - (intOf i).toNat)
  case atStart => exact ⟨0, Nat.zero_le _, rfl, CL.nil_, Below.refl _ _⟩
  case round =>
    obtain ⟨k, hk, rfl, hc, hbw⟩ := hrel
    obtain ⟨V, ho, hcl⟩ := hc
    obtain ⟨oA, oc, rfl⟩ := ho.form
    have HO := Lib.hid ho
    have HCl := Lib.hid hcl
    have HW := Lib.hid hbw
    have hz := hbw.size
    clear ho hcl hbw
    by_cases hlt : k < ln
    · obtain ⟨b, off, rfl, hb, g0, g1, g2, g3, cA, cc, g4, hcr, hcn⟩ := (HLR.out wr HW.out).at_ hlt
      have kx : decide (ln ≤ k) = false := decide_eq_false (by omega)
      have HCR := Lib.hid hcr
      have HCN := Lib.hid (HCM.out k hlt)
      obtain ⟨l, hl⟩ : ∃ l, l = L k := ⟨_, rfl⟩
      have HLK := Lib.hid hl
      rw [← hl] at g0 g1 g2 g3 g4 HCR HCN
      clear hl hcr hcn
      have HA1 := Lib.hid (belowAlloc wr (.cells #[.int .i64 l.at_, .int .i64 l.lv, .int .i64 l.dr, .bool l.tail, .slice cA l.n cc] 41))
      have D1 := Lib.hid (Blk.new wr 41 #[.int .i64 l.at_, .int .i64 l.lv, .int .i64 l.dr, .bool l.tail, .slice cA l.n cc])
      go_upto_region 6 with fail
      clear g0 g1 g2 g3 g4
      obtain ⟨P, hP⟩ : ∃ P, P = wr.heap.size := ⟨_, rfl⟩
      rw [← hP] at D1
      rw [← hP]
      have HPW := Lib.hid hP
      clear hP
      generalize wr.alloc (.cells #[.int .i64 l.at_, .int .i64 l.lv, .int .i64 l.dr, .bool l.tail, .slice cA l.n cc] 41) = X1 at HA1 D1 ⊢
      have HW1 := Lib.hid (HW.out.trans (HA1.out.mono hz))
      have hz1 := HA1.out.size
      have hPl := D1.out.lt
      have d4 := D1.out.cell 4
      go_upto_region 7 with (at_builtin; go_must (refine wpList_copy rfl (.tmp 16) (.tmp 18) 22 rfl 3 i0 _ 1 8 Tryd.underlying22 MI.out.1 MI.out.2.1 MI.out.2.2.1 MI.out.2.2.2 rfl (by decide) (by decide) (g := X1.heap.size) rfl (Blk.new X1 3 #[]) (fun _ _ => rfl) rfl ((((HCR.out.below (HA1.out.mono (Nat.le_trans HBB.out hz))).v).below ((belowAlloc X1 _).mono (Nat.le_trans HBB.out (Nat.le_trans hz hz1))))) HCN.out ?_); intro A7 z7 w7 o7 hb7; have O7 := Lib.hid o7; have HB7 := Lib.hid ((belowAlloc X1 (.cells #[] 3)).trans (hb7.mono (by simp))); have D7 := Lib.hid (D1.out.below' HB7.out); clear o7 hb7 d4; have d4 := D7.out.cell 4; have f4 := D7.out.frz 4)
      clear d4 f4
      have D8 := Lib.hid (show Blk (w7.setCell ⟨P, 4, none⟩ (.slice A7 l.n z7)) P 41 #[.int .i64 l.at_, .int .i64 l.lv, .int .i64 l.dr, .bool l.tail, .slice A7 l.n z7] from D7.out.set_ 4 (.slice A7 l.n z7))
      have HS7 := Lib.hid (fun (b t' m' n' : Nat) (v' : Value) (F' : Nat → Nat → Value) (ho : Own wr b t' m' v' n' F') => (show Own (w7.setCell ⟨P, 4, none⟩ (.slice A7 l.n z7)) b t' m' v' n' F' from ((ho.below HA1.out).below HB7.out).setCell (p := ⟨P, 4, none⟩) (fun hh => by have h1 : P < wr.heap.size := (ho.block hh).2; have := HPW.out; omega) (.slice A7 l.n z7)))
      have O8 := Lib.hid (HS7.out _ _ _ _ _ _ HO.out)
      have C8 := Lib.hid (fun i (hi : i < k) => HS7.out _ _ _ _ _ _ (HCl.out i hi))
      have U8 := Lib.hid ((O7.out.less (show w.heap.size ≤ X1.heap.size from Nat.le_trans hz hz1)).setCell (p := ⟨P, 4, none⟩) (fun hh => by have h1 : X1.heap.size ≤ P := (O7.out.block hh).1; omega) (.slice A7 l.n z7))
      have HW8 := Lib.hid ((HW1.out.trans (HB7.out.mono HW1.out.size)).setCell (p := ⟨P, 4, none⟩) (by show w.heap.size ≤ P; rw [HPW.out]; exact hz) (.slice A7 l.n z7))
      generalize w7.setCell ⟨P, 4, none⟩ (.slice A7 l.n z7) = Y8 at D8 O8 C8 U8 HW8 ⊢
      clear HS7 D7 D1 O7 HB7
      have d0 := D8.out.cell 0
      have d1 := D8.out.cell 1
      have d2 := D8.out.cell 2
      have d3 := D8.out.cell 3
      have d4 := D8.out.cell 4
      have hz8 := HW8.out.size
      go_wp2_with (at_builtin; go_must (refine wpList_app rfl (.tmp 21) (.tmp 23) 26 rfl w.heap.size 41 5 56 Tryd.underlying26 MJ.out.1 MJ.out.2.1 MJ.out.2.2.1 MJ.out.2.2.2 rfl (by decide) (by decide) (O8.out.alloc _) rfl (by omega) (by simp; omega) Y8.heap.size 1 (legRow l (.slice A7 l.n z7)) rfl (leg_tmp Y8 l (.slice A7 l.n z7)) (fun j _ => legRow_one l _ rfl j) ?_); intro v8 w8 o8 hg8 hat8; have HO8 := Lib.hid o8; have HG8 := Lib.hid hg8; clear o8 hg8 hat8)
      go_roundw
      case rel =>
        refine ⟨k + 1, by omega, by go_num, (CL.app (O8.out.alloc _) (fun i hi => (C8.out i hi).alloc _) (l := l) (U8.out.alloc _) HG8.out HO8.out).congr fun i hi => ?_, (HW8.out.alloc hz8 _).grown HG8.out (by simp; omega) (fun g hg => (O8.out.block hg).1)⟩
        by_cases e : i = k
        · subst e; rw [if_pos rfl]; exact HLK.out
        · rw [if_neg e]
      case measure => simp [intOf]; omega
    · obtain rfl : k = ln := by omega
      go_wp2_with fail
      go_ret
      exact ⟨⟨_, rfl, V, HO.out, HCl.out⟩, HW.out⟩
end
end Go.Proofs.YtkdpmihdhiokkaaDoor
