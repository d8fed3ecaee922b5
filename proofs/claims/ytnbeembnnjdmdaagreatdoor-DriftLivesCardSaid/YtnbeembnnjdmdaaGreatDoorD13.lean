/- drift: step, wherever it is; Check and Step. -/
import Derived.Test.YtnbeembnnjdmdaaGreatDoorD10
import Derived.Test.YtnbeembnnjdmdaaGreatDoorD11
import Derived.Lib.SliceRun
namespace Go.Proofs.YtnbeembnnjdmdaaGreatDoor
open Go.RowKit Go.Maps

theorem some_nil_i (W : World) (a : Addr) (l c : Nat) : (binOp .eql 22 (.slice (some a) l c) (.slice none 0 0)).run Tryz.prog W = .ok (.bool false) W := Lib.run_eql_slice_nil W _ _ (some a) l c 0 0 Tryz.underlying22
theorem Rd1.v {w : World} {B n : Nat} {A : Option Addr} {f : Nat → Int} (h : Rd1 w B A n f) : RdV w B A 1 n (ints f) := by
 rcases h with h | ⟨b, off, e, hb, hc⟩
 · exact .inl h
 ·
  refine .inr ⟨b, off, e, hb, fun i j hi hj => ?_⟩
  obtain rfl : j = 0 := by omega
  rw [Nat.mul_one, Nat.add_zero]
  exact hc i hi
theorem IL.rd {w : World} {B n c : Nat} {A : Option Addr} {L : List Int} (h : IL w B (.slice A n c) L) : Rd1 w w.heap.size A L.length (fun i => L.getD i 0) := by
 obtain ⟨A', c', e, h2⟩ := Own.rd1 h
 cases e
 exact h2
set_option maxHeartbeats 1600000 in
theorem clone_any (A : Option Addr) (L : List Int) (c B : Nat) (w : World) (hn : L.length ≤ 1048576) (hR : Rd1 w B A L.length (fun i => L.getD i 0)) (hB : B ≤ w.heap.size) :
  Calls Tryz.prog 47 #[.slice A L.length c] w fun e w' => ∃ v', e = .returned v' ∧ IL w' w.heap.size v' L ∧ Below w.heap.size w w' := by
 cases A with
 | none =>
  have h0 : L.length = 0 := by
   rcases hR with h | ⟨_, _, e, _⟩
   · exact h
   · cases e
  obtain rfl := List.length_eq_zero_iff.1 h0
  refine (Tryz.slices_Clone_nil _ c w).mono ?_
  rintro e w' ⟨rfl, rfl⟩
  exact ⟨_, rfl, Own.nil_, Below.refl _ _⟩
 | some a =>
  obtain ⟨si, hi, hz0, hz1, hz2⟩ := info_parts int_info
  have SI := Lib.hid (And.intro hi (And.intro hz0 (And.intro hz1 hz2)))
  have HR := Lib.hid hR.v
  have hs := some_nil_i
  clear hi hz0 hz1 hz2 hR
  go_enter Tryz.func47, Tryz.ntmps47
  go_wp2_with (at_builtin; go_must (refine wpList_copy rfl (.tmp 5) (.tmp 6) 22 rfl 3 si _ 1 8 Tryz.underlying22 SI.out.1 SI.out.2.1 SI.out.2.2.1 SI.out.2.2.2 rfl (by omega) (by omega) rfl (by exact Blk.new _ _ _) (F := ints fun i => L.getD i 0) (fun _ _ => rfl) rfl (HR.out.below ((belowAlloc w _).mono hB)) (by omega) ?_); intro A1 c1 w1 ho1 hb1; have HO1 := Lib.hid ho1; have HB1 := Lib.hid ((belowAlloc w _).trans (hb1.mono (by simp))); clear ho1 hb1)
  go_ret
  exact ⟨.slice A1 L.length c1, rfl, HO1.out, HB1.out⟩
theorem contains_any (A : Option Addr) (L : List Int) (c B : Nat) (x : Int) (w : World) (hn : L.length ≤ 9223372036854775807) (hR : Rd1 w B A L.length (fun i => L.getD i 0)) :
  Calls Tryz.prog 67 #[.slice A L.length c, .int .i64 x] w fun e w' => e = .returned (.bool (L.contains x)) ∧ w' = w := by
 by_cases h0 : L.length = 0
 ·
  obtain rfl := List.length_eq_zero_iff.1 h0
  exact Tryz.slices_Contains_int_empty A c x w
 ·
  obtain ⟨b, off, rfl, hb, hc⟩ := hR.resolve_left h0
  have := Tryz.slices_Contains_int b off L.length c L x w (Nat.le_refl _) hn hc
  rw [List.take_length] at this
  exact this
section
variable {d : M.Dr} {zA cA wA dA tA sA : Option Addr} {cl : Nat → Nat} {B P m1 m2 dc tc sc zc cc wc : Nat} {T : Nat → Prop} {W W' : World}
theorem dstep_any (hd : d.Ok) (hM : SeaM d zA cA wA dA tA sA cl B P m1 m2 #[.int .i64 (d.s.W : Int), .int .i64 (d.s.H : Int), .slice dA d.s.nd dc, .slice tA d.s.nt tc, .slice sA d.s.nt sc, .slice zA d.s.nd zc, .slice cA d.nz cc, .slice wA (d.s.nt - 1) wc, .map (some m1), .map (some m2)] T W) (c : Int) (t l : Nat) (hc : -1 ≤ c ∧ c < d.s.nd) (ht : t + 1 < d.s.nt) (hl : l ≤ 8) :
  Calls Tryz.prog 48 #[.pointer (some ⟨P, 0, none⟩), .agg #[.int .i64 c, .int .i64 (t : Int), .int .i64 (l : Int)]] W (StepR d zA cA wA dA tA sA cl B P m1 m2 dc tc sc zc cc wc T W t l c) := by
 by_cases h : c = -1
 · subst h; exact dstep_out hM t l t
 ·
  obtain ⟨n, rfl⟩ : ∃ n : Nat, c = (n : Int) := ⟨c.toNat, by omega⟩
  exact dstep_in hd hM n t l (by omega) ht hl
end
namespace M
theorem chkD_form {W H : Int} {nd nt ns zn cn wn : Nat} {dep : Nat → Int} {tide : Nat → Nat → Int} {sw z : Nat → Int} {cl : Nat → Nat} {cu : Nat → Nat → Nat → Int} {wd : Nat → Nat → Int} (h : chkD (chkC W H nd nt ns dep tide sw) nd nt zn cn wn z cl cu wd = true) :
  ∃ d : Dr, d.Ok ∧ W = (d.s.W : Int) ∧ H = (d.s.H : Int) ∧ nd = d.s.nd ∧ nt = d.s.nt ∧ ns = d.s.nt ∧ zn = d.s.nd ∧ cn = d.nz ∧ wn = d.s.nt - 1 ∧ dep = d.s.dep ∧ tide = d.s.tide ∧ sw = d.s.sw ∧ z = d.z ∧ cu = d.cu ∧ wd = d.wd ∧ ∀ i, i < d.nz → cl i + 1 = d.s.nt := by
 have h1 : chkC W H nd nt ns dep tide sw = true := by
  unfold chkD at h
  simp only [Bool.and_eq_true] at h
  exact h.1.1.1.1.1
 rw [h1] at h
 obtain ⟨W', H', e1, e2, e3, hs⟩ := chkC_ok h1
 obtain ⟨hd, e4, e5, e6⟩ := chkD_ok hs h
 exact ⟨_, hd, e1, e2, rfl, rfl, e3, e4, rfl, by show wn = nt - 1; have : wn + 1 = nt := e5; omega, rfl, rfl, rfl, rfl, rfl, rfl, e6⟩
theorem Dr.Ok.chk {d : Dr} (hd : d.Ok) {cl : Nat → Nat} (hcl : ∀ i, i < d.nz → cl i + 1 = d.s.nt) : chkD (chkC d.s.W d.s.H d.s.nd d.s.nt d.s.nt d.s.dep d.s.tide d.s.sw) d.s.nd d.s.nt d.s.nd d.nz (d.s.nt - 1) d.z cl d.cu d.wd = true := by
 have h2 := hd.s.t1
 unfold chkD
 rw [hd.s.chk]
 simp only [Bool.and_eq_true, decide_eq_true_eq, allTo_iff, inB_iff, Bool.true_and]
 refine ⟨⟨⟨⟨trivial, hd.z1, hd.z4⟩, fun i hi => ?_⟩, fun i hi => ⟨hcl i hi, fun t ht => hd.cu i hi t (by have := hcl i hi; omega)⟩⟩, ?_, fun t ht => hd.wd t (by omega)⟩
 rotate_left
 · omega
 have := hd.z i hi
 omega
end M
section
variable {d : M.Dr} {zA cA wA dA tA sA : Option Addr} {cl : Nat → Nat} {B dc tc sc zc cc wc : Nat} {w : World}
def own3 (P m1 m2 : Nat) : Nat → Prop := fun k => k = P ∨ k = m1 ∨ k = m2
theorem dopen_ok (hd : d.Ok) (hcl : ∀ i, i < d.nz → cl i + 1 = d.s.nt) (hR : RdD w B dA tA sA zA cA wA d.s.nd d.s.nt d.s.nt d.s.nd d.nz (d.s.nt - 1) d.s.dep d.s.tide d.s.sw d.z cl d.cu d.wd) (hB : B ≤ w.heap.size) (hW : Ways w) :
  Calls Tryz.prog 43 #[.agg #[.int .i64 (d.s.W : Int), .int .i64 (d.s.H : Int), .slice dA d.s.nd dc, .slice tA d.s.nt tc, .slice sA d.s.nt sc, .slice zA d.s.nd zc, .slice cA d.nz cc, .slice wA (d.s.nt - 1) wc]] w fun e w' =>
   ∃ P m1 m2, e = .returned (.tuple #[.pointer (some ⟨P, 0, none⟩), .int .i64 0]) ∧ SeaM d zA cA wA dA tA sA cl w.heap.size P m1 m2 #[.int .i64 (d.s.W : Int), .int .i64 (d.s.H : Int), .slice dA d.s.nd dc, .slice tA d.s.nt tc, .slice sA d.s.nt sc, .slice zA d.s.nd zc, .slice cA d.nz cc, .slice wA (d.s.nt - 1) wc, .map (some m1), .map (some m2)] (own3 P m1 m2) w' ∧ Below w.heap.size w w' := by
 have h1 := hd.s.nd1
 have h2 := hd.s.t1
 have h4 := hd.s.t2
 have h3 := hd.z4
 refine (dopen_any d.s.W d.s.H dA tA sA zA cA wA d.s.nd dc d.s.nt tc d.s.nt sc d.s.nd zc d.nz cc (d.s.nt - 1) wc B d.s.dep d.s.tide d.s.sw d.z cl d.cu d.wd w (by unfold maxLen; omega) (by unfold maxLen; omega) (by unfold maxLen; omega) (by unfold maxLen; omega) (by unfold maxLen; omega) (by unfold maxLen; omega) hR hB).mono ?_
 rintro e w' ⟨hb, h⟩
 rw [if_pos (hd.chk hcl)] at h
 obtain ⟨P, m1, m2, rfl, hP, hm1, hm2, hne, hbx, hM1, hM2⟩ := h
 refine ⟨P, m1, m2, rfl, ⟨hbx, (hR.more hB).below hb, hcl, ⟨hP, hm1, hm2, hne, hb.size⟩, ⟨.inl rfl, .inr (.inl rfl), .inr (.inr rfl), fun k hk => ?_⟩, ⟨hW.below hb, hW.2⟩, ⟨_, hM2, fun i y h => by cases h⟩, ⟨_, hM1, fun i y h => by cases h⟩⟩, hb⟩
 rcases hk with rfl | rfl | rfl
 · exact ⟨hP, hbx.lt⟩
 · exact ⟨hm1, hM1.lt⟩
 · exact ⟨hm2, hM2.lt⟩
end
end Go.Proofs.YtnbeembnnjdmdaaGreatDoor
/- drift: Check and Step, for any arguments. -/
namespace Go.Proofs.YtnbeembnnjdmdaaGreatDoor
open Go.RowKit Go.Maps

theorem dcell_any (P nd dc : Nat) (dA : Option Addr) (w : World) (h2 : w.cell? ⟨P, 2, none⟩ = some (.slice dA nd dc)) (hnd : nd ≤ maxLen) (n : Int) :
  Calls Tryz.prog 44 #[.pointer (some ⟨P, 0, none⟩), .int .i64 n] w fun e w' => e = .returned (.bool (M.inB 0 ((nd : Int) - 1) n)) ∧ w' = w := by
 unfold maxLen at hnd
 go_enter Tryz.func44, Tryz.ntmps44
 go_wp2_with (go_at_call 45; refine (dwithin_any _ _ _ _).mono ?_; rintro e w1 ⟨rfl, rfl⟩)
 go_ret
 exact ⟨rfl, rfl⟩
section
variable {W H : Int} {dA tA sA zA cA wA : Option Addr} {nd dc nt tc ns sc zn zc cn cc wn wc B : Nat} {dep : Nat → Int} {tide : Nat → Nat → Int} {sw z : Nat → Int} {cl : Nat → Nat} {cu : Nat → Nat → Nat → Int} {wd : Nat → Nat → Int} {w : World}
end
section
variable {d : M.Dr} {zA cA wA dA tA sA : Option Addr} {cl : Nat → Nat} {B dc tc sc zc cc wc : Nat} {w : World}
set_option maxRecDepth 100000 in
set_option maxHeartbeats 3200000 in
theorem dStep_ok (hd : d.Ok) (hcl : ∀ i, i < d.nz → cl i + 1 = d.s.nt) (hR : RdD w B dA tA sA zA cA wA d.s.nd d.s.nt d.s.nt d.s.nd d.nz (d.s.nt - 1) d.s.dep d.s.tide d.s.sw d.z cl d.cu d.wd) (hB : B ≤ w.heap.size) (hW : Ways w) (c t l : Int) :
  Calls Tryz.prog 15 #[.agg #[.int .i64 (d.s.W : Int), .int .i64 (d.s.H : Int), .slice dA d.s.nd dc, .slice tA d.s.nt tc, .slice sA d.s.nt sc, .slice zA d.s.nd zc, .slice cA d.nz cc, .slice wA (d.s.nt - 1) wc], .int .i64 c, .int .i64 t, .int .i64 l] w fun e w' =>
   Below w.heap.size w w' ∧ if M.inB (-1) ((d.s.nd : Int) - 1) c && M.inB 0 ((d.s.nt : Int) - 2) t && M.inB 0 8 l then ∃ v, e = .returned (.tuple #[v, .int .i64 0]) ∧ IL w' w.heap.size v (M.stepL d t.toNat l c) else e = .returned (.tuple #[.slice none 0 0, .int .i64 1]) := by
 have h1 := hd.s.nd1
 have h2 := hd.s.t1
 have h3 := hd.s.t2
 have HD := Lib.hid hd
 have HO := Lib.hid (dopen_ok (dc := dc) (tc := tc) (sc := sc) (zc := zc) (cc := cc) (wc := wc) (w := w.alloc (.cells #[.int .i64 (d.s.W : Int), .int .i64 (d.s.H : Int), .slice dA d.s.nd dc, .slice tA d.s.nt tc, .slice sA d.s.nt sc, .slice zA d.s.nd zc, .slice cA d.nz cc, .slice wA (d.s.nt - 1) wc] 29)) hd hcl (hR.below ((belowAlloc _ _).mono hB)) (Nat.le_trans hB (by simp)) (hW.below (belowAlloc _ _)))
 clear hR hd hcl hW
 obtain ⟨q1, hq1⟩ : ∃ q, M.inB 0 ((d.s.nd : Int) - 1) c = q := ⟨_, rfl⟩
 obtain ⟨q2, hq2⟩ : ∃ q, M.inB 0 ((d.s.nt : Int) - 1 - 1) t = q := ⟨_, rfl⟩
 obtain ⟨q3, hq3⟩ : ∃ q, M.inB 0 8 l = q := ⟨_, rfl⟩
 have hq2' : M.inB 0 ((d.s.nt : Int) - 2) t = q2 := by rw [← hq2]; congr 1; omega
 rw [hq2', hq3]
 have hc : M.inB (-1) ((d.s.nd : Int) - 1) c = (decide (c = -1) || q1) := by
  rw [← hq1]
  unfold M.inB
  by_cases h : c = -1
  · subst h; simp; omega
  ·
   rw [decide_eq_false h]
   by_cases h2 : 0 ≤ c
   · rw [decide_eq_true h2, decide_eq_true (show -1 ≤ c by omega)]; rfl
   · rw [decide_eq_false h2, decide_eq_false (show ¬ -1 ≤ c by omega)]; rfl
 rw [hc]
 have Q1 := Lib.hid hq1
 have Q2 := Lib.hid hq2
 have Q3 := Lib.hid hq3
 clear hq1 hq2 hq3 hq2' hc
 have HB0 := Lib.hid (show w.heap.size ≤ (w.alloc (.cells #[.int .i64 (d.s.W : Int), .int .i64 (d.s.H : Int), .slice dA d.s.nd dc, .slice tA d.s.nt tc, .slice sA d.s.nt sc, .slice zA d.s.nd zc, .slice cA d.nz cc, .slice wA (d.s.nt - 1) wc] 29)).heap.size by simp)
 by_cases h : c = -1
 ·
  have HC := Lib.hid h
  rw [decide_eq_true h, Bool.true_or]
  subst h
  cases q2
  ·
   go_enter Tryz.func15, Tryz.ntmps15
   go_wp2_with (first | (go_at_call 43; refine HO.out.mono ?_; rintro e w1 ⟨P, m1, m2, rfl, hM, hb⟩; have HM := Lib.hid hM; have HB1 := Lib.hid hb; have HB := Lib.hid ((belowAlloc w (.cells #[.int .i64 (d.s.W : Int), .int .i64 (d.s.H : Int), .slice dA d.s.nd dc, .slice tA d.s.nt tc, .slice sA d.s.nt sc, .slice zA d.s.nd zc, .slice cA d.nz cc, .slice wA (d.s.nt - 1) wc] 29)).trans (hb.mono (by simp))); clear hb hM) | (go_at_call 46; refine (dlast_any P d.s.nt tc tA _ (HM.out.box.cell 3) (by unfold maxLen; omega)).mono ?_; rintro e w9 ⟨rfl, rfl⟩) | (go_at_call 45; refine (dwithin_any _ _ _ _).mono ?_; (first | rw [Q2.out] | rw [Q3.out]); rintro e w9 ⟨rfl, rfl⟩))
   go_ret2
   exact ⟨HB.out, rfl⟩
  ·
   cases q3
   ·
    go_enter Tryz.func15, Tryz.ntmps15
    go_wp2_with (first | (go_at_call 43; refine HO.out.mono ?_; rintro e w1 ⟨P, m1, m2, rfl, hM, hb⟩; have HM := Lib.hid hM; have HB1 := Lib.hid hb; have HB := Lib.hid ((belowAlloc w (.cells #[.int .i64 (d.s.W : Int), .int .i64 (d.s.H : Int), .slice dA d.s.nd dc, .slice tA d.s.nt tc, .slice sA d.s.nt sc, .slice zA d.s.nd zc, .slice cA d.nz cc, .slice wA (d.s.nt - 1) wc] 29)).trans (hb.mono (by simp))); clear hb hM) | (go_at_call 46; refine (dlast_any P d.s.nt tc tA _ (HM.out.box.cell 3) (by unfold maxLen; omega)).mono ?_; rintro e w9 ⟨rfl, rfl⟩) | (go_at_call 45; refine (dwithin_any _ _ _ _).mono ?_; (first | rw [Q2.out] | rw [Q3.out]); rintro e w9 ⟨rfl, rfl⟩))
    go_ret2
    exact ⟨HB.out, rfl⟩
   ·
    have ht := M.inB_iff.1 Q2.out
    have hl := M.inB_iff.1 Q3.out
    obtain ⟨tn, rfl⟩ : ∃ n : Nat, t = (n : Int) := ⟨t.toNat, by omega⟩
    obtain ⟨ln, rfl⟩ : ∃ n : Nat, l = (n : Int) := ⟨l.toNat, by omega⟩
    go_enter Tryz.func15, Tryz.ntmps15
    go_wp2_with (first | (go_at_call 43; refine HO.out.mono ?_; rintro e w1 ⟨P, m1, m2, rfl, hM, hb⟩; have HM := Lib.hid hM; have HB1 := Lib.hid hb; have HB := Lib.hid ((belowAlloc w (.cells #[.int .i64 (d.s.W : Int), .int .i64 (d.s.H : Int), .slice dA d.s.nd dc, .slice tA d.s.nt tc, .slice sA d.s.nt sc, .slice zA d.s.nd zc, .slice cA d.nz cc, .slice wA (d.s.nt - 1) wc] 29)).trans (hb.mono (by simp))); clear hb hM) | (go_at_call 46; refine (dlast_any P d.s.nt tc tA _ (HM.out.box.cell 3) (by unfold maxLen; omega)).mono ?_; rintro e w9 ⟨rfl, rfl⟩) | (go_at_call 45; refine (dwithin_any _ _ _ _).mono ?_; (first | rw [Q2.out] | rw [Q3.out]); rintro e w9 ⟨rfl, rfl⟩) | (go_at_call 48; refine (dstep_any HD.out HM.out _ tn ln ⟨by omega, by omega⟩ (by omega) (by omega)).mono ?_; rintro e w2 ⟨T2, g2, c2, hT1, hT2, hTg, rfl, hM2, hI2, hmv⟩; have HI2 := Lib.hid hI2; have HMV := Lib.hid hmv; clear hM2 hI2 hmv hT1 hT2 hTg) | (go_at_call 47; refine (clone_any _ (M.stepL d tn ln (-1)) c2 w2.heap.size w2 (by have := M.listB_len d.s.nd (M.stepB d tn ln (-1)); unfold M.stepL; omega) HI2.out.rd (Nat.le_refl _)).mono ?_; rintro e w3 ⟨v3, rfl, hi3, hb3⟩; have HI3 := Lib.hid hi3; have HB3 := Lib.hid hb3; clear hi3 hb3))
    go_ret2
    have hB2 : Below w.heap.size _ w2 := HMV.out.below (Nat.le_trans HB0.out HM.out.b.2.1) (Nat.le_trans HB0.out HM.out.b.2.2.1) HB.out.size
    refine ⟨HB.out.trans (hB2.trans (HB3.out.mono (Nat.le_trans HB.out.size hB2.size))), v3, rfl, ?_⟩
    exact Own.less HI3.out (Nat.le_trans HB.out.size hB2.size)
 ·
  have g0 : (c != -1) = true := by simpa using h
  rw [decide_eq_false h, Bool.false_or]
  clear h
  cases q1
  ·
   go_enter Tryz.func15, Tryz.ntmps15
   go_wp2_with (first | (go_at_call 43; refine HO.out.mono ?_; rintro e w1 ⟨P, m1, m2, rfl, hM, hb⟩; have HM := Lib.hid hM; have HB1 := Lib.hid hb; have HB := Lib.hid ((belowAlloc w (.cells #[.int .i64 (d.s.W : Int), .int .i64 (d.s.H : Int), .slice dA d.s.nd dc, .slice tA d.s.nt tc, .slice sA d.s.nt sc, .slice zA d.s.nd zc, .slice cA d.nz cc, .slice wA (d.s.nt - 1) wc] 29)).trans (hb.mono (by simp))); clear hb hM) | (go_at_call 44; refine (dcell_any P d.s.nd dc dA _ (HM.out.box.cell 2) (by unfold maxLen; omega) _).mono ?_; rw [Q1.out]; rintro e w9 ⟨rfl, rfl⟩))
   go_ret2
   exact ⟨HB.out, rfl⟩
  ·
   cases q2
   ·
    go_enter Tryz.func15, Tryz.ntmps15
    go_wp2_with (first | (go_at_call 43; refine HO.out.mono ?_; rintro e w1 ⟨P, m1, m2, rfl, hM, hb⟩; have HM := Lib.hid hM; have HB1 := Lib.hid hb; have HB := Lib.hid ((belowAlloc w (.cells #[.int .i64 (d.s.W : Int), .int .i64 (d.s.H : Int), .slice dA d.s.nd dc, .slice tA d.s.nt tc, .slice sA d.s.nt sc, .slice zA d.s.nd zc, .slice cA d.nz cc, .slice wA (d.s.nt - 1) wc] 29)).trans (hb.mono (by simp))); clear hb hM) | (go_at_call 44; refine (dcell_any P d.s.nd dc dA _ (HM.out.box.cell 2) (by unfold maxLen; omega) _).mono ?_; rw [Q1.out]; rintro e w9 ⟨rfl, rfl⟩) | (go_at_call 46; refine (dlast_any P d.s.nt tc tA _ (HM.out.box.cell 3) (by unfold maxLen; omega)).mono ?_; rintro e w9 ⟨rfl, rfl⟩) | (go_at_call 45; refine (dwithin_any _ _ _ _).mono ?_; (first | rw [Q2.out] | rw [Q3.out]); rintro e w9 ⟨rfl, rfl⟩))
    go_ret2
    exact ⟨HB.out, rfl⟩
   ·
    cases q3
    ·
     go_enter Tryz.func15, Tryz.ntmps15
     go_wp2_with (first | (go_at_call 43; refine HO.out.mono ?_; rintro e w1 ⟨P, m1, m2, rfl, hM, hb⟩; have HM := Lib.hid hM; have HB1 := Lib.hid hb; have HB := Lib.hid ((belowAlloc w (.cells #[.int .i64 (d.s.W : Int), .int .i64 (d.s.H : Int), .slice dA d.s.nd dc, .slice tA d.s.nt tc, .slice sA d.s.nt sc, .slice zA d.s.nd zc, .slice cA d.nz cc, .slice wA (d.s.nt - 1) wc] 29)).trans (hb.mono (by simp))); clear hb hM) | (go_at_call 44; refine (dcell_any P d.s.nd dc dA _ (HM.out.box.cell 2) (by unfold maxLen; omega) _).mono ?_; rw [Q1.out]; rintro e w9 ⟨rfl, rfl⟩) | (go_at_call 46; refine (dlast_any P d.s.nt tc tA _ (HM.out.box.cell 3) (by unfold maxLen; omega)).mono ?_; rintro e w9 ⟨rfl, rfl⟩) | (go_at_call 45; refine (dwithin_any _ _ _ _).mono ?_; (first | rw [Q2.out] | rw [Q3.out]); rintro e w9 ⟨rfl, rfl⟩))
     go_ret2
     exact ⟨HB.out, rfl⟩
    ·
     have ht := M.inB_iff.1 Q2.out
     have hl := M.inB_iff.1 Q3.out
     have hcc := M.inB_iff.1 Q1.out
     obtain ⟨tn, rfl⟩ : ∃ n : Nat, t = (n : Int) := ⟨t.toNat, by omega⟩
     obtain ⟨ln, rfl⟩ : ∃ n : Nat, l = (n : Int) := ⟨l.toNat, by omega⟩
     go_enter Tryz.func15, Tryz.ntmps15
     go_wp2_with (first | (go_at_call 43; refine HO.out.mono ?_; rintro e w1 ⟨P, m1, m2, rfl, hM, hb⟩; have HM := Lib.hid hM; have HB1 := Lib.hid hb; have HB := Lib.hid ((belowAlloc w (.cells #[.int .i64 (d.s.W : Int), .int .i64 (d.s.H : Int), .slice dA d.s.nd dc, .slice tA d.s.nt tc, .slice sA d.s.nt sc, .slice zA d.s.nd zc, .slice cA d.nz cc, .slice wA (d.s.nt - 1) wc] 29)).trans (hb.mono (by simp))); clear hb hM) | (go_at_call 44; refine (dcell_any P d.s.nd dc dA _ (HM.out.box.cell 2) (by unfold maxLen; omega) _).mono ?_; rw [Q1.out]; rintro e w9 ⟨rfl, rfl⟩) | (go_at_call 46; refine (dlast_any P d.s.nt tc tA _ (HM.out.box.cell 3) (by unfold maxLen; omega)).mono ?_; rintro e w9 ⟨rfl, rfl⟩) | (go_at_call 45; refine (dwithin_any _ _ _ _).mono ?_; (first | rw [Q2.out] | rw [Q3.out]); rintro e w9 ⟨rfl, rfl⟩) | (go_at_call 48; refine (dstep_any HD.out HM.out _ tn ln ⟨by omega, by omega⟩ (by omega) (by omega)).mono ?_; rintro e w2 ⟨T2, g2, c2, hT1, hT2, hTg, rfl, hM2, hI2, hmv⟩; have HI2 := Lib.hid hI2; have HMV := Lib.hid hmv; clear hM2 hI2 hmv hT1 hT2 hTg) | (go_at_call 47; refine (clone_any _ (M.stepL d tn ln c) c2 w2.heap.size w2 (by have := M.listB_len d.s.nd (M.stepB d tn ln c); unfold M.stepL; omega) HI2.out.rd (Nat.le_refl _)).mono ?_; rintro e w3 ⟨v3, rfl, hi3, hb3⟩; have HI3 := Lib.hid hi3; have HB3 := Lib.hid hb3; clear hi3 hb3))
     go_ret2
     have hB2 : Below w.heap.size _ w2 := HMV.out.below (Nat.le_trans HB0.out HM.out.b.2.1) (Nat.le_trans HB0.out HM.out.b.2.2.1) HB.out.size
     refine ⟨HB.out.trans (hB2.trans (HB3.out.mono (Nat.le_trans HB.out.size hB2.size))), v3, rfl, ?_⟩
     exact Own.less HI3.out (Nat.le_trans HB.out.size hB2.size)
end
end Go.Proofs.YtnbeembnnjdmdaaGreatDoor
