/- The reference of layer 2: Next, IsHistory; possible. -/
import Derived.Test.YtnbeembnnjdmdaaGreatDoorG6
namespace Go.Proofs.YtnbeembnnjdmdaaGreatDoor
open Go.RowKit

/-- a world of a class -/
structure InC (I : World → Prop) where
  val : World
  property : I val
/-- a region that draws its order, by a class of worlds that its calls do not leave -/
theorem wp_region_cls {P : Program} {I : World → Prop} {id : Nat} {Q : Exit → Act → World → Prop} {a : Act} {w : World} {l : List Oper} (hm : P.follows .mixedOrders = true) (hB : Region.lexB .any l.toArray = true) (h0 : I w.drew)
    (h : wpQuiet P l.toArray (fun W => ∃ g : InC I, W = g.val) (fun a' => ∀ W, (∃ g : InC I, W = g.val) → Q .normal a' W) l a) : (Code.region id l.toArray true).wp P Q a w :=
  wp_region_quiet (C := fun W => ∃ g : InC I, W = g.val) hm hB ⟨⟨_, h0⟩, rfl⟩ (by simpa using h)
theorem quiet_cls {P : Program} {I : World → Prop} {f : FuncId} {args : Array Value} {w : World} {v : Value} {R : World → Prop} (h : Calls P f args w fun e w' => e = .returned v ∧ R w') (hR : ∀ w', R w' → I w') :
    Calls P f args w fun e w' => e = .returned v ∧ ∃ g : InC I, w' = g.val := h.mono fun _ w' ⟨he, hr⟩ => ⟨he, ⟨w', hR w' hr⟩, rfl⟩
namespace M
/-- what IsHistory asks of the i-th cell -/
def hisP (d : Dr) (ta : Nat) (X : Nat → Sg) (hn : Nat) (l : Int) (f : Nat → Int) (i : Nat) : Bool := inB (-1) ((d.s.nd : Int) - 1) (f i) && agAll X hn ((ta + i : Nat) : Int) (f i) && (decide (i = 0) || stepB d (ta + i - 1) l (f (i - 1)) (f i))
/-- IsHistory -/
def hisB (d : Dr) (ta m : Nat) (lo hi : Int) (xL : List Int) (X : Nat → Sg) (hn : Nat) (l : Int) (n : Nat) (f : Nat → Int) : Bool :=
  inB lo hi l && decide (n = m) && xL.contains (f 0) && allTo m (hisP d ta X hn l f)
theorem hisB_iff {d : Dr} {ta m hn : Nat} {lo hi l : Int} {xL : List Int} {X : Nat → Sg} {f : Nat → Int} {n : Nat} (hm : 1 ≤ m) :
    hisB d ta m lo hi xL X hn l n f = true ↔ (lo ≤ l ∧ l ≤ hi) ∧ n = m ∧ Hist d ta l (fun c => xL.contains c) (fitF X hn ta (-1) 0) (m - 1) f := by
  unfold hisB
  simp only [Bool.and_eq_true, inB_iff, decide_eq_true_eq, allTo_iff, and_assoc]
  refine and_congr_right fun _ => and_congr_right fun _ => and_congr_right fun _ => ?_
  constructor
  · rintro ⟨h0, h⟩
    have hh : ∀ i, i ≤ m - 1 → (-1 ≤ f i ∧ f i < d.s.nd) ∧ agAll X hn ((ta + i : Nat) : Int) (f i) = true ∧ (i = 0 ∨ stepB d (ta + i - 1) l (f (i - 1)) (f i) = true) := fun i hi => by
      have h1 := h i (by omega)
      unfold hisP at h1
      simp only [Bool.and_eq_true, inB_iff, Bool.or_eq_true, decide_eq_true_eq, and_assoc] at h1
      exact ⟨⟨h1.1, by omega⟩, h1.2.2.1, h1.2.2.2⟩
    refine ⟨fun i hi => (hh i hi).1, h0, fun i hi => ?_, fun i hi => ?_⟩
    · unfold fitF fixB
      have h2 := (hh i hi).2.1
      rw [show ((ta + i : Nat) : Int) = (ta : Int) + i by omega] at h2
      rw [h2, decide_eq_false (show ¬ (ta : Int) + i = -1 by omega)]; rfl
    · have h2 := (hh (i + 1) (by omega)).2.2
      rcases h2 with h2 | h2
      · omega
      · rw [show ta + (i + 1) - 1 = ta + i by omega, Nat.add_sub_cancel] at h2
        exact h2
  · intro h
    refine ⟨h.x0, fun i hi => ?_⟩
    have h1 := h.bd i (by omega)
    have h2 := h.fit i (by omega)
    unfold fitF at h2
    rw [Bool.and_eq_true] at h2
    unfold hisP
    simp only [Bool.and_eq_true, inB_iff, Bool.or_eq_true, decide_eq_true_eq, and_assoc]
    refine ⟨h1.1, by omega, by rw [show ((ta + i : Nat) : Int) = (ta : Int) + i by omega]; exact h2.1, ?_⟩
    rcases Nat.eq_zero_or_pos i with h3 | h3
    · exact .inl h3
    · refine .inr ?_
      have h4 := h.go (i - 1) (by omega)
      rw [show ta + (i - 1) = ta + i - 1 by omega, show i - 1 + 1 = i by omega] at h4
      exact h4
end M
section
variable {d : M.Dr} {zA cA wA dA tA sA xA hA pA : Option Addr} {cl : Nat → Nat} {B dc tc sc zc cc wc xc hn hc pn pc : Nat} {at_ lo hi lw : Int} {xL : List Int} {Xs : Nat → SgV} {pf : Nat → Int} {w : World}
set_option maxRecDepth 100000 in
set_option maxHeartbeats 3200000 in
theorem rnext_any (hd : d.Ok) (hcl : ∀ i, i < d.nz → cl i + 1 = d.s.nt) (hR : RdD w B dA tA sA zA cA wA d.s.nd d.s.nt d.s.nt d.s.nd d.nz (d.s.nt - 1) d.s.dep d.s.tide d.s.sw d.z cl d.cu d.wd) (hB : B ≤ w.heap.size) (c t2 : Int) (t l : Nat) (hc : -1 ≤ c ∧ c < d.s.nd) (ht : t + 1 < d.s.nt) (hl : l ≤ 8) (hto : -1 ≤ t2 ∧ t2 < d.s.nd) :
    Calls Tryz.prog 108 #[.agg #[.int .i64 (d.s.W : Int), .int .i64 (d.s.H : Int), .slice dA d.s.nd dc, .slice tA d.s.nt tc, .slice sA d.s.nt sc, .slice zA d.s.nd zc, .slice cA d.nz cc, .slice wA (d.s.nt - 1) wc], .int .i64 c, .int .i64 (t : Int), .int .i64 (l : Int), .int .i64 t2] w fun e w' => e = .returned (.bool (M.stepB d t (l : Int) c t2)) ∧ Below w.heap.size w w' := by
  have hnd := hd.s.nd1
  have HB0 := Lib.hid (belowAlloc w (.cells #[.int .i64 (d.s.W : Int), .int .i64 (d.s.H : Int), .slice dA d.s.nd dc, .slice tA d.s.nt tc, .slice sA d.s.nt sc, .slice zA d.s.nd zc, .slice cA d.nz cc, .slice wA (d.s.nt - 1) wc] 29))
  have HST := Lib.hid (rstep_any (dc := dc) (tc := tc) (sc := sc) (zc := zc) (cc := cc) (wc := wc) hd hcl (hR.below (HB0.out.mono hB)) (Nat.le_trans hB HB0.out.size) c t l hc ht hl)
  obtain ⟨k, hk⟩ : ∃ k : Nat, t2 + 1 = (k : Int) := ⟨(t2 + 1).toNat, by omega⟩
  obtain rfl : t2 = (k : Int) - 1 := by omega
  have hkn : k < d.s.nd + 1 := by omega
  have e1 : ((k : Int) - 1 + 1) = (k : Int) := by omega
  have kx : decide (d.s.nd + 1 ≤ k) = false := decide_eq_false (by omega)
  clear hR hd hcl
  go_enter Tryz.func108, Tryz.ntmps108
  go_wp2_with fail
  refine HST.out.mono ?_
  rintro e w1 ⟨rfl, hm, hb⟩
  have HB1 := Lib.hid (HB0.out.trans (hb.mono HB0.out.size))
  have c0 := Mks.cell hm hkn
  rw [size_alloc] at c0
  clear hb hm
  go_wp2_with fail
  go_ret
  exact ⟨rfl, HB1.out⟩
set_option maxRecDepth 100000 in
set_option maxHeartbeats 6400000 in
theorem rishist_any (hd : d.Ok) (hcl : ∀ i, i < d.nz → cl i + 1 = d.s.nt) (hR : RdD w B dA tA sA zA cA wA d.s.nd d.s.nt d.s.nt d.s.nd d.nz (d.s.nt - 1) d.s.dep d.s.tide d.s.sw d.z cl d.cu d.wd) (hB : B ≤ w.heap.size) (hx3 : Rd1 w B xA xL.length (fun k => xL.getD k 0)) (hx4 : xL.length ≤ maxLen) (hRS : RdS w B hA hn Xs) (hhn : hn ≤ maxLen)
    (ta : Nat) (hta : ta < d.s.nt) (hlo : 0 ≤ lo) (hhi : hi ≤ 8) (hP : Rd1 w B pA pn pf) (hpn : pn ≤ 80) (hp0 : 0 < pn) :
    Calls Tryz.prog 70 #[.agg #[.int .i64 (d.s.W : Int), .int .i64 (d.s.H : Int), .slice dA d.s.nd dc, .slice tA d.s.nt tc, .slice sA d.s.nt sc, .slice zA d.s.nd zc, .slice cA d.nz cc, .slice wA (d.s.nt - 1) wc], .agg #[.int .i64 (ta : Int), .slice xA xL.length xc, .int .i64 lo, .int .i64 hi], .slice hA hn hc, .int .i64 lw, .slice pA pn pc] w fun e w' => e = .returned (.bool (M.hisB d ta (d.s.nt - ta) lo hi xL (fun i => (Xs i).sg) hn lw pn pf)) ∧ Below w.heap.size w w' := by
  have hnd := hd.s.nd1
  have hnt := hd.s.t2
  have HB0 := Lib.hid (belowAlloc2 w (.cells #[.int .i64 (d.s.W : Int), .int .i64 (d.s.H : Int), .slice dA d.s.nd dc, .slice tA d.s.nt tc, .slice sA d.s.nt sc, .slice zA d.s.nd zc, .slice cA d.nz cc, .slice wA (d.s.nt - 1) wc] 29) (.cells #[.int .i64 (ta : Int), .slice xA xL.length xc, .int .i64 lo, .int .i64 hi] 44))
  have K0 := Lib.hid ((Blk.new w 29 #[.int .i64 (d.s.W : Int), .int .i64 (d.s.H : Int), .slice dA d.s.nd dc, .slice tA d.s.nt tc, .slice sA d.s.nt sc, .slice zA d.s.nd zc, .slice cA d.nz cc, .slice wA (d.s.nt - 1) wc]).alloc (.cells #[.int .i64 (ta : Int), .slice xA xL.length xc, .int .i64 lo, .int .i64 hi] 44))
  have X0 := Lib.hid (Blk.new1 w (.cells #[.int .i64 (d.s.W : Int), .int .i64 (d.s.H : Int), .slice dA d.s.nd dc, .slice tA d.s.nt tc, .slice sA d.s.nt sc, .slice zA d.s.nd zc, .slice cA d.nz cc, .slice wA (d.s.nt - 1) wc] 29) 44 #[.int .i64 (ta : Int), .slice xA xL.length xc, .int .i64 lo, .int .i64 hi])
  have HIC := Lib.hid (fun (V : World) (c : Int) => riscell_any (W := (d.s.W : Int)) (H := (d.s.H : Int)) (dA := dA) (dc := dc) (tA := tA) (nt := d.s.nt) (tc := tc) (sA := sA) (ns := d.s.nt) (sc := sc) (zA := zA) (zn := d.s.nd) (zc := zc) (cA := cA) (cn := d.nz) (cc := cc) (wA := wA) (wn := d.s.nt - 1) (wc := wc) (nd := d.s.nd) (w := V) c (by unfold maxLen; omega))
  have HNX := Lib.hid (fun (V : World) (hb : Below w.heap.size w V) (c t2 : Int) (t l : Nat) (hc : -1 ≤ c ∧ c < d.s.nd) (ht : t + 1 < d.s.nt) (hl : l ≤ 8) (hto : -1 ≤ t2 ∧ t2 < d.s.nd) => rnext_any (dc := dc) (tc := tc) (sc := sc) (zc := zc) (cc := cc) (wc := wc) hd hcl (hR.below (hb.mono hB)) (Nat.le_trans hB hb.size) c t2 t l hc ht hl hto)
  have HAG := Lib.hid (fun (V : World) (hb : Below w.heap.size w V) (c t : Int) => ragrees_any (hc := hc) (hRS.below (hb.mono hB)) (Nat.le_trans hB hb.size) hhn c t)
  have HHA := Lib.hid (fun (n : Nat) (c : Int) => rhas_any xA xL.length xc B (fun k => xL.getD k 0) c (((w.alloc (.cells #[.int .i64 (d.s.W : Int), .int .i64 (d.s.H : Int), .slice dA d.s.nd dc, .slice tA d.s.nt tc, .slice sA d.s.nt sc, .slice zA d.s.nd zc, .slice cA d.nz cc, .slice wA (d.s.nt - 1) wc] 29)).alloc (.cells #[.int .i64 (ta : Int), .slice xA xL.length xc, .int .i64 lo, .int .i64 hi] 44)).drewN n) hx4 (hx3.below ((HB0.out.drewN n).mono hB)))
  have HPR := Lib.hid hP
  obtain ⟨Q, hQ⟩ : ∃ Q, Q = M.hisB d ta (d.s.nt - ta) lo hi xL (fun i => (Xs i).sg) hn lw pn pf := ⟨_, rfl⟩
  rw [← hQ]
  obtain ⟨m, hm⟩ : ∃ m, m = d.s.nt - ta := ⟨_, rfl⟩
  rw [← hm] at hQ
  unfold M.hisB at hQ
  obtain ⟨qa, hqa⟩ : ∃ q, M.inB lo hi lw = q := ⟨_, rfl⟩
  obtain ⟨p, hp⟩ : ∃ p, p = M.hisP d ta (fun i => (Xs i).sg) hn lw pf := ⟨_, rfl⟩
  rw [hqa, ← hp] at hQ
  have HQ := Lib.hid hQ
  have HPE := Lib.hid (fun i => congrFun hp i)
  obtain ⟨b, off, rfl, hb, hcs⟩ := hP.resolve_left (by omega)
  have c00 := hcs 0 hp0
  have HLA := Lib.hid hqa
  have HHA2 := Lib.hid (fun n => HHA.out n (pf 0))
  clear hQ hp hR hd hcl hx3 hRS hP hx4 hhn hcs HHA
  unfold M.hisP at HPE
  have HWI := Lib.hid (fun V => rin_v V hqa)
  clear hqa
  obtain ⟨qh, hqh⟩ : ∃ q, xL.contains (pf 0) = q := ⟨_, rfl⟩
  have HHX := fun n => HHA2.out n
  simp only [M.anyTo_any (L := xL) (p := fun y => decide (y = pf 0))] at HHX
  have ec : (xL.any fun y => decide (y = pf 0)) = xL.contains (pf 0) := by
    rw [Bool.eq_iff_iff, List.any_eq_true, List.contains_iff_mem]
    exact ⟨fun ⟨x, h1, h2⟩ => by rw [← of_decide_eq_true h2]; exact h1, fun h => ⟨pf 0, h, by simp⟩⟩
  simp only [ec, hqh] at HHX
  have HHQ := Lib.hid HHX
  have HQH := Lib.hid hqh
  have k00 : ((w.alloc (.cells #[.int .i64 (d.s.W : Int), .int .i64 (d.s.H : Int), .slice dA d.s.nd dc, .slice tA d.s.nt tc, .slice sA d.s.nt sc, .slice zA d.s.nd zc, .slice cA d.nz cc, .slice wA (d.s.nt - 1) wc] 29)).alloc (.cells #[.int .i64 (ta : Int), .slice xA xL.length xc, .int .i64 lo, .int .i64 hi] 44)).cell? ⟨b, off, none⟩ = some (.int .i64 (pf 0)) := (HB0.out.cell (p := ⟨b, off, none⟩) (show b < w.heap.size by omega)).trans c00
  clear hqh HHX ec c00 HHA2
  have x0 := X0.out.cell 0
  have x1 := X0.out.cell 1
  have x2 := X0.out.cell 2
  have x3 := X0.out.cell 3
  have k3 := K0.out.cell 3
  have kx : decide (pn ≤ 0) = false := decide_eq_false (by omega)
  go_enter Tryz.func70, Tryz.ntmps70
  go_upto_region 1 with fail
  generalize (w.alloc (.cells #[.int .i64 (d.s.W : Int), .int .i64 (d.s.H : Int), .slice dA d.s.nd dc, .slice tA d.s.nt tc, .slice sA d.s.nt sc, .slice zA d.s.nd zc, .slice cA d.nz cc, .slice wA (d.s.nt - 1) wc] 29)).alloc (.cells #[.int .i64 (ta : Int), .slice xA xL.length xc, .int .i64 lo, .int .i64 hi] 44) = X at HB0 K0 X0 HHQ k00 x0 x1 x2 x3 k3 ⊢
  cases qa
  · have HF := Lib.hid (show Q = false from by rw [HQ.out]; rfl)
    go_quiet (first | (go_at_call 50; exact Calls.quiet_of_same (HWI.out _)) | (go_at_call 106; exact Calls.quiet_of_same (HHQ.out _)) | fail)
    go_wp2_with fail
    go_ret
    exact ⟨ret_bool HF.out.symm, HB0.out.drewN nq⟩
  by_cases hpm : pn = m
  rotate_left
  · have HF := Lib.hid (show Q = false from by rw [HQ.out, decide_eq_false hpm]; rfl)
    have e1 : ((pn : Int) != (d.s.nt : Int) - (ta : Int)) = true := by
      have : ¬ (pn : Int) = (d.s.nt : Int) - (ta : Int) := by omega
      simpa using this
    clear hpm
    go_quiet (first | (go_at_call 50; exact Calls.quiet_of_same (HWI.out _)) | (go_at_call 106; exact Calls.quiet_of_same (HHQ.out _)) | fail)
    go_wp2_with fail
    go_ret
    exact ⟨ret_bool HF.out.symm, HB0.out.drewN nq⟩
  have e1 : ((pn : Int) != (d.s.nt : Int) - (ta : Int)) = false := by
    have : (pn : Int) = (d.s.nt : Int) - (ta : Int) := by omega
    simpa using this
  have HPM := Lib.hid hpm
  clear hpm
  cases qh
  · have HF := Lib.hid (show Q = false from by rw [HQ.out, HQH.out]; simp)
    go_quiet (first | (go_at_call 50; exact Calls.quiet_of_same (HWI.out _)) | (go_at_call 106; exact Calls.quiet_of_same (HHQ.out _)) | fail)
    go_wp2_with fail
    go_ret
    exact ⟨ret_bool HF.out.symm, HB0.out.drewN nq⟩
  go_quiet (first | (go_at_call 50; exact Calls.quiet_of_same (HWI.out _)) | (go_at_call 106; exact Calls.quiet_of_same (HHQ.out _)) | fail)
  have HLW := Lib.hid (show 0 ≤ lw ∧ lw ≤ 8 from by have := M.inB_iff.1 HLA.out; omega)
  have HB1 := Lib.hid (HB0.out.drewN nq)
  have K1 := Lib.hid (show Blk (X.drewN nq) w.heap.size 29 #[.int .i64 (d.s.W : Int), .int .i64 (d.s.H : Int), .slice dA d.s.nd dc, .slice tA d.s.nt tc, .slice sA d.s.nt sc, .slice zA d.s.nd zc, .slice cA d.nz cc, .slice wA (d.s.nt - 1) wc] from K0.out)
  have X1 := Lib.hid (show Blk (X.drewN nq) (w.heap.size + 1) 44 #[.int .i64 (ta : Int), .slice xA xL.length xc, .int .i64 lo, .int .i64 hi] from X0.out)
  clear x0 x1 x2 x3 k3 k00 HHQ kx HB0 K0 X0
  generalize X.drewN nq = Y at HB1 K1 X1 ⊢
  obtain ⟨lwn, rfl⟩ : ∃ n : Nat, lw = (n : Int) := ⟨lw.toNat, by have := HLW.out; omega⟩
  go_wp2_with fail
  go_loopw [11] (fun i wr => ∃ k : Nat, k ≤ pn ∧ i = .int .i64 (k : Int) ∧ Hid (M.allTo k p = true) ∧ Hid (Below w.heap.size w wr ∧ Blk wr w.heap.size 29 #[.int .i64 (d.s.W : Int), .int .i64 (d.s.H : Int), .slice dA d.s.nd dc, .slice tA d.s.nt tc, .slice sA d.s.nt sc, .slice zA d.s.nd zc, .slice cA d.nz cc, .slice wA (d.s.nt - 1) wc] ∧ Blk wr (w.heap.size + 1) 44 #[.int .i64 (ta : Int), .slice xA xL.length xc, .int .i64 lo, .int .i64 hi])) (fun i _ => pn - (intOf i).toNat)
  case atStart => exact ⟨0, Nat.zero_le _, rfl, Lib.hid rfl, Lib.hid ⟨HB1.out, K1.out, X1.out⟩⟩
  case round =>
    obtain ⟨k, hk, rfl, HF, HBR⟩ := hrel
    clear HB1 K1 X1
    by_cases hlt : k < pn
    · have HC0 := Lib.hid (show wr.cell? ⟨b, off + k, none⟩ = some (.int .i64 (pf k)) from by
        obtain ⟨b', off', e, _, hc⟩ := (HPR.out.below (HBR.out.1.mono hB)).at_ hlt
        cases e; exact hc)
      have hbw : b < wr.heap.size := Nat.lt_of_lt_of_le hb (Nat.le_trans hB HBR.out.1.size)
      have kx : decide (pn ≤ k) = false := decide_eq_false (by omega)
      have KW := Lib.hid HBR.out.2.1
      have XW := Lib.hid HBR.out.2.2
      have HPK := Lib.hid (HPE.out k)
      have HSP := Lib.hid (show M.allTo (k + 1) p = (M.allTo k p && p k) from rfl)
      have HNO := Lib.hid (fun h : p k = false => (show Q = false by rw [HQ.out, ← HPM.out, M.allTo_no hlt h]; simp))
      have hIK := fun V => HIC.out V (pf k)
      have hAK := fun V (hb : Below wr.heap.size wr V) => HAG.out V (HBR.out.1.trans (hb.mono HBR.out.1.size)) (pf k) ((ta : Int) + (k : Int))
      obtain ⟨qi, hqi⟩ : ∃ q, M.inB (-1) ((d.s.nd : Int) - 1) (pf k) = q := ⟨_, rfl⟩
      obtain ⟨qg, hqg⟩ : ∃ q, M.agAll (fun i => (Xs i).sg) hn ((ta : Int) + (k : Int)) (pf k) = q := ⟨_, rfl⟩
      simp only [hqi] at hIK
      simp only [hqg] at hAK
      have HIK := Lib.hid hIK
      have HAK := Lib.hid hAK
      have HPV := Lib.hid (show p k = (qi && qg && (decide (k = 0) || M.stepB d (ta + k - 1) (lwn : Int) (pf (k - 1)) (pf k))) from by rw [HPK.out, hqi, show ((ta + k : Nat) : Int) = (ta : Int) + (k : Int) by omega, hqg])
      have HQI := Lib.hid hqi
      clear hIK hAK hqi hqg HPK
      have k0 : ∀ g : InC (fun W => Below wr.heap.size wr W), g.val.cell? ⟨w.heap.size, 0, none⟩ = _ := fun g => (KW.out.below' g.property).cell 0
      have k1 : ∀ g : InC (fun W => Below wr.heap.size wr W), g.val.cell? ⟨w.heap.size, 1, none⟩ = _ := fun g => (KW.out.below' g.property).cell 1
      have k2 : ∀ g : InC (fun W => Below wr.heap.size wr W), g.val.cell? ⟨w.heap.size, 2, none⟩ = _ := fun g => (KW.out.below' g.property).cell 2
      have k3 : ∀ g : InC (fun W => Below wr.heap.size wr W), g.val.cell? ⟨w.heap.size, 3, none⟩ = _ := fun g => (KW.out.below' g.property).cell 3
      have k4 : ∀ g : InC (fun W => Below wr.heap.size wr W), g.val.cell? ⟨w.heap.size, 4, none⟩ = _ := fun g => (KW.out.below' g.property).cell 4
      have k5 : ∀ g : InC (fun W => Below wr.heap.size wr W), g.val.cell? ⟨w.heap.size, 5, none⟩ = _ := fun g => (KW.out.below' g.property).cell 5
      have k6 : ∀ g : InC (fun W => Below wr.heap.size wr W), g.val.cell? ⟨w.heap.size, 6, none⟩ = _ := fun g => (KW.out.below' g.property).cell 6
      have k7 : ∀ g : InC (fun W => Below wr.heap.size wr W), g.val.cell? ⟨w.heap.size, 7, none⟩ = _ := fun g => (KW.out.below' g.property).cell 7
      have x0 : ∀ g : InC (fun W => Below wr.heap.size wr W), g.val.cell? ⟨w.heap.size + 1, 0, none⟩ = _ := fun g => (XW.out.below' g.property).cell 0
      have c0 : ∀ g : InC (fun W => Below wr.heap.size wr W), g.val.cell? ⟨b, off + k, none⟩ = some (.int .i64 (pf k)) := fun g => (g.property.cell (p := ⟨b, off + k, none⟩) hbw).trans HC0.out
      have hne : Nonempty (InC fun W => Below wr.heap.size wr W) := ⟨⟨wr, Below.refl _ _⟩⟩
      cases qi
      · have HK := Lib.hid (HNO.out (by rw [HPV.out]; rfl))
        go_upto_region 6 with fail
        refine wp_region_cls (I := fun W => Below wr.heap.size wr W) (by kernel_rfl) (by kernel_rfl) (Below.refl _ _).drew ?_
        repeat go_big_quiet_step (first | (go_at_call 49; exact quiet_cls (HIK.out _) fun w' h => by have hg := InC.property ‹InC (fun W => Below wr.heap.size wr W)›; exact hg.trans (h.mono hg.size)) | (go_at_call 107; exact quiet_cls (HAK.out _ (InC.property _)) fun w' h => by obtain ⟨n, rfl⟩ := h; exact Below.drewN (InC.property _) n) | (go_at_call 108; exact quiet_cls (HNK.out _ (InC.property _)) fun w' h => by have hg := InC.property ‹InC (fun W => Below wr.heap.size wr W)›; exact hg.trans (h.mono hg.size)) | fail)
        refine wpQuiet_nil ?_
        rintro wq ⟨gq, hgq⟩
        have hq : Below wr.heap.size wr wq := hgq ▸ gq.property
        clear hgq gq hne k0 k1 k2 k3 k4 k5 k6 k7 x0 c0
        go_wp2_with fail
        go_ret
        exact ⟨ret_bool HK.out.symm, HBR.out.1.trans (hq.mono HBR.out.1.size)⟩
      cases qg
      · have HK := Lib.hid (HNO.out (by rw [HPV.out]; rfl))
        go_upto_region 6 with fail
        refine wp_region_cls (I := fun W => Below wr.heap.size wr W) (by kernel_rfl) (by kernel_rfl) (Below.refl _ _).drew ?_
        repeat go_big_quiet_step (first | (go_at_call 49; exact quiet_cls (HIK.out _) fun w' h => by have hg := InC.property ‹InC (fun W => Below wr.heap.size wr W)›; exact hg.trans (h.mono hg.size)) | (go_at_call 107; exact quiet_cls (HAK.out _ (InC.property _)) fun w' h => by obtain ⟨n, rfl⟩ := h; exact Below.drewN (InC.property _) n) | (go_at_call 108; exact quiet_cls (HNK.out _ (InC.property _)) fun w' h => by have hg := InC.property ‹InC (fun W => Below wr.heap.size wr W)›; exact hg.trans (h.mono hg.size)) | fail)
        refine wpQuiet_nil ?_
        rintro wq ⟨gq, hgq⟩
        have hq : Below wr.heap.size wr wq := hgq ▸ gq.property
        clear hgq gq hne k0 k1 k2 k3 k4 k5 k6 k7 x0 c0
        go_wp2_with fail
        go_ret
        exact ⟨ret_bool HK.out.symm, HBR.out.1.trans (hq.mono HBR.out.1.size)⟩
      have hci := M.inB_iff.1 HQI.out
      rcases Nat.eq_zero_or_pos k with h0 | h0
      · have HK := Lib.hid (show M.allTo (k + 1) p = true from by rw [HSP.out, HF.out, HPV.out, decide_eq_true h0]; rfl)
        have g1 : decide (0 < k) = false := decide_eq_false (by omega)
        have g2 : decide ((0 : Int) < (k : Int)) = false := decide_eq_false (by omega)
        clear h0 hci
        go_upto_region 6 with fail
        refine wp_region_cls (I := fun W => Below wr.heap.size wr W) (by kernel_rfl) (by kernel_rfl) (Below.refl _ _).drew ?_
        repeat go_big_quiet_step (first | (go_at_call 49; exact quiet_cls (HIK.out _) fun w' h => by have hg := InC.property ‹InC (fun W => Below wr.heap.size wr W)›; exact hg.trans (h.mono hg.size)) | (go_at_call 107; exact quiet_cls (HAK.out _ (InC.property _)) fun w' h => by obtain ⟨n, rfl⟩ := h; exact Below.drewN (InC.property _) n) | (go_at_call 108; exact quiet_cls (HNK.out _ (InC.property _)) fun w' h => by have hg := InC.property ‹InC (fun W => Below wr.heap.size wr W)›; exact hg.trans (h.mono hg.size)) | fail)
        refine wpQuiet_nil ?_
        rintro wq ⟨gq, hgq⟩
        have hq : Below wr.heap.size wr wq := hgq ▸ gq.property
        clear hgq gq hne k0 k1 k2 k3 k4 k5 k6 k7 x0 c0
        go_wp2_with fail
        go_roundw
        case rel => exact ⟨k + 1, by omega, by go_num, HK, Lib.hid ⟨HBR.out.1.trans (hq.mono HBR.out.1.size), HBR.out.2.1.below' hq, HBR.out.2.2.below' hq⟩⟩
        case measure => simp [intOf]; omega
      · obtain ⟨j, rfl⟩ : ∃ j, k = j + 1 := ⟨k - 1, by omega⟩
        have HC1 := Lib.hid (show wr.cell? ⟨b, off + j, none⟩ = some (.int .i64 (pf j)) from by
          obtain ⟨b', off', e, _, hc⟩ := (HPR.out.below (HBR.out.1.mono hB)).at_ (show j < pn by omega)
          cases e; exact hc)
        have hcj : -1 ≤ pf j ∧ pf j < d.s.nd := by
          have h := M.allTo_iff.1 HF.out j (by omega)
          rw [HPE.out] at h
          simp only [Bool.and_eq_true] at h
          have := M.inB_iff.1 h.1.1
          omega
        have c1 : ∀ g : InC (fun W => Below wr.heap.size wr W), g.val.cell? ⟨b, off + j, none⟩ = some (.int .i64 (pf j)) := fun g => (g.property.cell (p := ⟨b, off + j, none⟩) hbw).trans HC1.out
        have hNK := fun V (hb : Below wr.heap.size wr V) => HNX.out V (HBR.out.1.trans (hb.mono HBR.out.1.size)) (pf j) (pf (j + 1)) (ta + j) lwn hcj (by have := HPM.out; omega) (by have := HLW.out; omega) ⟨hci.1, by omega⟩
        have hPV := HPV.out
        rw [decide_eq_false (show ¬ j + 1 = 0 by omega), show ta + (j + 1) - 1 = ta + j by omega, Nat.add_sub_cancel] at hPV
        obtain ⟨qn, hqn⟩ : ∃ q, M.stepB d (ta + j) (lwn : Int) (pf j) (pf (j + 1)) = q := ⟨_, rfl⟩
        simp only [hqn] at hNK
        rw [hqn] at hPV
        have HNK := Lib.hid (show ∀ V, Below wr.heap.size wr V → Calls Tryz.prog 108 #[.agg #[.int .i64 (d.s.W : Int), .int .i64 (d.s.H : Int), .slice dA d.s.nd dc, .slice tA d.s.nt tc, .slice sA d.s.nt sc, .slice zA d.s.nd zc, .slice cA d.nz cc, .slice wA (d.s.nt - 1) wc], .int .i64 (pf j), .int .i64 ((ta : Int) + ((j : Int) + 1) - 1), .int .i64 (lwn : Int), .int .i64 (pf (j + 1))] V fun e w' => e = .returned (.bool qn) ∧ Below V.heap.size V w' from fun V hb => by have := hNK V hb; rw [show ((ta + j : Nat) : Int) = (ta : Int) + ((j : Int) + 1) - 1 by omega] at this; exact this)
        have HPW := Lib.hid hPV
        have g1 : decide (0 < j + 1) = true := decide_eq_true (by omega)
        have g2 : decide ((0 : Int) < ((j + 1 : Nat) : Int)) = true := decide_eq_true (by omega)
        have g3 : decide ((0 : Int) < (j : Int) + 1) = true := decide_eq_true (by omega)
        have kj : decide (pn ≤ j) = false := decide_eq_false (by omega)
        have ej : ((j + 1 : Nat) : Int) - 1 = (j : Int) := by omega
        have ej2 : (ta : Int) + ((j + 1 : Nat) : Int) - 1 = (ta : Int) + (j : Int) := by omega
        clear hNK hPV hqn hci hcj h0
        cases qn
        · have HK := Lib.hid (HNO.out (by rw [HPW.out]; rfl))
          go_upto_region 6 with fail
          refine wp_region_cls (I := fun W => Below wr.heap.size wr W) (by kernel_rfl) (by kernel_rfl) (Below.refl _ _).drew ?_
          repeat go_big_quiet_step (first | (go_at_call 49; exact quiet_cls (HIK.out _) fun w' h => by have hg := InC.property ‹InC (fun W => Below wr.heap.size wr W)›; exact hg.trans (h.mono hg.size)) | (go_at_call 107; exact quiet_cls (HAK.out _ (InC.property _)) fun w' h => by obtain ⟨n, rfl⟩ := h; exact Below.drewN (InC.property _) n) | (go_at_call 108; exact quiet_cls (HNK.out _ (InC.property _)) fun w' h => by have hg := InC.property ‹InC (fun W => Below wr.heap.size wr W)›; exact hg.trans (h.mono hg.size)) | fail)
          refine wpQuiet_nil ?_
          rintro wq ⟨gq, hgq⟩
          have hq : Below wr.heap.size wr wq := hgq ▸ gq.property
          clear hgq gq hne k0 k1 k2 k3 k4 k5 k6 k7 x0 c0
          go_wp2_with fail
          go_ret
          exact ⟨ret_bool HK.out.symm, HBR.out.1.trans (hq.mono HBR.out.1.size)⟩
        · have HK := Lib.hid (show M.allTo (j + 1 + 1) p = true from by rw [HSP.out, HF.out, HPW.out]; rfl)
          go_upto_region 6 with fail
          refine wp_region_cls (I := fun W => Below wr.heap.size wr W) (by kernel_rfl) (by kernel_rfl) (Below.refl _ _).drew ?_
          repeat go_big_quiet_step (first | (go_at_call 49; exact quiet_cls (HIK.out _) fun w' h => by have hg := InC.property ‹InC (fun W => Below wr.heap.size wr W)›; exact hg.trans (h.mono hg.size)) | (go_at_call 107; exact quiet_cls (HAK.out _ (InC.property _)) fun w' h => by obtain ⟨n, rfl⟩ := h; exact Below.drewN (InC.property _) n) | (go_at_call 108; exact quiet_cls (HNK.out _ (InC.property _)) fun w' h => by have hg := InC.property ‹InC (fun W => Below wr.heap.size wr W)›; exact hg.trans (h.mono hg.size)) | fail)
          refine wpQuiet_nil ?_
          rintro wq ⟨gq, hgq⟩
          have hq : Below wr.heap.size wr wq := hgq ▸ gq.property
          clear hgq gq hne k0 k1 k2 k3 k4 k5 k6 k7 x0 c0
          go_wp2_with fail
          go_roundw
          case rel => exact ⟨(j + 1) + 1, by omega, by go_num, HK, Lib.hid ⟨HBR.out.1.trans (hq.mono HBR.out.1.size), HBR.out.2.1.below' hq, HBR.out.2.2.below' hq⟩⟩
          case measure => simp [intOf]; omega
    · obtain rfl : k = pn := by omega
      go_wp2_with fail
      go_ret
      exact ⟨ret_bool (by rw [HQ.out, HQH.out, ← HPM.out, HF.out]; simp), HBR.out.1⟩
end
end Go.Proofs.YtnbeembnnjdmdaaGreatDoor
