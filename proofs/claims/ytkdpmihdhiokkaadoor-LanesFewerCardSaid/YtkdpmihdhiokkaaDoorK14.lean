/- Is some leg in the way: IndexFunc over legs, the closure of goes. -/
import Derived.Test.YtkdpmihdhiokkaaDoorK13
namespace Go.Proofs.YtkdpmihdhiokkaaDoor
open Go.RowKit

def lfOk (cf : FuncId) : Prop := cf = 88 ∨ cf = 48
set_option maxRecDepth 100000 in
set_option maxHeartbeats 3200000 in
theorem idx_leg (A : Option Addr) (n c B : Nat) (L : Nat → M.Leg) (cf : FuncId) (caps : Array Value) (p : M.Leg → Bool) (w : World) (hn : n ≤ 1048576) (hR : RdL w B A n L) (hB : B ≤ w.heap.size) (hcf : lfOk cf)
    (hf : ∀ W i cA cc, i < n → Below w.heap.size w W → Rd1 W B cA (L i).n (L i).c → Calls Tryd.prog cf (#[.agg #[.int .i64 (L i).at_, .int .i64 (L i).lv, .int .i64 (L i).dr, .bool (L i).tail, .slice cA (L i).n cc]] ++ caps) W fun e w' => e = .returned (.bool (p (L i))) ∧ Below W.heap.size W w') :
    Calls Tryd.prog 75 #[.slice A n c, .func (.func cf) #[] caps] w (Idx n (fun i => p (L i)) w) := by
  rcases hcf with rfl | rfl
  all_goals
    have HFN := Lib.hid hf
    have HRL := Lib.hid hR
    clear hf hR
    go_enter Tryd.func75, Tryd.ntmps75
    go_wp2_with fail
    go_loopw [5, 8] (fun _ i wr => ∃ k : Nat, k ≤ n ∧ i = .int .i64 k ∧ M.anyTo k (fun i => p (L i)) = false ∧ Below w.heap.size w wr) (fun _ i _ => n - (intOf i).toNat)
    case atStart => exact ⟨0, Nat.zero_le _, rfl, rfl, Below.refl _ _⟩
    case round =>
      obtain ⟨k, hk, rfl, hf, hbw⟩ := hrel
      have HF := Lib.hid hf
      have HW := Lib.hid hbw
      have hz := hbw.size
      clear hf hbw
      by_cases hlt : k < n
      · obtain ⟨b, off, rfl, hb, c0, c1, c2, c3, cA, cc, c4, hr, hm⟩ := (HRL.out.below (HW.out.mono hB)).at_ hlt
        have HV := Lib.hid (HFN.out wr k cA cc hlt HW.out hr)
        have HNX := Lib.hid (show M.anyTo (k + 1) (fun i => p (L i)) = (M.anyTo k (fun i => p (L i)) || p (L k)) from rfl)
        have HYS := Lib.hid (fun h : p (L k) = true => (M.anyTo_iff.2 ⟨k, hlt, h⟩ : M.anyTo n (fun i => p (L i)) = true))
        have kx : decide (n ≤ k) = false := decide_eq_false (by omega)
        obtain ⟨pk, hpk⟩ : ∃ pk, pk = p (L k) := ⟨_, rfl⟩
        rw [← hpk] at HV HNX HYS
        generalize L k = l at *
        clear hpk hr hm
        cases pk
        · go_wp2_with (refine HV.out.mono ?_; rintro e w1 ⟨rfl, hb1⟩; have HB1 := Lib.hid hb1; clear hb1)
          go_roundw
          case rel => exact ⟨k + 1, by omega, by go_num, by rw [HNX.out, HF.out]; rfl, HW.out.trans (HB1.out.mono hz)⟩
          case measure => simp [intOf]; omega
        · go_wp2_with (refine HV.out.mono ?_; rintro e w1 ⟨rfl, hb1⟩; have HB1 := Lib.hid hb1; clear hb1)
          go_ret
          exact ⟨_, rfl, (by rw [HYS.out (by first | rfl | trivial)]; exact decide_eq_true (by omega)), HW.out.trans (HB1.out.mono hz)⟩
      · obtain rfl : k = n := by omega
        go_wp2_with fail
        go_ret
        exact ⟨_, rfl, (by rw [HF.out]; rfl), HW.out⟩
theorem con_leg (A : Option Addr) (n c B : Nat) (L : Nat → M.Leg) (cf : FuncId) (caps : Array Value) (p : M.Leg → Bool) (w : World) (hn : n ≤ 1048576) (hR : RdL w B A n L) (hB : B ≤ w.heap.size) (hcf : lfOk cf)
    (hf : ∀ W i cA cc, i < n → Below w.heap.size w W → Rd1 W B cA (L i).n (L i).c → Calls Tryd.prog cf (#[.agg #[.int .i64 (L i).at_, .int .i64 (L i).lv, .int .i64 (L i).dr, .bool (L i).tail, .slice cA (L i).n cc]] ++ caps) W fun e w' => e = .returned (.bool (p (L i))) ∧ Below W.heap.size W w') :
    Calls Tryd.prog 47 #[.slice A n c, .func (.func cf) #[] caps] w fun e w' => e = .returned (.bool (M.anyTo n fun i => p (L i))) ∧ Below w.heap.size w w' := by
  have HI := Lib.hid (idx_leg A n c B L cf caps p w hn hR hB hcf hf)
  clear hf hR
  go_enter Tryd.func47, Tryd.ntmps47
  go_wp2_with (go_at_call 75; refine HI.out.mono ?_; rintro e w1 ⟨r, rfl, hr, hb⟩; have HR := Lib.hid hr; have HB := Lib.hid hb; clear hr hb)
  go_ret
  exact ⟨ret_bool HR.out, HB.out⟩
end Go.Proofs.YtkdpmihdhiokkaaDoor
/- (*traffic).goes: may a unit take a step. -/
namespace Go.Proofs.YtkdpmihdhiokkaaDoor
open Go.RowKit

/-- a leg is in the way of a step -/
def hitL (lv : Int) (tl : Bool) (p q t : Int) (l : M.Leg) : Bool := decide (0 ≤ M.atC l t) && M.clash lv l.lv tl l.tail p q (M.atC l (t - 1)) (M.atC l t)
section
variable (s : M.Sea) (l : M.Leg) (cc B T O : Nat) (cA : Option Addr) (lv p q t : Int) (tl : Bool) (w : World)
set_option maxRecDepth 100000 in
set_option maxHeartbeats 3200000 in
theorem gchk_any (hs : s.Ok) (hl : M.LegOk s l) (ht : -1 ≤ t ∧ t ≤ 60) (hR : Rd1 w B cA l.n l.c) (hB : B ≤ w.heap.size) (hT : Blk w T 3 #[.int .i64 t]) (hO : Blk w O 82 #[.int .i64 lv, .int .i64 p, .int .i64 q, .bool tl]) :
    Calls Tryd.prog 88 #[.agg #[.int .i64 l.at_, .int .i64 l.lv, .int .i64 l.dr, .bool l.tail, .slice cA l.n cc], .pointer (some ⟨T, 0, none⟩), .pointer (some ⟨O, 0, none⟩)] w fun e w' => e = .returned (.bool (hitL lv tl p q t l)) ∧ Below w.heap.size w w' := by
  have HH := Lib.hid (show hitL lv tl p q t l = (decide (0 ≤ M.atC l t) && M.clash lv l.lv tl l.tail p q (M.atC l (t - 1)) (M.atC l t)) from rfl)
  have HB0 := Lib.hid (belowAlloc w (.cells #[.int .i64 l.at_, .int .i64 l.lv, .int .i64 l.dr, .bool l.tail, .slice cA l.n cc] 41))
  have HA := Lib.hid (fun W (hb : Below w.heap.size w W) => lat_any s l cc B cA t W hs hl ht (hR.below (hb.mono hB)) (Nat.le_trans hB hb.size))
  have T0 := Lib.hid (hT.alloc (.cells #[.int .i64 l.at_, .int .i64 l.lv, .int .i64 l.dr, .bool l.tail, .slice cA l.n cc] 41))
  have O0 := Lib.hid (hO.alloc (.cells #[.int .i64 l.at_, .int .i64 l.lv, .int .i64 l.dr, .bool l.tail, .slice cA l.n cc] 41))
  have t0 := hT.cell 0
  have hTl := hT.lt
  obtain ⟨hv, hhv⟩ : ∃ hv, hv = hitL lv tl p q t l := ⟨_, rfl⟩
  rw [← hhv] at HH
  rw [← hhv]
  obtain ⟨so, hso⟩ : ∃ so, so = decide (0 ≤ M.atC l t) := ⟨_, rfl⟩
  rw [← hso] at HH HA
  have HSO := Lib.hid hso
  clear hhv hso hR hT hO
  go_enter Tryd.func88, Tryd.ntmps88
  go_upto_region 2 with (go_at_call 41; go_must (refine (HA.out _ HB0.out).mono ?_); rintro e w1 ⟨⟨a, b, c, d, rfl, hv1⟩, hb1⟩; have HV1 := Lib.hid hv1; have HB1 := Lib.hid (HB0.out.trans (hb1.mono HB0.out.size)); have O1 := Lib.hid (O0.out.below' hb1); clear hv1 hb1)
  have HB2 := Lib.hid (HB1.out.alloc HB1.out.size (.cells #[.int .i64 a, .int .i64 b, .int .i64 c, .bool d] 82))
  have O2 := Lib.hid (O1.out.alloc (.cells #[.int .i64 a, .int .i64 b, .int .i64 c, .bool d] 82))
  have N2 := Lib.hid (Blk.new w1 82 #[.int .i64 a, .int .i64 b, .int .i64 c, .bool d])
  have hOl := O1.out.lt
  generalize hY : w1.alloc (.cells #[.int .i64 a, .int .i64 b, .int .i64 c, .bool d] 82) = Y at HB2 O2 N2 ⊢
  clear hY t0
  have o0 := O2.out.cell 0
  have o1 := O2.out.cell 1
  have o2 := O2.out.cell 2
  have o3 := O2.out.cell 3
  have n0 := N2.out.cell 0
  have n1 := N2.out.cell 1
  have n2 := N2.out.cell 2
  have n3 := N2.out.cell 3
  cases so
  · go_wp2_with fail
    go_ret
    exact ⟨ret_bool (by rw [HH.out]; rfl), HB2.out⟩
  · have h0 : 0 ≤ M.atC l t := of_decide_eq_true HSO.out.symm
    obtain ⟨e1, e2, e3, e4⟩ := HV1.out h0
    have HC := Lib.hid (clashes_any lv a tl d p q b c Y)
    have HE := Lib.hid (show M.clash lv a tl d p q b c = hv from by rw [HH.out, e1, e2, e3, e4]; rfl)
    rw [HE.out] at HC
    clear e1 e2 e3 e4 h0
    go_wp2_with (go_at_call 42; go_must (refine HC.out.mono ?_); rintro e w5 ⟨rfl, hb5⟩; have HB5 := Lib.hid hb5; clear hb5)
    go_ret
    exact ⟨rfl, HB2.out.trans (HB5.out.mono HB2.out.size)⟩
end
end Go.Proofs.YtkdpmihdhiokkaaDoor
/- (*traffic).goes: may a unit take a step. -/
namespace Go.Proofs.YtkdpmihdhiokkaaDoor
open Go.RowKit

section
variable (s : M.Sea) (dA tA sA lA : Option Addr) (dc tc sc ln lc B base x : Nat) (L : Nat → M.Leg) (w : World)
set_option maxRecDepth 100000 in
set_option maxHeartbeats 3200000 in
theorem goes_any (at_ lv dr fr dst : Int) (tl : Bool) (p : Int) (q t : Nat) (hs : s.Ok) (ht : TrK w base x s.nd s dA tA sA lA dc tc sc ln lc) (hR : RdC w B dA tA sA s.nd s.nt s.nt s.dep s.tide s.sw) (hB : B ≤ w.heap.size) (hL : RdL w B lA ln L) (hln : ln ≤ 1048576)
    (hok : ∀ i, i < ln → M.LegOk s (L i)) (hq : q < s.nd) (htk : t < s.nt) (hu : M.unit lv dr = true) :
    Calls Tryd.prog 66 #[.pointer (some ⟨x, 0, none⟩), .agg #[.int .i64 at_, .int .i64 lv, .int .i64 dr, .bool tl, .int .i64 fr, .int .i64 dst], .int .i64 p, .int .i64 (q : Int), .int .i64 (t : Int)] w fun e w' => e = .returned (.bool (M.goes s L ln ⟨at_, lv, dr, tl, fr, dst⟩ p q t)) ∧ Below w.heap.size w w' := by
  have hnt := hs.t2
  have HG := Lib.hid (show M.goes s L ln ⟨at_, lv, dr, tl, fr, dst⟩ p q t = (M.can s lv dr q t && !(M.anyTo ln fun i => hitL lv tl p q t (L i))) from rfl)
  have HB0 := Lib.hid ((belowAlloc2 w (.cells #[.int .i64 at_, .int .i64 lv, .int .i64 dr, .bool tl, .int .i64 fr, .int .i64 dst] 28) (.cells #[.int .i64 (t : Int)] 3)).alloc (by simp; omega) (.cells #[.int .i64 lv, .int .i64 p, .int .i64 (q : Int), .bool tl] 82))
  have P0 := Lib.hid (((Blk.new w 28 #[.int .i64 at_, .int .i64 lv, .int .i64 dr, .bool tl, .int .i64 fr, .int .i64 dst]).alloc (.cells #[.int .i64 (t : Int)] 3)).alloc (.cells #[.int .i64 lv, .int .i64 p, .int .i64 (q : Int), .bool tl] 82))
  have T0 := Lib.hid ((Blk.new1 w (.cells #[.int .i64 at_, .int .i64 lv, .int .i64 dr, .bool tl, .int .i64 fr, .int .i64 dst] 28) 3 #[.int .i64 (t : Int)]).alloc (.cells #[.int .i64 lv, .int .i64 p, .int .i64 (q : Int), .bool tl] 82))
  have O0 := Lib.hid (Blk.new2 w (.cells #[.int .i64 at_, .int .i64 lv, .int .i64 dr, .bool tl, .int .i64 fr, .int .i64 dst] 28) (.cells #[.int .i64 (t : Int)] 3) 82 #[.int .i64 lv, .int .i64 p, .int .i64 (q : Int), .bool tl])
  have HF := Lib.hid (fun W (hb : Below w.heap.size w W) => floats_any s dA tA sA lA dc tc sc ln lc B base x W lv dr q t hs (ht.below hb) (hR.below (hb.mono hB)) (Nat.le_trans hB hb.size) hq htk hu)
  have HC := Lib.hid (fun W T O (hb : Below w.heap.size w W) (hT : Blk W T 3 #[.int .i64 (t : Int)]) (hO : Blk W O 82 #[.int .i64 lv, .int .i64 p, .int .i64 (q : Int), .bool tl]) => con_leg lA ln lc B L 88 #[.pointer (some ⟨T, 0, none⟩), .pointer (some ⟨O, 0, none⟩)] (hitL lv tl p q t) W hln (hL.below (hb.mono hB)) (Nat.le_trans hB hb.size) (.inl rfl) fun W' i cA cc hi hb' hr => gchk_any s (L i) cc B T O cA lv p q t tl W' hs (hok i hi) (by omega) hr (Nat.le_trans (Nat.le_trans hB hb.size) hb'.size) (hT.below' hb') (hO.below' hb'))
  obtain ⟨gv, hgv⟩ : ∃ gv, gv = M.goes s L ln ⟨at_, lv, dr, tl, fr, dst⟩ p q t := ⟨_, rfl⟩
  rw [← hgv] at HG
  rw [← hgv]
  have HT := Lib.hid ht
  clear hgv hs hR hL hok hq htk hu ht
  obtain ⟨Y, hY⟩ : ∃ Y, Y = ((w.alloc (.cells #[.int .i64 at_, .int .i64 lv, .int .i64 dr, .bool tl, .int .i64 fr, .int .i64 dst] 28)).alloc (.cells #[.int .i64 (t : Int)] 3)).alloc (.cells #[.int .i64 lv, .int .i64 p, .int .i64 (q : Int), .bool tl] 82) := ⟨_, rfl⟩
  have HYe := Lib.hid hY
  rw [← hY] at HB0 P0 T0 O0
  clear hY
  go_enter Tryd.func66, Tryd.ntmps66
  go_upto_region 2 with fail
  rw [← HYe.out]
  clear HYe
  have p1 := P0.out.cell 1
  have p2 := P0.out.cell 2
  have t0 := T0.out.cell 0
  cases hcan : M.can s lv dr q t
  · rw [hcan] at HF HG
    clear hcan
    go_wp2_with (go_at_call 87; go_must (refine (HF.out _ HB0.out).mono ?_); rintro e w5 ⟨rfl, hb5⟩; have HB5 := Lib.hid hb5; clear hb5)
    go_ret
    exact ⟨ret_bool (by rw [HG.out]; rfl), HB0.out.trans (HB5.out.mono HB0.out.size)⟩
  · rw [hcan] at HF HG
    clear hcan
    cases hh : M.anyTo ln fun i => hitL lv tl p q t (L i)
    all_goals
      rw [hh] at HC HG
      clear hh
      go_wp2_with (first
        | (go_at_call 87; go_must (refine (HF.out _ HB0.out).mono ?_); rintro e w5 ⟨rfl, hb5⟩; have HB5 := Lib.hid hb5; have x5 : w5.cell? ⟨x, 5, none⟩ = some (.slice lA ln lc) := (by obtain ⟨nA, nc, V, t1, _⟩ := HT.out; exact ((t1.below' HB0.out).below' hb5).cell 5); clear hb5)
        | (go_at_call 47; go_must (refine (HC.out _ _ _ (HB0.out.trans (HB5.out.mono HB0.out.size)) (T0.out.below' HB5.out) (O0.out.below' HB5.out)).mono ?_); rintro e w6 ⟨rfl, hb6⟩; have HB6 := Lib.hid (HB5.out.trans (hb6.mono HB5.out.size)); clear hb6))
      go_ret
      exact ⟨ret_bool (by rw [HG.out]; rfl), HB0.out.trans (HB6.out.mono HB0.out.size)⟩
end
end Go.Proofs.YtkdpmihdhiokkaaDoor
/- (*traffic).trip: is a trip valid. -/
namespace Go.Proofs.YtkdpmihdhiokkaaDoor
open Go.RowKit

section
variable (s : M.Sea) (dA tA sA lA : Option Addr) (dc tc sc ln lc base x : Nat) (w : World)
set_option maxRecDepth 100000 in
set_option maxHeartbeats 3200000 in
theorem trip_any (at_ lv dr fr dst : Int) (tl : Bool) (hs : s.Ok) (ht : TrK w base x s.nd s dA tA sA lA dc tc sc ln lc) :
    Calls Tryd.prog 58 #[.pointer (some ⟨x, 0, none⟩), .agg #[.int .i64 at_, .int .i64 lv, .int .i64 dr, .bool tl, .int .i64 fr, .int .i64 dst]] w fun e w' => e = .returned (.bool (M.tripOk s ⟨at_, lv, dr, tl, fr, dst⟩)) ∧ Below w.heap.size w w' := by
  have HT := Lib.hid (show M.tripOk s ⟨at_, lv, dr, tl, fr, dst⟩ = (M.inB 0 ((s.nt : Int) - 1) at_ && M.inB 0 ((s.nd : Int) - 1) fr && M.inB 0 ((s.nd : Int) - 1) dst && M.unit lv dr) from rfl)
  have hnd := hs.nd1
  have hnt : 1 ≤ s.nt ∧ s.nt ≤ 60 := ⟨hs.t1, hs.t2⟩
  have HB0 := Lib.hid (belowAlloc w (.cells #[.int .i64 at_, .int .i64 lv, .int .i64 dr, .bool tl, .int .i64 fr, .int .i64 dst] 28))
  obtain ⟨Y, hY⟩ : ∃ Y, Y = w.alloc (.cells #[.int .i64 at_, .int .i64 lv, .int .i64 dr, .bool tl, .int .i64 fr, .int .i64 dst] 28) := ⟨_, rfl⟩
  have P0 := Lib.hid (Blk.new w 28 #[.int .i64 at_, .int .i64 lv, .int .i64 dr, .bool tl, .int .i64 fr, .int .i64 dst])
  have TY := Lib.hid (ht.below HB0.out)
  rw [← hY] at HB0 P0 TY
  have HYe := Lib.hid hY
  have x2 : Y.cell? ⟨x, 2, none⟩ = some (.slice dA s.nd dc) := by obtain ⟨nA, nc, V, t1, _⟩ := TY.out; exact t1.cell 2
  have x3 : Y.cell? ⟨x, 3, none⟩ = some (.slice tA s.nt tc) := by obtain ⟨nA, nc, V, t1, _⟩ := TY.out; exact t1.cell 3
  have HTK := Lib.hid (fun (q : Int) => tick_any x s.nd s.nt tc tA Y x3 ⟨hnd, hnt⟩ q)
  have HCL := Lib.hid (fun (q : Int) => cell_any x s.nd s.nt dc dA Y x2 ⟨hnd, hnt⟩ q)
  have p0 := P0.out.cell 0
  have p1 := P0.out.cell 1
  have p2 := P0.out.cell 2
  have p4 := P0.out.cell 4
  have p5 := P0.out.cell 5
  obtain ⟨tv, htv⟩ : ∃ tv, tv = M.tripOk s ⟨at_, lv, dr, tl, fr, dst⟩ := ⟨_, rfl⟩
  rw [← htv] at HT
  rw [← htv]
  clear htv hs ht x2 x3 hY
  cases q1 : M.inB 0 ((s.nt : Int) - 1) at_
  all_goals (cases q2 : M.inB 0 ((s.nd : Int) - 1) fr)
  all_goals (cases q3 : M.inB 0 ((s.nd : Int) - 1) dst)
  all_goals (cases q4 : M.unit lv dr)
  all_goals
    have HR := HT.out
    rw [q1, q2, q3, q4] at HR
    have HRR := Lib.hid HR
    clear HR
    go_enter Tryd.func58, Tryd.ntmps58
    go_upto_region 1 with fail
    rw [← HYe.out]
    go_wp2_with (first
      | (go_at_call 83; refine (HTK.out _).mono ?_; rintro e w1 ⟨rfl, rfl⟩)
      | (go_at_call 46; refine (HCL.out _).mono ?_; rintro e w1 ⟨rfl, rfl⟩)
      | (go_at_call 84; refine (kind_any _ _ _).mono ?_; rintro e w1 ⟨rfl, rfl⟩))
    go_ret
    exact ⟨ret_bool (by rw [HRR.out]; rfl), HB0.out⟩
end
end Go.Proofs.YtkdpmihdhiokkaaDoor
/- lanes.open at a chart that is not valid; lanes.Check; lanes.ask. -/
namespace Go.Proofs.YtkdpmihdhiokkaaDoor
open Go.RowKit

section
variable (W H : Int) (dA tA sA lA : Option Addr) (nd dc nt tc ns sc ln lc B : Nat) (dep : Nat → Int) (tide : Nat → Nat → Int) (sw : Nat → Int) (w : World)
set_option maxRecDepth 100000 in
set_option maxHeartbeats 1600000 in
theorem lopen_bad (hnd : nd ≤ maxLen) (hnt : nt ≤ maxLen) (hns : ns ≤ maxLen) (hR : RdC w B dA tA sA nd nt ns dep tide sw) (hB : B ≤ w.heap.size) (hbad : M.chkC W H nd nt ns dep tide sw = false) :
    Calls Tryd.prog 40 #[.agg #[.int .i64 W, .int .i64 H, .slice dA nd dc, .slice tA nt tc, .slice sA ns sc], .slice lA ln lc] w fun e w' => e = .returned (.tuple #[.pointer none, .int .i64 10]) ∧ Below w.heap.size w w' := by
  have HB0 := Lib.hid (belowAlloc w (.cells #[.int .i64 W, .int .i64 H, .slice dA nd dc, .slice tA nt tc, .slice sA ns sc] 25))
  have HC := Lib.hid (cchk_any W H dA tA sA nd dc nt tc ns sc B dep tide sw (w.alloc (.cells #[.int .i64 W, .int .i64 H, .slice dA nd dc, .slice tA nt tc, .slice sA ns sc] 25)) hnd hnt hns (hR.below (HB0.out.mono hB)) (Nat.le_trans hB HB0.out.size))
  rw [hbad, if_neg (by simp)] at HC
  clear hR hbad
  go_enter Tryd.func40, Tryd.ntmps40
  go_wp2_with (go_at_call 70; go_must (refine HC.out.mono ?_); rintro e w1 ⟨rfl, hb1⟩; have HB1 := Lib.hid (HB0.out.trans (hb1.mono HB0.out.size)); clear hb1)
  go_ret2
  exact ⟨rfl, HB1.out⟩
end
section
variable (s : M.Sea) (dA tA sA lA : Option Addr) (dc tc sc ln lc B : Nat) (L : Nat → M.Leg) (w : World)
/-- the error of legs on a valid chart -/
def M.legsE (s : M.Sea) (n : Nat) (L : Nat → M.Leg) : Int := if M.legsOk s n L then 0 else 60
set_option maxRecDepth 100000 in
set_option maxHeartbeats 1600000 in
theorem lchk_any (hs : s.Ok) (hw : Ways w) (hR : RdC w B dA tA sA s.nd s.nt s.nt s.dep s.tide s.sw) (hB : B ≤ w.heap.size) (hL : RdL w B lA ln L) (hln : ln ≤ 1048576) :
    Calls Tryd.prog 25 #[.agg #[.int .i64 (s.W : Int), .int .i64 (s.H : Int), .slice dA s.nd dc, .slice tA s.nt tc, .slice sA s.nt sc], .slice lA ln lc] w fun e w' => e = .returned (.int .i64 (M.legsE s ln L)) ∧ Below w.heap.size w w' := by
  have HE := Lib.hid (show M.legsE s ln L = if M.legsOk s ln L then 0 else 60 from rfl)
  have HB0 := Lib.hid (belowAlloc w (.cells #[.int .i64 (s.W : Int), .int .i64 (s.H : Int), .slice dA s.nd dc, .slice tA s.nt tc, .slice sA s.nt sc] 25))
  have HO := Lib.hid (lopen_any s dA tA sA lA dc tc sc ln lc w.heap.size L (w.alloc (.cells #[.int .i64 (s.W : Int), .int .i64 (s.H : Int), .slice dA s.nd dc, .slice tA s.nt tc, .slice sA s.nt sc] 25)) hs (hw.below HB0.out) ((hR.below (HB0.out.mono hB)).more hB) HB0.out.size ((hL.below (HB0.out.mono hB)).more hB) hln)
  obtain ⟨er, her⟩ : ∃ er, er = M.legsE s ln L := ⟨_, rfl⟩
  rw [← her] at HE
  rw [← her]
  clear her hs hw hR hL
  cases ho : M.legsOk s ln L
  all_goals
    rw [ho] at HO HE
    have HO2 := Lib.hid (by have h := HO.out; simp only [Bool.false_eq_true, if_false, if_true] at h; exact h)
    have HE2 := Lib.hid (by have h := HE.out; simp only [Bool.false_eq_true, if_false, if_true] at h; exact h)
    clear ho HO HE
    go_enter Tryd.func25, Tryd.ntmps25
    go_wp2_with (first
      | (go_at_call 40; refine HO2.out.mono ?_; rintro e w1 ⟨rfl, hb1⟩; have HB1 := Lib.hid (HB0.out.trans (hb1.mono HB0.out.size)); clear hb1)
      | (go_at_call 40; refine HO2.out.mono ?_; rintro e w1 ⟨⟨x, rfl, hx⟩, hb1⟩; have HB1 := Lib.hid (HB0.out.trans (hb1.mono HB0.out.size)); clear hb1 hx))
    go_ret
    exact ⟨by rw [HE2.out]; rfl, HB1.out⟩
end
end Go.Proofs.YtkdpmihdhiokkaaDoor
/- lanes.ask, where the chart, the legs and the trip are valid. -/
namespace Go.Proofs.YtkdpmihdhiokkaaDoor
open Go.RowKit

section
variable (s : M.Sea) (dA tA sA lA : Option Addr) (dc tc sc ln lc B : Nat) (L : Nat → M.Leg) (w : World)
set_option maxRecDepth 100000 in
set_option maxHeartbeats 1600000 in
theorem ask_ok (at_ lv dr fr dst : Int) (tl : Bool) (hs : s.Ok) (hw : Ways w) (hR : RdC w B dA tA sA s.nd s.nt s.nt s.dep s.tide s.sw) (hB : B ≤ w.heap.size) (hL : RdL w B lA ln L) (hln : ln ≤ 1048576) (hlo : M.legsOk s ln L = true) (hto : M.tripOk s ⟨at_, lv, dr, tl, fr, dst⟩ = true) :
    Calls Tryd.prog 37 #[.agg #[.int .i64 (s.W : Int), .int .i64 (s.H : Int), .slice dA s.nd dc, .slice tA s.nt tc, .slice sA s.nt sc], .slice lA ln lc, .agg #[.int .i64 at_, .int .i64 lv, .int .i64 dr, .bool tl, .int .i64 fr, .int .i64 dst]] w fun e w' =>
      (∃ x, e = .returned (.tuple #[.pointer (some ⟨x, 0, none⟩), .int .i64 0]) ∧ TrK w' w.heap.size x s.nd s dA tA sA lA dc tc sc ln lc) ∧ Below w.heap.size w w' := by
  have HB0 := Lib.hid (belowAlloc2 w (.cells #[.int .i64 (s.W : Int), .int .i64 (s.H : Int), .slice dA s.nd dc, .slice tA s.nt tc, .slice sA s.nt sc] 25) (.cells #[.int .i64 at_, .int .i64 lv, .int .i64 dr, .bool tl, .int .i64 fr, .int .i64 dst] 28))
  have P0 := Lib.hid (Blk.new1 w (.cells #[.int .i64 (s.W : Int), .int .i64 (s.H : Int), .slice dA s.nd dc, .slice tA s.nt tc, .slice sA s.nt sc] 25) 28 #[.int .i64 at_, .int .i64 lv, .int .i64 dr, .bool tl, .int .i64 fr, .int .i64 dst])
  have C0 := Lib.hid ((Blk.new w 25 #[.int .i64 (s.W : Int), .int .i64 (s.H : Int), .slice dA s.nd dc, .slice tA s.nt tc, .slice sA s.nt sc]).alloc (.cells #[.int .i64 at_, .int .i64 lv, .int .i64 dr, .bool tl, .int .i64 fr, .int .i64 dst] 28))
  obtain ⟨Y, hY⟩ : ∃ Y, Y = (w.alloc (.cells #[.int .i64 (s.W : Int), .int .i64 (s.H : Int), .slice dA s.nd dc, .slice tA s.nt tc, .slice sA s.nt sc] 25)).alloc (.cells #[.int .i64 at_, .int .i64 lv, .int .i64 dr, .bool tl, .int .i64 fr, .int .i64 dst] 28) := ⟨_, rfl⟩
  have HYe := Lib.hid hY
  rw [← hY] at HB0 P0 C0
  have HO := Lib.hid (lopen_any s dA tA sA lA dc tc sc ln lc Y.heap.size L Y hs (⟨hw.1.below (HB0.out.mono hw.2), Nat.lt_of_lt_of_le hw.2 HB0.out.size⟩) ((hR.below (HB0.out.mono hB)).more (Nat.le_trans hB HB0.out.size)) (Nat.le_refl _) ((hL.below (HB0.out.mono hB)).more (Nat.le_trans hB HB0.out.size)) hln)
  rw [hlo] at HO
  have HO2 := Lib.hid (by have h := HO.out; simp only [if_true] at h; exact h)
  have HTR := Lib.hid (fun W base x (ht : TrK W base x s.nd s dA tA sA lA dc tc sc ln lc) => trip_any s dA tA sA lA dc tc sc ln lc base x W at_ lv dr fr dst tl hs ht)
  rw [hto] at HTR
  have c0 := C0.out.cell 0
  have c1 := C0.out.cell 1
  have c2 := C0.out.cell 2
  have c3 := C0.out.cell 3
  have c4 := C0.out.cell 4
  clear hY hs hw hR hL hlo hto HO
  go_enter Tryd.func37, Tryd.ntmps37
  go_upto_region 1 with fail
  rw [← HYe.out]
  clear HYe
  go_wp2_with (first
    | (go_at_call 40; go_must (refine HO2.out.mono ?_); rintro e w1 ⟨⟨x, rfl, hx⟩, hb1⟩; have HX := Lib.hid hx; have HB1 := Lib.hid (HB0.out.trans (hb1.mono HB0.out.size)); have p0 := (P0.out.below' hb1).cell 0; have p1 := (P0.out.below' hb1).cell 1; have p2 := (P0.out.below' hb1).cell 2; have p3 := (P0.out.below' hb1).cell 3; have p4 := (P0.out.below' hb1).cell 4; have p5 := (P0.out.below' hb1).cell 5; clear hb1 hx)
    | (go_at_call 58; go_must (refine (HTR.out _ _ _ HX.out).mono ?_); rintro e w2 ⟨rfl, hb2⟩; have HB2 := Lib.hid hb2; clear hb2))
  go_ret2
  exact ⟨⟨x, rfl, (HX.out.below HB2.out).less HB0.out.size⟩, HB1.out.trans (HB2.out.mono HB1.out.size)⟩
end
end Go.Proofs.YtkdpmihdhiokkaaDoor
