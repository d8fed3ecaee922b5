/- The reference of layer 2: step. -/
import Derived.Test.YtnbeembnnjdmdaaGreatDoorE6
namespace Go.Proofs.YtnbeembnnjdmdaaGreatDoor
open Go.RowKit

section
variable {d : M.Dr} {zA cA wA dA tA sA : Option Addr} {cl : Nat → Nat} {B dc tc sc zc cc wc : Nat} {w : World}
def StpR (d : M.Dr) (t : Nat) (l c : Int) (w : World) (e : Ending) (w' : World) : Prop := e = .returned (.slice (some ⟨w.heap.size + 2, 0, none⟩) (d.s.nd + 1) (d.s.nd + 1)) ∧ Mks w' (w.heap.size + 2) (w.heap.size + 2) d.s.nd (fun i => M.stepB d t l c ((i : Int) - 1)) ∧ Below w.heap.size w w'
set_option maxRecDepth 100000 in
set_option maxHeartbeats 6400000 in
theorem rstep_out (t l : Int) (t' : Nat) (l' : Int) (hnd : d.s.nd ≤ 1000000) :
  Calls Tryz.prog 52 #[.agg #[.int .i64 (d.s.W : Int), .int .i64 (d.s.H : Int), .slice dA d.s.nd dc, .slice tA d.s.nt tc, .slice sA d.s.nt sc, .slice zA d.s.nd zc, .slice cA d.nz cc, .slice wA (d.s.nt - 1) wc], .int .i64 (-1), .int .i64 t, .int .i64 l] w (StpR d t' l' (-1) w) := by
 have HB0 := Lib.hid (belowAlloc w (.cells #[.int .i64 (d.s.W : Int), .int .i64 (d.s.H : Int), .slice dA d.s.nd dc, .slice tA d.s.nt tc, .slice sA d.s.nt sc, .slice zA d.s.nd zc, .slice cA d.nz cc, .slice wA (d.s.nt - 1) wc] 29))
 have K0 := Lib.hid (Blk.new w 29 #[.int .i64 (d.s.W : Int), .int .i64 (d.s.H : Int), .slice dA d.s.nd dc, .slice tA d.s.nt tc, .slice sA d.s.nt sc, .slice zA d.s.nd zc, .slice cA d.nz cc, .slice wA (d.s.nt - 1) wc])
 have hN := rnone_any (W := d.s.W) (H := d.s.H) (dA := dA) (dc := dc) (tA := tA) (nt := d.s.nt) (tc := tc) (sA := sA) (ns := d.s.nt) (sc := sc) (zA := zA) (zn := d.s.nd) (zc := zc) (cA := cA) (cn := d.nz) (cc := cc) (wA := wA) (wn := d.s.nt - 1) (wc := wc) (nd := d.s.nd) (w := w.alloc (.cells #[.int .i64 (d.s.W : Int), .int .i64 (d.s.H : Int), .slice dA d.s.nd dc, .slice tA d.s.nt tc, .slice sA d.s.nt sc, .slice zA d.s.nd zc, .slice cA d.nz cc, .slice wA (d.s.nt - 1) wc] 29)) hnd
 rw [show (w.alloc (.cells #[.int .i64 (d.s.W : Int), .int .i64 (d.s.H : Int), .slice dA d.s.nd dc, .slice tA d.s.nt tc, .slice sA d.s.nt sc, .slice zA d.s.nd zc, .slice cA d.nz cc, .slice wA (d.s.nt - 1) wc] 29)).heap.size = w.heap.size + 1 from by simp] at hN
 have HN := Lib.hid (show Calls Tryz.prog 71 #[.agg #[.int .i64 (d.s.W : Int), .int .i64 (d.s.H : Int), .slice dA d.s.nd dc, .slice tA d.s.nt tc, .slice sA d.s.nt sc, .slice zA d.s.nd zc, .slice cA d.nz cc, .slice wA (d.s.nt - 1) wc]] (w.alloc (.cells #[.int .i64 (d.s.W : Int), .int .i64 (d.s.H : Int), .slice dA d.s.nd dc, .slice tA d.s.nt tc, .slice sA d.s.nt sc, .slice zA d.s.nd zc, .slice cA d.nz cc, .slice wA (d.s.nt - 1) wc] 29)) fun e w' => e = .returned (.slice (some ⟨w.heap.size + 2, 0, none⟩) (d.s.nd + 1) (d.s.nd + 1)) ∧ Mks w' (w.heap.size + 2) (w.heap.size + 2) d.s.nd (fun _ => false) ∧ Below (w.heap.size + 1) (w.alloc (.cells #[.int .i64 (d.s.W : Int), .int .i64 (d.s.H : Int), .slice dA d.s.nd dc, .slice tA d.s.nt tc, .slice sA d.s.nt sc, .slice zA d.s.nd zc, .slice cA d.nz cc, .slice wA (d.s.nt - 1) wc] 29)) w' from hN)
 clear hN K0
 unfold StpR
 go_enter Tryz.func52, Tryz.ntmps52
 go_upto_region 2 with (go_at_call 71; go_must (refine HN.out.mono ?_); rintro e w1 ⟨rfl, hm, hb⟩; have HM1 := Lib.hid hm; have HB1 := Lib.hid (HB0.out.trans (hb.mono (by omega))); clear hm hb)
 have m0 := HM1.out.cell (i := 0) (by omega)
 have m1 := HM1.out.frz 0
 go_wp2_with fail
 go_ret
 refine ⟨rfl, (HM1.out.set 0).congr fun i _ => ?_, HB1.out.setCell (p := ⟨w.heap.size + 2, 0, none⟩) (by simp) _⟩
 unfold M.stepB
 rw [if_pos (by omega), Bool.false_or, Bool.eq_iff_iff, decide_eq_true_eq, beq_iff_eq]
 omega
set_option maxRecDepth 100000 in
set_option maxHeartbeats 16000000 in
theorem rstep_in (hd : d.Ok) (hcl : ∀ i, i < d.nz → cl i + 1 = d.s.nt) (hR : RdD w B dA tA sA zA cA wA d.s.nd d.s.nt d.s.nt d.s.nd d.nz (d.s.nt - 1) d.s.dep d.s.tide d.s.sw d.z cl d.cu d.wd) (hB : B ≤ w.heap.size) (c t l : Nat) (hc : c < d.s.nd) (ht : t + 1 < d.s.nt) (hl : l ≤ 8) :
  Calls Tryz.prog 52 #[.agg #[.int .i64 (d.s.W : Int), .int .i64 (d.s.H : Int), .slice dA d.s.nd dc, .slice tA d.s.nt tc, .slice sA d.s.nt sc, .slice zA d.s.nd zc, .slice cA d.nz cc, .slice wA (d.s.nt - 1) wc], .int .i64 (c : Int), .int .i64 (t : Int), .int .i64 (l : Int)] w (StpR d t (l : Int) (c : Int) w) := by
 have hnd := hd.s.nd1
 have hnt := hd.s.t2
 have htide := hd.s.tide t (by omega)
 have hz := hd.z c hc
 obtain ⟨zn, hzn⟩ : ∃ n : Nat, d.z c = (n : Int) := ⟨(d.z c).toNat, by omega⟩
 have hz4 := hd.z4
 have hcuB := M.pushB_iff.1 (hd.cu zn (by omega) t ht)
 have hwdB := M.pushB_iff.1 (hd.wd t ht)
 -- what is read of the drift, in any later world
 have hclz := hcl zn (by omega)
 obtain ⟨zb, zo, rfl, hzb, z0⟩ := hR.z.at_ hc
 obtain ⟨tb, to_, rfl, htb, t0, t1⟩ := hR.c.t.at2 (show t < d.s.nt by omega)
 obtain ⟨cb, co, rA, rc, rfl, hcb, c0, hrd, hclm⟩ := hR.cu.at_ (i := zn) (show zn < d.nz by omega)
 obtain ⟨rb, ro, rfl, hrb, r0, r1, r2⟩ := hrd.at3 (show t < cl zn by omega)
 obtain ⟨wb, wo, rfl, hwb, w0, w1, w2⟩ := hR.wd.at3 (show t < d.s.nt - 1 by omega)
 rw [hzn] at z0
 have hcle : cl zn = d.s.nt - 1 := by omega
 rw [hcle] at c0
 have HTI := Lib.hid (fun (V : World) (hb : Below w.heap.size w V) => (show V.cell? ⟨tb, to_ + t * 2, none⟩ = some (.int .i64 (d.s.tide t 0)) ∧ V.cell? ⟨tb, to_ + t * 2 + 1, none⟩ = some (.int .i64 (d.s.tide t 1)) from ⟨((hb.mono hB).cell (p := ⟨tb, _, none⟩) htb).trans t0, ((hb.mono hB).cell (p := ⟨tb, _, none⟩) htb).trans t1⟩))
 have HRE := Lib.hid (fun (V : World) (hb : Below w.heap.size w V) => (show V.cell? ⟨zb, zo + c, none⟩ = some (.int .i64 (zn : Int)) ∧ V.cell? ⟨cb, co + zn, none⟩ = some (.slice (some ⟨rb, ro, none⟩) (d.s.nt - 1) rc) ∧ V.cell? ⟨rb, ro + t * 3, none⟩ = some (.int .i64 (d.cu zn t 0)) ∧ V.cell? ⟨rb, ro + t * 3 + 1, none⟩ = some (.int .i64 (d.cu zn t 1)) ∧ V.cell? ⟨rb, ro + t * 3 + 2, none⟩ = some (.int .i64 (d.cu zn t 2)) ∧ V.cell? ⟨wb, wo + t * 3, none⟩ = some (.int .i64 (d.wd t 0)) ∧ V.cell? ⟨wb, wo + t * 3 + 1, none⟩ = some (.int .i64 (d.wd t 1)) ∧ V.cell? ⟨wb, wo + t * 3 + 2, none⟩ = some (.int .i64 (d.wd t 2)) from by
  have hb := hb.mono hB
  exact ⟨(hb.cell (p := ⟨zb, _, none⟩) hzb).trans z0, (hb.cell (p := ⟨cb, _, none⟩) hcb).trans c0, (hb.cell (p := ⟨rb, _, none⟩) hrb).trans r0, (hb.cell (p := ⟨rb, _, none⟩) hrb).trans r1, (hb.cell (p := ⟨rb, _, none⟩) hrb).trans r2, (hb.cell (p := ⟨wb, _, none⟩) hwb).trans w0, (hb.cell (p := ⟨wb, _, none⟩) hwb).trans w1, (hb.cell (p := ⟨wb, _, none⟩) hwb).trans w2⟩))
 have HDR := Lib.hid (fun (h : Int) (hh : 0 ≤ h ∧ h ≤ 200) (V : World) (hb : Below w.heap.size w V) => rdry_ok (dc := dc) (tc := tc) (sc := sc) (zc := zc) (cc := cc) (wc := wc) c t h hd hc (by omega) hh (hR.below (hb.mono hB)) (Nat.le_trans hB hb.size))
 have HPU := Lib.hid (fun (q a k : Nat) (h : Int) (hq : q < d.s.nd) (ha : a < 6) (hk : k ≤ 100) (hh : 0 ≤ h ∧ h ≤ 200) (V : World) (hb : Below w.heap.size w V) => rpushed_ok (dc := dc) (tc := tc) (sc := sc) (zc := zc) (cc := cc) (wc := wc) q t a k h hd hq (by omega) ha hk hh (hR.below (hb.mono hB)) (Nat.le_trans hB hb.size))
 have HBD := Lib.hid (fun (q a k : Nat) (h : Int) (hq : q < d.s.nd) => (show ∃ r : Nat, M.pushN d.s t h a k q = (r : Int) - 1 ∧ r < d.s.nd + 1 from by
  have := M.pushN_bd (s := d.s) (t := t) (h := h) (a := a) k q (by rw [← hd.s.nd]; exact hq)
  rw [← hd.s.nd] at this
  exact ⟨(M.pushN d.s t h a k q + 1).toNat, by omega, by omega⟩))
 have HZN := Lib.hid hzn
 have hzl : zn < d.nz := by omega
 have htl : t < d.s.nt - 1 := by omega
 have HZT := Lib.hid (show (d.z c).toNat = zn by omega)
 have HB0 := Lib.hid (belowAlloc w (.cells #[.int .i64 (d.s.W : Int), .int .i64 (d.s.H : Int), .slice dA d.s.nd dc, .slice (some ⟨tb, to_, none⟩) d.s.nt tc, .slice sA d.s.nt sc, .slice (some ⟨zb, zo, none⟩) d.s.nd zc, .slice (some ⟨cb, co, none⟩) d.nz cc, .slice (some ⟨wb, wo, none⟩) (d.s.nt - 1) wc] 29))
 have K0 := Lib.hid (Blk.new w 29 #[.int .i64 (d.s.W : Int), .int .i64 (d.s.H : Int), .slice dA d.s.nd dc, .slice (some ⟨tb, to_, none⟩) d.s.nt tc, .slice sA d.s.nt sc, .slice (some ⟨zb, zo, none⟩) d.s.nd zc, .slice (some ⟨cb, co, none⟩) d.nz cc, .slice (some ⟨wb, wo, none⟩) (d.s.nt - 1) wc])
 have hN := rnone_any (W := d.s.W) (H := d.s.H) (dA := dA) (dc := dc) (tA := some ⟨tb, to_, none⟩) (nt := d.s.nt) (tc := tc) (sA := sA) (ns := d.s.nt) (sc := sc) (zA := some ⟨zb, zo, none⟩) (zn := d.s.nd) (zc := zc) (cA := some ⟨cb, co, none⟩) (cn := d.nz) (cc := cc) (wA := some ⟨wb, wo, none⟩) (wn := d.s.nt - 1) (wc := wc) (nd := d.s.nd) (w := w.alloc (.cells #[.int .i64 (d.s.W : Int), .int .i64 (d.s.H : Int), .slice dA d.s.nd dc, .slice (some ⟨tb, to_, none⟩) d.s.nt tc, .slice sA d.s.nt sc, .slice (some ⟨zb, zo, none⟩) d.s.nd zc, .slice (some ⟨cb, co, none⟩) d.nz cc, .slice (some ⟨wb, wo, none⟩) (d.s.nt - 1) wc] 29)) (by omega)
 rw [show (w.alloc (.cells #[.int .i64 (d.s.W : Int), .int .i64 (d.s.H : Int), .slice dA d.s.nd dc, .slice (some ⟨tb, to_, none⟩) d.s.nt tc, .slice sA d.s.nt sc, .slice (some ⟨zb, zo, none⟩) d.s.nd zc, .slice (some ⟨cb, co, none⟩) d.nz cc, .slice (some ⟨wb, wo, none⟩) (d.s.nt - 1) wc] 29)).heap.size = w.heap.size + 1 from by simp] at hN
 have HN := Lib.hid (show Calls Tryz.prog 71 #[.agg #[.int .i64 (d.s.W : Int), .int .i64 (d.s.H : Int), .slice dA d.s.nd dc, .slice (some ⟨tb, to_, none⟩) d.s.nt tc, .slice sA d.s.nt sc, .slice (some ⟨zb, zo, none⟩) d.s.nd zc, .slice (some ⟨cb, co, none⟩) d.nz cc, .slice (some ⟨wb, wo, none⟩) (d.s.nt - 1) wc]] (w.alloc (.cells #[.int .i64 (d.s.W : Int), .int .i64 (d.s.H : Int), .slice dA d.s.nd dc, .slice (some ⟨tb, to_, none⟩) d.s.nt tc, .slice sA d.s.nt sc, .slice (some ⟨zb, zo, none⟩) d.s.nd zc, .slice (some ⟨cb, co, none⟩) d.nz cc, .slice (some ⟨wb, wo, none⟩) (d.s.nt - 1) wc] 29)) fun e w' => e = .returned (.slice (some ⟨w.heap.size + 2, 0, none⟩) (d.s.nd + 1) (d.s.nd + 1)) ∧ Mks w' (w.heap.size + 2) (w.heap.size + 2) d.s.nd (fun _ => false) ∧ Below (w.heap.size + 1) (w.alloc (.cells #[.int .i64 (d.s.W : Int), .int .i64 (d.s.H : Int), .slice dA d.s.nd dc, .slice (some ⟨tb, to_, none⟩) d.s.nt tc, .slice sA d.s.nt sc, .slice (some ⟨zb, zo, none⟩) d.s.nd zc, .slice (some ⟨cb, co, none⟩) d.nz cc, .slice (some ⟨wb, wo, none⟩) (d.s.nt - 1) wc] 29)) w' from hN)
 clear hN
 clear hd hcl hR hrd z0 t0 t1 c0 r0 r1 r2 w0 w1 w2 hzn hz hcle
 unfold StpR
 go_enter Tryz.func52, Tryz.ntmps52
 go_upto_region 2 with (go_at_call 71; go_must (refine HN.out.mono ?_); rintro e w1 ⟨rfl, hm, hb⟩; have HM1 := Lib.hid hm; have HB1 := Lib.hid (HB0.out.trans (hb.mono (by omega))); have K1 := Lib.hid (K0.out.below hb (by omega)); clear hm hb)
 have HS1 := Lib.hid (show RS d (some ⟨zb, zo, none⟩) (some ⟨cb, co, none⟩) (some ⟨wb, wo, none⟩) dA (some ⟨tb, to_, none⟩) sA dc tc sc zc cc wc w w1 (fun _ => false) from ⟨HM1.out, HB1.out, K1.out⟩)
 have HTI1 := HTI.out w1 HB1.out
 obtain ⟨q0, q1⟩ := HTI1
 have k3 := K1.out.cell 3
 have hcn : ¬ (c : Int) < 0 := by omega
 have HTD := Lib.hid htide
 obtain ⟨x0, hx0⟩ : ∃ x, x = d.s.tide t 0 := ⟨_, rfl⟩
 obtain ⟨x1, hx1⟩ : ∃ x, x = d.s.tide t 1 := ⟨_, rfl⟩
 rw [← hx0] at q0 HTI htide
 rw [← hx1] at q1 HTI htide
 have HX0 := Lib.hid hx0
 have HX1 := Lib.hid hx1
 clear hx0 hx1 HM1 K1 K0 HB0 HN
 go_wp2_with fail
 clear k3 q0 q1
 go_loopw [10] (fun i wr => ∃ (h : Int) (p : Nat → Bool), x0 ≤ h ∧ h ≤ x1 + 1 ∧ i = .int .i64 h ∧ Hid (RS d (some ⟨zb, zo, none⟩) (some ⟨cb, co, none⟩) (some ⟨wb, wo, none⟩) dA (some ⟨tb, to_, none⟩) sA dc tc sc zc cc wc w wr p) ∧ Hid (∀ i, p i = M.spanTo x0 (h - 1) fun h => M.stepH d t (l : Int) h c ((i : Int) - 1))) (fun i _ => (x1 + 1 - intOf i).toNat)
 case atStart => exact ⟨x0, _, by omega, by omega, rfl, HS1, Lib.hid fun i => (M.spanTo_nil (by omega)).symm⟩
 case round =>
  obtain ⟨h, p, hh0, hh1, rfl, HS, HP⟩ := hrel
  clear HS1
  obtain ⟨q0, q1⟩ := HTI.out wr HS.out.b
  obtain ⟨k0, k1, k2, k3, k4, k5, k6, k7⟩ := HS.out.k.c8
  by_cases hlt : h ≤ x1
  ·
   have HDH := Lib.hid (HDR.out h (by omega) wr HS.out.b)
   cases hdy : M.dryB d.s c t h
   ·
    rw [hdy] at HDH
    have HDY := Lib.hid hdy
    clear hdy
    go_upto_region 10 with (go_at_call 92; go_must (refine HDH.out.mono ?_); rintro e w2 ⟨rfl, hb⟩; have HS2 := Lib.hid (HS.out.below hb); clear hb)
    refine wp_mono (Q := fun e a' w' => e = .normal ∧ ∃ (x y : Nat) (u : Nat → Value), a' = { tmps := #[.agg #[.int .i64 (d.s.W : Int), .int .i64 (d.s.H : Int), .slice dA d.s.nd dc, .slice (some ⟨tb, to_, none⟩) d.s.nt tc, .slice sA d.s.nt sc, .slice (some ⟨zb, zo, none⟩) d.s.nd zc, .slice (some ⟨cb, co, none⟩) d.nz cc, .slice (some ⟨wb, wo, none⟩) (d.s.nt - 1) wc], .int .i64 (c : Int), .int .i64 (t : Int), .int .i64 (l : Int), .pointer (some ⟨w.heap.size, 0, none⟩), undef, undef, undef, .slice none 0 0, .slice (some ⟨w.heap.size + 2, 0, none⟩) (d.s.nd + 1) (d.s.nd + 1), .int .i64 h, .pointer (some ⟨x, 0, none⟩), .pointer (some ⟨y, 0, none⟩), u 13, u 14, u 15, u 16, u 17, .agg #[.int .i64 (d.s.W : Int), .int .i64 (d.s.H : Int), .slice dA d.s.nd dc, .slice (some ⟨tb, to_, none⟩) d.s.nt tc, .slice sA d.s.nt sc, .slice (some ⟨zb, zo, none⟩) d.s.nd zc, .slice (some ⟨cb, co, none⟩) d.nz cc, .slice (some ⟨wb, wo, none⟩) (d.s.nt - 1) wc], .slice (some ⟨w.heap.size + 2, 0, none⟩) (d.s.nd + 1) (d.s.nd + 1), .int .i64 (c : Int), .bool false, undef, undef, undef, .pointer (some ⟨w.heap.size, 0, none⟩), .pointer (some ⟨w.heap.size, 3, none⟩), .slice (some ⟨tb, to_, none⟩) d.s.nt tc, .int .i64 (t : Int), .pointer (some ⟨tb, to_ + t * 2, none⟩), .pointer (some ⟨tb, to_ + t * 2, none⟩), .int .i64 x0, u 32, u 33, u 34, u 35, u 36, u 37, u 38, u 39, u 40, u 41, u 42, u 43, u 44, u 45, u 46, u 47, u 48, u 49, u 50, u 51, u 52, u 53, u 54, u 55, u 56, u 57, u 58, u 59, u 60, u 61, u 62, u 63, u 64, u 65, u 66, u 67, u 68, u 69, u 70, u 71, u 72, u 73, u 74, u 75, u 76, u 77, u 78, u 79, u 80, u 81, u 82, u 83, u 84, u 85, u 86, u 87, u 88, u 89, u 90, u 91, u 92, u 93, u 94, u 95, u 96, u 97, u 98, u 99, u 100, u 101, u 102, u 103, u 104, u 105, u 106, u 107, u 108, u 109, u 110, u 111, u 112, u 113, u 114, u 115, u 116, u 117, u 118, u 119, u 120, u 121, u 122, u 123, u 124, u 125, u 126, u 127, u 128, u 129, u 130, u 131, u 132, u 133, u 134, u 135, u 136, u 137, u 138, undef], defers := [] } ∧ RT d (some ⟨zb, zo, none⟩) (some ⟨cb, co, none⟩) (some ⟨wb, wo, none⟩) dA (some ⟨tb, to_, none⟩) sA dc tc sc zc cc wc w (d.cu zn t 0) (d.cu zn t 1) (d.cu zn t 2) (d.wd t 0) (d.wd t 1) (d.wd t 2) x y w' p) ?_ ?_
    ·
     refine wp_region_T 20 (fun w' => Below w2.heap.size w2 w') (by kernel_rfl) (Below.refl _ _).drew ?_
     intro hS
     refine wpAnyT_takeG (i := 0) (v := ?_) rfl (by kernel_rfl) (fun _ _ _ h => absurd h.1 (by simp)) (.inl ⟨by kernel_rfl, ?_⟩) hS ?_
     rotate_left
     · (intro w' hw; have x5 := (HS2.out.k.below' hw).cell 5; have x6 := (HS2.out.k.below' hw).cell 6; have x7 := (HS2.out.k.below' hw).cell 7; obtain ⟨z0, c0, r0, r1, r2, v0, v1, v2⟩ := HRE.out w' (HS2.out.b.trans (hw.mono HS2.out.b.size)); go_simp; try with_reducible rfl)
     try simp only
     refine wpAnyT_takeG (i := 1) (v := ?_) rfl (by kernel_rfl) (fun _ _ _ h => absurd h.1 (by simp)) (.inl ⟨by kernel_rfl, ?_⟩) hS ?_
     rotate_left
     · (intro w' hw; have x5 := (HS2.out.k.below' hw).cell 5; have x6 := (HS2.out.k.below' hw).cell 6; have x7 := (HS2.out.k.below' hw).cell 7; obtain ⟨z0, c0, r0, r1, r2, v0, v1, v2⟩ := HRE.out w' (HS2.out.b.trans (hw.mono HS2.out.b.size)); go_simp; try with_reducible rfl)
     try simp only [put_laws]
     refine wpAnyT_takeG (i := 2) (v := ?_) rfl (by kernel_rfl) (fun _ _ _ h => absurd h.1 (by simp)) (.inl ⟨by kernel_rfl, ?_⟩) hS ?_
     rotate_left
     · (intro w' hw; have x5 := (HS2.out.k.below' hw).cell 5; have x6 := (HS2.out.k.below' hw).cell 6; have x7 := (HS2.out.k.below' hw).cell 7; obtain ⟨z0, c0, r0, r1, r2, v0, v1, v2⟩ := HRE.out w' (HS2.out.b.trans (hw.mono HS2.out.b.size)); go_simp; try with_reducible rfl)
     try simp only [put_laws]
     refine wpAnyT_takeG (i := 3) (v := ?_) rfl (by kernel_rfl) (fun _ _ _ h => absurd h.1 (by simp)) (.inl ⟨by kernel_rfl, ?_⟩) hS ?_
     rotate_left
     · (intro w' hw; have x5 := (HS2.out.k.below' hw).cell 5; have x6 := (HS2.out.k.below' hw).cell 6; have x7 := (HS2.out.k.below' hw).cell 7; obtain ⟨z0, c0, r0, r1, r2, v0, v1, v2⟩ := HRE.out w' (HS2.out.b.trans (hw.mono HS2.out.b.size)); go_simp; try with_reducible rfl)
     try simp only [put_laws]
     refine wpAnyT_takeG (i := 4) (v := ?_) rfl (by kernel_rfl) (fun _ _ _ h => absurd h.1 (by simp)) (.inl ⟨by kernel_rfl, ?_⟩) hS ?_
     rotate_left
     · (intro w' hw; have x5 := (HS2.out.k.below' hw).cell 5; have x6 := (HS2.out.k.below' hw).cell 6; have x7 := (HS2.out.k.below' hw).cell 7; obtain ⟨z0, c0, r0, r1, r2, v0, v1, v2⟩ := HRE.out w' (HS2.out.b.trans (hw.mono HS2.out.b.size)); go_simp; try with_reducible rfl)
     try simp only [put_laws]
     refine wpAnyT_takeG (i := 5) (v := ?_) rfl (by kernel_rfl) (fun _ _ _ h => absurd h.1 (by simp)) (.inl ⟨by kernel_rfl, ?_⟩) hS ?_
     rotate_left
     · (intro w' hw; have x5 := (HS2.out.k.below' hw).cell 5; have x6 := (HS2.out.k.below' hw).cell 6; have x7 := (HS2.out.k.below' hw).cell 7; obtain ⟨z0, c0, r0, r1, r2, v0, v1, v2⟩ := HRE.out w' (HS2.out.b.trans (hw.mono HS2.out.b.size)); go_simp; try with_reducible rfl)
     try simp only [put_laws]
     refine wpAnyT_takeG (i := 6) (v := ?_) rfl (by kernel_rfl) (fun _ _ _ h => absurd h.1 (by simp)) (.inl ⟨by kernel_rfl, ?_⟩) hS ?_
     rotate_left
     · (intro w' hw; have x5 := (HS2.out.k.below' hw).cell 5; have x6 := (HS2.out.k.below' hw).cell 6; have x7 := (HS2.out.k.below' hw).cell 7; obtain ⟨z0, c0, r0, r1, r2, v0, v1, v2⟩ := HRE.out w' (HS2.out.b.trans (hw.mono HS2.out.b.size)); go_simp; try with_reducible rfl)
     try simp only [put_laws]
     refine wpAnyT_takeG (i := 7) (v := ?_) rfl (by kernel_rfl) (fun _ _ _ h => absurd h.1 (by simp)) (.inl ⟨by kernel_rfl, ?_⟩) hS ?_
     rotate_left
     · (intro w' hw; have x5 := (HS2.out.k.below' hw).cell 5; have x6 := (HS2.out.k.below' hw).cell 6; have x7 := (HS2.out.k.below' hw).cell 7; obtain ⟨z0, c0, r0, r1, r2, v0, v1, v2⟩ := HRE.out w' (HS2.out.b.trans (hw.mono HS2.out.b.size)); go_simp; try with_reducible rfl)
     try simp only [put_laws]
     refine wpAnyT_takeG (i := 8) (v := ?_) rfl (by kernel_rfl) (fun _ _ _ h => absurd h.1 (by simp)) (.inl ⟨by kernel_rfl, ?_⟩) hS ?_
     rotate_left
     · (intro w' hw; have x5 := (HS2.out.k.below' hw).cell 5; have x6 := (HS2.out.k.below' hw).cell 6; have x7 := (HS2.out.k.below' hw).cell 7; obtain ⟨z0, c0, r0, r1, r2, v0, v1, v2⟩ := HRE.out w' (HS2.out.b.trans (hw.mono HS2.out.b.size)); go_simp; try with_reducible rfl)
     try simp only [put_laws]
     refine wpAnyT_takeG (i := 9) (v := ?_) rfl (by kernel_rfl) (fun _ _ _ h => absurd h.1 (by simp)) (.inl ⟨by kernel_rfl, ?_⟩) hS ?_
     rotate_left
     · (intro w' hw; have x5 := (HS2.out.k.below' hw).cell 5; have x6 := (HS2.out.k.below' hw).cell 6; have x7 := (HS2.out.k.below' hw).cell 7; obtain ⟨z0, c0, r0, r1, r2, v0, v1, v2⟩ := HRE.out w' (HS2.out.b.trans (hw.mono HS2.out.b.size)); go_simp; try with_reducible rfl)
     try simp only [put_laws]
     refine wpAnyT_takeG (i := 10) (v := ?_) rfl (by kernel_rfl) (fun _ _ _ h => absurd h.1 (by simp)) (.inl ⟨by kernel_rfl, ?_⟩) hS ?_
     rotate_left
     · (intro w' hw; have x5 := (HS2.out.k.below' hw).cell 5; have x6 := (HS2.out.k.below' hw).cell 6; have x7 := (HS2.out.k.below' hw).cell 7; obtain ⟨z0, c0, r0, r1, r2, v0, v1, v2⟩ := HRE.out w' (HS2.out.b.trans (hw.mono HS2.out.b.size)); go_simp; try with_reducible rfl)
     try simp only [put_laws]
     refine wpAnyT_takeG (i := 11) (v := ?_) rfl (by kernel_rfl) (fun _ _ _ h => absurd h.1 (by simp)) (.inl ⟨by kernel_rfl, ?_⟩) hS ?_
     rotate_left
     · (intro w' hw; have x5 := (HS2.out.k.below' hw).cell 5; have x6 := (HS2.out.k.below' hw).cell 6; have x7 := (HS2.out.k.below' hw).cell 7; obtain ⟨z0, c0, r0, r1, r2, v0, v1, v2⟩ := HRE.out w' (HS2.out.b.trans (hw.mono HS2.out.b.size)); go_simp; try with_reducible rfl)
     try simp only [put_laws]
     refine wpAnyT_takeG (i := 12) (v := ?_) rfl (by kernel_rfl) (fun _ _ _ h => absurd h.1 (by simp)) (.inl ⟨by kernel_rfl, ?_⟩) hS ?_
     rotate_left
     · (intro w' hw; have x5 := (HS2.out.k.below' hw).cell 5; have x6 := (HS2.out.k.below' hw).cell 6; have x7 := (HS2.out.k.below' hw).cell 7; obtain ⟨z0, c0, r0, r1, r2, v0, v1, v2⟩ := HRE.out w' (HS2.out.b.trans (hw.mono HS2.out.b.size)); go_simp; try with_reducible rfl)
     try simp only [put_laws]
     refine wpAnyT_takeG (i := 13) (v := ?_) rfl (by kernel_rfl) (fun _ _ _ h => absurd h.1 (by simp)) (.inl ⟨by kernel_rfl, ?_⟩) hS ?_
     rotate_left
     · (intro w' hw; have x5 := (HS2.out.k.below' hw).cell 5; have x6 := (HS2.out.k.below' hw).cell 6; have x7 := (HS2.out.k.below' hw).cell 7; obtain ⟨z0, c0, r0, r1, r2, v0, v1, v2⟩ := HRE.out w' (HS2.out.b.trans (hw.mono HS2.out.b.size)); go_simp; try with_reducible rfl)
     try simp only [put_laws]
     refine wpAnyT_takeG (i := 14) (v := ?_) rfl (by kernel_rfl) (fun _ _ _ h => absurd h.1 (by simp)) (.inl ⟨by kernel_rfl, ?_⟩) hS ?_
     rotate_left
     · (intro w' hw; have x5 := (HS2.out.k.below' hw).cell 5; have x6 := (HS2.out.k.below' hw).cell 6; have x7 := (HS2.out.k.below' hw).cell 7; obtain ⟨z0, c0, r0, r1, r2, v0, v1, v2⟩ := HRE.out w' (HS2.out.b.trans (hw.mono HS2.out.b.size)); go_simp; try with_reducible rfl)
     try simp only [put_laws]
     refine wpAnyT_takeG (i := 15) (v := ?_) rfl (by kernel_rfl) (fun _ _ _ h => absurd h.1 (by simp)) (.inl ⟨by kernel_rfl, ?_⟩) hS ?_
     rotate_left
     · (intro w' hw; have x5 := (HS2.out.k.below' hw).cell 5; have x6 := (HS2.out.k.below' hw).cell 6; have x7 := (HS2.out.k.below' hw).cell 7; obtain ⟨z0, c0, r0, r1, r2, v0, v1, v2⟩ := HRE.out w' (HS2.out.b.trans (hw.mono HS2.out.b.size)); go_simp; try with_reducible rfl)
     try simp only [put_laws]
     refine wpAnyT_takeG (i := 16) (v := ?_) rfl (by kernel_rfl) (fun _ _ _ h => absurd h.1 (by simp)) (.inl ⟨by kernel_rfl, ?_⟩) hS ?_
     rotate_left
     · (intro w' hw; have x5 := (HS2.out.k.below' hw).cell 5; have x6 := (HS2.out.k.below' hw).cell 6; have x7 := (HS2.out.k.below' hw).cell 7; obtain ⟨z0, c0, r0, r1, r2, v0, v1, v2⟩ := HRE.out w' (HS2.out.b.trans (hw.mono HS2.out.b.size)); go_simp; try with_reducible rfl)
     try simp only [put_laws]
     refine wpAnyT_two (i := 17) (j := 18) (by kernel_rfl) rfl rfl ?_ ?_
     ·
      intro K' hK'
      go_simp
      refine hK'.out _ _ (.inr (hS.alloc hS.size _)) ?_
      clear hK' K'
      try simp only [put_laws]
      refine wpAnyT_one (i := 18) (by kernel_rfl) rfl ?_
      intro K' hK'
      go_simp
      refine hK'.out _ _ (.inr ((hS.alloc hS.size _).alloc (hS.alloc hS.size _).size _)) ?_
      clear hK' K'
      try simp only [put_laws]
      refine wpAnyT_one (i := 19) (by kernel_rfl) rfl ?_
      intro K' hK'
      go_simp
      refine hK'.out _ _ (.inr (belowAlloc2 w2 (.cells #[.int .i64 (d.cu zn t 0), .int .i64 (d.cu zn t 1), .int .i64 (d.cu zn t 2)] 142) (.cells #[.int .i64 0, .int .i64 0, .int .i64 0] 142)).drew) ?_
      clear hK' K'
      try simp only [put_laws]
      refine wpAnyT_one (i := 20) (by kernel_rfl) rfl ?_
      intro K' hK'
      go_simp
      refine hK'.out _ _ (.inl rfl) ?_
      clear hK' K'
      try simp only [put_laws]
      refine wpAnyT_done (by kernel_rfl) ?_ _
      have hT : RT d (some ⟨zb, zo, none⟩) (some ⟨cb, co, none⟩) (some ⟨wb, wo, none⟩) dA (some ⟨tb, to_, none⟩) sA dc tc sc zc cc wc w (d.cu zn t 0) (d.cu zn t 1) (d.cu zn t 2) (d.wd t 0) (d.wd t 1) (d.wd t 2) (w2.heap.size) (w2.heap.size + 1) ((w2.alloc (.cells #[.int .i64 (d.cu zn t 0), .int .i64 (d.cu zn t 1), .int .i64 (d.cu zn t 2)] 142)).alloc (.cells #[.int .i64 (d.wd t 0), .int .i64 (d.wd t 1), .int .i64 (d.wd t 2)] 142)).drew p := ⟨HS2.out.below (belowAlloc2 _ _ _).drew, (Blk.new w2 142 #[.int .i64 (d.cu zn t 0), .int .i64 (d.cu zn t 1), .int .i64 (d.cu zn t 2)]).alloc (.cells #[.int .i64 (d.wd t 0), .int .i64 (d.wd t 1), .int .i64 (d.wd t 2)] 142), Blk.new1 w2 (.cells #[.int .i64 (d.cu zn t 0), .int .i64 (d.cu zn t 1), .int .i64 (d.cu zn t 2)] 142) 142 #[.int .i64 (d.wd t 0), .int .i64 (d.wd t 1), .int .i64 (d.wd t 2)]⟩
      generalize ((w2.alloc (.cells #[.int .i64 (d.cu zn t 0), .int .i64 (d.cu zn t 1), .int .i64 (d.cu zn t 2)] 142)).alloc (.cells #[.int .i64 (d.wd t 0), .int .i64 (d.wd t 1), .int .i64 (d.wd t 2)] 142)).drew = W4 at hT ⊢
      exact fr_conv (F := fun (x y : Nat) (u : Nat → Value) => { tmps := #[.agg #[.int .i64 (d.s.W : Int), .int .i64 (d.s.H : Int), .slice dA d.s.nd dc, .slice (some ⟨tb, to_, none⟩) d.s.nt tc, .slice sA d.s.nt sc, .slice (some ⟨zb, zo, none⟩) d.s.nd zc, .slice (some ⟨cb, co, none⟩) d.nz cc, .slice (some ⟨wb, wo, none⟩) (d.s.nt - 1) wc], .int .i64 (c : Int), .int .i64 (t : Int), .int .i64 (l : Int), .pointer (some ⟨w.heap.size, 0, none⟩), undef, undef, undef, .slice none 0 0, .slice (some ⟨w.heap.size + 2, 0, none⟩) (d.s.nd + 1) (d.s.nd + 1), .int .i64 h, .pointer (some ⟨x, 0, none⟩), .pointer (some ⟨y, 0, none⟩), u 13, u 14, u 15, u 16, u 17, .agg #[.int .i64 (d.s.W : Int), .int .i64 (d.s.H : Int), .slice dA d.s.nd dc, .slice (some ⟨tb, to_, none⟩) d.s.nt tc, .slice sA d.s.nt sc, .slice (some ⟨zb, zo, none⟩) d.s.nd zc, .slice (some ⟨cb, co, none⟩) d.nz cc, .slice (some ⟨wb, wo, none⟩) (d.s.nt - 1) wc], .slice (some ⟨w.heap.size + 2, 0, none⟩) (d.s.nd + 1) (d.s.nd + 1), .int .i64 (c : Int), .bool false, undef, undef, undef, .pointer (some ⟨w.heap.size, 0, none⟩), .pointer (some ⟨w.heap.size, 3, none⟩), .slice (some ⟨tb, to_, none⟩) d.s.nt tc, .int .i64 (t : Int), .pointer (some ⟨tb, to_ + t * 2, none⟩), .pointer (some ⟨tb, to_ + t * 2, none⟩), .int .i64 x0, u 32, u 33, u 34, u 35, u 36, u 37, u 38, u 39, u 40, u 41, u 42, u 43, u 44, u 45, u 46, u 47, u 48, u 49, u 50, u 51, u 52, u 53, u 54, u 55, u 56, u 57, u 58, u 59, u 60, u 61, u 62, u 63, u 64, u 65, u 66, u 67, u 68, u 69, u 70, u 71, u 72, u 73, u 74, u 75, u 76, u 77, u 78, u 79, u 80, u 81, u 82, u 83, u 84, u 85, u 86, u 87, u 88, u 89, u 90, u 91, u 92, u 93, u 94, u 95, u 96, u 97, u 98, u 99, u 100, u 101, u 102, u 103, u 104, u 105, u 106, u 107, u 108, u 109, u 110, u 111, u 112, u 113, u 114, u 115, u 116, u 117, u 118, u 119, u 120, u 121, u 122, u 123, u 124, u 125, u 126, u 127, u 128, u 129, u 130, u 131, u 132, u 133, u 134, u 135, u 136, u 137, u 138, undef], defers := [] }) (R := fun x y W => RT d (some ⟨zb, zo, none⟩) (some ⟨cb, co, none⟩) (some ⟨wb, wo, none⟩) dA (some ⟨tb, to_, none⟩) sA dc tc sc zc cc wc w (d.cu zn t 0) (d.cu zn t 1) (d.cu zn t 2) (d.wd t 0) (d.wd t 1) (d.wd t 2) x y W p) _ _ rfl hT
     ·
      intro K' hK'
      go_simp
      refine hK'.out _ _ (.inr (hS.alloc hS.size _)) ?_
      clear hK' K'
      try simp only [put_laws]
      refine wpAnyT_one (i := 17) (by kernel_rfl) rfl ?_
      intro K' hK'
      go_simp
      refine hK'.out _ _ (.inr ((hS.alloc hS.size _).alloc (hS.alloc hS.size _).size _)) ?_
      clear hK' K'
      try simp only [put_laws]
      refine wpAnyT_one (i := 19) (by kernel_rfl) rfl ?_
      intro K' hK'
      go_simp
      refine hK'.out _ _ (.inr (belowAlloc2 w2 (.cells #[.int .i64 0, .int .i64 0, .int .i64 0] 142) (.cells #[.int .i64 (d.cu zn t 0), .int .i64 (d.cu zn t 1), .int .i64 (d.cu zn t 2)] 142)).drew) ?_
      clear hK' K'
      try simp only [put_laws]
      refine wpAnyT_one (i := 20) (by kernel_rfl) rfl ?_
      intro K' hK'
      go_simp
      refine hK'.out _ _ (.inl rfl) ?_
      clear hK' K'
      try simp only [put_laws]
      refine wpAnyT_done (by kernel_rfl) ?_ _
      have hT : RT d (some ⟨zb, zo, none⟩) (some ⟨cb, co, none⟩) (some ⟨wb, wo, none⟩) dA (some ⟨tb, to_, none⟩) sA dc tc sc zc cc wc w (d.cu zn t 0) (d.cu zn t 1) (d.cu zn t 2) (d.wd t 0) (d.wd t 1) (d.wd t 2) (w2.heap.size + 1) (w2.heap.size) ((w2.alloc (.cells #[.int .i64 (d.wd t 0), .int .i64 (d.wd t 1), .int .i64 (d.wd t 2)] 142)).alloc (.cells #[.int .i64 (d.cu zn t 0), .int .i64 (d.cu zn t 1), .int .i64 (d.cu zn t 2)] 142)).drew p := ⟨HS2.out.below (belowAlloc2 _ _ _).drew, Blk.new1 w2 (.cells #[.int .i64 (d.wd t 0), .int .i64 (d.wd t 1), .int .i64 (d.wd t 2)] 142) 142 #[.int .i64 (d.cu zn t 0), .int .i64 (d.cu zn t 1), .int .i64 (d.cu zn t 2)], (Blk.new w2 142 #[.int .i64 (d.wd t 0), .int .i64 (d.wd t 1), .int .i64 (d.wd t 2)]).alloc (.cells #[.int .i64 (d.cu zn t 0), .int .i64 (d.cu zn t 1), .int .i64 (d.cu zn t 2)] 142)⟩
      generalize ((w2.alloc (.cells #[.int .i64 (d.wd t 0), .int .i64 (d.wd t 1), .int .i64 (d.wd t 2)] 142)).alloc (.cells #[.int .i64 (d.cu zn t 0), .int .i64 (d.cu zn t 1), .int .i64 (d.cu zn t 2)] 142)).drew = W4 at hT ⊢
      exact fr_conv (F := fun (x y : Nat) (u : Nat → Value) => { tmps := #[.agg #[.int .i64 (d.s.W : Int), .int .i64 (d.s.H : Int), .slice dA d.s.nd dc, .slice (some ⟨tb, to_, none⟩) d.s.nt tc, .slice sA d.s.nt sc, .slice (some ⟨zb, zo, none⟩) d.s.nd zc, .slice (some ⟨cb, co, none⟩) d.nz cc, .slice (some ⟨wb, wo, none⟩) (d.s.nt - 1) wc], .int .i64 (c : Int), .int .i64 (t : Int), .int .i64 (l : Int), .pointer (some ⟨w.heap.size, 0, none⟩), undef, undef, undef, .slice none 0 0, .slice (some ⟨w.heap.size + 2, 0, none⟩) (d.s.nd + 1) (d.s.nd + 1), .int .i64 h, .pointer (some ⟨x, 0, none⟩), .pointer (some ⟨y, 0, none⟩), u 13, u 14, u 15, u 16, u 17, .agg #[.int .i64 (d.s.W : Int), .int .i64 (d.s.H : Int), .slice dA d.s.nd dc, .slice (some ⟨tb, to_, none⟩) d.s.nt tc, .slice sA d.s.nt sc, .slice (some ⟨zb, zo, none⟩) d.s.nd zc, .slice (some ⟨cb, co, none⟩) d.nz cc, .slice (some ⟨wb, wo, none⟩) (d.s.nt - 1) wc], .slice (some ⟨w.heap.size + 2, 0, none⟩) (d.s.nd + 1) (d.s.nd + 1), .int .i64 (c : Int), .bool false, undef, undef, undef, .pointer (some ⟨w.heap.size, 0, none⟩), .pointer (some ⟨w.heap.size, 3, none⟩), .slice (some ⟨tb, to_, none⟩) d.s.nt tc, .int .i64 (t : Int), .pointer (some ⟨tb, to_ + t * 2, none⟩), .pointer (some ⟨tb, to_ + t * 2, none⟩), .int .i64 x0, u 32, u 33, u 34, u 35, u 36, u 37, u 38, u 39, u 40, u 41, u 42, u 43, u 44, u 45, u 46, u 47, u 48, u 49, u 50, u 51, u 52, u 53, u 54, u 55, u 56, u 57, u 58, u 59, u 60, u 61, u 62, u 63, u 64, u 65, u 66, u 67, u 68, u 69, u 70, u 71, u 72, u 73, u 74, u 75, u 76, u 77, u 78, u 79, u 80, u 81, u 82, u 83, u 84, u 85, u 86, u 87, u 88, u 89, u 90, u 91, u 92, u 93, u 94, u 95, u 96, u 97, u 98, u 99, u 100, u 101, u 102, u 103, u 104, u 105, u 106, u 107, u 108, u 109, u 110, u 111, u 112, u 113, u 114, u 115, u 116, u 117, u 118, u 119, u 120, u 121, u 122, u 123, u 124, u 125, u 126, u 127, u 128, u 129, u 130, u 131, u 132, u 133, u 134, u 135, u 136, u 137, u 138, undef], defers := [] }) (R := fun x y W => RT d (some ⟨zb, zo, none⟩) (some ⟨cb, co, none⟩) (some ⟨wb, wo, none⟩) dA (some ⟨tb, to_, none⟩) sA dc tc sc zc cc wc w (d.cu zn t 0) (d.cu zn t 1) (d.cu zn t 2) (d.wd t 0) (d.wd t 1) (d.wd t 2) x y W p) _ _ rfl hT
    ·
     rintro e a' w3 ⟨rfl, x, y, u, rfl, hT⟩
     have HT0 := Lib.hid hT
     clear hT HDH HS2 k0 k1 k2 k3 k4 k5 k6 k7 q0 q1 HTI HRE HDR
     have HH2 := Lib.hid (show 0 ≤ h ∧ h ≤ 200 by omega)
     have HHH := Lib.hid (And.intro hh0 (And.intro hh1 hlt))
     clear htide hz4 hclz hzb htb hcb hclm hrb hwb hzl htl hcn hh0 hh1 hlt
     have HA := Lib.hid (show ∀ i a, M.stA d t (l : Int) h c i a = (M.bitB (d.cu zn t 0) a && M.spanTo (d.cu zn t 1) (d.cu zn t 2) fun n => M.stF d t (l : Int) h c a n i) from fun i a => by unfold M.stA; rw [HZT.out])
     have HG := Lib.hid (show ∀ m i b, M.stG d t (l : Int) h m i b = (M.bitB (d.wd t 0) b && M.spanTo (d.wd t 1) (d.wd t 2) fun f => M.pushN d.s t h b (f * (l : Int) / 4).toNat m == (i : Int) - 1) from fun m i b => rfl)
     obtain ⟨c0, hc0⟩ : ∃ z, z = d.cu zn t 0 := ⟨_, rfl⟩
     obtain ⟨c1, hc1⟩ : ∃ z, z = d.cu zn t 1 := ⟨_, rfl⟩
     obtain ⟨c2, hc2⟩ : ∃ z, z = d.cu zn t 2 := ⟨_, rfl⟩
     obtain ⟨v0, hv0⟩ : ∃ z, z = d.wd t 0 := ⟨_, rfl⟩
     obtain ⟨v1, hv1⟩ : ∃ z, z = d.wd t 1 := ⟨_, rfl⟩
     obtain ⟨v2, hv2⟩ : ∃ z, z = d.wd t 2 := ⟨_, rfl⟩
     have hb1 := hcuB
     have hb2 := hwdB
     rw [← hc0, ← hc1, ← hc2] at hb1 HA
     rw [← hv0, ← hv1, ← hv2] at hb2 HG
     rw [← hc0, ← hc1, ← hc2, ← hv0, ← hv1, ← hv2] at HT0
     clear hc0 hc1 hc2 hv0 hv1 hv2 hcuB hwdB
     obtain ⟨n1, rfl⟩ : ∃ n : Nat, c1 = (n : Int) := ⟨c1.toNat, by omega⟩
     obtain ⟨f1, rfl⟩ : ∃ n : Nat, v1 = (n : Int) := ⟨v1.toNat, by omega⟩
     have hb1a := hb1.1
     have hb1b := hb1.2.2.1
     have hb1c := hb1.2.2.2
     have hb2b := hb2.2.2.1
     have hb2c := hb2.2.2.2
     clear hb1 hb2
     go_wp2_with fail
     go_loopw [13] (fun v wr => ∃ (a : Nat) (p1 : Nat → Bool), a ≤ 6 ∧ v = .int .i64 (a : Int) ∧ Hid (RT d (some ⟨zb, zo, none⟩) (some ⟨cb, co, none⟩) (some ⟨wb, wo, none⟩) dA (some ⟨tb, to_, none⟩) sA dc tc sc zc cc wc w c0 (n1 : Int) c2 v0 (f1 : Int) v2 x y wr p1) ∧ Hid (∀ i, p1 i = (p i || M.anyTo a (M.stA d t (l : Int) h c i)))) (fun v _ => 6 - (intOf v).toNat)
     case atStart => exact ⟨0, p, Nat.zero_le _, rfl, HT0, Lib.hid fun i => by simp [M.anyTo]⟩
     case round =>
      obtain ⟨a, p1, ha, rfl, HT1, HP1⟩ := hrel
      clear HT0
      obtain ⟨b0, b1, b2⟩ := HT1.out.x.c3
      by_cases hlt6 : a < 6
      ·
       have ha6 : (a : Int) < 6 := by omega
       go_wp2_with fail
       clear b0 b1 b2
       go_loopw [14] (fun v wr => ∃ (n : Nat) (p2 : Nat → Bool), n1 ≤ n ∧ (n : Int) ≤ c2 + 1 ∧ v = .int .i64 (n : Int) ∧ Hid (RT d (some ⟨zb, zo, none⟩) (some ⟨cb, co, none⟩) (some ⟨wb, wo, none⟩) dA (some ⟨tb, to_, none⟩) sA dc tc sc zc cc wc w c0 (n1 : Int) c2 v0 (f1 : Int) v2 x y wr p2) ∧ Hid (∀ i, p2 i = (p1 i || (M.bitB c0 a && M.spanTo (n1 : Int) ((n : Int) - 1) fun n => M.stF d t (l : Int) h c a n i)))) (fun v _ => (c2 + 1 - intOf v).toNat)
       case atStart => exact ⟨n1, p1, Nat.le_refl _, by omega, rfl, HT1, Lib.hid fun i => by rw [M.spanTo_nil (by omega), Bool.and_false, Bool.or_false]⟩
       case round =>
        obtain ⟨n, p2, hn1, hn2, rfl, HT2, HP2⟩ := hrel
        clear HT1
        obtain ⟨b0, b1, b2⟩ := HT2.out.x.c3
        cases hbt : M.bitB c0 a
        ·
         have hbt2 := bit_zero hbt
         have HBT := Lib.hid hbt
         clear hbt
         go_wp2_with fail
         all_goals
          go_roundw
          case rel =>
           refine ⟨a + 1, p2, by omega, by go_num, HT2, Lib.hid fun i => ?_⟩
           rw [HP2.out i, HP1.out i, HBT.out, Bool.false_and, Bool.or_false]
           simp only [M.anyTo]
           rw [HA.out i a, HBT.out, Bool.false_and, Bool.or_false]
          case measure => simp [intOf]; omega
        ·
         have HBT := Lib.hid hbt
         have HBT2 := Lib.hid (bit_one hbt)
         clear hbt
         by_cases hn3 : (n : Int) ≤ c2
         ·
          have k0 := HT2.out.s.k.cell 0
          have k1 := HT2.out.s.k.cell 1
          have k2 := HT2.out.s.k.cell 2
          have k3 := HT2.out.s.k.cell 3
          have k4 := HT2.out.s.k.cell 4
          have k5 := HT2.out.s.k.cell 5
          have k6 := HT2.out.s.k.cell 6
          have k7 := HT2.out.s.k.cell 7
          have hPN := HPU.out c a n h hc (by omega) (by omega) HH2.out wr HT2.out.s.b
          obtain ⟨r, hr1, hr2⟩ := HBD.out c a n h hc
          have HSP := Lib.hid (fun (i : Nat) => (show M.spanTo (n1 : Int) ((n : Int) + 1 - 1) (fun n => M.stF d t (l : Int) h c a n i) = (M.spanTo (n1 : Int) ((n : Int) - 1) (fun n => M.stF d t (l : Int) h c a n i) || M.stF d t (l : Int) h c a (n : Int) i) from by rw [show (n : Int) + 1 - 1 = (n : Int) by omega, M.spanTo_succ (by omega)]))
          by_cases hr0 : r = 0
          ·
           have hr3 : M.pushN d.s t h a n c = -1 := by omega
           have HF := Lib.hid (fun i => M.stF_out (d := d) (t := t) (l := (l : Int)) (h := h) (c := c) (a := a) (i := i) (n := (n : Int)) (by rw [Int.toNat_natCast]; omega))
           rw [hr3] at hPN
           have HPN := Lib.hid hPN
           clear hPN hr1 hr2 hr0 hr3
           have hbt2 := HBT2.out
           go_upto_region 18 with (go_at_call 93; go_must (refine HPN.out.mono ?_); rintro e w4 ⟨rfl, hb⟩; have HT3 := Lib.hid (HT2.out.below hb); clear hb hbt2)
           have m0 := HT3.out.s.m.cell (i := 0) (by omega)
           have m1 := HT3.out.s.m.frz 0
           go_wp2_with fail
           go_roundw
           case rel =>
            refine ⟨n + 1, _, by omega, by omega, by go_num, Lib.hid (HT3.out.set 0), Lib.hid fun i => ?_⟩
            rw [show ((n + 1 : Nat) : Int) = (n : Int) + 1 from rfl, HSP.out i, HP2.out i, HBT.out, HF.out i, Bool.true_and, Bool.true_and, Bool.or_assoc]
           case measure => simp [intOf]; omega
          ·
           obtain ⟨m, rfl⟩ : ∃ m, r = m + 1 := ⟨r - 1, by omega⟩
           have hr3 : M.pushN d.s t h a n c = (m : Int) := by omega
           have hm : m < d.s.nd := by omega
           have HF := Lib.hid (fun i => M.stF_in (d := d) (t := t) (l := (l : Int)) (h := h) (c := c) (a := a) (i := i) (n := (n : Int)) (m := m) (by rw [Int.toNat_natCast]; exact hr3))
           rw [hr3] at hPN
           have HPN := Lib.hid hPN
           have hm0 : ¬ (m : Int) < 0 := by omega
           clear hPN hr1 hr2 hr0 hr3
           have hbt2 := HBT2.out
           go_upto_region 20 with (go_at_call 93; go_must (refine HPN.out.mono ?_); rintro e w4 ⟨rfl, hb⟩; have HT3 := Lib.hid (HT2.out.below hb); clear hb hbt2)
           clear b0 b1 b2 k0 k1 k2 k3 k4 k5 k6 k7 HPN HT2
           go_wp2_with fail
           go_loopw [16] (fun v wr => ∃ (b : Nat) (p3 : Nat → Bool), b ≤ 6 ∧ v = .int .i64 (b : Int) ∧ Hid (RT d (some ⟨zb, zo, none⟩) (some ⟨cb, co, none⟩) (some ⟨wb, wo, none⟩) dA (some ⟨tb, to_, none⟩) sA dc tc sc zc cc wc w c0 (n1 : Int) c2 v0 (f1 : Int) v2 x y wr p3) ∧ Hid (∀ i, p3 i = (p2 i || M.anyTo b (M.stG d t (l : Int) h m i)))) (fun v _ => 6 - (intOf v).toNat)
           case atStart => exact ⟨0, p2, Nat.zero_le _, rfl, HT3, Lib.hid fun i => by simp [M.anyTo]⟩
           case round =>
            obtain ⟨b, p3, hb6, rfl, HT4, HP3⟩ := hrel
            clear HT3
            obtain ⟨b0, b1, b2⟩ := HT4.out.y.c3
            by_cases hlb : b < 6
            ·
             have hb6' : (b : Int) < 6 := by omega
             go_wp2_with fail
             clear b0 b1 b2
             go_loopw [17] (fun v wr => ∃ (f : Nat) (p4 : Nat → Bool), f1 ≤ f ∧ (f : Int) ≤ v2 + 1 ∧ v = .int .i64 (f : Int) ∧ Hid (RT d (some ⟨zb, zo, none⟩) (some ⟨cb, co, none⟩) (some ⟨wb, wo, none⟩) dA (some ⟨tb, to_, none⟩) sA dc tc sc zc cc wc w c0 (n1 : Int) c2 v0 (f1 : Int) v2 x y wr p4) ∧ Hid (∀ i, p4 i = (p3 i || (M.bitB v0 b && M.spanTo (f1 : Int) ((f : Int) - 1) fun f => M.pushN d.s t h b (f * (l : Int) / 4).toNat m == (i : Int) - 1)))) (fun v _ => (v2 + 1 - intOf v).toNat)
             case atStart => exact ⟨f1, p3, Nat.le_refl _, by omega, rfl, HT4, Lib.hid fun i => by rw [M.spanTo_nil (by omega), Bool.and_false, Bool.or_false]⟩
             case round =>
              obtain ⟨f, p4, hf1, hf2, rfl, HT5, HP4⟩ := hrel
              clear HT4
              obtain ⟨b0, b1, b2⟩ := HT5.out.y.c3
              cases hwt : M.bitB v0 b
              ·
               have hwt2 := bit_zero hwt
               have HWT := Lib.hid hwt
               clear hwt
               go_wp2_with fail
               all_goals
                go_roundw
                case rel =>
                 refine ⟨b + 1, p4, by omega, by go_num, HT5, Lib.hid fun i => ?_⟩
                 rw [HP4.out i, HP3.out i, HWT.out, Bool.false_and, Bool.or_false]
                 simp only [M.anyTo]
                 rw [HG.out m i b, HWT.out, Bool.false_and, Bool.or_false]
                case measure => simp [intOf]; omega
              ·
               have HWT := Lib.hid hwt
               have HWT2 := Lib.hid (bit_one hwt)
               clear hwt
               by_cases hf3 : (f : Int) ≤ v2
               ·
                have k0 := HT5.out.s.k.cell 0
                have k1 := HT5.out.s.k.cell 1
                have k2 := HT5.out.s.k.cell 2
                have k3 := HT5.out.s.k.cell 3
                have k4 := HT5.out.s.k.cell 4
                have k5 := HT5.out.s.k.cell 5
                have k6 := HT5.out.s.k.cell 6
                have k7 := HT5.out.s.k.cell 7
                obtain ⟨kf, hkf, hkf6, e1, e2, e3, e4⟩ := fl_facts f l (by omega) hl
                have hPN := HPU.out m b kf h hm hlb (Nat.le_trans hkf6 (by decide)) HH2.out wr HT5.out.s.b
                obtain ⟨r, hr1, hr2⟩ := HBD.out m b kf h hm
                have HSQ := Lib.hid (fun (i : Nat) => (show M.spanTo (f1 : Int) ((f : Int) + 1 - 1) (fun f => M.pushN d.s t h b (f * (l : Int) / 4).toNat m == (i : Int) - 1) = (M.spanTo (f1 : Int) ((f : Int) - 1) (fun f => M.pushN d.s t h b (f * (l : Int) / 4).toNat m == (i : Int) - 1) || decide (i = r)) from by
                 rw [show (f : Int) + 1 - 1 = (f : Int) by omega, M.spanTo_succ (by omega), hkf, Int.toNat_natCast, M.dec_beq i _ r hr1]))
                rw [hr1] at hPN
                have HPN := Lib.hid hPN
                clear hPN hr1 hkf
                have hwt2 := HWT2.out
                go_upto_region 26 with fail
                clear hwt2 b0 b1 b2
                go_wp2_with (go_at_call 93; go_must (refine HPN.out.mono ?_); rintro e w5 ⟨rfl, hb⟩; have HT6 := Lib.hid (HT5.out.below hb); have m0 := HT6.out.s.m.cell (i := r) hr2; have m1 := HT6.out.s.m.frz r; clear hb e1 e2 e3 e4)
                go_roundw
                case rel =>
                 refine ⟨f + 1, _, by omega, by omega, by go_num, Lib.hid (HT6.out.set r), Lib.hid fun i => ?_⟩
                 rw [show ((f + 1 : Nat) : Int) = (f : Int) + 1 from rfl, HSQ.out i, HP4.out i, HWT.out, Bool.true_and, Bool.true_and, Bool.or_assoc]
                case measure => simp [intOf]; omega
               ·
                have hfe : (f : Int) - 1 = v2 := by omega
                have HFE := Lib.hid hfe
                clear hfe
                go_wp2_with fail
                go_roundw
                case rel =>
                 refine ⟨b + 1, p4, by omega, by go_num, HT5, Lib.hid fun i => ?_⟩
                 rw [HP4.out i, HP3.out i, HWT.out, Bool.true_and, HFE.out]
                 simp only [M.anyTo]
                 rw [HG.out m i b, HWT.out, Bool.true_and, Bool.or_assoc]
                case measure => simp [intOf]; omega
            ·
             obtain rfl : b = 6 := by omega
             clear b0 b1 b2
             go_wp2_with fail
             go_roundw
             case rel =>
              refine ⟨n + 1, p3, by omega, by omega, by go_num, Lib.hid HT4.out, Lib.hid fun i => ?_⟩
              rw [show ((n + 1 : Nat) : Int) = (n : Int) + 1 from rfl, HSP.out i, HP3.out i, HP2.out i, HBT.out, HF.out i, Bool.true_and, Bool.true_and, Bool.or_assoc]
             case measure => simp [intOf]; omega
         ·
          have hne : (n : Int) - 1 = c2 := by omega
          have HNE := Lib.hid hne
          clear hne
          go_wp2_with fail
          go_roundw
          case rel =>
           refine ⟨a + 1, p2, by omega, by go_num, HT2, Lib.hid fun i => ?_⟩
           rw [HP2.out i, HP1.out i, HBT.out, Bool.true_and, HNE.out]
           simp only [M.anyTo]
           rw [HA.out i a, HBT.out, Bool.true_and, Bool.or_assoc]
          case measure => simp [intOf]; omega
      ·
       obtain rfl : a = 6 := by omega
       clear b0 b1 b2
       have hx1 := HHH.out.2.2
       have hx2 := HH2.out
       go_wp2_with fail
       go_roundw
       case rel =>
        refine ⟨h + 1, p1, by have := HHH.out.1; omega, by omega, by go_num, Lib.hid HT1.out.s, Lib.hid fun i => ?_⟩
        rw [HP1.out i, HP.out i, show h + 1 - 1 = h by omega, M.spanTo_succ HHH.out.1, M.stepH_A HDY.out]
       case measure => simp [intOf]; omega
   ·
    rw [hdy] at HDH
    have HDY := Lib.hid hdy
    clear hdy
    go_upto_region 9 with (go_at_call 92; go_must (refine HDH.out.mono ?_); rintro e w2 ⟨rfl, hb⟩; have HS2 := Lib.hid (HS.out.below hb); clear hb)
    have m0 := HS2.out.m.cell (i := c + 1) (by omega)
    have m1 := HS2.out.m.frz (c + 1)
    go_wp2_with fail
    go_roundw
    case rel =>
     refine ⟨h + 1, _, by omega, by omega, by go_num, Lib.hid (HS2.out.set (c + 1)), Lib.hid fun i => ?_⟩
     rw [HP.out i, show h + 1 - 1 = h by omega, M.spanTo_succ hh0, show M.stepH d t (l : Int) h c ((i : Int) - 1) = decide (i = c + 1) from by
      rw [Bool.eq_iff_iff, M.stepH_dry HDY.out, decide_eq_true_eq]; omega]
    case measure => simp [intOf]; omega
  ·
   obtain rfl : h = x1 + 1 := by omega
   go_wp2_with fail
   go_ret
   refine ⟨rfl, HS.out.m.congr fun i _ => ?_, HS.out.b⟩
   rw [HP.out i, show x1 + 1 - 1 = x1 by omega, M.stepB_in, ← HX0.out, ← HX1.out]
end
end Go.Proofs.YtnbeembnnjdmdaaGreatDoor
