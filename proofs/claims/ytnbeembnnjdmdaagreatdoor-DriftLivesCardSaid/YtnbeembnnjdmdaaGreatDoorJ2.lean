/- The reference of layer 2: the tables of marks, as they lie; moves and table. -/
import Derived.Test.YtnbeembnnjdmdaaGreatDoorE8
import Derived.Test.YtnbeembnnjdmdaaGreatDoorG6
import Derived.Test.YtnbeembnnjdmdaaGreatDoorD31
import Derived.Test.YtnbeembnnjdmdaaGreatDoorMixIn
namespace Go.Proofs.YtnbeembnnjdmdaaGreatDoor
open Go.RowKit

section
variable {P : Program} {md : Region.Mode} {ops : Array Oper} {Q : Exit → Act → World → Prop} {S : World → Prop} {e : Nat}
theorem takeK {i : Nat} {oi : Oper} {v : Value} {fuel : Nat} {listed : Array Bool} {a : Act} {w : World} (hi : ops[i]? = some oi)
    (hc : (Region.noSelect ops && Region.free md ops listed i && (Region.ready md ops listed).contains i && Region.needs md ops ops.size e i && (!listed.getD e false && e != i && closedB md ops listed)) = true)
    (hy : YieldsIf P ops S oi v a) (hS : S w) (h : wpAnyT P md ops (fun x a w => (∀ c, x ≠ .panic c) ∧ Q x a w) S e fuel (listed.setIfInBounds i true) (a.put oi.dst v) w) : wpAnyT P md ops (fun x a w => (∀ c, x ≠ .panic c) ∧ Q x a w) S e (fuel + 1) listed a w := by
  simp only [Bool.and_eq_true] at hc
  obtain ⟨⟨⟨⟨h1, h2⟩, h3⟩, h4⟩, h5⟩ := hc
  exact wpAnyT_take hi h1 h2 h3 h4 (by simp only [Bool.and_eq_true]; exact h5) (fun _ _ _ h => absurd rfl (h.1 _)) hy hS h
end
def MkV (W : World) (base nd : Nat) (p : Nat → Bool) (v : Value) : Prop := ∃ g, v = .slice (some ⟨g, 0, none⟩) (nd + 1) (nd + 1) ∧ Mks W base g nd p
def LiV (W : World) (base t n : Nat) (P : Nat → Value → Prop) (v : Value) : Prop := ∃ U : Nat → Value, Own W base t 1 v n (fun i _ => U i) ∧ ∀ i, i < n → P i (U i)
section
variable {W W' : World} {base t n nd : Nat} {P P' : Nat → Value → Prop} {v : Value} {p q : Nat → Bool}
theorem MkV.below (h : MkV W base nd p v) (hb : Below W.heap.size W W') : MkV W' base nd p v := by
  obtain ⟨g, e, hm⟩ := h
  exact ⟨g, e, hm.below hb⟩
theorem MkV.less (h : MkV W base nd p v) {base' : Nat} (hb : base' ≤ base) : MkV W base' nd p v := by
  obtain ⟨g, e, hm⟩ := h
  exact ⟨g, e, Own.less hm hb⟩
theorem MkV.apart (h : MkV W base nd p v) {b2 t2 m2 n2 : Nat} {v2 : Value} {F2 : Nat → Nat → Value} (ho : Own W b2 t2 m2 v2 n2 F2) (ht : t2 ≠ 4) (hg : W.grownBy W' v2.ownBlock) : MkV W' base nd p v := by
  obtain ⟨g, e, hm⟩ := h
  exact ⟨g, e, Own.apart_grown hm (ho.apart_type hm ht) hg⟩
theorem LiV.below (h : LiV W base t n P v) (hb : Below W.heap.size W W') (hP : ∀ i u, i < n → P i u → P' i u) : LiV W' base t n P' v := by
  obtain ⟨U, h1, h2⟩ := h
  exact ⟨U, h1.below hb, fun i hi => hP i _ hi (h2 i hi)⟩
theorem LiV.less (h : LiV W base t n P v) {base' : Nat} (hb : base' ≤ base) (hP : ∀ i u, i < n → P i u → P' i u) : LiV W base' t n P' v := by
  obtain ⟨U, h1, h2⟩ := h
  exact ⟨U, h1.less hb, fun i hi => hP i _ hi (h2 i hi)⟩
theorem LiV.apart (h : LiV W base t n P v) {b2 t2 m2 n2 : Nat} {v2 : Value} {F2 : Nat → Nat → Value} (ho : Own W b2 t2 m2 v2 n2 F2) (ht : t2 ≠ t) (hg : W.grownBy W' v2.ownBlock) (hP : ∀ i u, i < n → P i u → P' i u) : LiV W' base t n P' v := by
  obtain ⟨U, h1, h2⟩ := h
  exact ⟨U, Own.apart_grown h1 (ho.apart_type h1 ht) hg, fun i hi => hP i _ hi (h2 i hi)⟩
theorem LiV.form (h : LiV W base t n P v) : ∃ A c, v = .slice A n c := by
  obtain ⟨U, h1, _⟩ := h
  exact h1.form
theorem LiV.nil_ : LiV W base t 0 P (.slice none 0 0) := ⟨fun _ => .slice none 0 0, Own.nil_, fun i hi => absurd hi (by omega)⟩
theorem LiV.at_ (h : LiV W base t n P v) {i : Nat} (hi : i < n) : ∃ g c u, v = .slice (some ⟨g, 0, none⟩) n c ∧ W.cell? ⟨g, i, none⟩ = some u ∧ P i u ∧ base ≤ g ∧ g < W.heap.size := by
  obtain ⟨U, h1, h2⟩ := h
  obtain ⟨g, c, rfl⟩ := Own.nz h1 (by omega)
  exact ⟨g, c, U i, rfl, Own.cell1 h1 hi, h2 i hi, Own.block h1 rfl⟩
theorem LiV.app {v' u : Value} {U : Nat → Value} (ho : Own W' base t 1 v' (n + 1) (upd (fun i _ => U i) n (fun _ => u))) (h2 : ∀ i, i < n → P i (U i)) (hu : P n u) : LiV W' base t (n + 1) P v' := by
  refine ⟨fun i => if i = n then u else U i, Own.congr ho fun i j hi _ => ?_, fun i hi => ?_⟩
  · unfold upd
    by_cases e : i = n
    · simp only [if_pos e]
    · simp only [if_neg e]
  · by_cases e : i = n
    · subst e; simp only [if_true]; exact hu
    · simp only [if_neg e]; exact h2 i (by omega)
end
def RowV (W : World) (base nd n : Nat) (F : Nat → Nat → Bool) (v : Value) : Prop := LiV W base 100 n (fun j => MkV W base nd (F j)) v
def MovV (W : World) (base nd m : Nat) (F : Nat → Nat → Nat → Bool) (v : Value) : Prop := LiV W base 121 m (fun i => RowV W base nd (nd + 1) (F i)) v
section
variable {W W' : World} {base nd n m k : Nat} {v : Value}
theorem RowV.below {F : Nat → Nat → Bool} (h : RowV W base nd n F v) (hb : Below W.heap.size W W') : RowV W' base nd n F v := LiV.below h hb fun _ _ _ h => h.below hb
theorem MovV.below {F : Nat → Nat → Nat → Bool} (h : MovV W base nd m F v) (hb : Below W.heap.size W W') : MovV W' base nd m F v := LiV.below h hb fun _ _ _ h => RowV.below h hb
theorem RowV.less {F : Nat → Nat → Bool} (h : RowV W base nd n F v) {base' : Nat} (hb : base' ≤ base) : RowV W base' nd n F v := LiV.less h hb fun _ _ _ h => h.less hb
theorem RowV.apart {F : Nat → Nat → Bool} (h : RowV W base nd n F v) {b2 t2 m2 n2 : Nat} {v2 : Value} {F2 : Nat → Nat → Value} (ho : Own W b2 t2 m2 v2 n2 F2) (ht : t2 ≠ 100) (ht' : t2 ≠ 4) (hg : W.grownBy W' v2.ownBlock) : RowV W' base nd n F v := LiV.apart h ho ht hg fun _ _ _ h => h.apart ho ht' hg
end
theorem marks_info : (Tryz.prog.info? 100).map (fun i => (i.zero, i.size, i.bytes)) = some (some (.slice none 0 0), 1, 24) := by kernel_rfl
theorem mrow_info : (Tryz.prog.info? 121).map (fun i => (i.zero, i.size, i.bytes)) = some (some (.slice none 0 0), 1, 24) := by kernel_rfl
theorem one_tmp (W : World) (t : TypeId) (u : Value) : ∀ j, j < 1 → (W.alloc (.cells #[u] t)).cell? ⟨W.heap.size, j, none⟩ = some ((fun _ => u) j) := by
  intro j hj
  obtain rfl : j = 0 := by omega
  exact (Blk.new W t #[u]).cell 0
section
variable {d : M.Dr} {zA cA wA dA tA sA : Option Addr} {cl : Nat → Nat} {B dc tc sc zc cc wc xn xc : Nat} {xA : Option Addr} {lo hi : Int} {w : World}
set_option maxRecDepth 100000 in
set_option maxHeartbeats 6400000 in
theorem rmoves_any (hd : d.Ok) (hcl : ∀ i, i < d.nz → cl i + 1 = d.s.nt) (hR : RdD w B dA tA sA zA cA wA d.s.nd d.s.nt d.s.nt d.s.nd d.nz (d.s.nt - 1) d.s.dep d.s.tide d.s.sw d.z cl d.cu d.wd) (hB : B ≤ w.heap.size) (ta l : Nat) (hta : ta < d.s.nt) (hl : l ≤ 8) :
    Calls Tryz.prog 73 #[.agg #[.int .i64 (d.s.W : Int), .int .i64 (d.s.H : Int), .slice dA d.s.nd dc, .slice tA d.s.nt tc, .slice sA d.s.nt sc, .slice zA d.s.nd zc, .slice cA d.nz cc, .slice wA (d.s.nt - 1) wc], .agg #[.int .i64 (ta : Int), .slice xA xn xc, .int .i64 lo, .int .i64 hi], .int .i64 (l : Int)] w fun e w' => (∃ v, e = .returned v ∧ MovV w' w.heap.size d.s.nd (d.s.nt - 1 - ta) (fun i j k => M.stepB d (ta + i) (l : Int) ((j : Int) - 1) ((k : Int) - 1)) v) ∧ Below w.heap.size w w' := by
  have hnt := hd.s.t2
  have hnd := hd.s.nd1
  have HB0 := Lib.hid (belowAlloc2 w (.cells #[.int .i64 (d.s.W : Int), .int .i64 (d.s.H : Int), .slice dA d.s.nd dc, .slice tA d.s.nt tc, .slice sA d.s.nt sc, .slice zA d.s.nd zc, .slice cA d.nz cc, .slice wA (d.s.nt - 1) wc] 29) (.cells #[.int .i64 (ta : Int), .slice xA xn xc, .int .i64 lo, .int .i64 hi] 44))
  have K0 := Lib.hid ((Blk.new w 29 #[.int .i64 (d.s.W : Int), .int .i64 (d.s.H : Int), .slice dA d.s.nd dc, .slice tA d.s.nt tc, .slice sA d.s.nt sc, .slice zA d.s.nd zc, .slice cA d.nz cc, .slice wA (d.s.nt - 1) wc]).alloc (.cells #[.int .i64 (ta : Int), .slice xA xn xc, .int .i64 lo, .int .i64 hi] 44))
  have X0 := Lib.hid (Blk.new1 w (.cells #[.int .i64 (d.s.W : Int), .int .i64 (d.s.H : Int), .slice dA d.s.nd dc, .slice tA d.s.nt tc, .slice sA d.s.nt sc, .slice zA d.s.nd zc, .slice cA d.nz cc, .slice wA (d.s.nt - 1) wc] 29) 44 #[.int .i64 (ta : Int), .slice xA xn xc, .int .i64 lo, .int .i64 hi])
  have HST := Lib.hid (fun (V : World) (hb : Below w.heap.size w V) (c : Int) (t : Nat) (hc : -1 ≤ c ∧ c < d.s.nd) (ht : t + 1 < d.s.nt) => rstep_any (dc := dc) (tc := tc) (sc := sc) (zc := zc) (cc := cc) (wc := wc) hd hcl (hR.below (hb.mono hB)) (Nat.le_trans hB hb.size) c t l hc ht hl)
  obtain ⟨j0, ki, kz0, kz1, kz2⟩ := info_parts marks_info
  have MJ := Lib.hid (And.intro ki (And.intro kz0 (And.intro kz1 kz2)))
  obtain ⟨j1, li, lz0, lz1, lz2⟩ := info_parts mrow_info
  have ML := Lib.hid (And.intro li (And.intro lz0 (And.intro lz1 lz2)))
  obtain ⟨m, hm⟩ : ∃ m, m = d.s.nt - 1 - ta := ⟨_, rfl⟩
  have HM := Lib.hid (show ta + m + 1 = d.s.nt by omega)
  rw [← hm]
  clear ki kz0 kz1 kz2 li lz0 lz1 lz2 hR hd hcl hB hm
  go_enter Tryz.func73, Tryz.ntmps73
  go_upto_region 1 with fail
  generalize (w.alloc (.cells #[.int .i64 (d.s.W : Int), .int .i64 (d.s.H : Int), .slice dA d.s.nd dc, .slice tA d.s.nt tc, .slice sA d.s.nt sc, .slice zA d.s.nd zc, .slice cA d.nz cc, .slice wA (d.s.nt - 1) wc] 29)).alloc (.cells #[.int .i64 (ta : Int), .slice xA xn xc, .int .i64 lo, .int .i64 hi] 44) = X at HB0 K0 X0 ⊢
  have x0 := X0.out.cell 0
  go_wp2_with fail
  clear x0
  go_loopw [7, 8] (fun v i wr => ∃ k : Nat, k ≤ m ∧ i = .int .i64 ((ta + k : Nat) : Int) ∧ Hid (MovV wr w.heap.size d.s.nd k (fun i j k => M.stepB d (ta + i) (l : Int) ((j : Int) - 1) ((k : Int) - 1)) v) ∧ Hid (Below w.heap.size w wr ∧ Blk wr w.heap.size 29 #[.int .i64 (d.s.W : Int), .int .i64 (d.s.H : Int), .slice dA d.s.nd dc, .slice tA d.s.nt tc, .slice sA d.s.nt sc, .slice zA d.s.nd zc, .slice cA d.nz cc, .slice wA (d.s.nt - 1) wc])) (fun _ i _ => ta + m - (intOf i).toNat)
  case atStart => exact ⟨0, Nat.zero_le _, by simp, Lib.hid LiV.nil_, Lib.hid ⟨HB0.out, K0.out⟩⟩
  case round =>
    obtain ⟨k, hk, rfl, HV, HS⟩ := hrel
    obtain ⟨wo, rfl⟩ : ∃ wo, wo = wr := ⟨_, rfl⟩
    clear HB0 K0 X0
    obtain ⟨U, hu1, hu2⟩ := HV.out
    obtain ⟨oA, oc, rfl⟩ := hu1.form
    have HU1 := Lib.hid hu1
    have HU2 := Lib.hid hu2
    have k3 := HS.out.2.cell 3
    have hms := HM.out
    clear hu1 hu2 HV
    by_cases hlt : k < m
    · have g1 : decide (((ta + k : Nat) : Int) < (d.s.nt : Int) - 1) = true := decide_eq_true (by omega)
      obtain ⟨tk, htk⟩ : ∃ tk, tk = ta + k := ⟨_, rfl⟩
      rw [← htk] at g1
      rw [← htk]
      have HTK := Lib.hid htk
      have HT1 := Lib.hid (show tk + 1 < d.s.nt by omega)
      clear htk
      go_wp2_with fail
      clear k3 g1
      go_loopw [9, 10] (fun v i wq => ∃ j : Nat, j ≤ d.s.nd + 1 ∧ i = .int .i64 ((j : Int) - 1) ∧ Hid (RowV wq wo.heap.size d.s.nd j (fun j k => M.stepB d tk (l : Int) ((j : Int) - 1) ((k : Int) - 1)) v) ∧ Hid (Below wo.heap.size wo wq)) (fun _ i _ => (d.s.nd - intOf i).toNat)
      case atStart => exact ⟨0, Nat.zero_le _, by simp, Lib.hid LiV.nil_, Lib.hid (Below.refl _ _)⟩
      case round =>
        obtain ⟨j, hj, rfl, HW, HQ⟩ := hrel
        obtain ⟨U2, hw1, hw2⟩ := HW.out
        obtain ⟨pA, pc, rfl⟩ := hw1.form
        have HW1 := Lib.hid hw1
        have HW2 := Lib.hid hw2
        have K2 := Lib.hid (HS.out.2.below' HQ.out)
        have HBQ := Lib.hid (HS.out.1.trans (HQ.out.mono HS.out.1.size))
        obtain ⟨k0, k1, k2, k3, k4, k5, k6, k7⟩ := K2.out.c8
        clear hw1 hw2 HW
        by_cases hjt : j < d.s.nd + 1
        · have g2 : decide ((j : Int) - 1 < (d.s.nd : Int)) = true := decide_eq_true (by omega)
          have HSC := Lib.hid (HST.out wr HBQ.out ((j : Int) - 1) tk ⟨by omega, by omega⟩ HT1.out)
          go_wp2_with fail
          refine HSC.out.mono ?_
          rintro e w2 ⟨rfl, hm, hb⟩
          have HM2 := Lib.hid hm
          have HB2 := Lib.hid hb
          have HO2 := Lib.hid (HW1.out.below hb)
          have hz := HQ.out.size
          have hz2 := hb.size
          clear hm hb HSC k0 k1 k2 k3 k4 k5 k6 k7 g2
          go_wp2_with (at_builtin; go_must (refine wpList_app rfl (.tmp 30) (.tmp 36) 121 rfl wo.heap.size 100 1 24 Tryz.underlying121 MJ.out.1 MJ.out.2.1 MJ.out.2.2.1 MJ.out.2.2.2 rfl (by decide) (by decide) (Own.alloc HO2.out _) rfl (by omega) (by simp; omega) w2.heap.size 1 (fun _ => (.slice (some ⟨wr.heap.size + 2, 0, none⟩) (d.s.nd + 1) (d.s.nd + 1))) rfl (one_tmp w2 _ (.slice (some ⟨wr.heap.size + 2, 0, none⟩) (d.s.nd + 1) (d.s.nd + 1))) (fun _ _ => rfl) ?_); intro v8 w8 o8 hg8 hat8; have HO8 := Lib.hid o8; have HG8 := Lib.hid hg8; clear o8 hg8 hat8)
          go_roundw
          case rel =>
            refine ⟨j + 1, by omega, by go_num, Lib.hid (LiV.app HO8.out (fun i hi => ?_) ?_), Lib.hid (((HQ.out.trans (HB2.out.mono HQ.out.size)).alloc (Nat.le_trans HQ.out.size hz2) _).grown HG8.out (by simp; omega) fun g hg => ?_)⟩
            · exact (((HW2.out i hi).below HB2.out).below (belowAlloc _ _)).apart (Own.alloc HO2.out _) (by decide) HG8.out
            · exact (MkV.below (W := w2) ⟨_, rfl, Own.less HM2.out (by omega)⟩ (belowAlloc _ _)).apart (Own.alloc HO2.out _) (by decide) HG8.out
            · exact (Own.block HO2.out hg).1
          case measure => simp [intOf]; omega
        · obtain rfl : j = d.s.nd + 1 := by omega
          have g2 : decide (((d.s.nd + 1 : Nat) : Int) - 1 < (d.s.nd : Int)) = false := decide_eq_false (by omega)
          have HO3 := Lib.hid (HU1.out.below HQ.out)
          have hz := HBQ.out.size
          have ht1 := HT1.out
          clear k0 k1 k4 k5 k6 k7 HST
          go_wp2_with (at_builtin; go_must (refine wpList_app rfl (.tmp 38) (.tmp 40) 124 rfl w.heap.size 121 1 24 Tryz.underlying124 ML.out.1 ML.out.2.1 ML.out.2.2.1 ML.out.2.2.2 rfl (by decide) (by decide) (Own.alloc HO3.out _) rfl (by omega) (by simp; omega) wr.heap.size 1 (fun _ => (.slice pA (d.s.nd + 1) pc)) rfl (one_tmp wr _ (.slice pA (d.s.nd + 1) pc)) (fun _ _ => rfl) ?_); intro v8 w8 o8 hg8 hat8; have HO8 := Lib.hid o8; have HG8 := Lib.hid hg8; clear o8 hg8 hat8)
          go_roundw
          case rel =>
            have e := HTK.out
            refine ⟨k + 1, by omega, by rw [show ta + (k + 1) = tk + 1 by omega]; go_num, Lib.hid (LiV.app HO8.out (fun i hi => ?_) ?_), Lib.hid ⟨?_, ?_⟩⟩
            · exact (((HU2.out i hi).below HQ.out).below (belowAlloc _ _)).apart (Own.alloc HO3.out _) (by decide) (by decide) HG8.out
            · show RowV w8 w.heap.size d.s.nd (d.s.nd + 1) (fun j q => M.stepB d (ta + k) (l : Int) ((j : Int) - 1) ((q : Int) - 1)) (.slice pA (d.s.nd + 1) pc)
              rw [← e]
              exact ((RowV.less (W := wr) ⟨U2, HW1.out, HW2.out⟩ HS.out.1.size).below (belowAlloc _ _)).apart (Own.alloc HO3.out _) (by decide) (by decide) HG8.out
            · exact (HBQ.out.alloc hz _).grown HG8.out (by simp; omega) fun g hg => (Own.block HO3.out hg).1
            · exact (K2.out.alloc _).grown_own (Own.alloc HO3.out _) (by decide) HG8.out
          case measure =>
            have e := HTK.out
            simp [intOf]; omega
    · obtain rfl : k = m := by omega
      have g1 : decide (((ta + k : Nat) : Int) < (d.s.nt : Int) - 1) = false := decide_eq_false (by omega)
      clear HST
      go_wp2_with fail
      go_ret
      exact ⟨⟨_, rfl, U, HU1.out, HU2.out⟩, HS.out.1⟩
end
end Go.Proofs.YtnbeembnnjdmdaaGreatDoor
/- The reference of layer 2: some and sets. -/
namespace Go.Proofs.YtnbeembnnjdmdaaGreatDoor
open Go.RowKit

theorem anyTo_con {L : List Int} {x : Int} : M.anyTo L.length (fun i => decide (L.getD i 0 = x)) = L.contains x := by
 rw [Bool.eq_iff_iff, M.anyTo_iff, List.contains_iff_mem]
 constructor
 ·
  rintro ⟨i, hi, h⟩
  have h := of_decide_eq_true h
  rw [List.getD_eq_getElem?_getD, List.getElem?_eq_getElem hi, Option.getD_some] at h
  rw [← h]
  exact List.getElem_mem hi
 ·
  intro h
  obtain ⟨i, hi, rfl⟩ := List.getElem_of_mem h
  exact ⟨i, hi, decide_eq_true (by rw [List.getD_eq_getElem?_getD, List.getElem?_eq_getElem hi, Option.getD_some])⟩
section
variable {w : World} {base g nd : Nat} {q : Int → Bool}
set_option maxRecDepth 100000 in
theorem rsome_any (hM : Mks w base g nd (fun i => q ((i : Int) - 1))) (hnd : nd ≤ 900000) :
  Calls Tryz.prog 74 #[.slice (some ⟨g, 0, none⟩) (nd + 1) (nd + 1)] w fun e w' => e = .returned (.bool (M.anyC nd q)) ∧ Below w.heap.size w w' := by
 have HL := Lib.hid (rlist_any hM hnd)
 have hq : M.anyC nd q = decide (0 < (M.listB nd q).length) := by
  have h := M.listB_ne (nd := nd) (p := q)
  rw [Bool.eq_iff_iff, ← h, decide_eq_true_eq, List.length_pos_iff]
 have hlen := M.listB_len nd q
 rw [hq]
 generalize M.listB nd q = L at HL hlen
 clear hM hq
 go_enter Tryz.func74, Tryz.ntmps74
 go_wp2_with fail
 refine HL.out.mono ?_
 rintro e w' ⟨v, rfl, hv, hb⟩
 obtain ⟨A, c, rfl⟩ := Own.form hv
 have HB := Lib.hid hb
 clear hv hb HL
 go_wp2_with fail
 go_ret
 exact ⟨by congr 2, HB.out⟩
end
structure Rowz (W : World) (base : Nat) (v : Value) (n nd : Nat) (G : Nat → Nat) (Q : Nat → Nat → Bool) : Prop where
 o : Own W base 100 1 v n (fun k _ => .slice (some ⟨G k, 0, none⟩) (nd + 1) (nd + 1))
 m : ∀ k, k < n → Mks W base (G k) nd (Q k)
 inj : ∀ k k', k < n → k' < n → G k = G k' → k = k'
section
variable {W W' : World} {base n nd : Nat} {v : Value} {G : Nat → Nat} {Q Q' : Nat → Nat → Bool}
theorem Rowz.below (h : Rowz W base v n nd G Q) (hb : Below W.heap.size W W') : Rowz W' base v n nd G Q := ⟨h.o.below hb, fun k hk => (h.m k hk).below hb, h.inj⟩
theorem Rowz.congr (h : Rowz W base v n nd G Q) (hq : ∀ k i, k < n → i < nd + 1 → Q k i = Q' k i) : Rowz W base v n nd G Q' := ⟨h.o, fun k hk => (h.m k hk).congr fun i hi => hq k i hk hi, h.inj⟩
theorem Mks.setv {g : Nat} {p : Nat → Bool} (h : Mks W base g nd p) (k : Nat) (b : Bool) : Mks (W.setCell ⟨g, k, none⟩ (.bool b)) base g nd (fun i => if i = k then b else p i) := by
 refine Own.congr (Own.set1 h k (.bool b)) fun i j _ _ => ?_
 unfold upd
 by_cases e : i = k
 · rw [if_pos e]; simp [e]
 · rw [if_neg e]; simp [e]
theorem Mks.other {g g' : Nat} {p : Nat → Bool} (h : Mks W base g nd p) (hg : g ≠ g') (k : Nat) (b : Value) : Mks (W.setCell ⟨g', k, none⟩ b) base g nd p := Own.setCell (p := ⟨g', k, none⟩) h (fun e => hg (by injection e)) b
theorem Mks.type {g : Nat} {p : Nat → Bool} (h : Mks W base g nd p) : ∃ cs, Blk W g 4 cs := by
 rcases h.2 with ⟨h1, _⟩ | ⟨g', cap, cur, h1, _, h3, _⟩
 · cases h1
 ·
  injection h1 with h1
  injection h1 with h1
  injection h1 with h1
  subst h1
  exact ⟨_, h3⟩
theorem Rowz.set {k : Nat} (h : Rowz W base v n nd G Q) (hk : k < n) (j : Nat) (b : Bool) : Rowz (W.setCell ⟨G k, j, none⟩ (.bool b)) base v n nd G (fun i x => if i = k then (if x = j then b else Q k x) else Q i x) := by
 obtain ⟨cs, hcs⟩ := (h.m k hk).type
 refine ⟨h.o.setCell (p := ⟨G k, j, none⟩) (Own.ne_blk h.o hcs (by decide)) _, fun i hi => ?_, h.inj⟩
 by_cases e : i = k
 ·
  subst e
  simp only [if_true]
  exact (h.m i hi).setv j b
 ·
  simp only [if_neg e]
  exact (h.m i hi).other (fun e2 => e (h.inj i k hi hk e2)) j _
theorem Rowz.row {k : Nat} (h : Rowz W base v n nd G Q) (hk : k < n) : ∃ g c, v = .slice (some ⟨g, 0, none⟩) n c ∧ W.cell? ⟨g, k, none⟩ = some (.slice (some ⟨G k, 0, none⟩) (nd + 1) (nd + 1)) := by
 obtain ⟨g, c, e⟩ := Own.nz h.o (by omega)
 subst e
 exact ⟨g, c, rfl, Own.cell1 h.o hk⟩
theorem Rowz.app {v' : Value} {g : Nat} {p : Nat → Bool} (h : Rowz W base v n nd G Q) (hm : Mks W base g nd p) (hg : ∀ k, k < n → G k ≠ g) (hgr : W.grownBy W' v.ownBlock) (ho : Own W' base 100 1 v' (n + 1) (upd (fun k _ => .slice (some ⟨G k, 0, none⟩) (nd + 1) (nd + 1)) n (fun _ => .slice (some ⟨g, 0, none⟩) (nd + 1) (nd + 1)))) :
  Rowz W' base v' (n + 1) nd (fun k => if k = n then g else G k) (fun k => if k = n then p else Q k) := by
 have keep : ∀ {g' : Nat} {p' : Nat → Bool}, Mks W base g' nd p' → Mks W' base g' nd p' := fun hm' => Own.apart_grown hm' (h.o.apart_type hm' (by decide)) hgr
 refine ⟨Own.congr ho fun i j _ _ => ?_, fun k hk => ?_, fun k k' hk hk' e => ?_⟩
 ·
  unfold upd
  by_cases e : i = n
  · simp only [if_pos e]
  · simp only [if_neg e]
 ·
  by_cases e : k = n
  · subst e; simp only [if_true]; exact keep hm
  · simp only [if_neg e]; exact keep (h.m k (by omega))
 ·
  by_cases e1 : k = n
  ·
   by_cases e2 : k' = n
   · omega
   ·
    simp only [if_pos e1, if_neg e2] at e
    exact absurd e.symm (hg k' (by omega))
  ·
   by_cases e2 : k' = n
   ·
    simp only [if_neg e1, if_pos e2] at e
    exact absurd e (hg k (by omega))
   ·
    simp only [if_neg e1, if_neg e2] at e
    exact h.inj k k' (by omega) (by omega) e
theorem MovV.at3 {m : Nat} {A : Option Addr} {c : Nat} {F : Nat → Nat → Nat → Bool} (h : MovV W base nd m F (.slice A m c)) {i j k : Nat} (hi : i < m) (hj : j < nd + 1) (hk : k < nd + 1) :
  ∃ lg g2 c2 g3, A = some ⟨lg, 0, none⟩ ∧ W.cell? ⟨lg, i, none⟩ = some (.slice (some ⟨g2, 0, none⟩) (nd + 1) c2) ∧ W.cell? ⟨g2, j, none⟩ = some (.slice (some ⟨g3, 0, none⟩) (nd + 1) (nd + 1)) ∧ W.cell? ⟨g3, k, none⟩ = some (.bool (F i j k)) := by
 obtain ⟨lg, c1, u, e, h1, h2, _, _⟩ := LiV.at_ h hi
 injection e with e1 _ _
 obtain ⟨g2, c2, u2, rfl, h3, h4, _, _⟩ := LiV.at_ h2 hj
 obtain ⟨g3, rfl, h5⟩ := h4
 exact ⟨lg, g2, c2, g3, e1, h1, h3, h5.cell hk⟩
end
section
variable {W H : Int} {dA tA sA zA cA wA xA hA : Option Addr} {nd dc nt tc ns sc zn zc cn cc wn wc xc hn hc B m ta : Nat} {lo hi : Int} {xL : List Int} {Xs : Nat → SgV} {w : World}
set_option maxRecDepth 100000 in
set_option maxHeartbeats 12800000 in
theorem rsets_any (hnd : nd ≤ 1000) (hm : m ≤ 1000) (hta : ta ≤ 1000) (hB : B ≤ w.heap.size) (hx3 : Rd1 w B xA xL.length (fun k => xL.getD k 0)) (hx4 : xL.length ≤ maxLen) (hRS : RdS w B hA hn Xs) (hhn : hn ≤ maxLen)
  {F : Nat → Nat → Nat → Bool} {bl : Nat} {v0 : Value} (hl : MovV w bl nd m F v0) {P R fit : Nat → Nat → Bool}
  (hfit : ∀ i k, fit i k = M.agAll (fun i => (Xs i).sg) hn ((ta : Int) + i) ((k : Int) - 1))
  (hP0 : ∀ k, P 0 k = (xL.contains ((k : Int) - 1) && fit 0 k)) (hPs : ∀ i k, P (i + 1) k = (M.anyTo (nd + 1) (fun f => P i f && F i f k) && fit (i + 1) k))
  (hR0 : ∀ k, R m k = P m k) (hRs : ∀ i k, i < m → R i k = (P i k && M.anyTo (nd + 1) (fun t => R (i + 1) t && F i k t))) :
  Calls Tryz.prog 72 #[.agg #[.int .i64 W, .int .i64 H, .slice dA nd dc, .slice tA nt tc, .slice sA ns sc, .slice zA zn zc, .slice cA cn cc, .slice wA wn wc], .agg #[.int .i64 (ta : Int), .slice xA xL.length xc, .int .i64 lo, .int .i64 hi], .slice hA hn hc, v0] w fun e w' => (∃ v G, e = .returned v ∧ Rowz w' w.heap.size v (m + 1) nd G R) ∧ Below w.heap.size w w' := by
 have HB0 := Lib.hid (belowAlloc2 w (.cells #[.int .i64 W, .int .i64 H, .slice dA nd dc, .slice tA nt tc, .slice sA ns sc, .slice zA zn zc, .slice cA cn cc, .slice wA wn wc] 29) (.cells #[.int .i64 (ta : Int), .slice xA xL.length xc, .int .i64 lo, .int .i64 hi] 44))
 have K0 := Lib.hid ((Blk.new w 29 #[.int .i64 W, .int .i64 H, .slice dA nd dc, .slice tA nt tc, .slice sA ns sc, .slice zA zn zc, .slice cA cn cc, .slice wA wn wc]).alloc (.cells #[.int .i64 (ta : Int), .slice xA xL.length xc, .int .i64 lo, .int .i64 hi] 44))
 have X0 := Lib.hid (Blk.new1 w (.cells #[.int .i64 W, .int .i64 H, .slice dA nd dc, .slice tA nt tc, .slice sA ns sc, .slice zA zn zc, .slice cA cn cc, .slice wA wn wc] 29) 44 #[.int .i64 (ta : Int), .slice xA xL.length xc, .int .i64 lo, .int .i64 hi])
 obtain ⟨lA, lc, rfl⟩ := LiV.form hl
 have HLV := Lib.hid (fun (V : World) (hb : Below w.heap.size w V) => MovV.below hl hb)
 obtain ⟨xb, hxb⟩ : ∃ f : Int → Bool, f = fun c => xL.contains c := ⟨_, rfl⟩
 have HHS := Lib.hid (fun (V : World) (hb : Below w.heap.size w V) (c : Int) => (show Calls Tryz.prog 106 #[.slice xA xL.length xc, .int .i64 c] V fun e w' => e = .returned (.bool (xb c)) ∧ w' = V from by rw [hxb]; dsimp only; rw [← anyTo_con]; exact rhas_any xA xL.length xc B (fun k => xL.getD k 0) c V hx4 (hx3.below (hb.mono hB))))
 have HAG := Lib.hid (fun (V : World) (hb : Below w.heap.size w V) (i j : Nat) => (show Calls Tryz.prog 107 #[.slice hA hn hc, .int .i64 ((j : Int) - 1), .int .i64 ((ta : Int) + i)] V fun e w' => e = .returned (.bool (fit i j)) ∧ ∃ n, w' = V.drewN n from by rw [hfit]; exact ragrees_any (hc := hc) (hRS.below (hb.mono hB)) (Nat.le_trans hB hb.size) hhn ((j : Int) - 1) ((ta : Int) + i)))
 have HNO := Lib.hid (fun (V : World) => rnone_any (W := W) (H := H) (dA := dA) (tA := tA) (sA := sA) (zA := zA) (cA := cA) (wA := wA) (nd := nd) (dc := dc) (nt := nt) (tc := tc) (ns := ns) (sc := sc) (zn := zn) (zc := zc) (cn := cn) (cc := cc) (wn := wn) (wc := wc) (w := V) (by omega))
 obtain ⟨j0, ki, kz0, kz1, kz2⟩ := info_parts marks_info
 have MJ := Lib.hid (And.intro ki (And.intro kz0 (And.intro kz1 kz2)))
 have HP0 := Lib.hid (show ∀ k : Nat, P 0 k = (xb ((k : Int) - 1) && fit 0 k) from fun k => by rw [hxb]; exact hP0 k)
 have HPS := Lib.hid hPs
 have HR0 := Lib.hid hR0
 have HRS' := Lib.hid hRs
 clear hxb ki kz0 kz1 kz2 hB hx3 hRS hl hP0 hPs hR0 hRs hfit
 go_enter Tryz.func72, Tryz.ntmps72
 go_upto_region 1 with fail
 generalize (w.alloc (.cells #[.int .i64 W, .int .i64 H, .slice dA nd dc, .slice tA nt tc, .slice sA ns sc, .slice zA zn zc, .slice cA cn cc, .slice wA wn wc] 29)).alloc (.cells #[.int .i64 (ta : Int), .slice xA xL.length xc, .int .i64 lo, .int .i64 hi] 44) = X at HB0 K0 X0 ⊢
 go_wp2_with fail
 go_loopw [9, 10] (fun v i wr => ∃ k : Nat, k ≤ m + 1 ∧ i = .int .i64 (k : Int) ∧ ∃ G, Hid (Rowz wr w.heap.size v k nd G P) ∧ Hid (Below w.heap.size w wr ∧ Blk wr w.heap.size 29 #[.int .i64 W, .int .i64 H, .slice dA nd dc, .slice tA nt tc, .slice sA ns sc, .slice zA zn zc, .slice cA cn cc, .slice wA wn wc] ∧ Blk wr (w.heap.size + 1) 44 #[.int .i64 (ta : Int), .slice xA xL.length xc, .int .i64 lo, .int .i64 hi])) (fun _ i _ => m + 1 - (intOf i).toNat)
 case atStart => exact ⟨0, Nat.zero_le _, rfl, fun _ => 0, Lib.hid ⟨Own.nil_, fun k hk => absurd hk (by omega), fun k k' hk => absurd hk (by omega)⟩, Lib.hid ⟨HB0.out, K0.out, X0.out⟩⟩
 case round =>
  obtain ⟨i, hi, rfl, G, HV, HS⟩ := hrel
  obtain ⟨wo, rfl⟩ : ∃ wo, wo = wr := ⟨_, rfl⟩
  clear HB0 K0 X0
  obtain ⟨oA, oc, rfl⟩ := HV.out.o.form
  by_cases hlt : i < m + 1
  ·
   have g1 : decide (i ≤ m) = true := decide_eq_true (by omega)
   have g1' : decide ((i : Int) ≤ (m : Int)) = true := decide_eq_true (by omega)
   obtain ⟨k0, k1, k2, k3, k4, k5, k6, k7⟩ := HS.out.2.1.c8
   have HNX := Lib.hid (HNO.out wo)
   go_wp2_with fail
   refine HNX.out.mono ?_
   rintro e w2 ⟨rfl, hm2, hb⟩
   have M2 := Lib.hid hm2
   have HQ0 := Lib.hid hb
   obtain ⟨g, hg⟩ : ∃ g, g = wo.heap.size + 1 := ⟨_, rfl⟩
   rw [← hg] at M2
   rw [← hg]
   have HG := Lib.hid hg
   clear hm2 hb HNX k0 k1 k2 k3 k4 k5 k6 k7 hg
   go_wp2_with fail
   go_loopw [12] (fun c wr => ∃ j : Nat, j ≤ nd + 1 ∧ c = .int .i64 ((j : Int) - 1) ∧ ∃ p : Nat → Bool, Hid (Mks wr wo.heap.size g nd p) ∧ Hid (∀ k, k < j → p k = P i k) ∧ Hid (Below wo.heap.size wo wr)) (fun c _ => (nd - intOf c).toNat)
   case atStart => exact ⟨0, Nat.zero_le _, rfl, _, Lib.hid (Own.less M2.out (by have := HG.out; omega)), Lib.hid (fun k hk => absurd hk (by omega)), HQ0⟩
   case round =>
    obtain ⟨j, hj, rfl, p, HM, HP, HQ⟩ := hrel
    clear M2 HQ0
    obtain ⟨wi, rfl⟩ : ∃ wi, wi = wr := ⟨_, rfl⟩
    have K2 := Lib.hid (HS.out.2.1.below' HQ.out)
    have X2 := Lib.hid (HS.out.2.2.below' HQ.out)
    have HBQ := Lib.hid (HS.out.1.trans (HQ.out.mono HS.out.1.size))
    have HV2 := Lib.hid (HV.out.below HQ.out)
    have k2 := K2.out.cell 2
    by_cases hjt : j < nd + 1
    ·
     have g2 : decide ((j : Int) - 1 < (nd : Int)) = true := decide_eq_true (by omega)
     rcases Nat.eq_zero_or_pos i with h0 | h0
     ·
      have e0 : decide (i = 0) = true := decide_eq_true h0
      have e0' : decide ((i : Int) = 0) = true := decide_eq_true (by omega)
      have e1 : decide (0 < i) = false := decide_eq_false (by omega)
      have e1' : decide ((0 : Int) < (i : Int)) = false := decide_eq_false (by omega)
      have e2 : ((i : Int) == 0) = true := by simp [h0]
      have HPB := Lib.hid (show (xb ((j : Int) - 1) && fit i j) = P i j from by rw [h0]; exact (HP0.out j).symm)
      have x1 := X2.out.cell 1
      have HHX := Lib.hid (HHS.out wi HBQ.out ((j : Int) - 1))
      clear h0
      go_wp2_with fail
      refine HHX.out.mono ?_
      rintro e w3 ⟨rfl, rfl⟩
      generalize xb ((j : Int) - 1) = b at HPB ⊢
      clear HHX x1
      go_wp2_with fail
      go_loopw [13, 14] (fun cv f wr => cv = .bool b ∧ f = .int .i64 0 ∧ wr = w3) (fun _ _ _ => 0)
      case atStart => exact ⟨rfl, rfl, rfl⟩
      case round =>
       obtain ⟨rfl, rfl, hwr⟩ := hrel
       obtain rfl := hwr
       have x0 := X2.out.cell 0
       cases b
       ·
        have HBV := Lib.hid (show false = P i j from by rw [← HPB.out]; rfl)
        have HMW := Lib.hid HM.out
        have HBW := Lib.hid HQ.out
        have m0 := HMW.out.cell (i := j) hjt
        have f0 := HMW.out.frz j
        have hgl := HMW.out.blk.2
        go_wp2_with fail
        go_roundw
        case rel => exact ⟨j + 1, by omega, by go_num, _, Lib.hid (HMW.out.setv j false), Lib.hid (fun k hk => by
          try dsimp only
          by_cases e : k = j
          · subst e; rw [if_pos rfl]; exact HBV.out
          · rw [if_neg e]; exact HP.out k (by omega)), Lib.hid (HBW.out.setCell (p := ⟨g, j, none⟩) (HG.out ▸ Nat.le_succ _) _)⟩
        case measure => simp [intOf]; omega
       ·
        have HAX := Lib.hid (HAG.out wr HBQ.out i j)
        have HBV := Lib.hid (show fit i j = P i j from by rw [← HPB.out]; rfl)
        go_wp2_with fail
        refine HAX.out.mono ?_
        rintro e w3 ⟨rfl, nq, rfl⟩
        have HMW := Lib.hid (show Mks (wr.drewN nq) wo.heap.size g nd p from HM.out)
        have HBW := Lib.hid (HQ.out.drewN nq)
        generalize wr.drewN nq = wd at HMW HBW ⊢
        generalize fit i j = fb at HBV ⊢
        clear HAX x0
        have m0 := HMW.out.cell (i := j) hjt
        have f0 := HMW.out.frz j
        have hgl := HMW.out.blk.2
        go_wp2_with fail
        go_roundw
        case rel => exact ⟨j + 1, by omega, by go_num, _, Lib.hid (HMW.out.setv j fb), Lib.hid (fun k hk => by
          try dsimp only
          by_cases e : k = j
          · subst e; rw [if_pos rfl]; exact HBV.out
          · rw [if_neg e]; exact HP.out k (by omega)), Lib.hid (HBW.out.setCell (p := ⟨g, j, none⟩) (HG.out ▸ Nat.le_succ _) _)⟩
        case measure => simp [intOf]; omega
     ·
      obtain ⟨i1, hi1⟩ : ∃ i1, i = i1 + 1 := ⟨i - 1, by omega⟩
      have e0 : decide (i = 0) = false := decide_eq_false (by omega)
      have e0' : decide ((i : Int) = 0) = false := decide_eq_false (by omega)
      have e1 : decide (0 < i) = true := decide_eq_true (by omega)
      have e1' : decide ((0 : Int) < (i : Int)) = true := decide_eq_true (by omega)
      have e2 : ((i : Int) == 0) = false := by simp; omega
      have ej : (i : Int) - 1 = (i1 : Int) := by omega
      have HI1 := Lib.hid (show i1 < i ∧ i1 < m from ⟨by omega, by omega⟩)
      have HPE := Lib.hid (show (M.anyTo (nd + 1) (fun f => P i1 f && F i1 f j) && fit i j) = P i j from by rw [hi1]; exact (HPS.out i1 j).symm)
      have hi1m : i1 < m := by omega
      have hi1i : i1 < i := by omega
      clear hi1 h0
      go_wp2_with fail
      go_loopw [13, 14] (fun cv f wr => ∃ q : Nat, q ≤ nd + 1 ∧ f = .int .i64 (q : Int) ∧ ∃ b : Bool, cv = .bool b ∧ Hid (b = M.anyTo q (fun f => P i1 f && F i1 f j)) ∧ wr = wi) (fun _ f _ => nd + 1 - (intOf f).toNat)
      case atStart => exact ⟨0, Nat.zero_le _, rfl, false, rfl, Lib.hid rfl, rfl⟩
      case round =>
       obtain ⟨q, hq, rfl, b, rfl, HBQ1, hwr⟩ := hrel
       obtain rfl := hwr
       by_cases hqt : q < nd + 1
       ·
        have h3 : decide (q < nd + 1) = true := decide_eq_true hqt
        obtain ⟨og, oc', e, c0⟩ := HV2.out.row hi1i
        cases e
        have c1 := (HV2.out.m i1 hi1i).cell (i := q) hqt
        obtain ⟨lg, g2, c2, g3, rfl, l0, l1, l2⟩ := (HLV.out wr HBQ.out).at3 hi1m hqt hjt
        cases b
        ·
         obtain ⟨pb, hpb⟩ : ∃ x, x = P i1 q := ⟨_, rfl⟩
         obtain ⟨fb, hfb⟩ : ∃ x, x = F i1 q j := ⟨_, rfl⟩
         rw [← hpb] at c1
         rw [← hfb] at l2
         have HPB1 := Lib.hid hpb
         have HFB1 := Lib.hid hfb
         clear hpb hfb
         cases pb
         ·
          clear l0 l1 l2
          go_wp2_with fail
          go_roundw
          case rel => exact ⟨q + 1, by omega, by go_num, false, rfl, Lib.hid (by simp only [M.anyTo]; rw [← HBQ1.out, ← HPB1.out]; rfl), trivial⟩
          case measure => simp [intOf]; omega
         ·
          cases fb
          ·
           go_wp2_with fail
           go_roundw
           case rel => exact ⟨q + 1, by omega, by go_num, false, rfl, Lib.hid (by simp only [M.anyTo]; rw [← HBQ1.out, ← HPB1.out, ← HFB1.out]; rfl), trivial⟩
           case measure => simp [intOf]; omega
          ·
           go_wp2_with fail
           go_roundw
           case rel => exact ⟨q + 1, by omega, by go_num, true, rfl, Lib.hid (by simp only [M.anyTo]; rw [← HBQ1.out, ← HPB1.out, ← HFB1.out]; rfl), trivial⟩
           case measure => simp [intOf]; omega
        ·
         clear c0 c1 l0 l1 l2
         go_wp2_with fail
         go_roundw
         case rel => exact ⟨q + 1, by omega, by go_num, true, rfl, Lib.hid (by simp only [M.anyTo]; rw [← HBQ1.out]; rfl), trivial⟩
         case measure => simp [intOf]; omega
       ·
        obtain rfl : q = nd + 1 := by omega
        have h3 : decide (nd + 1 < nd + 1) = false := decide_eq_false (Nat.lt_irrefl _)
        have HPB := Lib.hid (show (b && fit i j) = P i j from by rw [HBQ1.out]; exact HPE.out)
        have x0 := X2.out.cell 0
        cases b
        ·
         have HBV := Lib.hid (show false = P i j from by rw [← HPB.out]; rfl)
         have HMW := Lib.hid HM.out
         have HBW := Lib.hid HQ.out
         have m0 := HMW.out.cell (i := j) hjt
         have f0 := HMW.out.frz j
         have hgl := HMW.out.blk.2
         go_wp2_with fail
         go_roundw
         case rel => exact ⟨j + 1, by omega, by go_num, _, Lib.hid (HMW.out.setv j false), Lib.hid (fun k hk => by
           try dsimp only
           by_cases e : k = j
           · subst e; rw [if_pos rfl]; exact HBV.out
           · rw [if_neg e]; exact HP.out k (by omega)), Lib.hid (HBW.out.setCell (p := ⟨g, j, none⟩) (HG.out ▸ Nat.le_succ _) _)⟩
         case measure => simp [intOf]; omega
        ·
         have HAX := Lib.hid (HAG.out wr HBQ.out i j)
         have HBV := Lib.hid (show fit i j = P i j from by rw [← HPB.out]; rfl)
         go_wp2_with fail
         refine HAX.out.mono ?_
         rintro e w3 ⟨rfl, nq, rfl⟩
         have HMW := Lib.hid (show Mks (wr.drewN nq) wo.heap.size g nd p from HM.out)
         have HBW := Lib.hid (HQ.out.drewN nq)
         generalize wr.drewN nq = wd at HMW HBW ⊢
         generalize fit i j = fb at HBV ⊢
         clear HAX x0
         have m0 := HMW.out.cell (i := j) hjt
         have f0 := HMW.out.frz j
         have hgl := HMW.out.blk.2
         go_wp2_with fail
         go_roundw
         case rel => exact ⟨j + 1, by omega, by go_num, _, Lib.hid (HMW.out.setv j fb), Lib.hid (fun k hk => by
           try dsimp only
           by_cases e : k = j
           · subst e; rw [if_pos rfl]; exact HBV.out
           · rw [if_neg e]; exact HP.out k (by omega)), Lib.hid (HBW.out.setCell (p := ⟨g, j, none⟩) (HG.out ▸ Nat.le_succ _) _)⟩
         case measure => simp [intOf]; omega
    ·
     obtain rfl : j = nd + 1 := by omega
     have g2 : decide (((nd + 1 : Nat) : Int) - 1 < (nd : Int)) = false := decide_eq_false (by omega)
     have HM' := Lib.hid (HM.out.congr fun k hk => HP.out k hk)
     have HO3 := Lib.hid HV2.out.o
     have hz := HBQ.out.size
     go_wp2_with (at_builtin; go_must (refine wpList_app rfl (.tmp 92) (.tmp 94) 121 rfl w.heap.size 100 1 24 Tryz.underlying121 MJ.out.1 MJ.out.2.1 MJ.out.2.2.1 MJ.out.2.2.2 rfl (by decide) (by decide) (Own.alloc HO3.out _) rfl (by omega) (by simp; omega) wi.heap.size 1 (fun _ => (.slice (some ⟨g, 0, none⟩) (nd + 1) (nd + 1))) rfl (one_tmp wi _ (.slice (some ⟨g, 0, none⟩) (nd + 1) (nd + 1))) (fun _ _ => rfl) ?_); intro v8 w8 o8 hg8 hat8; have HO8 := Lib.hid o8; have HG8 := Lib.hid hg8; clear o8 hg8 hat8)
     go_roundw
     case rel =>
      refine ⟨i + 1, by omega, by go_num, _, Lib.hid ((Rowz.app (g := g) (p := P i) (HV2.out.below (belowAlloc _ _)) (Own.less (HM'.out.below (belowAlloc _ _)) HS.out.1.size) (fun k hk => ?_) HG8.out HO8.out).congr fun k x hk hx => ?_), Lib.hid ⟨?_, ?_, ?_⟩⟩
      ·
       have h1 := (HV.out.m k hk).blk.2
       have h2 := HG.out
       omega
      ·
       by_cases e : k = i
       · subst e; simp only [if_true]
       · simp only [if_neg e]
      · exact (HBQ.out.alloc hz _).grown HG8.out (by simp; omega) fun g hg => (Own.block HO3.out hg).1
      · exact (K2.out.alloc _).grown_own (Own.alloc HO3.out _) (by decide) HG8.out
      · exact (X2.out.alloc _).grown_own (Own.alloc HO3.out _) (by decide) HG8.out
     case measure => simp [intOf]; omega
  ·
   obtain ⟨n1, rfl⟩ : ∃ n1, n1 = i := ⟨_, rfl⟩
   have hm1 : m < n1 := by omega
   have hm2 : n1 < m + 2 := by omega
   have HN1 := Lib.hid (show n1 = m + 1 by omega)
   have g1 : decide (n1 ≤ m) = false := decide_eq_false (by omega)
   have g1' : decide ((n1 : Int) ≤ (m : Int)) = false := decide_eq_false (by omega)
   clear hlt hi
   have HV0 := Lib.hid HV.out
   have HBW0 := Lib.hid HS.out.1
   clear HV HS HNO HAG HHS HP0 HPS
   go_wp2_with fail
   go_loopw [15] (fun i wr => ∃ (j : Nat) (x : Int), j ≤ m ∧ x = (j : Int) - 1 ∧ i = .int .i64 x ∧ ∃ Q : Nat → Nat → Bool, Hid (Rowz wr w.heap.size (.slice oA n1 oc) n1 nd G Q) ∧ Hid (∀ k x, k ≤ m → x < nd + 1 → Q k x = if j ≤ k then R k x else P k x) ∧ Hid (Below w.heap.size w wr)) (fun i _ => (intOf i + 1).toNat)
   case atStart => exact ⟨m, (m : Int) - 1, Nat.le_refl _, rfl, by go_num, P, HV0, Lib.hid (fun k x hk hx => by
     by_cases e : m ≤ k
     ·
      obtain rfl : k = m := by omega
      rw [if_pos e, HR0.out]
     · rw [if_neg e]), HBW0⟩
   case round =>
    obtain ⟨j, x, hj, hx, rfl, Q, HV, HQ, HB⟩ := hrel
    clear HV0 HBW0
    rcases Nat.eq_zero_or_pos j with h0 | h0
    ·
     have g3 : decide ((0 : Int) ≤ x) = false := decide_eq_false (by omega)
     subst h0
     go_wp2_with fail
     go_ret
     exact ⟨⟨_, G, rfl, by rw [← HN1.out]; exact HV.out.congr fun k y hk hy => (HQ.out k y (by have := HN1.out; omega) hy).trans (if_pos (Nat.zero_le _))⟩, HB.out⟩
    ·
     obtain ⟨i, rfl⟩ : ∃ i, j = i + 1 := ⟨j - 1, by omega⟩
     obtain rfl : x = (i : Int) := by omega
     have him : i < m := by omega
     have HIM := Lib.hid him
     clear h0 hx
     have g3 : decide ((0 : Int) ≤ (i : Int)) = true := decide_eq_true (by omega)
     go_wp2_with fail
     go_loopw [16] (fun f wr => ∃ q : Nat, q ≤ nd + 1 ∧ f = .int .i64 (q : Int) ∧ ∃ Q : Nat → Nat → Bool, Hid (Rowz wr w.heap.size (.slice oA n1 oc) n1 nd G Q) ∧ Hid (∀ k x, k ≤ m → x < nd + 1 → Q k x = if i + 1 ≤ k ∨ (k = i ∧ x < q) then R k x else P k x) ∧ Hid (Below w.heap.size w wr)) (fun f _ => nd + 1 - (intOf f).toNat)
     case atStart => exact ⟨0, Nat.zero_le _, rfl, Q, HV, Lib.hid (fun k x hk hx => by rw [HQ.out k x hk hx]; congr 1; simp), HB⟩
     case round =>
      obtain ⟨q, hq, rfl, Q2, HV2, HQ2, HB2⟩ := hrel
      clear HV HQ HB Q
      obtain ⟨wi, rfl⟩ : ∃ wi, wi = wr := ⟨_, rfl⟩
      obtain ⟨og, oc', e, c0⟩ := HV2.out.row (show i < n1 by omega)
      by_cases hqt : q < nd + 1
      ·
       cases e
       have h4 : decide (q < nd + 1) = true := decide_eq_true hqt
       go_wp2_with fail
       go_loopw [17, 18] (fun gv t wr => ∃ s : Nat, s ≤ nd + 1 ∧ t = .int .i64 (s : Int) ∧ ∃ b : Bool, gv = .bool b ∧ Hid (b = M.anyTo s (fun t => R (i + 1) t && F i q t)) ∧ wr = wi) (fun _ t _ => nd + 1 - (intOf t).toNat)
       case atStart => exact ⟨0, Nat.zero_le _, rfl, false, rfl, Lib.hid rfl, rfl⟩
       case round =>
        obtain ⟨s, hs, rfl, b, rfl, HBS, hwr⟩ := hrel
        obtain rfl := hwr
        by_cases hst : s < nd + 1
        ·
         have h5 : decide (s < nd + 1) = true := decide_eq_true hst
         obtain ⟨og2, oc2, e, c1⟩ := HV2.out.row (show i + 1 < n1 by omega)
         cases e
         have c2 := (HV2.out.m (i + 1) (by omega)).cell (i := s) hst
         rw [HQ2.out (i + 1) s (by omega) hst, if_pos (.inl (Nat.le_refl _))] at c2
         obtain ⟨lg, g2, c3, g3, rfl, l0, l1, l2⟩ := (HLV.out wr HB2.out).at3 him hqt hst
         cases b
         ·
          obtain ⟨pb, hpb⟩ : ∃ x, x = R (i + 1) s := ⟨_, rfl⟩
          obtain ⟨fb, hfb⟩ : ∃ x, x = F i q s := ⟨_, rfl⟩
          rw [← hpb] at c2
          rw [← hfb] at l2
          have HPB1 := Lib.hid hpb
          have HFB1 := Lib.hid hfb
          clear hpb hfb
          cases pb
          ·
           clear l0 l1 l2
           go_wp2_with fail
           go_roundw
           case rel => exact ⟨s + 1, by omega, by go_num, false, rfl, Lib.hid (by simp only [M.anyTo]; rw [← HBS.out, ← HPB1.out]; rfl), trivial⟩
           case measure => simp [intOf]; omega
          ·
           cases fb
           ·
            go_wp2_with fail
            go_roundw
            case rel => exact ⟨s + 1, by omega, by go_num, false, rfl, Lib.hid (by simp only [M.anyTo]; rw [← HBS.out, ← HPB1.out, ← HFB1.out]; rfl), trivial⟩
            case measure => simp [intOf]; omega
           ·
            go_wp2_with fail
            go_roundw
            case rel => exact ⟨s + 1, by omega, by go_num, true, rfl, Lib.hid (by simp only [M.anyTo]; rw [← HBS.out, ← HPB1.out, ← HFB1.out]; rfl), trivial⟩
            case measure => simp [intOf]; omega
         ·
          clear c1 c2 l0 l1 l2
          go_wp2_with fail
          go_roundw
          case rel => exact ⟨s + 1, by omega, by go_num, true, rfl, Lib.hid (by simp only [M.anyTo]; rw [← HBS.out]; rfl), trivial⟩
          case measure => simp [intOf]; omega
        ·
         obtain rfl : s = nd + 1 := by omega
         have h5 : decide (nd + 1 < nd + 1) = false := decide_eq_false (Nat.lt_irrefl _)
         have c1 := (HV2.out.m i (by omega)).cell (i := q) hqt
         have f0 := (HV2.out.m i (by omega)).frz q
         have hgl := (HV2.out.m i (by omega)).blk.2
         rw [HQ2.out i q (by omega) hqt, if_neg (by omega)] at c1
         have HNW := Lib.hid (show R i q = (P i q && b) from by rw [HRS'.out i q him, HBS.out])
         obtain ⟨pv, hpv⟩ : ∃ x, x = P i q := ⟨_, rfl⟩
         rw [← hpv] at c1 HNW
         clear hpv
         cases pv
         ·
          have HNEW := Lib.hid (show false = R i q from HNW.out.symm)
          go_upto_region 27 with fail
          have gi1 : (i : Int) < (n1 : Int) := by omega
          have gi2 : (q : Int) < (nd : Int) + 1 := by omega
          refine wp_nopanic ?_
          refine wp_region_T 16 (fun Z2 => Z2.cell? ⟨og, i, none⟩ = some (.slice (some ⟨G i, 0, none⟩) (nd + 1) (nd + 1)) ∧ Z2.cell? ⟨G i, q, none⟩ = some (.bool false)) (by kernel_rfl) (And.intro c0 c1) ?_
          have d1 : wr.drew.cell? ⟨G i, q, none⟩ = some (.bool false) := c1
          have f1 : wr.drew.frozen? ⟨G i, q, none⟩ = false := f0
          have l1 : G i < wr.drew.heap.size := hgl
          clear c0 c1 f0 hgl
          intro hS
          refine takeK (i := 0) (v := ?_) rfl (by kernel_rfl) (.inl ⟨by kernel_rfl, ?_⟩) hS ?_
          rotate_left
          · (intro w' hw; go_simp; try with_reducible rfl)
          try simp only [put_laws]
          refine takeK (i := 1) (v := ?_) rfl (by kernel_rfl) (.inl ⟨by kernel_rfl, ?_⟩) hS ?_
          rotate_left
          · (intro w' hw; go_simp; try with_reducible rfl)
          try simp only [put_laws]
          refine takeK (i := 2) (v := ?_) rfl (by kernel_rfl) (.inl ⟨by kernel_rfl, ?_⟩) hS ?_
          rotate_left
          · (intro w' hw; go_simp; try with_reducible rfl)
          try simp only [put_laws]
          refine takeK (i := 3) (v := ?_) rfl (by kernel_rfl) (.inl ⟨by kernel_rfl, ?_⟩) hS ?_
          rotate_left
          · (intro w' hw; obtain ⟨h1, h2⟩ := hw; go_simp; try with_reducible rfl)
          try simp only [put_laws]
          refine takeK (i := 4) (v := ?_) rfl (by kernel_rfl) (.inl ⟨by kernel_rfl, ?_⟩) hS ?_
          rotate_left
          · (intro w' hw; go_simp; try with_reducible rfl)
          try simp only [put_laws]
          refine takeK (i := 5) (v := ?_) rfl (by kernel_rfl) (.inl ⟨by kernel_rfl, ?_⟩) hS ?_
          rotate_left
          · (intro w' hw; go_simp; try with_reducible rfl)
          try simp only [put_laws]
          refine takeK (i := 6) (v := ?_) rfl (by kernel_rfl) (.inl ⟨by kernel_rfl, ?_⟩) hS ?_
          rotate_left
          · (intro w' hw; go_simp; try with_reducible rfl)
          try simp only [put_laws]
          refine takeK (i := 7) (v := ?_) rfl (by kernel_rfl) (.inl ⟨by kernel_rfl, ?_⟩) hS ?_
          rotate_left
          · (intro w' hw; go_simp; try with_reducible rfl)
          try simp only [put_laws]
          refine takeK (i := 8) (v := ?_) rfl (by kernel_rfl) (.inl ⟨by kernel_rfl, ?_⟩) hS ?_
          rotate_left
          · (intro w' hw; obtain ⟨h1, h2⟩ := hw; go_simp; try with_reducible rfl)
          try simp only [put_laws]
          refine takeK (i := 9) (v := ?_) rfl (by kernel_rfl) (.inl ⟨by kernel_rfl, ?_⟩) hS ?_
          rotate_left
          · (intro w' hw; go_simp; try with_reducible rfl)
          try simp only [put_laws]
          refine takeK (i := 10) (v := ?_) rfl (by kernel_rfl) (.inl ⟨by kernel_rfl, ?_⟩) hS ?_
          rotate_left
          · (intro w' hw; go_simp; try with_reducible rfl)
          try simp only [put_laws]
          refine takeK (i := 11) (v := ?_) rfl (by kernel_rfl) (.inl ⟨by kernel_rfl, ?_⟩) hS ?_
          rotate_left
          · (intro w' hw; obtain ⟨h1, h2⟩ := hw; go_simp; try with_reducible rfl)
          try simp only [put_laws]
          refine takeK (i := 12) (v := ?_) rfl (by kernel_rfl) (.inl ⟨by kernel_rfl, ?_⟩) hS ?_
          rotate_left
          · (intro w' hw; go_simp; try with_reducible rfl)
          try simp only [put_laws]
          refine takeK (i := 13) (v := undef) rfl (by kernel_rfl) (.inr ⟨by kernel_rfl, rfl⟩) hS ?_
          try simp only [put_laws]
          refine takeK (i := 14) (v := ?_) rfl (by kernel_rfl) (.inl ⟨by kernel_rfl, ?_⟩) hS ?_
          rotate_left
          · (intro w' hw; go_simp; try with_reducible rfl)
          try simp only [put_laws]
          refine takeK (i := 15) (v := ?_) rfl (by kernel_rfl) (.inl ⟨by kernel_rfl, ?_⟩) hS ?_
          rotate_left
          · (intro w' hw; go_simp; try with_reducible rfl)
          try simp only [put_laws]
          refine wpAnyT_one (i := 16) (by kernel_rfl) rfl ?_
          intro K' hK'
          go_simp
          refine hK'.out _ _ (.inl rfl) ?_
          clear hK' K'
          try simp only [put_laws]
          refine wpAnyT_done (by kernel_rfl) ?_ _
          refine ⟨fun x e => (by cases e), ?_⟩
          have HW := Lib.hid (show Rowz (wr.drew.setCell ⟨G i, q, none⟩ (.bool false)) w.heap.size (.slice (some ⟨og, 0, none⟩) n1 oc) n1 nd G _ from Rowz.set (W := wr.drew) ⟨HV2.out.o, HV2.out.m, HV2.out.inj⟩ (show i < n1 by omega) q false)
          have HBW := Lib.hid ((HB2.out.drewN 1).setCell (p := ⟨G i, q, none⟩) (HV2.out.m i (by omega)).blk.1 (.bool false))
          clear d1 f1 l1 hS
          go_wp2_with fail
          go_roundw
          case rel => exact ⟨q + 1, by omega, by go_num, _, HW, Lib.hid (fun k x hk hx => by
            by_cases e : k = i
            ·
             subst e
             by_cases e2 : x = q
             ·
              subst e2
              simp only [if_true]
              rw [if_pos (.inr ⟨trivial, by omega⟩)]
              exact HNEW.out
             ·
              simp only [if_true, if_neg e2]
              rw [HQ2.out k x hk hx]
              congr 1
              apply propext
              constructor <;> rintro (h | ⟨h, h2⟩) <;> first | exact .inl h | exact .inr ⟨by first | trivial | rfl, by omega⟩
            ·
             simp only [if_neg e]
             rw [HQ2.out k x hk hx]
             congr 1
             apply propext
             constructor <;> rintro (h | ⟨h, h2⟩) <;> first | exact .inl h | exact absurd h e), HBW⟩
          case measure => simp [intOf]; omega
         ·
          have HNEW := Lib.hid (show b = R i q from by rw [HNW.out]; rfl)
          go_upto_region 27 with fail
          have gi1 : (i : Int) < (n1 : Int) := by omega
          have gi2 : (q : Int) < (nd : Int) + 1 := by omega
          refine wp_nopanic ?_
          refine wp_region_T 16 (fun Z2 => Z2.cell? ⟨og, i, none⟩ = some (.slice (some ⟨G i, 0, none⟩) (nd + 1) (nd + 1)) ∧ Z2.cell? ⟨G i, q, none⟩ = some (.bool true)) (by kernel_rfl) (And.intro c0 c1) ?_
          have d1 : wr.drew.cell? ⟨G i, q, none⟩ = some (.bool true) := c1
          have f1 : wr.drew.frozen? ⟨G i, q, none⟩ = false := f0
          have l1 : G i < wr.drew.heap.size := hgl
          clear c0 c1 f0 hgl
          intro hS
          refine takeK (i := 0) (v := ?_) rfl (by kernel_rfl) (.inl ⟨by kernel_rfl, ?_⟩) hS ?_
          rotate_left
          · (intro w' hw; go_simp; try with_reducible rfl)
          try simp only [put_laws]
          refine takeK (i := 1) (v := ?_) rfl (by kernel_rfl) (.inl ⟨by kernel_rfl, ?_⟩) hS ?_
          rotate_left
          · (intro w' hw; go_simp; try with_reducible rfl)
          try simp only [put_laws]
          refine takeK (i := 2) (v := ?_) rfl (by kernel_rfl) (.inl ⟨by kernel_rfl, ?_⟩) hS ?_
          rotate_left
          · (intro w' hw; go_simp; try with_reducible rfl)
          try simp only [put_laws]
          refine takeK (i := 3) (v := ?_) rfl (by kernel_rfl) (.inl ⟨by kernel_rfl, ?_⟩) hS ?_
          rotate_left
          · (intro w' hw; obtain ⟨h1, h2⟩ := hw; go_simp; try with_reducible rfl)
          try simp only [put_laws]
          refine takeK (i := 4) (v := ?_) rfl (by kernel_rfl) (.inl ⟨by kernel_rfl, ?_⟩) hS ?_
          rotate_left
          · (intro w' hw; go_simp; try with_reducible rfl)
          try simp only [put_laws]
          refine takeK (i := 5) (v := ?_) rfl (by kernel_rfl) (.inl ⟨by kernel_rfl, ?_⟩) hS ?_
          rotate_left
          · (intro w' hw; go_simp; try with_reducible rfl)
          try simp only [put_laws]
          refine takeK (i := 6) (v := ?_) rfl (by kernel_rfl) (.inl ⟨by kernel_rfl, ?_⟩) hS ?_
          rotate_left
          · (intro w' hw; go_simp; try with_reducible rfl)
          try simp only [put_laws]
          refine takeK (i := 7) (v := ?_) rfl (by kernel_rfl) (.inl ⟨by kernel_rfl, ?_⟩) hS ?_
          rotate_left
          · (intro w' hw; go_simp; try with_reducible rfl)
          try simp only [put_laws]
          refine takeK (i := 8) (v := ?_) rfl (by kernel_rfl) (.inl ⟨by kernel_rfl, ?_⟩) hS ?_
          rotate_left
          · (intro w' hw; obtain ⟨h1, h2⟩ := hw; go_simp; try with_reducible rfl)
          try simp only [put_laws]
          refine takeK (i := 9) (v := ?_) rfl (by kernel_rfl) (.inl ⟨by kernel_rfl, ?_⟩) hS ?_
          rotate_left
          · (intro w' hw; go_simp; try with_reducible rfl)
          try simp only [put_laws]
          refine takeK (i := 10) (v := ?_) rfl (by kernel_rfl) (.inl ⟨by kernel_rfl, ?_⟩) hS ?_
          rotate_left
          · (intro w' hw; go_simp; try with_reducible rfl)
          try simp only [put_laws]
          refine takeK (i := 11) (v := ?_) rfl (by kernel_rfl) (.inl ⟨by kernel_rfl, ?_⟩) hS ?_
          rotate_left
          · (intro w' hw; obtain ⟨h1, h2⟩ := hw; go_simp; try with_reducible rfl)
          try simp only [put_laws]
          refine takeK (i := 12) (v := ?_) rfl (by kernel_rfl) (.inl ⟨by kernel_rfl, ?_⟩) hS ?_
          rotate_left
          · (intro w' hw; go_simp; try with_reducible rfl)
          try simp only [put_laws]
          refine takeK (i := 13) (v := ?_) rfl (by kernel_rfl) (.inl ⟨by kernel_rfl, ?_⟩) hS ?_
          rotate_left
          · (intro w' hw; go_simp; try with_reducible rfl)
          try simp only [put_laws]
          refine takeK (i := 14) (v := ?_) rfl (by kernel_rfl) (.inl ⟨by kernel_rfl, ?_⟩) hS ?_
          rotate_left
          · (intro w' hw; go_simp; try with_reducible rfl)
          try simp only [put_laws]
          refine takeK (i := 15) (v := ?_) rfl (by kernel_rfl) (.inl ⟨by kernel_rfl, ?_⟩) hS ?_
          rotate_left
          · (intro w' hw; go_simp; try with_reducible rfl)
          try simp only [put_laws]
          refine wpAnyT_one (i := 16) (by kernel_rfl) rfl ?_
          intro K' hK'
          go_simp
          refine hK'.out _ _ (.inl rfl) ?_
          clear hK' K'
          try simp only [put_laws]
          refine wpAnyT_done (by kernel_rfl) ?_ _
          refine ⟨fun x e => (by cases e), ?_⟩
          have HW := Lib.hid (show Rowz (wr.drew.setCell ⟨G i, q, none⟩ (.bool b)) w.heap.size (.slice (some ⟨og, 0, none⟩) n1 oc) n1 nd G _ from Rowz.set (W := wr.drew) ⟨HV2.out.o, HV2.out.m, HV2.out.inj⟩ (show i < n1 by omega) q b)
          have HBW := Lib.hid ((HB2.out.drewN 1).setCell (p := ⟨G i, q, none⟩) (HV2.out.m i (by omega)).blk.1 (.bool b))
          clear d1 f1 l1 hS
          go_wp2_with fail
          go_roundw
          case rel => exact ⟨q + 1, by omega, by go_num, _, HW, Lib.hid (fun k x hk hx => by
            by_cases e : k = i
            ·
             subst e
             by_cases e2 : x = q
             ·
              subst e2
              simp only [if_true]
              rw [if_pos (.inr ⟨trivial, by omega⟩)]
              exact HNEW.out
             ·
              simp only [if_true, if_neg e2]
              rw [HQ2.out k x hk hx]
              congr 1
              apply propext
              constructor <;> rintro (h | ⟨h, h2⟩) <;> first | exact .inl h | exact .inr ⟨by first | trivial | rfl, by omega⟩
            ·
             simp only [if_neg e]
             rw [HQ2.out k x hk hx]
             congr 1
             apply propext
             constructor <;> rintro (h | ⟨h, h2⟩) <;> first | exact .inl h | exact absurd h e), HBW⟩
          case measure => simp [intOf]; omega
      ·
       obtain rfl : q = nd + 1 := by omega
       cases e
       have h4 : decide (nd + 1 < nd + 1) = false := decide_eq_false (Nat.lt_irrefl _)
       go_wp2_with fail
       go_roundw
       case rel => exact ⟨i, (i : Int) - 1, by omega, rfl, by go_num, Q2, HV2, Lib.hid (fun k x hk hx => by
         rw [HQ2.out k x hk hx]
         by_cases e : i ≤ k
         ·
          rw [if_pos e]
          by_cases e2 : i + 1 ≤ k
          · rw [if_pos (.inl e2)]
          · rw [if_pos (.inr ⟨by omega, hx⟩)]
         · rw [if_neg e, if_neg (by omega)]), HB2⟩
       case measure => simp [intOf]
end
end Go.Proofs.YtnbeembnnjdmdaaGreatDoor
/- The reference of layer 2: sets of a valid drift, table and leeways. -/
namespace Go.Proofs.YtnbeembnnjdmdaaGreatDoor
open Go.RowKit

def movF (d : M.Dr) (ta : Nat) (l : Int) : Nat → Nat → Nat → Bool := fun i j k => M.stepB d (ta + i) l ((j : Int) - 1) ((k : Int) - 1)
def setF (d : M.Dr) (ta m hn : Nat) (xL : List Int) (Xs : Nat → SgV) (l : Int) : Nat → Nat → Bool := fun i k => M.rowB d ta l (fun c => xL.contains c) (trFit Xs hn ta (-1) 0) m i ((k : Int) - 1)
theorem rowB_last {d : M.Dr} {ta m : Nat} {l : Int} {X : Int → Bool} {fit : Nat → Int → Bool} (c : Int) : M.rowB d ta l X fit m m c = M.fw d ta l X fit m c := by
 unfold M.rowB
 rw [Nat.sub_self]
 rfl
theorem rowB_step {d : M.Dr} {ta m i : Nat} {l : Int} {X : Int → Bool} {fit : Nat → Int → Bool} (hi : i < m) (c : Int) : M.rowB d ta l X fit m i c = (M.fw d ta l X fit i c && M.anyC d.s.nd fun b => M.stepB d (ta + i) l c b && M.rowB d ta l X fit m (i + 1) b) := by
 unfold M.rowB
 obtain ⟨k, rfl⟩ : ∃ k, m = i + 1 + k := ⟨m - (i + 1), by omega⟩
 rw [show i + 1 + k - i = k + 1 by omega, show i + 1 + k - (i + 1) = k by omega]
 simp only [M.bw]
 rw [show i + 1 + k - (k + 1) = i by omega]
theorem fit_free {Xs : Nat → SgV} {hn ta i : Nat} {c : Int} : trFit Xs hn ta (-1) 0 i c = M.agAll (fun i => (Xs i).sg) hn ((ta : Int) + i) c := by
 unfold trFit M.fitF M.fixB
 rw [decide_eq_false (show ¬ ((ta : Int) + i = -1) by omega)]
 simp
section
variable {d : M.Dr} {zA cA wA dA tA sA xA hA : Option Addr} {dc tc sc zc cc wc xc hn hc B m ta : Nat} {lo hi : Int} {xL : List Int} {Xs : Nat → SgV} {w : World}
theorem rsets_drift (hd : d.Ok) (hm : ta + m < d.s.nt) (hB : B ≤ w.heap.size) (hx3 : Rd1 w B xA xL.length (fun k => xL.getD k 0)) (hx4 : xL.length ≤ maxLen) (hRS : RdS w B hA hn Xs) (hhn : hn ≤ maxLen)
  {bl : Nat} {v0 : Value} {l : Int} (hl : MovV w bl d.s.nd m (movF d ta l) v0) :
  Calls Tryz.prog 72 #[.agg #[.int .i64 (d.s.W : Int), .int .i64 (d.s.H : Int), .slice dA d.s.nd dc, .slice tA d.s.nt tc, .slice sA d.s.nt sc, .slice zA d.s.nd zc, .slice cA d.nz cc, .slice wA (d.s.nt - 1) wc], .agg #[.int .i64 (ta : Int), .slice xA xL.length xc, .int .i64 lo, .int .i64 hi], .slice hA hn hc, v0] w fun e w' => (∃ v G, e = .returned v ∧ Rowz w' w.heap.size v (m + 1) d.s.nd G (setF d ta m hn xL Xs l)) ∧ Below w.heap.size w w' := by
 have h1 := hd.s.nd1
 have h2 := hd.s.t2
 refine rsets_any (W := d.s.W) (H := d.s.H) (by omega) (by omega) (by omega) hB hx3 hx4 hRS hhn hl (P := fun i k => M.fw d ta l (fun c => xL.contains c) (trFit Xs hn ta (-1) 0) i ((k : Int) - 1)) (R := setF d ta m hn xL Xs l) (fit := fun i k => M.agAll (fun i => (Xs i).sg) hn ((ta : Int) + i) ((k : Int) - 1)) (fun _ _ => rfl) (fun k => ?_) (fun i k => ?_) (fun k => ?_) (fun i k hi => ?_)
 ·
  simp only [M.fw]
  rw [fit_free]
 ·
  simp only [M.fw]
  rw [fit_free]
  rfl
 ·
  unfold setF
  rw [rowB_last]
 ·
  unfold setF
  rw [rowB_step hi]
  congr 1
  unfold M.anyC
  refine M.anyTo_congr fun t _ => ?_
  rw [Bool.and_comm]
  rfl
theorem setF_some (_hm : 0 < m + 1) {l : Int} : M.anyC d.s.nd (M.rowB d ta l (fun c => xL.contains c) (trFit Xs hn ta (-1) 0) m 0) = leeP d ta (m + 1) hn xL Xs (-1) 0 l := by
 unfold leeP M.posB
 rw [Nat.add_sub_cancel]
end
section
variable {d : M.Dr} {zA cA wA dA tA sA xA : Option Addr} {cl : Nat → Nat} {dc tc sc zc cc wc xc B ta lo hi : Nat} {xL : List Int} {w : World}
end
section
variable {d : M.Dr} {zA cA wA dA tA sA xA hA : Option Addr} {dc tc sc zc cc wc xc hn hc B m K ta lo hi bl : Nat} {xL : List Int} {Xs : Nat → SgV} {w : World} {v0 : Value}
end
end Go.Proofs.YtnbeembnnjdmdaaGreatDoor
