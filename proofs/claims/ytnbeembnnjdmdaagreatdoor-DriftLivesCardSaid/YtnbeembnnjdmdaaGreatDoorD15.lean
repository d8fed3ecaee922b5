/- drift: lists of cells, sightings. -/
import Derived.Test.YtnbeembnnjdmdaaGreatDoorD13
import Derived.Test.YtnbeembnnjdmdaaGreatDoorLaA
namespace Go.Proofs.YtnbeembnnjdmdaaGreatDoor
open Go.RowKit Go.Maps

theorem dcell_at (P nd dc : Nat) (dA : Option Addr) (w : World) (h2 : w.cell? ⟨P, 2, none⟩ = some (.slice dA nd dc)) (hnd : nd ≤ maxLen) (n : Int) :
  Calls Tryz.prog 44 #[.pointer (some ⟨P, 0, none⟩), .int .i64 n] w fun e w' => e = .returned (.bool (M.inB 0 ((nd : Int) - 1) n)) ∧ w' = w := by
 unfold maxLen at hnd
 go_enter Tryz.func44, Tryz.ntmps44
 go_wp2_with (go_at_call 45; refine (dwithin_any _ _ _ _).mono ?_; rintro e w1 ⟨rfl, rfl⟩)
 go_ret
 exact ⟨rfl, rfl⟩
theorem dallcells_any (P nd dc : Nat) (dA : Option Addr) (w : World) (h2 : w.cell? ⟨P, 2, none⟩ = some (.slice dA nd dc)) (hnd : nd ≤ maxLen) (A : Option Addr) (n c B : Nat) (f : Nat → Int) (hm : n ≤ maxLen) (hR : Rd1 w B A n f) :
  Calls Tryz.prog 84 #[.slice A n c, .func (.func 44) #[.pointer (some ⟨P, 0, none⟩)] #[]] w fun e w' => e = .returned (.bool (M.allTo n fun i => M.inB 0 ((nd : Int) - 1) (f i))) ∧ w' = w := by
 unfold maxLen at hm
 have HC := Lib.hid (fun n => dcell_at P nd dc dA w h2 hnd n)
 have HR := Lib.hid hR
 clear h2 hR
 go_enter Tryz.func84, Tryz.ntmps84
 go_wp2_with fail
 go_loopw [9] (fun i wr => ∃ k : Nat, k ≤ n ∧ i = .int .i64 k ∧ M.allTo k (fun i => M.inB 0 ((nd : Int) - 1) (f i)) = true ∧ wr = w) (fun i _ => n - (intOf i).toNat)
 case atStart => exact ⟨0, Nat.zero_le _, rfl, rfl, rfl⟩
 case round =>
  obtain ⟨k, hk, rfl, hf, rfl⟩ := hrel
  have HF := Lib.hid hf
  clear hf
  by_cases hlt : k < n
  ·
   obtain ⟨b, off, rfl, hb, c0⟩ := HR.out.at_ hlt
   cases hp : M.inB 0 ((nd : Int) - 1) (f k)
   ·
    have HP := Lib.hid hp
    clear hp
    go_wp2_with (go_at_call 44; refine (HC.out _).mono ?_; rw [HP.out]; rintro e w1 ⟨rfl, rfl⟩)
    go_ret
    refine ⟨ret_bool ?_, rfl⟩
    cases ha : M.allTo n (fun i => M.inB 0 ((nd : Int) - 1) (f i))
    · rfl
    ·
     have := M.allTo_iff.1 ha k hlt
     rw [HP.out] at this; cases this
   ·
    have HP := Lib.hid hp
    clear hp
    go_wp2_with (go_at_call 44; refine (HC.out _).mono ?_; rw [HP.out]; rintro e w1 ⟨rfl, rfl⟩)
    go_roundw
    case rel => exact ⟨k + 1, by omega, by go_num, by simp [M.allTo, HF.out, HP.out], by first | rfl | trivial⟩
    case measure => simp [intOf]; omega
  ·
   obtain rfl : k = n := by omega
   go_wp2_with fail
   go_ret
   exact ⟨ret_bool HF.out.symm, rfl⟩
namespace M
def ascF (nd n : Nat) (f : Nat → Int) : Bool := allTo n (fun i => decide (i = 0) || decide (f (i - 1) < f i)) && allTo n fun i => inB 0 ((nd : Int) - 1) (f i)
end M
theorem asc_any (P nd dc : Nat) (dA : Option Addr) (w : World) (h2 : w.cell? ⟨P, 2, none⟩ = some (.slice dA nd dc)) (hnd : nd ≤ maxLen) (A : Option Addr) (n c B : Nat) (f : Nat → Int) (hm : n ≤ maxLen) (hR : Rd1 w B A n f) :
  Calls Tryz.prog 96 #[.pointer (some ⟨P, 0, none⟩), .slice A n c] w fun e w' => e = .returned (.bool (M.ascF nd n f)) ∧ w' = w := by
 have HA := Lib.hid (dallcells_any P nd dc dA w h2 hnd A n c B f hm hR)
 unfold maxLen at hm
 have HR := Lib.hid hR
 unfold M.ascF
 generalize M.allTo n (fun i => M.inB 0 ((nd : Int) - 1) (f i)) = q at HA ⊢
 clear h2 hR hnd
 go_enter Tryz.func96, Tryz.ntmps96
 go_wp2_with fail
 go_loopw [9] (fun i wr => ∃ k : Nat, k ≤ n ∧ i = .int .i64 k ∧ M.allTo k (fun i => decide (i = 0) || decide (f (i - 1) < f i)) = true ∧ wr = w) (fun i _ => n - (intOf i).toNat)
 case atStart => exact ⟨0, Nat.zero_le _, rfl, rfl, rfl⟩
 case round =>
  obtain ⟨k, hk, rfl, hf, rfl⟩ := hrel
  have HF := Lib.hid hf
  clear hf
  by_cases hlt : k < n
  ·
   by_cases h0 : k = 0
   ·
    have hk0 : (k : Int) ≤ 0 := by omega
    have H0 := Lib.hid h0
    clear h0
    obtain ⟨b, off, rfl, hb, c0⟩ := HR.out.at_ hlt
    go_wp2_with fail
    go_roundw
    case rel => exact ⟨k + 1, by omega, by go_num, by unfold M.allTo; rw [HF.out]; simp [H0.out], by first | rfl | trivial⟩
    case measure => simp [intOf]; omega
   ·
    obtain ⟨j, rfl⟩ : ∃ j, k = j + 1 := ⟨k - 1, by omega⟩
    obtain ⟨b, off, rfl, hb, c0⟩ := HR.out.at_ hlt
    obtain ⟨b', off', e', hb', c1⟩ := HR.out.at_ (show j < n by omega)
    cases e'
    have ej : ((j + 1 : Nat) : Int) - 1 = (j : Int) := by omega
    by_cases hp : f (j + 1) ≤ f j
    ·
     go_wp2_with fail
     go_ret
     refine ⟨ret_bool ?_, rfl⟩
     cases ha : M.allTo n (fun i => decide (i = 0) || decide (f (i - 1) < f i))
     · rfl
     ·
      have := M.allTo_iff.1 ha (j + 1) hlt
      simp at this; omega
    ·
     go_wp2_with fail
     go_roundw
     case rel => exact ⟨j + 1 + 1, by omega, by go_num, by unfold M.allTo; rw [HF.out]; simp; omega, by first | rfl | trivial⟩
     case measure => simp [intOf]; omega
  ·
   obtain rfl : k = n := by omega
   go_wp2_with (go_at_call 84; refine HA.out.mono ?_; rintro e w1 ⟨rfl, rfl⟩)
   go_ret
   exact ⟨ret_bool (by rw [HF.out]; rfl), rfl⟩
structure SgV where
 tk : Int
 A : Option Addr
 c : Nat
 L : List Int
 seen : Bool
def SgV.sg (x : SgV) : M.Sg := ⟨x.tk, fun c => x.L.contains c, x.seen⟩
abbrev SgV.cs (x : SgV) : Array Value := #[.int .i64 x.tk, .slice x.A x.L.length x.c, .bool x.seen]
def RdS (w : World) (B : Nat) (A : Option Addr) (n : Nat) (X : Nat → SgV) : Prop :=
 n = 0 ∨ ∃ b off, A = some ⟨b, off, none⟩ ∧ b < B ∧ ∀ i, i < n → (w.cell? ⟨b, off + i * 3, none⟩ = some (.int .i64 (X i).tk) ∧ w.cell? ⟨b, off + i * 3 + 1, none⟩ = some (.slice (X i).A (X i).L.length (X i).c) ∧ w.cell? ⟨b, off + i * 3 + 2, none⟩ = some (.bool (X i).seen)) ∧ Rd1 w B (X i).A (X i).L.length (fun k => (X i).L.getD k 0) ∧ (X i).L.length ≤ maxLen
theorem RdS.below {w w' : World} {B n : Nat} {A : Option Addr} {X : Nat → SgV} (h : RdS w B A n X) (hb : Below B w w') : RdS w' B A n X := by
 rcases h with h | ⟨b, off, e, hb', hc⟩
 · exact .inl h
 ·
  refine .inr ⟨b, off, e, hb', fun i hi => ?_⟩
  obtain ⟨⟨h1, h2, h3⟩, h4, h5⟩ := hc i hi
  exact ⟨⟨(hb.cell (p := ⟨b, _, none⟩) hb').trans h1, (hb.cell (p := ⟨b, _, none⟩) hb').trans h2, (hb.cell (p := ⟨b, _, none⟩) hb').trans h3⟩, h4.below hb, h5⟩
theorem RdS.more {w : World} {B B' n : Nat} {A : Option Addr} {X : Nat → SgV} (h : RdS w B A n X) (hB : B ≤ B') : RdS w B' A n X := by
 rcases h with h | ⟨b, off, e, hb', hc⟩
 · exact .inl h
 ·
  refine .inr ⟨b, off, e, Nat.lt_of_lt_of_le hb' hB, fun i hi => ?_⟩
  obtain ⟨h1, h4, h5⟩ := hc i hi
  exact ⟨h1, h4.more hB, h5⟩
theorem RdS.at_ {w : World} {B n : Nat} {A : Option Addr} {X : Nat → SgV} (h : RdS w B A n X) {i : Nat} (hi : i < n) : ∃ b off, A = some ⟨b, off, none⟩ ∧ b < B ∧ w.cell? ⟨b, off + i * 3, none⟩ = some (.int .i64 (X i).tk) ∧ w.cell? ⟨b, off + i * 3 + 1, none⟩ = some (.slice (X i).A (X i).L.length (X i).c) ∧ w.cell? ⟨b, off + i * 3 + 2, none⟩ = some (.bool (X i).seen) ∧ Rd1 w B (X i).A (X i).L.length (fun k => (X i).L.getD k 0) ∧ (X i).L.length ≤ maxLen := by
 obtain ⟨b, off, e, hb, hc⟩ := h.resolve_left (by omega)
 obtain ⟨⟨h1, h2, h3⟩, h4, h5⟩ := hc i hi
 exact ⟨b, off, e, hb, h1, h2, h3, h4, h5⟩
def sgOk (cf : FuncId) : Prop := cf = 97 ∨ cf = 140
set_option maxHeartbeats 1600000 in
theorem allsg_any (A : Option Addr) (n c B : Nat) (X : Nat → SgV) (cf : FuncId) (caps : Array Value) (p : Nat → Bool) (w : World) (hn : n ≤ maxLen) (hR : RdS w B A n X) (hB : B ≤ w.heap.size) (hcf : sgOk cf)
  (hf : ∀ W i, Below w.heap.size w W → i < n → Calls Tryz.prog cf (#[.agg (X i).cs] ++ caps) W fun e w' => e = .returned (.bool (p i)) ∧ Below W.heap.size W w') :
  Calls Tryz.prog 98 #[.slice A n c, .func (.func cf) #[] caps] w fun e w' => e = .returned (.bool (M.allTo n p)) ∧ Below w.heap.size w w' := by
 unfold maxLen at hn
 rcases hcf with rfl | rfl
 all_goals
  have HFN := Lib.hid hf
  have HR := Lib.hid hR
  clear hf hR
  go_enter Tryz.func98, Tryz.ntmps98
  go_wp2_with fail
  go_loopw [9] (fun i wr => ∃ k : Nat, k ≤ n ∧ i = .int .i64 k ∧ M.allTo k p = true ∧ Hid (Below w.heap.size w wr)) (fun i _ => n - (intOf i).toNat)
  case atStart => exact ⟨0, Nat.zero_le _, rfl, rfl, Lib.hid (Below.refl _ _)⟩
  case round =>
   obtain ⟨k, hk, rfl, hf, HB⟩ := hrel
   have HF := Lib.hid hf
   clear hf
   by_cases hlt : k < n
   ·
    obtain ⟨b, off, rfl, hb, c0, c1, c2, _, _⟩ := (HR.out.below (HB.out.mono hB)).at_ hlt
    have HV := Lib.hid (fun W (hW : Below w.heap.size w W) => HFN.out W k hW hlt)
    obtain ⟨q, hq⟩ : ∃ q, p k = q := ⟨_, rfl⟩
    rw [hq] at HV
    have HQ := Lib.hid hq
    clear hq
    cases q
    ·
     go_wp2_with (refine (HV.out _ (HB.out.trans ((belowAlloc _ _).mono HB.out.size))).mono ?_; rintro e w1 ⟨rfl, hb1⟩; have HB1 := Lib.hid hb1; clear hb1)
     go_ret
     refine ⟨ret_bool ?_, (HB.out.trans ((belowAlloc _ _).mono HB.out.size)).trans (HB1.out.mono (Nat.le_trans HB.out.size (by simp)))⟩
     cases ha : M.allTo n p
     · rfl
     ·
      have := M.allTo_iff.1 ha k hlt
      rw [HQ.out] at this; cases this
    ·
     go_wp2_with (refine (HV.out _ (HB.out.trans ((belowAlloc _ _).mono HB.out.size))).mono ?_; rintro e w1 ⟨rfl, hb1⟩; have HB1 := Lib.hid hb1; clear hb1)
     go_roundw
     case rel => exact ⟨k + 1, by omega, by go_num, by simp [M.allTo, HF.out, HQ.out], Lib.hid ((HB.out.trans ((belowAlloc _ _).mono HB.out.size)).trans (HB1.out.mono (Nat.le_trans HB.out.size (by simp))))⟩
     case measure => simp [intOf]; omega
   ·
    obtain rfl : k = n := by omega
    go_wp2_with fail
    go_ret
    exact ⟨ret_bool HF.out.symm, HB.out⟩
end Go.Proofs.YtnbeembnnjdmdaaGreatDoor
/- drift: whether a cell agrees with the sightings, and fits. -/
namespace Go.Proofs.YtnbeembnnjdmdaaGreatDoor
open Go.RowKit Go.Maps

theorem cell_lt {w : World} {b i : Nat} {v : Value} (h : w.cell? ⟨b, i, none⟩ = some v) : b < w.heap.size := by
 obtain ⟨o, ho, _⟩ := cells_of_cell h
 exact (Array.getElem?_eq_some_iff.1 ho).1
set_option maxRecDepth 100000 in
set_option maxHeartbeats 3200000 in
theorem agrees1_any (x : SgV) (tp cp B : Nat) (tick cell : Int) (w : World) (h1 : w.cell? ⟨tp, 0, none⟩ = some (.int .i64 tick)) (h2 : w.cell? ⟨cp, 0, none⟩ = some (.int .i64 cell)) (hR : Rd1 w B x.A x.L.length (fun k => x.L.getD k 0)) (hB : B ≤ w.heap.size) (hL : x.L.length ≤ maxLen) :
  Calls Tryz.prog 140 #[.agg x.cs, .pointer (some ⟨tp, 0, none⟩), .pointer (some ⟨cp, 0, none⟩)] w fun e w' => e = .returned (.bool (M.agr x.sg tick cell)) ∧ Below w.heap.size w w' := by
 obtain ⟨tk, A, c, L, seen⟩ := x
 have HR := Lib.hid (hR.below ((belowAlloc w (.cells #[.int .i64 tk, .slice A L.length c, .bool seen] 68)).mono hB))
 have HB := Lib.hid (belowAlloc w (.cells #[.int .i64 tk, .slice A L.length c, .bool seen] 68))
 have K := Lib.hid (Blk.new w 68 #[.int .i64 tk, .slice A L.length c, .bool seen])
 have k1 := (HB.out.cell (p := ⟨tp, 0, none⟩) (cell_lt h1)).trans h1
 have k2 := (HB.out.cell (p := ⟨cp, 0, none⟩) (cell_lt h2)).trans h2
 have hL' : L.length ≤ 9223372036854775807 := by unfold maxLen at hL; exact hL
 unfold M.agr SgV.sg
 dsimp only
 clear hR h1 h2 hL
 by_cases ht : tk = tick
 ·
  subst ht
  rw [decide_eq_true rfl, Bool.not_true, Bool.false_or]
  obtain ⟨q, hq⟩ : ∃ q, L.contains cell = q := ⟨_, rfl⟩
  have HC := Lib.hid (fun n => contains_any A L c B cell ((w.alloc (.cells #[.int .i64 tk, .slice A L.length c, .bool seen] 68)).drewN n) hL' HR.out)
  rw [hq] at HC ⊢
  clear hq
  cases q <;> cases seen
  all_goals
   go_enter Tryz.func140, Tryz.ntmps140
   go_upto_region 1 with fail
   generalize w.alloc _ = X at *
   have k0 := K.out.cell 0
   have k3 := K.out.cell 1
   have k4 := K.out.cell 2
   go_quiet (first | (go_at_call 67; exact Calls.quiet_of_same (HC.out _)) | fail)
   go_wp2_with fail
   go_ret
   exact ⟨rfl, HB.out.drewN _⟩
 ·
  have g1 : (tk != tick) = true := by simpa using ht
  rw [decide_eq_false ht, Bool.not_false, Bool.true_or]
  clear ht
  go_enter Tryz.func140, Tryz.ntmps140
  go_upto_region 1 with fail
  generalize w.alloc _ = X at *
  have k0 := K.out.cell 0
  have k3 := K.out.cell 1
  have k4 := K.out.cell 2
  go_quiet (fail)
  go_wp2_with fail
  go_ret
  exact ⟨rfl, HB.out.drewN _⟩
section
variable {P hn hc xc B : Nat} {at_ lo hi : Int} {xL : List Int} {xA hA : Option Addr} {X : Nat → SgV} {w : World}
set_option maxRecDepth 100000 in
set_option maxHeartbeats 3200000 in
theorem dagrees_any (hR : RdS w B hA hn X) (hB : B ≤ w.heap.size) (hm : hn ≤ maxLen) (cell tick : Int) :
  Calls Tryz.prog 122 #[.agg #[.pointer (some ⟨P, 0, none⟩), .int .i64 at_, .slice xA xL.length xc, .int .i64 lo, .int .i64 hi, .slice hA hn hc], .int .i64 cell, .int .i64 tick] w fun e w' => e = .returned (.bool (M.agAll (fun i => (X i).sg) hn tick cell)) ∧ Below w.heap.size w w' := by
 have hb := belowAlloc3 w (.cells #[.pointer (some ⟨P, 0, none⟩), .int .i64 at_, .slice xA xL.length xc, .int .i64 lo, .int .i64 hi, .slice hA hn hc] 105) (.cells #[.int .i64 cell] 3) (.cells #[.int .i64 tick] 3)
 have H1 := Lib.hid ((blk_at (W := w.alloc (.cells #[.pointer (some ⟨P, 0, none⟩), .int .i64 at_, .slice xA xL.length xc, .int .i64 lo, .int .i64 hi, .slice hA hn hc] 105)) (size_alloc _ _) 3 #[.int .i64 cell]).alloc (.cells #[.int .i64 tick] 3))
 have H2 := Lib.hid (Blk.new2 w (.cells #[.pointer (some ⟨P, 0, none⟩), .int .i64 at_, .slice xA xL.length xc, .int .i64 lo, .int .i64 hi, .slice hA hn hc] 105) (.cells #[.int .i64 cell] 3) 3 #[.int .i64 tick])
 have HA := Lib.hid (allsg_any hA hn hc B X 140 #[.pointer (some ⟨w.heap.size + 1 + 1, 0, none⟩), .pointer (some ⟨w.heap.size + 1, 0, none⟩)] (fun i => M.agr (X i).sg tick cell) _ hm (hR.below (hb.mono hB)) (Nat.le_trans hB hb.size) (.inr rfl)
  (fun W i hW hi => by
   obtain ⟨b, off, _, _, _, _, _, h1, h2⟩ := ((hR.below (hb.mono hB)).below (hW.mono (Nat.le_trans hB hb.size))).at_ hi
   have := agrees1_any (X i) (w.heap.size + 1 + 1) (w.heap.size + 1) B tick cell W ((H2.out.below' hW).cell 0) ((H1.out.below' hW).cell 0) h1 (Nat.le_trans (Nat.le_trans hB hb.size) hW.size) h2
   simpa using this))
 have HB := Lib.hid hb
 clear hb hR H1 H2
 go_enter Tryz.func122, Tryz.ntmps122
 go_wp2_with (go_at_call 98; refine HA.out.mono ?_; rintro e w1 ⟨rfl, hb1⟩; have HB1 := Lib.hid hb1; clear hb1)
 go_ret
 exact ⟨rfl, HB.out.trans (HB1.out.mono HB.out.size)⟩
set_option maxRecDepth 100000 in
set_option maxHeartbeats 3200000 in
theorem fits_any {fc ft fl : Int} (cb fb : Nat) (hcb : Blk w cb 105 #[.pointer (some ⟨P, 0, none⟩), .int .i64 at_, .slice xA xL.length xc, .int .i64 lo, .int .i64 hi, .slice hA hn hc]) (hfb : Blk w fb 96 #[.int .i64 fc, .int .i64 ft, .int .i64 fl]) (hR : RdS w B hA hn X) (hB : B ≤ w.heap.size) (hm : hn ≤ maxLen) (cell tick : Int) :
  Calls Tryz.prog 121 #[.int .i64 cell, .int .i64 tick, .pointer (some ⟨cb, 0, none⟩), .pointer (some ⟨fb, 0, none⟩)] w fun e w' => e = .returned (.bool (M.agAll (fun i => (X i).sg) hn tick cell && M.fixB ft fc tick cell)) ∧ Below w.heap.size w w' := by
 obtain ⟨c0, c1, c2, c3⟩ := hcb.c4
 have c4 := hcb.cell 4
 have c5 := hcb.cell 5
 have HA := Lib.hid (dagrees_any (P := P) (hc := hc) (xc := xc) (at_ := at_) (lo := lo) (hi := hi) (xL := xL) (xA := xA) hR hB hm cell tick)
 have HF := Lib.hid hfb
 generalize M.agAll (fun i => (X i).sg) hn tick cell = q at HA ⊢
 unfold M.fixB
 clear hcb hfb hR
 cases q
 ·
  go_enter Tryz.func121, Tryz.ntmps121
  go_wp2_with (go_at_call 122; refine HA.out.mono ?_; rintro e w1 ⟨rfl, hb1⟩; have HB1 := Lib.hid hb1; clear hb1)
  go_ret
  exact ⟨rfl, HB1.out⟩
 ·
  by_cases h1 : tick = ft
  ·
   have g1 : (tick != ft) = false := by simpa using h1
   by_cases h2 : cell = fc
   ·
    have g2 : (cell == fc) = true := by simpa using h2
    have e : (true && (!decide (tick = ft) || decide (cell = fc))) = true := by simp [h1, h2]
    rw [e]
    clear e h1 h2
    go_enter Tryz.func121, Tryz.ntmps121
    go_wp2_with (go_at_call 122; refine HA.out.mono ?_; rintro e w1 ⟨rfl, hb1⟩; have HB1 := Lib.hid hb1; obtain ⟨f0, f1⟩ := (HF.out.below' hb1).c2; clear hb1)
    go_ret
    exact ⟨rfl, HB1.out⟩
   ·
    have g2 : (cell == fc) = false := by simpa using h2
    have e : (true && (!decide (tick = ft) || decide (cell = fc))) = false := by simp [h1, h2]
    rw [e]
    clear e h1 h2
    go_enter Tryz.func121, Tryz.ntmps121
    go_wp2_with (go_at_call 122; refine HA.out.mono ?_; rintro e w1 ⟨rfl, hb1⟩; have HB1 := Lib.hid hb1; obtain ⟨f0, f1⟩ := (HF.out.below' hb1).c2; clear hb1)
    go_ret
    exact ⟨rfl, HB1.out⟩
  ·
   have g1 : (tick != ft) = true := by simpa using h1
   have e : (true && (!decide (tick = ft) || decide (cell = fc))) = true := by simp [h1]
   rw [e]
   clear e h1
   go_enter Tryz.func121, Tryz.ntmps121
   go_wp2_with (go_at_call 122; refine HA.out.mono ?_; rintro e w1 ⟨rfl, hb1⟩; have HB1 := Lib.hid hb1; obtain ⟨f0, f1⟩ := (HF.out.below' hb1).c2; clear hb1)
   go_ret
   exact ⟨rfl, HB1.out⟩
theorem nofit_any {fc ft fl : Int} (cb fb kb tb : Nat) (tick : Int) (hkb : Blk w kb 114 #[.func (.func 121) #[] #[.pointer (some ⟨cb, 0, none⟩), .pointer (some ⟨fb, 0, none⟩)]]) (htb : Blk w tb 3 #[.int .i64 tick])
  (hcb : Blk w cb 105 #[.pointer (some ⟨P, 0, none⟩), .int .i64 at_, .slice xA xL.length xc, .int .i64 lo, .int .i64 hi, .slice hA hn hc]) (hfb : Blk w fb 96 #[.int .i64 fc, .int .i64 ft, .int .i64 fl]) (hR : RdS w B hA hn X) (hB : B ≤ w.heap.size) (hm : hn ≤ maxLen) (n : Int) :
  Calls Tryz.prog 124 #[.int .i64 n, .pointer (some ⟨kb, 0, none⟩), .pointer (some ⟨tb, 0, none⟩)] w fun e w' => e = .returned (.bool (!(M.agAll (fun i => (X i).sg) hn tick n && M.fixB ft fc tick n))) ∧ Below w.heap.size w w' := by
 have HF := Lib.hid (fits_any (P := P) (hc := hc) (xc := xc) (at_ := at_) (lo := lo) (hi := hi) (xL := xL) (xA := xA) cb fb hcb hfb hR hB hm n tick)
 have k0 := hkb.cell 0
 have t0 := htb.cell 0
 clear hkb htb hcb hfb hR
 go_enter Tryz.func124, Tryz.ntmps124
 go_wp2_with (refine HF.out.mono ?_; rintro e w1 ⟨rfl, hb1⟩; have HB1 := Lib.hid hb1; clear hb1)
 go_ret
 exact ⟨ret_bool (by simp), HB1.out⟩
end
end Go.Proofs.YtnbeembnnjdmdaaGreatDoor
