/- lanes.Route and Block where the trip is not valid; the reference's checkTrip, Route, Some. -/
import Derived.Test.YtkdpmihdhiokkaaGreatDoorF1
import Derived.Test.YtkdpmihdhiokkaaGreatDoorPA
import Derived.Test.YtkdpmihdhiokkaaGreatDoorDT
import Derived.Test.YtkdpmihdhiokkaaGreatDoorCards
import Derived.SevenTiedAt
namespace Go.Proofs.YtkdpmihdhiokkaaGreatDoor
open Go.RowKit

section
variable (s : M.Sea) (dA tA sA lA : Option Addr) (dc tc sc ln lc B : Nat) (L : Nat → M.Leg) (w : World)
set_option maxRecDepth 100000 in
set_option maxHeartbeats 1600000 in
theorem ask_bad (at_ lv dr fr dst : Int) (tl : Bool) (hs : s.Ok) (hw : Ways w) (hR : RdC w B dA tA sA s.nd s.nt s.nt s.dep s.tide s.sw) (hB : B ≤ w.heap.size) (hL : RdL w B lA ln L) (hln : ln ≤ 1048576) (hlo : M.legsOk s ln L = true) (hto : M.tripOk s ⟨at_, lv, dr, tl, fr, dst⟩ = false) :
    Calls Tryz.prog 32 #[.agg #[.int .i64 (s.W : Int), .int .i64 (s.H : Int), .slice dA s.nd dc, .slice tA s.nt tc, .slice sA s.nt sc], .slice lA ln lc, .agg #[.int .i64 at_, .int .i64 lv, .int .i64 dr, .bool tl, .int .i64 fr, .int .i64 dst]] w fun e w' => (∃ x, e = .returned (.tuple #[.pointer (some ⟨x, 0, none⟩), .int .i64 61])) ∧ Below w.heap.size w w' := by
  have HB0 := Lib.hid (belowAlloc2 w (.cells #[.int .i64 (s.W : Int), .int .i64 (s.H : Int), .slice dA s.nd dc, .slice tA s.nt tc, .slice sA s.nt sc] 25) (.cells #[.int .i64 at_, .int .i64 lv, .int .i64 dr, .bool tl, .int .i64 fr, .int .i64 dst] 39))
  have P0 := Lib.hid (Blk.new1 w (.cells #[.int .i64 (s.W : Int), .int .i64 (s.H : Int), .slice dA s.nd dc, .slice tA s.nt tc, .slice sA s.nt sc] 25) 39 #[.int .i64 at_, .int .i64 lv, .int .i64 dr, .bool tl, .int .i64 fr, .int .i64 dst])
  have C0 := Lib.hid ((Blk.new w 25 #[.int .i64 (s.W : Int), .int .i64 (s.H : Int), .slice dA s.nd dc, .slice tA s.nt tc, .slice sA s.nt sc]).alloc (.cells #[.int .i64 at_, .int .i64 lv, .int .i64 dr, .bool tl, .int .i64 fr, .int .i64 dst] 39))
  obtain ⟨Y, hY⟩ : ∃ Y, Y = (w.alloc (.cells #[.int .i64 (s.W : Int), .int .i64 (s.H : Int), .slice dA s.nd dc, .slice tA s.nt tc, .slice sA s.nt sc] 25)).alloc (.cells #[.int .i64 at_, .int .i64 lv, .int .i64 dr, .bool tl, .int .i64 fr, .int .i64 dst] 39) := ⟨_, rfl⟩
  have HYe := Lib.hid hY
  rw [← hY] at HB0 P0 C0
  have HO := Lib.hid (lopen_any s dA tA sA lA dc tc sc ln lc Y.heap.size L Y hs (⟨hw.1.below (HB0.out.mono hw.2), Nat.lt_of_lt_of_le hw.2 HB0.out.size⟩) ((hR.below (HB0.out.mono hB)).more (Nat.le_trans hB HB0.out.size)) (Nat.le_refl _) ((hL.below (HB0.out.mono hB)).more (Nat.le_trans hB HB0.out.size)) hln)
  rw [hlo] at HO
  have HO2 := Lib.hid (by have h := HO.out; simp only [if_true] at h; exact h)
  have HTR := Lib.hid (fun W base x (ht : TrK W base x s.nd s dA tA sA lA dc tc sc ln lc) => trip_any s dA tA sA lA dc tc sc ln lc base x W at_ lv dr fr dst tl hs ht)
  rw [hto] at HTR
  have c0 := C0.out.cell 0
  have c1 := C0.out.cell 1
  have c2 := C0.out.cell 2
  have c3 := C0.out.cell 3
  have c4 := C0.out.cell 4
  clear hY hs hw hR hL hlo hto HO
  go_enter Tryz.func32, Tryz.ntmps32
  go_upto_region 1 with fail
  rw [← HYe.out]
  clear HYe
  go_wp2_with (first
    | (go_at_call 22; go_must (refine HO2.out.mono ?_); rintro e w1 ⟨⟨x, rfl, hx⟩, hb1⟩; have HX := Lib.hid hx; have HB1 := Lib.hid (HB0.out.trans (hb1.mono HB0.out.size)); have p0 := (P0.out.below' hb1).cell 0; have p1 := (P0.out.below' hb1).cell 1; have p2 := (P0.out.below' hb1).cell 2; have p3 := (P0.out.below' hb1).cell 3; have p4 := (P0.out.below' hb1).cell 4; have p5 := (P0.out.below' hb1).cell 5; clear hb1 hx)
    | (go_at_call 24; go_must (refine (HTR.out _ _ _ HX.out).mono ?_); rintro e w2 ⟨rfl, hb2⟩; have HB2 := Lib.hid hb2; clear hb2))
  go_ret2
  exact ⟨⟨x, rfl⟩, HB1.out.trans (HB2.out.mono HB1.out.size)⟩
set_option maxRecDepth 100000 in
set_option maxHeartbeats 1600000 in
theorem Route_trip (at_ lv dr fr dst : Int) (tl : Bool) (hs : s.Ok) (hw : Ways w) (hR : RdC w B dA tA sA s.nd s.nt s.nt s.dep s.tide s.sw) (hB : B ≤ w.heap.size) (hL : RdL w B lA ln L) (hln : ln ≤ 1048576) (hlo : M.legsOk s ln L = true) (hto : M.tripOk s ⟨at_, lv, dr, tl, fr, dst⟩ = false) :
    Calls Tryz.prog 13 #[.agg #[.int .i64 (s.W : Int), .int .i64 (s.H : Int), .slice dA s.nd dc, .slice tA s.nt tc, .slice sA s.nt sc], .slice lA ln lc, .agg #[.int .i64 at_, .int .i64 lv, .int .i64 dr, .bool tl, .int .i64 fr, .int .i64 dst]] w fun e w' => e = .returned (.tuple #[.slice none 0 0, .int .i64 61]) ∧ Below w.heap.size w w' := by
  have HR := Lib.hid (belowAlloc2 w (.cells #[.int .i64 (s.W : Int), .int .i64 (s.H : Int), .slice dA s.nd dc, .slice tA s.nt tc, .slice sA s.nt sc] 25) (.cells #[.int .i64 at_, .int .i64 lv, .int .i64 dr, .bool tl, .int .i64 fr, .int .i64 dst] 39))
  have CR := Lib.hid ((Blk.new w 25 #[.int .i64 (s.W : Int), .int .i64 (s.H : Int), .slice dA s.nd dc, .slice tA s.nt tc, .slice sA s.nt sc]).alloc (.cells #[.int .i64 at_, .int .i64 lv, .int .i64 dr, .bool tl, .int .i64 fr, .int .i64 dst] 39))
  have XR := Lib.hid (Blk.new1 w (.cells #[.int .i64 (s.W : Int), .int .i64 (s.H : Int), .slice dA s.nd dc, .slice tA s.nt tc, .slice sA s.nt sc] 25) 39 #[.int .i64 at_, .int .i64 lv, .int .i64 dr, .bool tl, .int .i64 fr, .int .i64 dst])
  obtain ⟨X, hX⟩ : ∃ X, X = (w.alloc (.cells #[.int .i64 (s.W : Int), .int .i64 (s.H : Int), .slice dA s.nd dc, .slice tA s.nt tc, .slice sA s.nt sc] 25)).alloc (.cells #[.int .i64 at_, .int .i64 lv, .int .i64 dr, .bool tl, .int .i64 fr, .int .i64 dst] 39) := ⟨_, rfl⟩
  have HXe := Lib.hid hX
  rw [← hX] at HR CR XR
  clear hX
  have HA := Lib.hid (ask_bad s dA tA sA lA dc tc sc ln lc B L X at_ lv dr fr dst tl hs (hw.below HR.out) (hR.below (HR.out.mono hB)) (Nat.le_trans hB HR.out.size) (hL.below (HR.out.mono hB)) hln hlo hto)
  have c0 := CR.out.cell 0
  have c1 := CR.out.cell 1
  have c2 := CR.out.cell 2
  have c3 := CR.out.cell 3
  have c4 := CR.out.cell 4
  have x0 := XR.out.cell 0
  have x1 := XR.out.cell 1
  have x2 := XR.out.cell 2
  have x3 := XR.out.cell 3
  have x4 := XR.out.cell 4
  have x5 := XR.out.cell 5
  clear hs hw hR hL hlo hto hB
  go_enter Tryz.func13, Tryz.ntmps13
  go_upto_region 1 with fail
  rw [← HXe.out]
  clear HXe
  go_wp2_with (go_at_call 32; go_must (refine HA.out.mono ?_); rintro e w1 ⟨⟨x, rfl⟩, hb1⟩; have HB1 := Lib.hid (HR.out.trans (hb1.mono HR.out.size)); clear hb1)
  go_ret2
  exact ⟨rfl, HB1.out⟩
set_option maxRecDepth 100000 in
set_option maxHeartbeats 1600000 in
theorem Block_trip (at_ lv dr fr dst : Int) (tl : Bool) (hs : s.Ok) (hw : Ways w) (hR : RdC w B dA tA sA s.nd s.nt s.nt s.dep s.tide s.sw) (hB : B ≤ w.heap.size) (hL : RdL w B lA ln L) (hln : ln ≤ 1048576) (hlo : M.legsOk s ln L = true) (hto : M.tripOk s ⟨at_, lv, dr, tl, fr, dst⟩ = false) :
    Calls Tryz.prog 16 #[.agg #[.int .i64 (s.W : Int), .int .i64 (s.H : Int), .slice dA s.nd dc, .slice tA s.nt tc, .slice sA s.nt sc], .slice lA ln lc, .agg #[.int .i64 at_, .int .i64 lv, .int .i64 dr, .bool tl, .int .i64 fr, .int .i64 dst]] w fun e w' => e = .returned (.tuple #[.slice none 0 0, .int .i64 61]) ∧ Below w.heap.size w w' := by
  have HR := Lib.hid (belowAlloc2 w (.cells #[.int .i64 (s.W : Int), .int .i64 (s.H : Int), .slice dA s.nd dc, .slice tA s.nt tc, .slice sA s.nt sc] 25) (.cells #[.int .i64 at_, .int .i64 lv, .int .i64 dr, .bool tl, .int .i64 fr, .int .i64 dst] 39))
  have CR := Lib.hid ((Blk.new w 25 #[.int .i64 (s.W : Int), .int .i64 (s.H : Int), .slice dA s.nd dc, .slice tA s.nt tc, .slice sA s.nt sc]).alloc (.cells #[.int .i64 at_, .int .i64 lv, .int .i64 dr, .bool tl, .int .i64 fr, .int .i64 dst] 39))
  have XR := Lib.hid (Blk.new1 w (.cells #[.int .i64 (s.W : Int), .int .i64 (s.H : Int), .slice dA s.nd dc, .slice tA s.nt tc, .slice sA s.nt sc] 25) 39 #[.int .i64 at_, .int .i64 lv, .int .i64 dr, .bool tl, .int .i64 fr, .int .i64 dst])
  obtain ⟨X, hX⟩ : ∃ X, X = (w.alloc (.cells #[.int .i64 (s.W : Int), .int .i64 (s.H : Int), .slice dA s.nd dc, .slice tA s.nt tc, .slice sA s.nt sc] 25)).alloc (.cells #[.int .i64 at_, .int .i64 lv, .int .i64 dr, .bool tl, .int .i64 fr, .int .i64 dst] 39) := ⟨_, rfl⟩
  have HXe := Lib.hid hX
  rw [← hX] at HR CR XR
  clear hX
  have HA := Lib.hid (ask_bad s dA tA sA lA dc tc sc ln lc B L X at_ lv dr fr dst tl hs (hw.below HR.out) (hR.below (HR.out.mono hB)) (Nat.le_trans hB HR.out.size) (hL.below (HR.out.mono hB)) hln hlo hto)
  have c0 := CR.out.cell 0
  have c1 := CR.out.cell 1
  have c2 := CR.out.cell 2
  have c3 := CR.out.cell 3
  have c4 := CR.out.cell 4
  have x0 := XR.out.cell 0
  have x1 := XR.out.cell 1
  have x2 := XR.out.cell 2
  have x3 := XR.out.cell 3
  have x4 := XR.out.cell 4
  have x5 := XR.out.cell 5
  clear hs hw hR hL hlo hto hB
  go_enter Tryz.func16, Tryz.ntmps16
  go_upto_region 1 with fail
  rw [← HXe.out]
  clear HXe
  go_wp2_with (go_at_call 32; go_must (refine HA.out.mono ?_); rintro e w1 ⟨⟨x, rfl⟩, hb1⟩; have HB1 := Lib.hid (HR.out.trans (hb1.mono HR.out.size)); clear hb1)
  go_ret2
  exact ⟨rfl, HB1.out⟩
end
section
variable (W H : Int) (dA tA sA lA : Option Addr) (nd dc nt tc ns sc ln lc : Nat) (E at_ lv dr fr dst : Int) (tl tv : Bool) (w : World)
/-- checkTrip, from what Check and IsTrip answer -/
def ctE (E : Int) (tv : Bool) : Int := if E = 0 then (if tv then 0 else 61) else E
set_option maxRecDepth 100000 in
set_option maxHeartbeats 1600000 in
theorem rct_any (HO : ∀ V, Below w.heap.size w V → Calls Tryz.prog 28 #[.agg #[.int .i64 W, .int .i64 H, .slice dA nd dc, .slice tA nt tc, .slice sA ns sc], .slice lA ln lc] V fun e w' => e = .returned (.int .i64 E) ∧ Below V.heap.size V w')
    (HT : E = 0 → ∀ V, Below w.heap.size w V → Calls Tryz.prog 29 #[.agg #[.int .i64 W, .int .i64 H, .slice dA nd dc, .slice tA nt tc, .slice sA ns sc], .agg #[.int .i64 at_, .int .i64 lv, .int .i64 dr, .bool tl, .int .i64 fr, .int .i64 dst]] V fun e w' => e = .returned (.bool tv) ∧ Below V.heap.size V w') :
    Calls Tryz.prog 33 #[.agg #[.int .i64 W, .int .i64 H, .slice dA nd dc, .slice tA nt tc, .slice sA ns sc], .slice lA ln lc, .agg #[.int .i64 at_, .int .i64 lv, .int .i64 dr, .bool tl, .int .i64 fr, .int .i64 dst]] w fun e w' => e = .returned (.int .i64 (ctE E tv)) ∧ Below w.heap.size w w' := by
  have HR := Lib.hid (belowAlloc2 w (.cells #[.int .i64 W, .int .i64 H, .slice dA nd dc, .slice tA nt tc, .slice sA ns sc] 25) (.cells #[.int .i64 at_, .int .i64 lv, .int .i64 dr, .bool tl, .int .i64 fr, .int .i64 dst] 39))
  have CR := Lib.hid ((Blk.new w 25 #[.int .i64 W, .int .i64 H, .slice dA nd dc, .slice tA nt tc, .slice sA ns sc]).alloc (.cells #[.int .i64 at_, .int .i64 lv, .int .i64 dr, .bool tl, .int .i64 fr, .int .i64 dst] 39))
  have XR := Lib.hid (Blk.new1 w (.cells #[.int .i64 W, .int .i64 H, .slice dA nd dc, .slice tA nt tc, .slice sA ns sc] 25) 39 #[.int .i64 at_, .int .i64 lv, .int .i64 dr, .bool tl, .int .i64 fr, .int .i64 dst])
  obtain ⟨X, hX⟩ : ∃ X, X = (w.alloc (.cells #[.int .i64 W, .int .i64 H, .slice dA nd dc, .slice tA nt tc, .slice sA ns sc] 25)).alloc (.cells #[.int .i64 at_, .int .i64 lv, .int .i64 dr, .bool tl, .int .i64 fr, .int .i64 dst] 39) := ⟨_, rfl⟩
  have HXe := Lib.hid hX
  rw [← hX] at HR CR XR
  clear hX
  have HC := Lib.hid HO
  have c0 := CR.out.cell 0
  have c1 := CR.out.cell 1
  have c2 := CR.out.cell 2
  have c3 := CR.out.cell 3
  have c4 := CR.out.cell 4
  by_cases hE : E = 0
  · subst hE
    have HI := Lib.hid (HT rfl)
    have HCT := Lib.hid (show ctE 0 tv = if tv then 0 else 61 from rfl)
    obtain ⟨R, hRR⟩ : ∃ R, R = ctE 0 tv := ⟨_, rfl⟩
    rw [← hRR] at HCT
    rw [← hRR]
    clear HO HT hRR
    cases tv
    all_goals
      have HCT2 := Lib.hid (by have h := HCT.out; simp only [Bool.false_eq_true, if_false, if_true] at h; exact h)
      clear HCT
      go_enter Tryz.func33, Tryz.ntmps33
      go_upto_region 1 with fail
      rw [← HXe.out]
      clear HXe
      go_wp2_with (first
        | (go_at_call 28; go_must (refine (HC.out _ HR.out).mono ?_); rintro e w1 ⟨rfl, hb1⟩; have HB1 := Lib.hid (HR.out.trans (hb1.mono HR.out.size)); have CR1 := Lib.hid (CR.out.below' hb1); have XR1 := Lib.hid (XR.out.below' hb1); clear hb1 c0 c1 c2 c3 c4; have c0 := CR1.out.cell 0; have c1 := CR1.out.cell 1; have c2 := CR1.out.cell 2; have c3 := CR1.out.cell 3; have c4 := CR1.out.cell 4; have x0 := XR1.out.cell 0; have x1 := XR1.out.cell 1; have x2 := XR1.out.cell 2; have x3 := XR1.out.cell 3; have x4 := XR1.out.cell 4; have x5 := XR1.out.cell 5)
        | (go_at_call 29; go_must (refine (HI.out _ HB1.out).mono ?_); rintro e w2 ⟨rfl, hb2⟩; have HB2 := Lib.hid (HB1.out.trans (hb2.mono HB1.out.size)); clear hb2))
      go_ret
      exact ⟨by rw [HCT2.out]; rfl, HB2.out⟩
  · have e1 : (E != 0) = true := by simpa using hE
    have HCT := Lib.hid (show ctE E tv = E by unfold ctE; rw [if_neg hE])
    clear HO HT hE
    rw [HCT.out]
    go_enter Tryz.func33, Tryz.ntmps33
    go_upto_region 1 with fail
    rw [← HXe.out]
    clear HXe
    go_wp2_with (go_at_call 28; go_must (refine (HC.out _ HR.out).mono ?_); rintro e w1 ⟨rfl, hb1⟩; have HB1 := Lib.hid (HR.out.trans (hb1.mono HR.out.size)); clear hb1)
    go_ret
    exact ⟨rfl, HB1.out⟩
/-- the reference's Route, from what checkTrip and route answer -/
def rtE (C : Int) (hv : Bool) : Int := if C = 0 then (if hv then 0 else 3) else C
set_option maxRecDepth 100000 in
set_option maxHeartbeats 1600000 in
theorem rroute_all (C : Int) (hv : Bool) (Q : Value → World → Prop) (HO : ∀ V, Below w.heap.size w V → Calls Tryz.prog 33 #[.agg #[.int .i64 W, .int .i64 H, .slice dA nd dc, .slice tA nt tc, .slice sA ns sc], .slice lA ln lc, .agg #[.int .i64 at_, .int .i64 lv, .int .i64 dr, .bool tl, .int .i64 fr, .int .i64 dst]] V fun e w' => e = .returned (.int .i64 C) ∧ Below V.heap.size V w')
    (HT : C = 0 → ∀ V, Below w.heap.size w V → Calls Tryz.prog 30 #[.agg #[.int .i64 W, .int .i64 H, .slice dA nd dc, .slice tA nt tc, .slice sA ns sc], .slice lA ln lc, .agg #[.int .i64 at_, .int .i64 lv, .int .i64 dr, .bool tl, .int .i64 fr, .int .i64 dst]] V fun e w' => (∃ v, e = .returned (.tuple #[v, .bool hv]) ∧ Q v w') ∧ Below V.heap.size V w') :
    Calls Tryz.prog 14 #[.agg #[.int .i64 W, .int .i64 H, .slice dA nd dc, .slice tA nt tc, .slice sA ns sc], .slice lA ln lc, .agg #[.int .i64 at_, .int .i64 lv, .int .i64 dr, .bool tl, .int .i64 fr, .int .i64 dst]] w fun e w' => (∃ v, e = .returned (.tuple #[v, .int .i64 (rtE C hv)]) ∧ if rtE C hv = 0 then Q v w' else v = .slice none 0 0) ∧ Below w.heap.size w w' := by
  have HR := Lib.hid (belowAlloc2 w (.cells #[.int .i64 W, .int .i64 H, .slice dA nd dc, .slice tA nt tc, .slice sA ns sc] 25) (.cells #[.int .i64 at_, .int .i64 lv, .int .i64 dr, .bool tl, .int .i64 fr, .int .i64 dst] 39))
  have CR := Lib.hid ((Blk.new w 25 #[.int .i64 W, .int .i64 H, .slice dA nd dc, .slice tA nt tc, .slice sA ns sc]).alloc (.cells #[.int .i64 at_, .int .i64 lv, .int .i64 dr, .bool tl, .int .i64 fr, .int .i64 dst] 39))
  have XR := Lib.hid (Blk.new1 w (.cells #[.int .i64 W, .int .i64 H, .slice dA nd dc, .slice tA nt tc, .slice sA ns sc] 25) 39 #[.int .i64 at_, .int .i64 lv, .int .i64 dr, .bool tl, .int .i64 fr, .int .i64 dst])
  obtain ⟨X, hX⟩ : ∃ X, X = (w.alloc (.cells #[.int .i64 W, .int .i64 H, .slice dA nd dc, .slice tA nt tc, .slice sA ns sc] 25)).alloc (.cells #[.int .i64 at_, .int .i64 lv, .int .i64 dr, .bool tl, .int .i64 fr, .int .i64 dst] 39) := ⟨_, rfl⟩
  have HXe := Lib.hid hX
  rw [← hX] at HR CR XR
  clear hX
  have HC := Lib.hid HO
  have c0 := CR.out.cell 0
  have c1 := CR.out.cell 1
  have c2 := CR.out.cell 2
  have c3 := CR.out.cell 3
  have c4 := CR.out.cell 4
  have x0 := XR.out.cell 0
  have x1 := XR.out.cell 1
  have x2 := XR.out.cell 2
  have x3 := XR.out.cell 3
  have x4 := XR.out.cell 4
  have x5 := XR.out.cell 5
  by_cases hE : C = 0
  · subst hE
    have HI := Lib.hid (HT rfl)
    clear HO HT
    cases hv
    all_goals
      go_enter Tryz.func14, Tryz.ntmps14
      go_upto_region 1 with fail
      rw [← HXe.out]
      clear HXe
      go_wp2_with (first
        | (go_at_call 33; go_must (refine (HC.out _ HR.out).mono ?_); rintro e w1 ⟨rfl, hb1⟩; have HB1 := Lib.hid (HR.out.trans (hb1.mono HR.out.size)); have CR1 := Lib.hid (CR.out.below' hb1); have XR1 := Lib.hid (XR.out.below' hb1); clear hb1 c0 c1 c2 c3 c4 x0 x1 x2 x3 x4 x5; have c0 := CR1.out.cell 0; have c1 := CR1.out.cell 1; have c2 := CR1.out.cell 2; have c3 := CR1.out.cell 3; have c4 := CR1.out.cell 4; have x0 := XR1.out.cell 0; have x1 := XR1.out.cell 1; have x2 := XR1.out.cell 2; have x3 := XR1.out.cell 3; have x4 := XR1.out.cell 4; have x5 := XR1.out.cell 5)
        | (go_at_call 30; go_must (refine (HI.out _ HB1.out).mono ?_); rintro e w2 ⟨⟨v, rfl, hq⟩, hb2⟩; have HQ := Lib.hid hq; have HB2 := Lib.hid (HB1.out.trans (hb2.mono HB1.out.size)); clear hb2 hq))
      go_ret2
      first
        | exact ⟨⟨_, rfl, HQ.out⟩, HB2.out⟩
        | exact ⟨rfl, HB2.out⟩
  · have e1 : (C != 0) = true := by simpa using hE
    have HCT := Lib.hid (show rtE C hv = C by unfold rtE; rw [if_neg hE])
    rw [HCT.out]
    simp only [if_neg hE]
    clear HO HT hE
    go_enter Tryz.func14, Tryz.ntmps14
    go_upto_region 1 with fail
    rw [← HXe.out]
    clear HXe
    go_wp2_with (go_at_call 33; go_must (refine (HC.out _ HR.out).mono ?_); rintro e w1 ⟨rfl, hb1⟩; have HB1 := Lib.hid (HR.out.trans (hb1.mono HR.out.size)); clear hb1)
    go_ret2
    first
      | exact ⟨⟨_, rfl, rfl⟩, HB1.out⟩
      | exact ⟨rfl, HB1.out⟩
end
end Go.Proofs.YtkdpmihdhiokkaaGreatDoor
/- The reference's Some and Block. -/
namespace Go.Proofs.YtkdpmihdhiokkaaGreatDoor
open Go.RowKit

namespace M
section
variable {s : Sea} {L : Nat → Leg} {n : Nat} {r : Trip}
def lessI (s : Sea) (L : Nat → Leg) (n : Nat) (r : Trip) (i : Nat) : List Int := (lessL s L n r i).map fun x : Nat => (x : Int)
theorem less_cat {q a n1 i : Nat} (hq : q < n) (ha : a = (keep s L n r q).length) (hn : n1 = a + (n - q)) (hi : i < a + (n1 - (a + 1))) : (if i < a then (leftI s L n r q).getD i 0 else (leftI s L n r q).getD (i - a + (a + 1)) 0) = (lessI s L n r q).getD i 0 := by
  unfold leftI lessI leftL lessL
  simp only [List.getD_eq_getElem?_getD, List.getElem?_map, List.getElem?_append, ← ha]
  by_cases h : i < a
  · simp only [if_pos h]
  · simp only [if_neg h]
    rw [if_neg (by omega), show i - a + (a + 1) - a = i - a + 1 by omega, List.getElem?_range' (by omega), List.getElem?_range' (by omega)]
    congr 3
    omega
theorem less_len {q a n1 : Nat} (hq : q < n) (ha : a = (keep s L n r q).length) (hn : n1 = a + (n - q)) : a + (n1 - (a + 1)) = (lessL s L n r q).length := by
  unfold lessL
  simp
  omega
end
end M
theorem rdV_take {w : World} {B n a : Nat} {A : Option Addr} {F : Nat → Nat → Value} (h : RdV w B A 1 n F) (ha : a ≤ n) : RdV w B A 1 a F := by
  rcases h with h | ⟨b, off, hA, hb, hc⟩
  · exact .inl (by omega)
  · exact .inr ⟨b, off, hA, hb, fun i j hi hj => hc i j (by omega) hj⟩
theorem rdV_drop {w : World} {B n a g c : Nat} {F : Nat → Nat → Value} (h : RdV w B (some ⟨g, 0, none⟩) 1 n F) (hn : n ≤ c) : RdV w B (if c = a + 1 then some ⟨g, 0, none⟩ else some ⟨g, a + 1, none⟩) 1 (n - (a + 1)) (fun i => F (i + (a + 1))) := by
  by_cases hc : c = a + 1
  · exact .inl (by omega)
  · rw [if_neg hc]
    rcases h with h | ⟨b, off, hA, hb, hcs⟩
    · exact .inl (by omega)
    · injection hA with hA
      injection hA with e1 e2 _
      subst e1; subst e2
      refine .inr ⟨g, a + 1, rfl, hb, fun i j hi hj => ?_⟩
      have h2 := hcs (i + (a + 1)) j (by omega) hj
      rw [show (0 : Nat) + ((i + (a + 1)) * 1 + j) = a + 1 + (i * 1 + j) by omega] at h2
      exact h2
def lenOf : Value → Nat
  | .slice _ n _ => n
  | _ => 0
section
variable {W W' : World} {B base n : Nat} {u : Value} {l : M.Leg} {L : Nat → M.Leg}
theorem OwnL.app {v v' : Value} {V : Nat → Value} (hB : B ≤ base) (hV1 : Own W base 46 5 v n (legV L V)) (hV2 : ∀ i, i < n → LegCells W B base (V i) (L i) ∧ 0 < (L i).n) (hu : LegCells W B base u l ∧ 0 < l.n) (hg : W.grownBy W' v.ownBlock)
    (ho : Own W' base 46 5 v' (n + 1) (upd (legV L V) n (legRow l u))) : OwnL W' B base v' (n + 1) (fun i => if i = n then l else L i) := by
  refine ⟨fun i => if i = n then u else V i, by rw [← legV_upd]; exact ho, fun i hi => ?_⟩
  by_cases e : i = n
  · simp only [e, if_true]
    exact hu.1.row hu.2 hV1 hg hB
  · simp only [e, if_false]
    have h := hV2 i (by omega)
    exact h.1.row h.2 hV1 hg hB
end
section
variable (lA iA : Option Addr) (ln lc ic B : Nat) (L : Nat → M.Leg) (l : List Nat) (w : World)
set_option maxRecDepth 100000 in
set_option maxHeartbeats 3200000 in
theorem rsome_any (hL : RdL w B lA ln L) (hB : B ≤ w.heap.size) (hI : Rd1 w w.heap.size iA l.length (fun i => (((l.map fun x : Nat => (x : Int)).getD i 0)))) (hl : l.length ≤ 12) (hlt : ∀ i, i < l.length → l.getD i 0 < ln) (hn0 : ∀ i, i < ln → 0 < (L i).n) :
    Calls Tryz.prog 39 #[.slice lA ln lc, .slice iA l.length ic] w fun e w' => (∃ v, e = .returned v ∧ OwnL w' B w.heap.size v l.length (M.someL L l)) ∧ Below w.heap.size w w' := by
  have HLR := Lib.hid (fun V (hb : Below w.heap.size w V) => hL.below (hb.mono hB))
  have HIR := Lib.hid (fun V (hb : Below w.heap.size w V) => hI.below hb)
  have HLT := Lib.hid hlt
  have HN0 := Lib.hid hn0
  have HBB := Lib.hid hB
  have HGD := Lib.hid (fun i (hi : i < l.length) => (show (l.map fun x : Nat => (x : Int)).getD i 0 = ((l.getD i 0 : Nat) : Int) by
    rw [List.getD_eq_getElem?_getD, List.getD_eq_getElem?_getD, List.getElem?_map, List.getElem?_eq_getElem hi]
    rfl))
  obtain ⟨j0, ki, kz0, kz1, kz2⟩ := info_parts leg_info
  have MJ := Lib.hid (And.intro ki (And.intro kz0 (And.intro kz1 kz2)))
  clear ki kz0 kz1 kz2 hB hL hI hlt hn0
  go_enter Tryz.func39, Tryz.ntmps39
  go_wp2_with fail
  go_loopw [5, 6] (fun v i wr => ∃ k : Nat, k ≤ l.length ∧ i = .int .i64 (k : Int) ∧ OwnL wr B w.heap.size v k (M.someL L l) ∧ Below w.heap.size w wr) (fun _ i _ => l.length - (intOf i).toNat)
  case atStart => exact ⟨0, Nat.zero_le _, rfl, OwnL.nil_, Below.refl _ _⟩
  case round =>
    obtain ⟨k, hk, rfl, ho, hbw⟩ := hrel
    obtain ⟨V, h1, h2⟩ := ho
    obtain ⟨oA, oc, rfl⟩ := h1.form
    have HO := Lib.hid h1
    have HC := Lib.hid h2
    have HW := Lib.hid hbw
    have hz := hbw.size
    clear h1 h2 hbw
    by_cases hlt : k < l.length
    · obtain ⟨ib, io, rfl, hib, hic⟩ := (HIR.out wr HW.out).resolve_left (by omega)
      have i0 : wr.cell? ⟨ib, io + k, none⟩ = some (.int .i64 ((l.getD k 0 : Nat) : Int)) := by rw [← HGD.out k hlt]; exact hic k hlt
      obtain ⟨j, hj⟩ : ∃ j, j = l.getD k 0 := ⟨_, rfl⟩
      have HJ := Lib.hid hj
      have hjn : j < ln := by rw [hj]; exact HLT.out k hlt
      rw [← hj] at i0
      clear hj hic
      obtain ⟨b, off, rfl, hb, g0, g1, g2, g3, cA, cc, g4, hcr, hcn⟩ := (HLR.out wr HW.out).at_ hjn
      have kx : decide (l.length ≤ k) = false := decide_eq_false (by omega)
      have kx2 : (k : Int) < (l.length : Int) := (by omega)
      have kj : decide (ln ≤ j) = false := decide_eq_false (by omega)
      have kj2 : (j : Int) < (ln : Int) := (by omega)
      have HN := Lib.hid (HN0.out j hjn)
      obtain ⟨lg, hlg⟩ : ∃ lg, lg = L j := ⟨_, rfl⟩
      have HLG := Lib.hid hlg
      rw [← hlg] at g0 g1 g2 g3 g4 hcr hcn HN
      clear hlg
      have HU := Lib.hid (show LegCells wr B w.heap.size (.slice cA lg.n cc) lg from ⟨hcn, .inl ⟨cA, cc, rfl, hcr⟩⟩)
      clear hcr hcn
      go_wp2_with (at_builtin; go_must (refine wpList_app rfl (.tmp 13) (.tmp 21) 26 rfl w.heap.size 46 5 56 Tryz.underlying26 MJ.out.1 MJ.out.2.1 MJ.out.2.2.1 MJ.out.2.2.2 rfl (by decide) (by decide) (HO.out.alloc _) rfl (by omega) (by simp; omega) wr.heap.size 1 (legRow lg (.slice cA lg.n cc)) rfl (leg_tmp wr lg (.slice cA lg.n cc)) (fun j _ => legRow_one lg _ rfl j) ?_); intro v8 w8 o8 hg8 hat8; have HO8 := Lib.hid o8; have HG8 := Lib.hid hg8; clear o8 hg8 hat8)
      go_roundw
      case rel =>
        refine ⟨k + 1, by omega, by go_num, (OwnL.app HBB.out (HO.out.alloc _) (fun i hi => ⟨(HC.out i hi).below (belowAlloc _ _) (Nat.le_trans HBB.out hz), ?_⟩) ⟨HU.out.below (belowAlloc _ _) (Nat.le_trans HBB.out hz), HN.out⟩ HG8.out HO8.out).congr fun i hi => ?_, (HW.out.alloc hz _).grown HG8.out (by simp; omega) (fun g hg => (HO.out.block hg).1)⟩
        · exact HN0.out _ (HLT.out i (by omega))
        · by_cases e : i = k
          · subst e; rw [if_pos rfl, HLG.out, HJ.out]; rfl
          · rw [if_neg e]
      case measure => simp [intOf]; omega
    · obtain rfl : k = l.length := by omega
      go_wp2_with fail
      go_ret
      exact ⟨⟨_, rfl, V, HO.out, HC.out⟩, HW.out⟩
end
section
variable (W H : Int) (dA tA sA lA : Option Addr) (nd dc nt tc ns sc ln lc : Nat) (C at_ lv dr fr dst : Int) (tl : Bool) (w : World)
set_option maxRecDepth 100000 in
set_option maxHeartbeats 1600000 in
theorem rblock_err (HO : ∀ V, Below w.heap.size w V → Calls Tryz.prog 33 #[.agg #[.int .i64 W, .int .i64 H, .slice dA nd dc, .slice tA nt tc, .slice sA ns sc], .slice lA ln lc, .agg #[.int .i64 at_, .int .i64 lv, .int .i64 dr, .bool tl, .int .i64 fr, .int .i64 dst]] V fun e w' => e = .returned (.int .i64 C) ∧ Below V.heap.size V w') (hE : C ≠ 0) :
    Calls Tryz.prog 17 #[.agg #[.int .i64 W, .int .i64 H, .slice dA nd dc, .slice tA nt tc, .slice sA ns sc], .slice lA ln lc, .agg #[.int .i64 at_, .int .i64 lv, .int .i64 dr, .bool tl, .int .i64 fr, .int .i64 dst]] w fun e w' => e = .returned (.tuple #[.slice none 0 0, .int .i64 C]) ∧ Below w.heap.size w w' := by
  have HR := Lib.hid (belowAlloc2 w (.cells #[.int .i64 W, .int .i64 H, .slice dA nd dc, .slice tA nt tc, .slice sA ns sc] 25) (.cells #[.int .i64 at_, .int .i64 lv, .int .i64 dr, .bool tl, .int .i64 fr, .int .i64 dst] 39))
  have CR := Lib.hid ((Blk.new w 25 #[.int .i64 W, .int .i64 H, .slice dA nd dc, .slice tA nt tc, .slice sA ns sc]).alloc (.cells #[.int .i64 at_, .int .i64 lv, .int .i64 dr, .bool tl, .int .i64 fr, .int .i64 dst] 39))
  have XR := Lib.hid (Blk.new1 w (.cells #[.int .i64 W, .int .i64 H, .slice dA nd dc, .slice tA nt tc, .slice sA ns sc] 25) 39 #[.int .i64 at_, .int .i64 lv, .int .i64 dr, .bool tl, .int .i64 fr, .int .i64 dst])
  obtain ⟨X, hX⟩ : ∃ X, X = (w.alloc (.cells #[.int .i64 W, .int .i64 H, .slice dA nd dc, .slice tA nt tc, .slice sA ns sc] 25)).alloc (.cells #[.int .i64 at_, .int .i64 lv, .int .i64 dr, .bool tl, .int .i64 fr, .int .i64 dst] 39) := ⟨_, rfl⟩
  have HXe := Lib.hid hX
  rw [← hX] at HR CR XR
  clear hX
  have HC := Lib.hid HO
  have c0 := CR.out.cell 0
  have c1 := CR.out.cell 1
  have c2 := CR.out.cell 2
  have c3 := CR.out.cell 3
  have c4 := CR.out.cell 4
  have x0 := XR.out.cell 0
  have x1 := XR.out.cell 1
  have x2 := XR.out.cell 2
  have x3 := XR.out.cell 3
  have x4 := XR.out.cell 4
  have x5 := XR.out.cell 5
  have e1 : (C != 0) = true := by simpa using hE
  clear HO hE
  go_enter Tryz.func17, Tryz.ntmps17
  go_upto_region 1 with fail
  rw [← HXe.out]
  clear HXe
  go_wp2_with (go_at_call 33; go_must (refine (HC.out _ HR.out).mono ?_); rintro e w1 ⟨rfl, hb1⟩; have HB1 := Lib.hid (HR.out.trans (hb1.mono HR.out.size)); clear hb1)
  go_ret2
  exact ⟨rfl, HB1.out⟩
end
section
variable (s : M.Sea) (dA tA sA lA : Option Addr) (dc tc sc ln lc B : Nat) (L : Nat → M.Leg) (w : World)
set_option maxRecDepth 100000 in
set_option maxHeartbeats 3200000 in
theorem rblock_ok (at_ lv dr fr dst : Int) (tl : Bool) (hs : s.Ok) (hR : RdC w B dA tA sA s.nd s.nt s.nt s.dep s.tide s.sw) (hB : B ≤ w.heap.size) (hL : RdL w B lA ln L) (hln : ln ≤ 12) (hlo : M.legsOk s ln L = true) (hto : M.tripOk s ⟨at_, lv, dr, tl, fr, dst⟩ = true) :
    Calls Tryz.prog 17 #[.agg #[.int .i64 (s.W : Int), .int .i64 (s.H : Int), .slice dA s.nd dc, .slice tA s.nt tc, .slice sA s.nt sc], .slice lA ln lc, .agg #[.int .i64 at_, .int .i64 lv, .int .i64 dr, .bool tl, .int .i64 fr, .int .i64 dst]] w fun e w' =>
      (∃ v, e = .returned (.tuple #[v, .int .i64 (if M.hasR s L ln ⟨at_, lv, dr, tl, fr, dst⟩ then 3 else 0)]) ∧ Own w' w.heap.size 3 1 v (M.blockI s L ln ⟨at_, lv, dr, tl, fr, dst⟩).length (lst (M.blockI s L ln ⟨at_, lv, dr, tl, fr, dst⟩))) ∧ Below w.heap.size w w' := by
  have hok : ∀ i, i < ln → M.LegOk s (L i) := fun i hi => by
    unfold M.legsOk at hlo
    simp only [Bool.and_eq_true] at hlo
    exact M.legOk_iff.1 (M.allTo_iff.1 hlo.2 i hi)
  have hnt := hs.t2
  have HAT := Lib.hid (fun i (hi : i < ln) => (show -100 ≤ (L i).at_ ∧ (L i).at_ ≤ 100 ∧ (L i).n ≤ 100 by
    have h := hok i hi
    have h0 := h.at0
    have h1 := h.at1
    have h2 := h.n1
    omega))
  have HN0 := Lib.hid (fun i (hi : i < ln) => (hok i hi).n0)
  have HR := Lib.hid (belowAlloc2 w (.cells #[.int .i64 (s.W : Int), .int .i64 (s.H : Int), .slice dA s.nd dc, .slice tA s.nt tc, .slice sA s.nt sc] 25) (.cells #[.int .i64 at_, .int .i64 lv, .int .i64 dr, .bool tl, .int .i64 fr, .int .i64 dst] 39))
  have CR := Lib.hid ((Blk.new w 25 #[.int .i64 (s.W : Int), .int .i64 (s.H : Int), .slice dA s.nd dc, .slice tA s.nt tc, .slice sA s.nt sc]).alloc (.cells #[.int .i64 at_, .int .i64 lv, .int .i64 dr, .bool tl, .int .i64 fr, .int .i64 dst] 39))
  have XR := Lib.hid (Blk.new1 w (.cells #[.int .i64 (s.W : Int), .int .i64 (s.H : Int), .slice dA s.nd dc, .slice tA s.nt tc, .slice sA s.nt sc] 25) 39 #[.int .i64 at_, .int .i64 lv, .int .i64 dr, .bool tl, .int .i64 fr, .int .i64 dst])
  obtain ⟨X, hX⟩ : ∃ X, X = (w.alloc (.cells #[.int .i64 (s.W : Int), .int .i64 (s.H : Int), .slice dA s.nd dc, .slice tA s.nt tc, .slice sA s.nt sc] 25)).alloc (.cells #[.int .i64 at_, .int .i64 lv, .int .i64 dr, .bool tl, .int .i64 fr, .int .i64 dst] 39) := ⟨_, rfl⟩
  have HXe := Lib.hid hX
  rw [← hX] at HR CR XR
  clear hX
  have HCK := Lib.hid (fun V (hb : Below w.heap.size w V) => (show Calls Tryz.prog 28 #[.agg #[.int .i64 (s.W : Int), .int .i64 (s.H : Int), .slice dA s.nd dc, .slice tA s.nt tc, .slice sA s.nt sc], .slice lA ln lc] V fun e w' => e = .returned (.int .i64 0) ∧ Below V.heap.size V w' from by
    have h := rcheck_ok s dA tA sA lA dc tc sc ln lc B L V hs (hR.below (hb.mono hB)) (Nat.le_trans hB hb.size) (hL.below (hb.mono hB)) (by omega)
    unfold M.legsE at h
    rw [if_pos hlo] at h
    exact h))
  have HIT := Lib.hid (fun V => (show Calls Tryz.prog 29 #[.agg #[.int .i64 (s.W : Int), .int .i64 (s.H : Int), .slice dA s.nd dc, .slice tA s.nt tc, .slice sA s.nt sc], .agg #[.int .i64 at_, .int .i64 lv, .int .i64 dr, .bool tl, .int .i64 fr, .int .i64 dst]] V fun e w' => e = .returned (.bool true) ∧ Below V.heap.size V w' from by
    have h := istrip_ok s dA tA sA dc tc sc at_ lv dr fr dst tl V hs
    rw [hto] at h
    exact h))
  have HCT := Lib.hid (fun V (hb : Below w.heap.size w V) => (show Calls Tryz.prog 33 #[.agg #[.int .i64 (s.W : Int), .int .i64 (s.H : Int), .slice dA s.nd dc, .slice tA s.nt tc, .slice sA s.nt sc], .slice lA ln lc, .agg #[.int .i64 at_, .int .i64 lv, .int .i64 dr, .bool tl, .int .i64 fr, .int .i64 dst]] V fun e w' => e = .returned (.int .i64 0) ∧ Below V.heap.size V w' from
    rct_any (s.W : Int) (s.H : Int) dA tA sA lA s.nd dc s.nt tc s.nt sc ln lc 0 at_ lv dr fr dst tl true V (fun V' hb' => HCK.out V' (hb.trans (hb'.mono hb.size))) (fun _ V' _ => HIT.out V')))
  have HRT := Lib.hid (fun V A n c L' (hb : Below w.heap.size w V) (hl' : RdL V V.heap.size A n L') (hn : n ≤ 1048576) (hat' : ∀ i, i < n → -100 ≤ (L' i).at_ ∧ (L' i).at_ ≤ 100 ∧ (L' i).n ≤ 100) => rroute_ok s dA tA sA A dc tc sc n c V.heap.size L' V at_ lv dr fr dst tl hs ((hR.below (hb.mono hB)).more (Nat.le_trans hB hb.size)) (Nat.le_refl _) hl' hn hat' hto)
  have HSO := Lib.hid (fun V iA ic (l : List Nat) (hb : Below w.heap.size w V) hI hl hlt => rsome_any lA iA ln lc ic B L l V (hL.below (hb.mono hB)) (Nat.le_trans hB hb.size) hI hl hlt HN0.out)
  have HRL := Lib.hid (fun V (hb : Below w.heap.size w V) => hL.below (hb.mono hB))
  have HBB := Lib.hid hB
  obtain ⟨r, hr⟩ : ∃ r : M.Trip, r = ⟨at_, lv, dr, tl, fr, dst⟩ := ⟨_, rfl⟩
  rw [← hr] at HRT
  rw [← hr]
  obtain ⟨i0, hi, hz0, hz1, hz2⟩ := info_parts int_info
  have MI := Lib.hid (And.intro hi (And.intro hz0 (And.intro hz1 hz2)))
  have HBI := Lib.hid (show M.blockI s L ln r = if M.hasR s L ln r then [] else (M.keep s L ln r ln).map fun x : Nat => (x : Int) from rfl)
  clear hi hz0 hz1 hz2 hs hR hL hlo hto hB hok hr
  obtain ⟨hv, hhv⟩ : ∃ hv, hv = M.hasR s L ln r := ⟨_, rfl⟩
  have HHV := Lib.hid hhv
  have HR1 := Lib.hid (fun V hb => HRT.out V lA ln lc L hb ((HRL.out V hb).more (Nat.le_trans HBB.out hb.size)) (by omega) HAT.out)
  rw [← hhv] at HR1 HBI
  rw [← hhv]
  clear hhv
  have c0 := CR.out.cell 0
  have c1 := CR.out.cell 1
  have c2 := CR.out.cell 2
  have c3 := CR.out.cell 3
  have c4 := CR.out.cell 4
  have x0 := XR.out.cell 0
  have x1 := XR.out.cell 1
  have x2 := XR.out.cell 2
  have x3 := XR.out.cell 3
  have x4 := XR.out.cell 4
  have x5 := XR.out.cell 5
  go_enter Tryz.func17, Tryz.ntmps17
  go_upto_region 1 with fail
  rw [← HXe.out]
  clear HXe
  cases hv
  · have HBI2 := Lib.hid (show M.blockI s L ln r = (M.keep s L ln r ln).map fun x : Nat => (x : Int) from HBI.out)
    go_upto_region 7 with (first
      | (go_at_call 33; go_must (refine (HCT.out _ HR.out).mono ?_); rintro e w1 ⟨rfl, hb1⟩; have HR' := Lib.hid (HR.out.trans (hb1.mono HR.out.size)); have CR' := Lib.hid (CR.out.below' hb1); have XR' := Lib.hid (XR.out.below' hb1); clear hb1 HR CR XR c0 c1 c2 c3 c4 x0 x1 x2 x3 x4 x5; have HR := HR'; have CR := CR'; have XR := XR'; clear HR' CR' XR'; have c0 := CR.out.cell 0; have c1 := CR.out.cell 1; have c2 := CR.out.cell 2; have c3 := CR.out.cell 3; have c4 := CR.out.cell 4; have x0 := XR.out.cell 0; have x1 := XR.out.cell 1; have x2 := XR.out.cell 2; have x3 := XR.out.cell 3; have x4 := XR.out.cell 4; have x5 := XR.out.cell 5)
      | (go_at_call 30; go_must (refine (HR1.out _ HR.out).mono ?_); rintro e w2 ⟨⟨v2, rfl, hv2⟩, hb2⟩; clear hv2; have HR' := Lib.hid (HR.out.trans (hb2.mono HR.out.size)); have CR' := Lib.hid (CR.out.below' hb2); have XR' := Lib.hid (XR.out.below' hb2); clear hb2 HR CR XR c0 c1 c2 c3 c4 x0 x1 x2 x3 x4 x5; have HR := HR'; have CR := CR'; have XR := XR'; clear HR' CR' XR'; have c0 := CR.out.cell 0; have c1 := CR.out.cell 1; have c2 := CR.out.cell 2; have c3 := CR.out.cell 3; have c4 := CR.out.cell 4; have x0 := XR.out.cell 0; have x1 := XR.out.cell 1; have x2 := XR.out.cell 2; have x3 := XR.out.cell 3; have x4 := XR.out.cell 4; have x5 := XR.out.cell 5))
    clear c0 c1 c2 c3 c4 x0 x1 x2 x3 x4 x5
    obtain ⟨Y, hY⟩ : ∃ Y, Y = w2 := ⟨_, rfl⟩
    rw [← hY] at HR CR XR
    rw [← hY]
    clear hY
    have hzY := HR.out.size
    go_wp2_with fail
    go_loopw [11, 12] (fun v i wr => ∃ k : Nat, k ≤ ln ∧ i = .int .i64 (k : Int) ∧ Own wr Y.heap.size 3 1 v k (ints fun i => (i : Int)) ∧ Below Y.heap.size Y wr) (fun _ i _ => ln - (intOf i).toNat)
    case atStart => exact ⟨0, Nat.zero_le _, rfl, Own.nil_, Below.refl _ _⟩
    case round =>
      obtain ⟨k, hk, rfl, ho, hbw⟩ := hrel
      obtain ⟨oA, oc, rfl⟩ := ho.form
      have HO := Lib.hid ho
      have HW := Lib.hid hbw
      have hzr := hbw.size
      clear ho hbw
      by_cases hlt : k < ln
      · have kx : decide (ln ≤ k) = false := decide_eq_false (by omega)
        go_wp2_with (at_builtin; go_must (refine wpList_app rfl (.tmp 38) (.tmp 40) 22 rfl Y.heap.size 3 1 8 Tryz.underlying22 MI.out.1 MI.out.2.1 MI.out.2.2.1 MI.out.2.2.2 rfl (by decide) (by decide) (HO.out.alloc _) rfl (by omega) (by simp; omega) wr.heap.size 1 (fun _ => .int .i64 (k : Int)) rfl (cell_last rfl) (fun _ _ => rfl) ?_); intro v7 w7 o7 hg7 hat7; have HO7 := Lib.hid o7; have HG7 := Lib.hid hg7; clear o7 hg7 hat7)
        go_roundw
        case rel => exact ⟨k + 1, by omega, by go_num, HO7.out.congr (fun i j _ _ => by
          unfold upd ints
          by_cases e : i = k
          · rw [if_pos e, e]
          · rw [if_neg e]), (HW.out.alloc hzr _).grown HG7.out (by simp; omega) (fun g hg => (HO.out.block hg).1)⟩
        case measure => simp [intOf]; omega
      · obtain rfl : ln = k := by omega
        have HLZ := Lib.hid (show (M.leftI s L ln r 0).length = ln by rw [M.leftI_zero]; simp)
        have O0 := Lib.hid (show Own wr Y.heap.size 3 1 (.slice oA ln oc) (M.leftI s L ln r 0).length (lst (M.leftI s L ln r 0)) by
          rw [HLZ.out]
          refine HO.out.congr fun i j hi _ => ?_
          unfold ints lst
          rw [M.leftI_zero, List.getD_eq_getElem?_getD, List.getElem?_map, List.getElem?_range' (by omega)]
          simp)
        obtain ⟨Z, hZ⟩ : ∃ Z, Z = wr := ⟨_, rfl⟩
        have HZ := Lib.hid (show Below w.heap.size w Z by rw [hZ]; exact HR.out.trans (HW.out.mono hzY))
        have HYZ := Lib.hid (show Y.heap.size ≤ Z.heap.size by rw [hZ]; exact hzr)
        have CZ := Lib.hid (CR.out.below' HW.out)
        have XZ := Lib.hid (XR.out.below' HW.out)
        rw [← hZ] at O0 CZ XZ
        rw [← hZ]
        clear hZ HO HW
        have HLE := Lib.hid (fun i (hi : i ≤ ln) => (show (M.leftI s L ln r i).length = (M.keep s L ln r i).length + (ln - i) by unfold M.leftI M.leftL; simp))
        have hzZ := HZ.out.size
        go_wp2_with fail
        go_loopw [11, 13] (fun v i wr => ∃ q a : Nat, q ≤ ln ∧ i = .int .i64 (a : Int) ∧ Hid (a = (M.keep s L ln r q).length) ∧ Own wr Y.heap.size 3 1 v (M.leftI s L ln r q).length (lst (M.leftI s L ln r q)) ∧ Below Z.heap.size Z wr) (fun v i _ => lenOf v - (intOf i).toNat)
        case atStart => exact ⟨0, 0, Nat.zero_le _, rfl, Lib.hid rfl, O0.out, Below.refl _ _⟩
        case round =>
          obtain ⟨q, a, hq, rfl, HAQ, ho, hbw⟩ := hrel
          have HO := Lib.hid ho
          have HW := Lib.hid hbw
          have hzr2 := hbw.size
          have HLQ := Lib.hid (HLE.out q hq)
          have HBW := Lib.hid (HZ.out.trans (hbw.mono hzZ))
          clear ho hbw
          obtain ⟨n1, hn1⟩ : ∃ n1, n1 = (M.leftI s L ln r q).length := ⟨_, rfl⟩
          by_cases hlt : q < ln
          · obtain ⟨g9, c9, rfl⟩ := HO.out.nz (by have := HLQ.out; have := HAQ.out; omega)
            rw [← hn1] at HO HLQ
            rw [← hn1]
            have HN1 := Lib.hid hn1
            clear hn1
            have HAN := Lib.hid (show n1 = a + (ln - q) by rw [HLQ.out, HAQ.out])
            have hna : a < n1 ∧ n1 ≤ 12 := (by have h1 := HAN.out; have h2 := M.leftI_len (s := s) (L := L) (n := ln) (r := r) hq; rw [← HN1.out] at h2; omega)
            have kx : decide (n1 ≤ a) = false := decide_eq_false (by omega)
            have kx2 : (a : Int) < (n1 : Int) := (by omega)
            have kx3 : (a : Int) ≤ (n1 : Int) := (by omega)
            have kx4 : (a : Int) + 1 ≤ (n1 : Int) := (by omega)
            have kx5 : (0 : Int) ≤ (a : Int) + 1 := (by omega)
            have hroom : n1 ≤ c9 := HO.out.room
            have kx6 : a ≤ c9 := (by omega)
            have HLL := Lib.hid (M.less_len (s := s) (L := L) (r := r) hlt HAQ.out HAN.out)
            have HLC := Lib.hid (fun i (hi : i < a + (n1 - (a + 1))) => M.less_cat (s := s) (L := L) (r := r) (i := i) hlt HAQ.out HAN.out hi)
            have hwa : IntKind.i64.wrap ((a : Int) + 1) = (a : Int) + 1 := by rw [IntKind.wrap_i64]; omega
            go_upto_region 14 with fail
            refine wp_region_T 10 (fun w' => Below wr.heap.size wr w') (by kernel_rfl) (Below.refl _ _).drew ?_
            intro hS
            refine wpAnyT_take (i := 1) (v := ?_) rfl (by kernel_rfl) (by kernel_rfl) (by kernel_rfl) (by kernel_rfl) (by kernel_rfl) (fun _ _ _ h => h) (.inl ⟨by kernel_rfl, ?_⟩) hS ?_
            rotate_left
            · (intro w' hw; skip; go_simp; try with_reducible rfl)
            try simp only [put_laws]
            refine wpAnyT_take (i := 2) (v := ?_) rfl (by kernel_rfl) (by kernel_rfl) (by kernel_rfl) (by kernel_rfl) (by kernel_rfl) (fun _ _ _ h => h) (.inl ⟨by kernel_rfl, ?_⟩) hS ?_
            rotate_left
            · (intro w' hw; skip; go_simp; try with_reducible rfl)
            try simp only [put_laws]
            refine wpAnyT_take (i := 3) (v := ?_) rfl (by kernel_rfl) (by kernel_rfl) (by kernel_rfl) (by kernel_rfl) (by kernel_rfl) (fun _ _ _ h => h) (.inl ⟨by kernel_rfl, ?_⟩) hS ?_
            rotate_left
            · (intro w' hw; skip; go_simp; try with_reducible rfl)
            try simp only [put_laws]
            refine wpAnyT_take (i := 5) (v := ?_) rfl (by kernel_rfl) (by kernel_rfl) (by kernel_rfl) (by kernel_rfl) (by kernel_rfl) (fun _ _ _ h => h) (.inl ⟨by kernel_rfl, ?_⟩) hS ?_
            rotate_left
            · (intro w' hw; skip; go_simp; try with_reducible rfl)
            try simp only [put_laws]
            refine wpAnyT_take (i := 6) (v := ?_) rfl (by kernel_rfl) (by kernel_rfl) (by kernel_rfl) (by kernel_rfl) (by kernel_rfl) (fun _ _ _ h => h) (.inl ⟨by kernel_rfl, ?_⟩) hS ?_
            rotate_left
            · (intro w' hw; skip; go_simp; try with_reducible rfl)
            try simp only [put_laws]
            refine wpAnyT_take (i := 7) (v := ?_) rfl (by kernel_rfl) (by kernel_rfl) (by kernel_rfl) (by kernel_rfl) (by kernel_rfl) (fun _ _ _ h => h) (.inl ⟨by kernel_rfl, ?_⟩) hS ?_
            rotate_left
            · (intro w' hw; skip; go_simp; try with_reducible rfl)
            try simp only [put_laws]
            refine wpAnyT_take (i := 8) (v := ?_) rfl (by kernel_rfl) (by kernel_rfl) (by kernel_rfl) (by kernel_rfl) (by kernel_rfl) (fun _ _ _ h => h) (.inl ⟨by kernel_rfl, ?_⟩) hS ?_
            rotate_left
            · (intro w' hw; skip; go_simp; try with_reducible rfl)
            try simp only [put_laws]
            refine wpAnyT_one (i := 0) (by kernel_rfl) rfl ?_
            intro K' hK'
            go_simp
            have hS' := hS.alloc hS.size (.cells #[] 3)
            clear hS
            have hS := hS'
            clear hS'
            refine hK'.out _ _ (.inr hS) ?_
            clear hK' K'
            try simp only [put_laws]
            refine wpAnyT_one (i := 4) (by kernel_rfl) rfl ?_
            intro K' hK'
            refine step_copy (by rfl) (.tmp 46) (.tmp 49) 22 (by rfl) 3 i0 _ 1 8 Tryz.underlying22 MI.out.1 MI.out.2.1 MI.out.2.2.1 MI.out.2.2.2 rfl (by decide) (by decide) (g := wr.heap.size) (by rfl) (Blk.new wr.drew 3 #[]) (fun _ _ => rfl) (by rfl) (rdV_take ((HO.out.rdV).below (hS.mono (Nat.le_refl _))) (by omega)) (by omega) ?_
            intro A5 c5 w5 o5 hb5
            have hS' := hS.trans (hb5.mono hS.size)
            clear hS
            have hS := hS'
            clear hS' hb5
            refine hK'.out _ _ (.inr hS) ?_
            clear hK' K'
            try simp only [put_laws]
            refine wpAnyT_one (i := 9) (by kernel_rfl) rfl ?_
            intro K' hK'
            refine step_cat (by rfl) (.tmp 50) (.tmp 54) 22 (by rfl) 3 i0 _ 1 8 Tryz.underlying22 MI.out.1 MI.out.2.1 MI.out.2.2.1 MI.out.2.2.2 rfl (by decide) (by decide) (base := wr.heap.size) (by rfl) o5 (by omega) hS.size (fun _ _ => rfl) (by rfl) (rdV_drop ((HO.out.rdV).below hS) hroom) (by omega) ?_
            intro v9 w9 o9 hg9 hat9
            have hS' := Below.grown hS hg9 hS.size (fun q hq => (o5.block hq).1)
            have O9 : Own w9 wr.heap.size 3 1 v9 (M.lessL s L ln r q).length (lst (M.lessI s L ln r q)) := by (rw [← HLL.out]; exact o9.congr fun i j hi _ => (by unfold catF lst; rw [← HLC.out i hi]; split <;> rfl))
            obtain ⟨A9, c9', rfl⟩ := O9.form
            clear hS o9 hg9 hat9 o5
            have hS := hS'
            clear hS'
            refine hK'.out _ _ (.inr hS) ?_
            clear hK' K'
            try simp only [put_laws]
            refine wpAnyT_one (i := 10) (by kernel_rfl) rfl ?_
            intro K' hK'
            go_simp
            refine hK'.out _ _ (.inl rfl) ?_
            clear hK' K'
            try simp only [put_laws]
            refine wpAnyT_done (by kernel_rfl) ?_ _
            have HW9 := Lib.hid (HW.out.trans (hS.mono hzr2))
            have HB9 := Lib.hid (HZ.out.trans (HW9.out.mono hzZ))
            have hz9 := HB9.out.size
            have HO9 := Lib.hid O9
            have HL9 := Lib.hid (HO.out.below hS)
            have HR9 := Lib.hid hS.size
            clear O9 hS
            have hl12 : (M.lessL s L ln r q).length ≤ 12 := (by have := M.lessL_len (s := s) (L := L) (n := ln) (r := r) hq; omega)
            have HLT := Lib.hid (fun i (hi : i < (M.lessL s L ln r q).length) => (show (M.lessL s L ln r q).getD i 0 < ln from M.lessL_lt (s := s) (L := L) (r := r) hlt (by rw [List.getD_eq_getElem?_getD, List.getElem?_eq_getElem hi, Option.getD_some]; exact List.getElem_mem hi)))
            obtain ⟨sv, hsv⟩ : ∃ sv, sv = M.hasS s L r (M.lessL s L ln r q) := ⟨_, rfl⟩
            have HSV := Lib.hid hsv
            have HR5 := Lib.hid (fun V A c hb hl' => by
              have h := HRT.out V A (M.lessL s L ln r q).length c (M.someL L (M.lessL s L ln r q)) hb hl' (by omega) (fun i hi => HAT.out _ (HLT.out i hi))
              rw [show M.hasR s (M.someL L (M.lessL s L ln r q)) (M.lessL s L ln r q).length r = sv from hsv.symm] at h
              exact h)
            clear hsv
            have HSM := Lib.hid (fun V ic (hb : Below w.heap.size w V) (h9 : Below w9.heap.size w9 V) => HSO.out V A9 ic (M.lessL s L ln r q) hb (Own.rd1' (f := fun i => (M.lessI s L ln r q).getD i 0) (HO9.out.below h9)) hl12 HLT.out)
            go_upto_region 15 with fail
            refine wp_region_T 10 (fun w' => Below w9.heap.size w9 w') (by kernel_rfl) (Below.refl _ _).drew ?_
            intro hS
            refine wpAnyT_take (i := 0) (v := ?_) rfl (by kernel_rfl) (by kernel_rfl) (by kernel_rfl) (by kernel_rfl) (by kernel_rfl) (fun _ _ _ h => h) (.inl ⟨by kernel_rfl, ?_⟩) hS ?_
            rotate_left
            · (intro w' hw; have CQ := CZ.out.below' (HW9.out.trans (hw.mono (Nat.le_trans hzr2 HR9.out))); have XQ := XZ.out.below' (HW9.out.trans (hw.mono (Nat.le_trans hzr2 HR9.out))); have c0 := CQ.cell 0; have c1 := CQ.cell 1; have c2 := CQ.cell 2; have c3 := CQ.cell 3; have c4 := CQ.cell 4; have x0 := XQ.cell 0; have x1 := XQ.cell 1; have x2 := XQ.cell 2; have x3 := XQ.cell 3; have x4 := XQ.cell 4; have x5 := XQ.cell 5; go_simp; try with_reducible rfl)
            try simp only [put_laws]
            refine wpAnyT_take (i := 1) (v := ?_) rfl (by kernel_rfl) (by kernel_rfl) (by kernel_rfl) (by kernel_rfl) (by kernel_rfl) (fun _ _ _ h => h) (.inl ⟨by kernel_rfl, ?_⟩) hS ?_
            rotate_left
            · (intro w' hw; have CQ := CZ.out.below' (HW9.out.trans (hw.mono (Nat.le_trans hzr2 HR9.out))); have XQ := XZ.out.below' (HW9.out.trans (hw.mono (Nat.le_trans hzr2 HR9.out))); have c0 := CQ.cell 0; have c1 := CQ.cell 1; have c2 := CQ.cell 2; have c3 := CQ.cell 3; have c4 := CQ.cell 4; have x0 := XQ.cell 0; have x1 := XQ.cell 1; have x2 := XQ.cell 2; have x3 := XQ.cell 3; have x4 := XQ.cell 4; have x5 := XQ.cell 5; go_simp; try with_reducible rfl)
            try simp only [put_laws]
            refine wpAnyT_take (i := 2) (v := ?_) rfl (by kernel_rfl) (by kernel_rfl) (by kernel_rfl) (by kernel_rfl) (by kernel_rfl) (fun _ _ _ h => h) (.inl ⟨by kernel_rfl, ?_⟩) hS ?_
            rotate_left
            · (intro w' hw; have CQ := CZ.out.below' (HW9.out.trans (hw.mono (Nat.le_trans hzr2 HR9.out))); have XQ := XZ.out.below' (HW9.out.trans (hw.mono (Nat.le_trans hzr2 HR9.out))); have c0 := CQ.cell 0; have c1 := CQ.cell 1; have c2 := CQ.cell 2; have c3 := CQ.cell 3; have c4 := CQ.cell 4; have x0 := XQ.cell 0; have x1 := XQ.cell 1; have x2 := XQ.cell 2; have x3 := XQ.cell 3; have x4 := XQ.cell 4; have x5 := XQ.cell 5; go_simp; try with_reducible rfl)
            try simp only [put_laws]
            refine wpAnyT_take (i := 4) (v := ?_) rfl (by kernel_rfl) (by kernel_rfl) (by kernel_rfl) (by kernel_rfl) (by kernel_rfl) (fun _ _ _ h => h) (.inl ⟨by kernel_rfl, ?_⟩) hS ?_
            rotate_left
            · (intro w' hw; have CQ := CZ.out.below' (HW9.out.trans (hw.mono (Nat.le_trans hzr2 HR9.out))); have XQ := XZ.out.below' (HW9.out.trans (hw.mono (Nat.le_trans hzr2 HR9.out))); have c0 := CQ.cell 0; have c1 := CQ.cell 1; have c2 := CQ.cell 2; have c3 := CQ.cell 3; have c4 := CQ.cell 4; have x0 := XQ.cell 0; have x1 := XQ.cell 1; have x2 := XQ.cell 2; have x3 := XQ.cell 3; have x4 := XQ.cell 4; have x5 := XQ.cell 5; go_simp; try with_reducible rfl)
            try simp only [put_laws]
            refine wpAnyT_one (i := 3) (by kernel_rfl) rfl ?_
            intro K' hK'
            go_simp
            refine (HSM.out _ c9' (HB9.out.trans (hS.mono hz9)) hS).mono ?_
            rintro e w10 ⟨⟨v10, rfl, ho10⟩, hb10⟩
            obtain ⟨sA, sc', rfl⟩ := ho10.form
            have hS' := hS.trans (hb10.mono hS.size)
            clear hS hb10
            have hS := hS'
            clear hS'
            refine hK'.out _ _ (.inr hS) ?_
            clear hK' K'
            try simp only [put_laws]
            refine wpAnyT_one (i := 5) (by kernel_rfl) rfl ?_
            intro K' hK'
            go_simp
            refine (HR5.out _ sA sc' (HB9.out.trans (hS.mono hz9)) (ho10.rd (Nat.le_trans HBB.out (HB9.out.trans (hS.mono hz9)).size))).mono ?_
            rintro e w11 ⟨⟨v11, rfl, hv11⟩, hb11⟩
            have hS' := hS.trans (hb11.mono hS.size)
            clear hS hb11 hv11 ho10
            have hS := hS'
            clear hS'
            refine hK'.out _ _ (.inr hS) ?_
            clear hK' K'
            try simp only [put_laws]
            refine wpAnyT_one (i := 6) (by kernel_rfl) rfl ?_
            intro K' hK'
            go_simp
            refine hK'.out _ _ (.inr hS) ?_
            clear hK' K'
            try simp only [put_laws]
            refine wpAnyT_take (i := 7) (v := ?_) rfl (by kernel_rfl) (by kernel_rfl) (by kernel_rfl) (by kernel_rfl) (by kernel_rfl) (fun _ _ _ h => h) (.inl ⟨by kernel_rfl, ?_⟩) hS ?_
            rotate_left
            · (intro w' hw; skip; go_simp; try with_reducible rfl)
            try simp only [put_laws]
            refine wpAnyT_take (i := 8) (v := ?_) rfl (by kernel_rfl) (by kernel_rfl) (by kernel_rfl) (by kernel_rfl) (by kernel_rfl) (fun _ _ _ h => h) (.inl ⟨by kernel_rfl, ?_⟩) hS ?_
            rotate_left
            · (intro w' hw; skip; go_simp; try with_reducible rfl)
            try simp only [put_laws]
            refine wpAnyT_one (i := 9) (by kernel_rfl) rfl ?_
            intro K' hK'
            go_simp
            refine hK'.out _ _ (.inr hS) ?_
            clear hK' K'
            try simp only [put_laws]
            refine wpAnyT_one (i := 10) (by kernel_rfl) rfl ?_
            intro K' hK'
            go_simp
            refine hK'.out _ _ (.inl rfl) ?_
            clear hK' K'
            try simp only [put_laws]
            refine wpAnyT_done (by kernel_rfl) ?_ _
            have HZW := Lib.hid (HW9.out.trans (hS.mono (Nat.le_trans hzr2 HR9.out)))
            have HL12 := Lib.hid (HL9.out.below hS)
            have HO12 := Lib.hid (HO9.out.below hS)
            clear hS
            have hla : a + (n1 - (a + 1)) = (M.lessL s L ln r q).length := HLL.out
            have HKP := Lib.hid (show M.keep s L ln r (q + 1) = if M.hasS s L r (M.lessL s L ln r q) then M.keep s L ln r q ++ [q] else M.keep s L ln r q from rfl)
            have HLS := Lib.hid (show M.leftL s L ln r (q + 1) = if M.hasS s L r (M.lessL s L ln r q) then M.leftL s L ln r q else M.lessL s L ln r q from M.left_succ hlt)
            rw [← HSV.out] at HKP HLS
            obtain ⟨n2, hn2⟩ : ∃ n2, n2 = (M.lessL s L ln r q).length := ⟨_, rfl⟩
            have HN2 := Lib.hid hn2
            rw [← hn2] at HO12 hla
            rw [← hn2]
            clear hn2
            have HLA := Lib.hid hla
            clear hla
            cases sv
            · have HKP2 := Lib.hid (show M.keep s L ln r (q + 1) = M.keep s L ln r q from HKP.out)
              have HLS2 := Lib.hid (show M.leftI s L ln r (q + 1) = M.lessI s L ln r q by unfold M.leftI M.lessI; rw [show M.leftL s L ln r (q + 1) = M.lessL s L ln r q from HLS.out])
              go_wp2_with fail
              go_roundw
              case rel =>
                refine ⟨q + 1, a, by omega, by go_num, Lib.hid (by rw [HKP2.out]; exact HAQ.out), ?_, HZW.out⟩
                rw [HLS2.out, show (M.lessI s L ln r q).length = n2 by rw [HN2.out]; unfold M.lessI; simp]
                exact HO12.out.less (show Y.heap.size ≤ _ from Nat.le_trans HYZ.out hzr2)
              case measure => have := HLA.out; simp [intOf, lenOf]; omega
            · have HKP2 := Lib.hid (show M.keep s L ln r (q + 1) = M.keep s L ln r q ++ [q] from HKP.out)
              have HLS2 := Lib.hid (show M.leftI s L ln r (q + 1) = M.leftI s L ln r q by unfold M.leftI; rw [show M.leftL s L ln r (q + 1) = M.leftL s L ln r q from HLS.out])
              go_wp2_with fail
              go_roundw
              case rel =>
                refine ⟨q + 1, a + 1, by omega, by go_num, Lib.hid (by rw [HKP2.out]; simp; exact HAQ.out), ?_, HZW.out⟩
                rw [HLS2.out, ← HN1.out]
                exact HL12.out
              case measure => simp [intOf, lenOf]; omega
          · obtain rfl : ln = q := by omega
            have HEND := Lib.hid (show M.leftI s L ln r ln = M.blockI s L ln r by rw [HBI2.out]; unfold M.leftI; rw [M.left_end])
            have HN1 := Lib.hid hn1
            have HAN := Lib.hid (show n1 = a by have h1 := HLQ.out; have h2 := HAQ.out; omega)
            rw [← hn1] at HO
            clear hn1
            obtain ⟨A9, c9, rfl⟩ := HO.out.form
            have kx : decide (n1 ≤ a) = true := decide_eq_true (by have := HAN.out; omega)
            have kx2 : ¬ (a : Int) < (n1 : Int) := (by have := HAN.out; omega)
            go_wp2_with fail
            go_ret2
            refine ⟨⟨_, rfl, ?_⟩, HBW.out⟩
            rw [← HEND.out, ← HN1.out]
            exact HO.out.less (show w.heap.size ≤ Y.heap.size from hzY)
  · have HBI2 := Lib.hid (show M.blockI s L ln r = [] from HBI.out)
    go_wp2_with (first
      | (go_at_call 33; go_must (refine (HCT.out _ HR.out).mono ?_); rintro e w1 ⟨rfl, hb1⟩; have HR' := Lib.hid (HR.out.trans (hb1.mono HR.out.size)); have CR' := Lib.hid (CR.out.below' hb1); have XR' := Lib.hid (XR.out.below' hb1); clear hb1 HR CR XR c0 c1 c2 c3 c4 x0 x1 x2 x3 x4 x5; have HR := HR'; have CR := CR'; have XR := XR'; clear HR' CR' XR'; have c0 := CR.out.cell 0; have c1 := CR.out.cell 1; have c2 := CR.out.cell 2; have c3 := CR.out.cell 3; have c4 := CR.out.cell 4; have x0 := XR.out.cell 0; have x1 := XR.out.cell 1; have x2 := XR.out.cell 2; have x3 := XR.out.cell 3; have x4 := XR.out.cell 4; have x5 := XR.out.cell 5)
      | (go_at_call 30; go_must (refine (HR1.out _ HR.out).mono ?_); rintro e w2 ⟨⟨v2, rfl, hv2⟩, hb2⟩; have HB2 := Lib.hid (HR.out.trans (hb2.mono HR.out.size)); clear hb2))
    go_ret2
    exact ⟨⟨_, rfl, by rw [HBI2.out]; exact Own.nil_⟩, HB2.out⟩
end
end Go.Proofs.YtkdpmihdhiokkaaGreatDoor
/- Route and Block, of the program and of the reference, for any chart, legs and trip; LanesRoutes, walked. -/
namespace Go.Proofs.YtkdpmihdhiokkaaGreatDoor
open Go.RowKit

def M.seaR (W H : Int) (nd nt : Nat) (dep : Nat → Int) (tide : Nat → Nat → Int) (sw : Nat → Int) : M.Sea := ⟨W.toNat, H.toNat, nd, nt, dep, tide, sw⟩
/-- the answer of checkTrip for any input -/
def M.ctC (W H : Int) (nd nt ns : Nat) (dep : Nat → Int) (tide : Nat → Nat → Int) (sw : Nat → Int) (n : Nat) (L : Nat → M.Leg) (r : M.Trip) : Int := ctE (M.chkE W H nd nt ns dep tide sw n L) (M.tripOk (M.seaR W H nd nt dep tide sw) r)
def M.rtC (W H : Int) (nd nt ns : Nat) (dep : Nat → Int) (tide : Nat → Nat → Int) (sw : Nat → Int) (n : Nat) (L : Nat → M.Leg) (r : M.Trip) : Int := rtE (M.ctC W H nd nt ns dep tide sw n L r) (M.hasR (M.seaR W H nd nt dep tide sw) L n r)
def M.rtN (W H : Int) (nd nt ns : Nat) (dep : Nat → Int) (tide : Nat → Nat → Int) (sw : Nat → Int) (n : Nat) (L : Nat → M.Leg) (r : M.Trip) : Nat := if M.rtC W H nd nt ns dep tide sw n L r = 0 then M.endK (M.seaR W H nd nt dep tide sw) L n r + 1 else 0
def M.rtF (W H : Int) (nd nt : Nat) (dep : Nat → Int) (tide : Nat → Nat → Int) (sw : Nat → Int) (n : Nat) (L : Nat → M.Leg) (r : M.Trip) : Nat → Int := M.routeF (M.seaR W H nd nt dep tide sw) L n r (M.endK (M.seaR W H nd nt dep tide sw) L n r)
def M.bkC (W H : Int) (nd nt ns : Nat) (dep : Nat → Int) (tide : Nat → Nat → Int) (sw : Nat → Int) (n : Nat) (L : Nat → M.Leg) (r : M.Trip) : Int := if M.ctC W H nd nt ns dep tide sw n L r = 0 then (if M.hasR (M.seaR W H nd nt dep tide sw) L n r then 3 else 0) else M.ctC W H nd nt ns dep tide sw n L r
def M.bkL (W H : Int) (nd nt ns : Nat) (dep : Nat → Int) (tide : Nat → Nat → Int) (sw : Nat → Int) (n : Nat) (L : Nat → M.Leg) (r : M.Trip) : List Int := if M.ctC W H nd nt ns dep tide sw n L r = 0 then M.blockI (M.seaR W H nd nt dep tide sw) L n r else []
theorem M.legs_at2 {s : M.Sea} {n : Nat} {L : Nat → M.Leg} (hs : s.Ok) (ho : M.legsOk s n L = true) : n ≤ 12 ∧ ∀ i, i < n → -100 ≤ (L i).at_ ∧ (L i).at_ ≤ 100 ∧ (L i).n ≤ 100 := by
  have hnt := hs.t2
  unfold M.legsOk at ho
  simp only [Bool.and_eq_true, decide_eq_true_eq] at ho
  refine ⟨ho.1, fun i hi => ?_⟩
  have h := M.legOk_iff.1 (M.allTo_iff.1 ho.2 i hi)
  have h0 := h.at0
  have h1 := h.at1
  have h2 := h.n1
  omega
theorem ctE_zero {E : Int} {tv : Bool} (h : ctE E tv = 0) : E = 0 ∧ tv = true := by
  unfold ctE at h
  by_cases hE : E = 0
  · rw [if_pos hE] at h
    cases tv
    · exact absurd h (by decide)
    · exact ⟨hE, rfl⟩
  · rw [if_neg hE] at h
    exact absurd h hE
section
variable (W H : Int) (dA tA sA lA : Option Addr) (nd dc nt tc ns sc ln lc B : Nat) (dep : Nat → Int) (tide : Nat → Nat → Int) (sw : Nat → Int) (L : Nat → M.Leg) (at_ lv dr fr dst : Int) (tl : Bool) (w : World)
/-- the three ways of a chart, legs and a trip -/
theorem trip_split {P : Prop} (hE : M.chkE W H nd nt ns dep tide sw ln L ≠ 0 → M.ctC W H nd nt ns dep tide sw ln L ⟨at_, lv, dr, tl, fr, dst⟩ = M.chkE W H nd nt ns dep tide sw ln L → P)
    (h0 : ∀ W' H' : Nat, W = W' → H = H' → ns = nt → M.Sea.Ok ⟨W', H', nd, nt, dep, tide, sw⟩ → M.legsOk ⟨W', H', nd, nt, dep, tide, sw⟩ ln L = true → M.tripOk ⟨W', H', nd, nt, dep, tide, sw⟩ ⟨at_, lv, dr, tl, fr, dst⟩ = false → M.ctC W H nd nt ns dep tide sw ln L ⟨at_, lv, dr, tl, fr, dst⟩ = 61 → P)
    (h1 : ∀ W' H' : Nat, W = W' → H = H' → ns = nt → M.Sea.Ok ⟨W', H', nd, nt, dep, tide, sw⟩ → M.legsOk ⟨W', H', nd, nt, dep, tide, sw⟩ ln L = true → M.tripOk ⟨W', H', nd, nt, dep, tide, sw⟩ ⟨at_, lv, dr, tl, fr, dst⟩ = true → M.ctC W H nd nt ns dep tide sw ln L ⟨at_, lv, dr, tl, fr, dst⟩ = 0 → P) : P := by
  by_cases hz : M.chkE W H nd nt ns dep tide sw ln L = 0
  · obtain ⟨W', H', rfl, rfl, rfl, hs, ho⟩ := M.chkE_zero hz
    cases ht : M.tripOk ⟨W', H', nd, ns, dep, tide, sw⟩ ⟨at_, lv, dr, tl, fr, dst⟩
    · refine h0 W' H' rfl rfl rfl hs ho ht ?_
      unfold M.ctC
      rw [hz, show M.tripOk (M.seaR (W' : Int) (H' : Int) nd ns dep tide sw) ⟨at_, lv, dr, tl, fr, dst⟩ = false from ht]
      rfl
    · refine h1 W' H' rfl rfl rfl hs ho ht ?_
      unfold M.ctC
      rw [hz, show M.tripOk (M.seaR (W' : Int) (H' : Int) nd ns dep tide sw) ⟨at_, lv, dr, tl, fr, dst⟩ = true from ht]
      rfl
  · exact hE hz (by unfold M.ctC ctE; rw [if_neg hz])
theorem lroute_all (hnd : nd ≤ maxLen) (hnt : nt ≤ maxLen) (hns : ns ≤ maxLen) (hw : Ways w) (hR : RdC w B dA tA sA nd nt ns dep tide sw) (hB : B ≤ w.heap.size) (hL : RdL w B lA ln L) (hln : ln ≤ 1048576) :
    Calls Tryz.prog 13 #[.agg #[.int .i64 W, .int .i64 H, .slice dA nd dc, .slice tA nt tc, .slice sA ns sc], .slice lA ln lc, .agg #[.int .i64 at_, .int .i64 lv, .int .i64 dr, .bool tl, .int .i64 fr, .int .i64 dst]] w fun e w' => (∃ v, e = .returned (.tuple #[v, .int .i64 (M.rtC W H nd nt ns dep tide sw ln L ⟨at_, lv, dr, tl, fr, dst⟩)]) ∧ Own w' w.heap.size 3 1 v (M.rtN W H nd nt ns dep tide sw ln L ⟨at_, lv, dr, tl, fr, dst⟩) (ints (M.rtF W H nd nt dep tide sw ln L ⟨at_, lv, dr, tl, fr, dst⟩))) ∧ Below w.heap.size w w' := by
  refine trip_split W H nd nt ns ln dep tide sw L at_ lv dr fr dst tl (fun hE hc => ?_) (fun W' H' h1 h2 h3 hs ho ht hc => ?_) (fun W' H' h1 h2 h3 hs ho ht hc => ?_)
  · have hrc : M.rtC W H nd nt ns dep tide sw ln L ⟨at_, lv, dr, tl, fr, dst⟩ = M.chkE W H nd nt ns dep tide sw ln L := by unfold M.rtC rtE; rw [hc, if_neg hE]
    unfold M.rtN
    rw [hrc, if_neg hE]
    exact (Route_err W H dA tA sA lA nd dc nt tc ns sc ln lc _ at_ lv dr fr dst tl w (fun V hb => lopen_err W H dA tA sA lA nd dc nt tc ns sc ln lc B dep tide sw L V hnd hnt hns (hw.below hb) (hR.below (hb.mono hB)) (Nat.le_trans hB hb.size) (hL.below (hb.mono hB)) hln hE) hE).mono fun e w' ⟨h1, h2⟩ => ⟨⟨_, h1, Own.nil_⟩, h2⟩
  · subst h1; subst h2; subst h3
    have hrc : M.rtC (W' : Int) (H' : Int) nd ns ns dep tide sw ln L ⟨at_, lv, dr, tl, fr, dst⟩ = 61 := by unfold M.rtC rtE; rw [hc, if_neg (by decide)]
    unfold M.rtN
    rw [hrc, if_neg (by decide)]
    exact (Route_trip ⟨W', H', nd, ns, dep, tide, sw⟩ dA tA sA lA dc tc sc ln lc B L w at_ lv dr fr dst tl hs hw hR hB hL hln ho ht).mono fun e w' ⟨h1, h2⟩ => ⟨⟨_, h1, Own.nil_⟩, h2⟩
  · subst h1; subst h2; subst h3
    have h := Route_ok ⟨W', H', nd, ns, dep, tide, sw⟩ dA tA sA lA dc tc sc ln lc B L w at_ lv dr fr dst tl hs hw hR hB hL hln ho ht
    refine h.mono fun e w' ⟨⟨v, h1, h2⟩, h3⟩ => ⟨⟨v, ?_, ?_⟩, h3⟩
    · rw [h1]
      have : M.rtC (W' : Int) (H' : Int) nd ns ns dep tide sw ln L ⟨at_, lv, dr, tl, fr, dst⟩ = M.routeE ⟨W', H', nd, ns, dep, tide, sw⟩ L ln ⟨at_, lv, dr, tl, fr, dst⟩ := by
        unfold M.rtC rtE M.routeE M.hasR
        rw [hc, if_pos rfl]
        by_cases hh : M.endK (M.seaR (W' : Int) (H' : Int) nd ns dep tide sw) L ln ⟨at_, lv, dr, tl, fr, dst⟩ < (M.seaR (W' : Int) (H' : Int) nd ns dep tide sw).nt - (M.Trip.at_ ⟨at_, lv, dr, tl, fr, dst⟩).toNat
        · rw [decide_eq_true hh]; exact (if_pos hh).symm
        · rw [decide_eq_false hh]; exact (if_neg hh).symm
      rw [this]
    · unfold M.rtN M.rtC rtE M.hasR
      rw [hc, if_pos rfl]
      by_cases hh : M.endK (M.seaR (W' : Int) (H' : Int) nd ns dep tide sw) L ln ⟨at_, lv, dr, tl, fr, dst⟩ < (M.seaR (W' : Int) (H' : Int) nd ns dep tide sw).nt - (M.Trip.at_ ⟨at_, lv, dr, tl, fr, dst⟩).toNat
      · rw [decide_eq_true hh, if_pos rfl, if_pos rfl]
        exact h2.yes hh
      · rw [decide_eq_false hh, if_neg (by decide), h2.no hh]
        exact Own.nil_
theorem rcheckTrip_all (hnd : nd ≤ maxLen) (hnt : nt ≤ maxLen) (hns : ns ≤ maxLen) (hR : RdC w B dA tA sA nd nt ns dep tide sw) (hB : B ≤ w.heap.size) (hL : RdL w B lA ln L) (hln : ln ≤ 1048576) :
    Calls Tryz.prog 33 #[.agg #[.int .i64 W, .int .i64 H, .slice dA nd dc, .slice tA nt tc, .slice sA ns sc], .slice lA ln lc, .agg #[.int .i64 at_, .int .i64 lv, .int .i64 dr, .bool tl, .int .i64 fr, .int .i64 dst]] w fun e w' => e = .returned (.int .i64 (M.ctC W H nd nt ns dep tide sw ln L ⟨at_, lv, dr, tl, fr, dst⟩)) ∧ Below w.heap.size w w' :=
  rct_any W H dA tA sA lA nd dc nt tc ns sc ln lc _ at_ lv dr fr dst tl _ w (fun V hb => rcheck_any W H dA tA sA lA nd dc nt tc ns sc ln lc B dep tide sw L V hnd hnt hns (hR.below (hb.mono hB)) (Nat.le_trans hB hb.size) (hL.below (hb.mono hB)) hln) (fun hE V hb => by
    obtain ⟨W', H', rfl, rfl, rfl, hs, ho⟩ := M.chkE_zero hE
    exact istrip_ok ⟨W', H', nd, ns, dep, tide, sw⟩ dA tA sA dc tc sc at_ lv dr fr dst tl V hs)
theorem rroute2_all (hnd : nd ≤ maxLen) (hnt : nt ≤ maxLen) (hns : ns ≤ maxLen) (hR : RdC w B dA tA sA nd nt ns dep tide sw) (hB : B ≤ w.heap.size) (hL : RdL w B lA ln L) (hln : ln ≤ 1048576) :
    Calls Tryz.prog 14 #[.agg #[.int .i64 W, .int .i64 H, .slice dA nd dc, .slice tA nt tc, .slice sA ns sc], .slice lA ln lc, .agg #[.int .i64 at_, .int .i64 lv, .int .i64 dr, .bool tl, .int .i64 fr, .int .i64 dst]] w fun e w' => (∃ v, e = .returned (.tuple #[v, .int .i64 (M.rtC W H nd nt ns dep tide sw ln L ⟨at_, lv, dr, tl, fr, dst⟩)]) ∧ Own w' w.heap.size 3 1 v (M.rtN W H nd nt ns dep tide sw ln L ⟨at_, lv, dr, tl, fr, dst⟩) (ints (M.rtF W H nd nt dep tide sw ln L ⟨at_, lv, dr, tl, fr, dst⟩))) ∧ Below w.heap.size w w' := by
  have h := rroute_all W H dA tA sA lA nd dc nt tc ns sc ln lc at_ lv dr fr dst tl w (M.ctC W H nd nt ns dep tide sw ln L ⟨at_, lv, dr, tl, fr, dst⟩) (M.hasR (M.seaR W H nd nt dep tide sw) L ln ⟨at_, lv, dr, tl, fr, dst⟩) (fun v w' => RouteV (M.seaR W H nd nt dep tide sw) L ln ⟨at_, lv, dr, tl, fr, dst⟩ w.heap.size v w')
    (fun V hb => rcheckTrip_all W H dA tA sA lA nd dc nt tc ns sc ln lc B dep tide sw L at_ lv dr fr dst tl V hnd hnt hns (hR.below (hb.mono hB)) (Nat.le_trans hB hb.size) (hL.below (hb.mono hB)) hln)
    (fun hC V hb => by
      obtain ⟨hE, ht⟩ := ctE_zero hC
      obtain ⟨W', H', rfl, rfl, rfl, hs, ho⟩ := M.chkE_zero hE
      obtain ⟨h12, hat⟩ := M.legs_at2 hs ho
      exact (rroute_ok ⟨W', H', nd, ns, dep, tide, sw⟩ dA tA sA lA dc tc sc ln lc B L V at_ lv dr fr dst tl hs (hR.below (hb.mono hB)) (Nat.le_trans hB hb.size) (hL.below (hb.mono hB)) hln hat ht).mono fun e w' ⟨⟨v, h1, h2⟩, h3⟩ => ⟨⟨v, h1, h2.less hb.size⟩, h3⟩)
  refine h.mono fun e w' ⟨⟨v, h1, h2⟩, h3⟩ => ⟨⟨v, h1, ?_⟩, h3⟩
  have hrc : M.rtC W H nd nt ns dep tide sw ln L ⟨at_, lv, dr, tl, fr, dst⟩ = rtE (M.ctC W H nd nt ns dep tide sw ln L ⟨at_, lv, dr, tl, fr, dst⟩) (M.hasR (M.seaR W H nd nt dep tide sw) L ln ⟨at_, lv, dr, tl, fr, dst⟩) := rfl
  unfold M.rtN
  rw [hrc]
  by_cases hz : rtE (M.ctC W H nd nt ns dep tide sw ln L ⟨at_, lv, dr, tl, fr, dst⟩) (M.hasR (M.seaR W H nd nt dep tide sw) L ln ⟨at_, lv, dr, tl, fr, dst⟩) = 0
  · rw [if_pos hz] at h2 ⊢
    refine h2.yes ?_
    unfold rtE at hz
    by_cases hc : M.ctC W H nd nt ns dep tide sw ln L ⟨at_, lv, dr, tl, fr, dst⟩ = 0
    · rw [if_pos hc] at hz
      cases hh : M.hasR (M.seaR W H nd nt dep tide sw) L ln ⟨at_, lv, dr, tl, fr, dst⟩
      · rw [hh] at hz; exact absurd hz (by decide)
      · exact of_decide_eq_true hh
    · rw [if_neg hc] at hz; exact absurd hz hc
  · rw [if_neg hz] at h2 ⊢
    rw [h2]
    exact Own.nil_
theorem lblock_all (hnd : nd ≤ maxLen) (hnt : nt ≤ maxLen) (hns : ns ≤ maxLen) (hw : Ways w) (hR : RdC w B dA tA sA nd nt ns dep tide sw) (hB : B ≤ w.heap.size) (hL : RdL w B lA ln L) (hln : ln ≤ 1048576) :
    Calls Tryz.prog 16 #[.agg #[.int .i64 W, .int .i64 H, .slice dA nd dc, .slice tA nt tc, .slice sA ns sc], .slice lA ln lc, .agg #[.int .i64 at_, .int .i64 lv, .int .i64 dr, .bool tl, .int .i64 fr, .int .i64 dst]] w fun e w' => (∃ v, e = .returned (.tuple #[v, .int .i64 (M.bkC W H nd nt ns dep tide sw ln L ⟨at_, lv, dr, tl, fr, dst⟩)]) ∧ Own w' w.heap.size 3 1 v (M.bkL W H nd nt ns dep tide sw ln L ⟨at_, lv, dr, tl, fr, dst⟩).length (lst (M.bkL W H nd nt ns dep tide sw ln L ⟨at_, lv, dr, tl, fr, dst⟩))) ∧ Below w.heap.size w w' := by
  refine trip_split W H nd nt ns ln dep tide sw L at_ lv dr fr dst tl (fun hE hc => ?_) (fun W' H' h1 h2 h3 hs ho ht hc => ?_) (fun W' H' h1 h2 h3 hs ho ht hc => ?_)
  · unfold M.bkC M.bkL
    rw [hc, if_neg hE, if_neg hE]
    exact (Block_err W H dA tA sA lA nd dc nt tc ns sc ln lc _ at_ lv dr fr dst tl w (fun V hb => lopen_err W H dA tA sA lA nd dc nt tc ns sc ln lc B dep tide sw L V hnd hnt hns (hw.below hb) (hR.below (hb.mono hB)) (Nat.le_trans hB hb.size) (hL.below (hb.mono hB)) hln hE) hE).mono fun e w' ⟨h1, h2⟩ => ⟨⟨_, h1, Own.nil_⟩, h2⟩
  · subst h1; subst h2; subst h3
    unfold M.bkC M.bkL
    rw [hc, if_neg (by decide), if_neg (by decide)]
    exact (Block_trip ⟨W', H', nd, ns, dep, tide, sw⟩ dA tA sA lA dc tc sc ln lc B L w at_ lv dr fr dst tl hs hw hR hB hL hln ho ht).mono fun e w' ⟨h1, h2⟩ => ⟨⟨_, h1, Own.nil_⟩, h2⟩
  · subst h1; subst h2; subst h3
    unfold M.bkC M.bkL
    rw [hc, if_pos rfl, if_pos rfl]
    exact Block_ok ⟨W', H', nd, ns, dep, tide, sw⟩ dA tA sA lA dc tc sc ln lc B L w at_ lv dr fr dst tl hs hw hR hB hL hln ho ht
theorem rblock_all (hnd : nd ≤ maxLen) (hnt : nt ≤ maxLen) (hns : ns ≤ maxLen) (hR : RdC w B dA tA sA nd nt ns dep tide sw) (hB : B ≤ w.heap.size) (hL : RdL w B lA ln L) (hln : ln ≤ 1048576) :
    Calls Tryz.prog 17 #[.agg #[.int .i64 W, .int .i64 H, .slice dA nd dc, .slice tA nt tc, .slice sA ns sc], .slice lA ln lc, .agg #[.int .i64 at_, .int .i64 lv, .int .i64 dr, .bool tl, .int .i64 fr, .int .i64 dst]] w fun e w' => (∃ v, e = .returned (.tuple #[v, .int .i64 (M.bkC W H nd nt ns dep tide sw ln L ⟨at_, lv, dr, tl, fr, dst⟩)]) ∧ Own w' w.heap.size 3 1 v (M.bkL W H nd nt ns dep tide sw ln L ⟨at_, lv, dr, tl, fr, dst⟩).length (lst (M.bkL W H nd nt ns dep tide sw ln L ⟨at_, lv, dr, tl, fr, dst⟩))) ∧ Below w.heap.size w w' := by
  by_cases hC : M.ctC W H nd nt ns dep tide sw ln L ⟨at_, lv, dr, tl, fr, dst⟩ = 0
  · unfold M.bkC M.bkL
    rw [if_pos hC, if_pos hC]
    obtain ⟨hE, ht⟩ := ctE_zero hC
    obtain ⟨W', H', rfl, rfl, rfl, hs, ho⟩ := M.chkE_zero hE
    obtain ⟨h12, hat⟩ := M.legs_at2 hs ho
    exact rblock_ok ⟨W', H', nd, ns, dep, tide, sw⟩ dA tA sA lA dc tc sc ln lc B L w at_ lv dr fr dst tl hs hR hB hL h12 ho ht
  · unfold M.bkC M.bkL
    rw [if_neg hC, if_neg hC]
    exact (rblock_err W H dA tA sA lA nd dc nt tc ns sc ln lc _ at_ lv dr fr dst tl w (fun V hb => rcheckTrip_all W H dA tA sA lA nd dc nt tc ns sc ln lc B dep tide sw L at_ lv dr fr dst tl V hnd hnt hns (hR.below (hb.mono hB)) (Nat.le_trans hB hb.size) (hL.below (hb.mono hB)) hln) hC).mono fun e w' ⟨h1, h2⟩ => ⟨⟨_, h1, Own.nil_⟩, h2⟩
end
theorem rtE_zero {C : Int} {hv : Bool} (h : rtE C hv = 0) : C = 0 ∧ hv = true := by
  unfold rtE at h
  by_cases hE : C = 0
  · rw [if_pos hE] at h
    cases hv
    · exact absurd h (by decide)
    · exact ⟨hE, rfl⟩
  · rw [if_neg hE] at h
    exact absurd h hE
section
variable (W H : Int) (dA tA sA lA : Option Addr) (nd dc nt tc ns sc ln lc B : Nat) (dep : Nat → Int) (tide : Nat → Nat → Int) (sw : Nat → Int) (L : Nat → M.Leg) (at_ lv dr fr dst : Int) (tl : Bool) (w : World)
theorem isroute_all (hR : RdC w B dA tA sA nd nt ns dep tide sw) (hB : B ≤ w.heap.size) (hL : RdL w B lA ln L) (hln : ln ≤ 1048576) (hrc : M.rtC W H nd nt ns dep tide sw ln L ⟨at_, lv, dr, tl, fr, dst⟩ = 0) (vA : Option Addr) (vc : Nat) (hv : Rd1 w w.heap.size vA (M.rtN W H nd nt ns dep tide sw ln L ⟨at_, lv, dr, tl, fr, dst⟩) (M.rtF W H nd nt dep tide sw ln L ⟨at_, lv, dr, tl, fr, dst⟩)) :
    Calls Tryz.prog 15 #[.agg #[.int .i64 W, .int .i64 H, .slice dA nd dc, .slice tA nt tc, .slice sA ns sc], .slice lA ln lc, .agg #[.int .i64 at_, .int .i64 lv, .int .i64 dr, .bool tl, .int .i64 fr, .int .i64 dst], .slice vA (M.rtN W H nd nt ns dep tide sw ln L ⟨at_, lv, dr, tl, fr, dst⟩) vc] w fun e w' => e = .returned (.bool true) ∧ Below w.heap.size w w' := by
  obtain ⟨hC, hh⟩ := rtE_zero hrc
  obtain ⟨hE, ht⟩ := ctE_zero hC
  obtain ⟨W', H', rfl, rfl, rfl, hs, ho⟩ := M.chkE_zero hE
  obtain ⟨h12, hat⟩ := M.legs_at2 hs ho
  unfold M.rtN at hv ⊢
  rw [if_pos hrc] at hv ⊢
  have hk : M.endK ⟨W', H', nd, ns, dep, tide, sw⟩ L ln ⟨at_, lv, dr, tl, fr, dst⟩ < ns - (M.Trip.at_ ⟨at_, lv, dr, tl, fr, dst⟩).toNat := of_decide_eq_true hh
  have hnt := hs.t2
  have hn60 : ns ≤ 60 := hnt
  have h := isroute_ok ⟨W', H', nd, ns, dep, tide, sw⟩ dA tA sA lA vA dc tc sc ln lc (M.endK ⟨W', H', nd, ns, dep, tide, sw⟩ L ln ⟨at_, lv, dr, tl, fr, dst⟩ + 1) vc w.heap.size L (M.rtF (W' : Int) (H' : Int) nd ns dep tide sw ln L ⟨at_, lv, dr, tl, fr, dst⟩) at_ lv dr fr dst tl w hs (hR.more hB) (Nat.le_refl _) (hL.more hB) hln hat hv (by unfold maxLen; omega)
  rw [show M.isRoute ⟨W', H', nd, ns, dep, tide, sw⟩ L ln ⟨at_, lv, dr, tl, fr, dst⟩ (M.endK ⟨W', H', nd, ns, dep, tide, sw⟩ L ln ⟨at_, lv, dr, tl, fr, dst⟩ + 1) (M.rtF (W' : Int) (H' : Int) nd ns dep tide sw ln L ⟨at_, lv, dr, tl, fr, dst⟩) = true from M.endK_is hs ht hk] at h
  exact h
set_option maxRecDepth 100000 in
set_option maxHeartbeats 3200000 in
theorem lanesRoutes_any (hnd : nd ≤ maxLen) (hnt : nt ≤ maxLen) (hns : ns ≤ maxLen) (hln : ln ≤ maxLen) (hw : Ways w) (hR : RdC w B dA tA sA nd nt ns dep tide sw) (hB : B ≤ w.heap.size) (hL : RdL w B lA ln L) :
    Calls Tryz.prog 4 #[.agg #[.int .i64 W, .int .i64 H, .slice dA nd dc, .slice tA nt tc, .slice sA ns sc], .slice lA ln lc, .agg #[.int .i64 at_, .int .i64 lv, .int .i64 dr, .bool tl, .int .i64 fr, .int .i64 dst]] w fun e w' => e = .returned (.bool true) ∧ Below w.heap.size w w' := by
  have HR := Lib.hid (belowAlloc2 w (.cells #[.int .i64 W, .int .i64 H, .slice dA nd dc, .slice tA nt tc, .slice sA ns sc] 25) (.cells #[.int .i64 at_, .int .i64 lv, .int .i64 dr, .bool tl, .int .i64 fr, .int .i64 dst] 39))
  have CR := Lib.hid ((Blk.new w 25 #[.int .i64 W, .int .i64 H, .slice dA nd dc, .slice tA nt tc, .slice sA ns sc]).alloc (.cells #[.int .i64 at_, .int .i64 lv, .int .i64 dr, .bool tl, .int .i64 fr, .int .i64 dst] 39))
  have XR := Lib.hid (Blk.new1 w (.cells #[.int .i64 W, .int .i64 H, .slice dA nd dc, .slice tA nt tc, .slice sA ns sc] 25) 39 #[.int .i64 at_, .int .i64 lv, .int .i64 dr, .bool tl, .int .i64 fr, .int .i64 dst])
  obtain ⟨X, hX⟩ : ∃ X, X = (w.alloc (.cells #[.int .i64 W, .int .i64 H, .slice dA nd dc, .slice tA nt tc, .slice sA ns sc] 25)).alloc (.cells #[.int .i64 at_, .int .i64 lv, .int .i64 dr, .bool tl, .int .i64 fr, .int .i64 dst] 39) := ⟨_, rfl⟩
  have HXe := Lib.hid hX
  rw [← hX] at HR CR XR
  clear hX
  have HRC := Lib.hid (fun V (hb2 : Below w.heap.size w V) => hR.below (hb2.mono hB))
  have HRL := Lib.hid (fun V (hb2 : Below w.heap.size w V) => hL.below (hb2.mono hB))
  have HWY := Lib.hid (fun V (hb2 : Below w.heap.size w V) => hw.below hb2)
  have HBB := Lib.hid hB
  have HWO := Lib.hid (fun V (hb2 : Below w.heap.size w V) => works_any V (hw.below hb2))
  have HFC := Lib.hid (fun V (hb2 : Below w.heap.size w V) => far_any W H dA tA sA nd dc nt tc ns sc B dep tide sw V hnd hnt hns (HRC.out V hb2) (Nat.le_trans HBB.out hb2.size))
  have HFL := Lib.hid (fun V (hb2 : Below w.heap.size w V) => farlegs_any lA ln lc B L V (HRL.out V hb2) hln)
  have c0 := CR.out.cell 0
  have c1 := CR.out.cell 1
  have c2 := CR.out.cell 2
  have c3 := CR.out.cell 3
  have c4 := CR.out.cell 4
  have x0 := XR.out.cell 0
  have x1 := XR.out.cell 1
  have x2 := XR.out.cell 2
  have x3 := XR.out.cell 3
  have x4 := XR.out.cell 4
  have x5 := XR.out.cell 5
  clear hR hw hB hL
  go_enter Tryz.func4, Tryz.ntmps4
  go_upto_region 1 with fail
  rw [← HXe.out]
  clear HXe
  cases hf : M.farC W H nd nt ns dep tide sw
  · rw [hf] at HFC
    cases hl : M.farL ln L
    · rw [hl] at HFL
      have HSZ := Lib.hid (show nd ≤ 200 ∧ nt ≤ 80 ∧ ns ≤ 80 by
        unfold M.farC at hf
        simp only [Bool.or_eq_false_iff, decide_eq_false_iff_not] at hf
        omega)
      have HSL := Lib.hid (show ln ≤ 30 ∧ ∀ i, i < ln → (L i).n ≤ 80 by
        unfold M.farL at hl
        simp only [Bool.or_eq_false_iff, decide_eq_false_iff_not] at hl
        refine ⟨by omega, fun i hi => ?_⟩
        have h2 := hl.1
        refine Nat.le_of_not_lt fun h3 => ?_
        rw [M.anyTo_iff.2 ⟨i, hi, decide_eq_true h3⟩] at h2
        cases h2)
      have HCC := Lib.hid (fun V (hb2 : Below w.heap.size w V) => copied_any dA tA sA nd dc nt tc ns sc B W H dep tide sw V (by have := HSZ.out; omega) (by have := HSZ.out; omega) (by have := HSZ.out; omega) (HRC.out V hb2) (Nat.le_trans HBB.out hb2.size))
      have HCL := Lib.hid (fun V (hb2 : Below w.heap.size w V) => rlcopy_any lA ln lc B L V (HRL.out V hb2) (Nat.le_trans HBB.out hb2.size) (by have := HSL.out; omega) (fun i hi => by have := HSL.out.2 i hi; omega))
      clear hf hl
      go_upto_region 4 with (first
        | (go_at_call 5; go_must (refine (HFC.out _ HR.out).mono ?_); rintro e w1 ⟨rfl, hb1⟩; have HR' := Lib.hid (HR.out.trans (hb1.mono HR.out.size)); have CR' := Lib.hid (CR.out.below' hb1); have XR' := Lib.hid (XR.out.below' hb1); clear hb1 HR CR XR c0 c1 c2 c3 c4 x0 x1 x2 x3 x4 x5; have HR := HR'; have CR := CR'; have XR := XR'; clear HR' CR' XR'; have c0 := CR.out.cell 0; have c1 := CR.out.cell 1; have c2 := CR.out.cell 2; have c3 := CR.out.cell 3; have c4 := CR.out.cell 4; have x0 := XR.out.cell 0; have x1 := XR.out.cell 1; have x2 := XR.out.cell 2; have x3 := XR.out.cell 3; have x4 := XR.out.cell 4; have x5 := XR.out.cell 5)
        | (go_at_call 6; go_must (refine (HFL.out _ HR.out).mono ?_); rintro e w2 ⟨rfl, h2⟩; rw [h2]; clear h2)
        | (go_at_call 9; go_must (refine (HCC.out _ HR.out).mono ?_); rintro e w3 ⟨⟨dA', dc', tA', tc', sA', sc', rfl, ho⟩, hb3⟩; have O3 := Lib.hid (ho.less (show w.heap.size ≤ _ from HR.out.size)); clear ho; have HR' := Lib.hid (HR.out.trans (hb3.mono HR.out.size)); have CR' := Lib.hid (CR.out.below' hb3); have XR' := Lib.hid (XR.out.below' hb3); clear hb3 HR CR XR c0 c1 c2 c3 c4 x0 x1 x2 x3 x4 x5; have HR := HR'; have CR := CR'; have XR := XR'; clear HR' CR' XR'; have c0 := CR.out.cell 0; have c1 := CR.out.cell 1; have c2 := CR.out.cell 2; have c3 := CR.out.cell 3; have c4 := CR.out.cell 4; have x0 := XR.out.cell 0; have x1 := XR.out.cell 1; have x2 := XR.out.cell 2; have x3 := XR.out.cell 3; have x4 := XR.out.cell 4; have x5 := XR.out.cell 5)
        | (go_at_call 10; go_must (refine (HCL.out _ HR.out).mono ?_); rintro e w4 ⟨⟨v4, rfl, ho⟩, hb4⟩; have L4 := Lib.hid (ho.less (show w.heap.size ≤ _ from HR.out.size)); obtain ⟨mA, mc, rfl⟩ := L4.out.form; have O4 := Lib.hid (O3.out.below hb4); clear ho O3; have HR' := Lib.hid (HR.out.trans (hb4.mono HR.out.size)); have CR' := Lib.hid (CR.out.below' hb4); have XR' := Lib.hid (XR.out.below' hb4); clear hb4 HR CR XR c0 c1 c2 c3 c4 x0 x1 x2 x3 x4 x5; have HR := HR'; have CR := CR'; have XR := XR'; clear HR' CR' XR'; have c0 := CR.out.cell 0; have c1 := CR.out.cell 1; have c2 := CR.out.cell 2; have c3 := CR.out.cell 3; have c4 := CR.out.cell 4; have x0 := XR.out.cell 0; have x1 := XR.out.cell 1; have x2 := XR.out.cell 2; have x3 := XR.out.cell 3; have x4 := XR.out.cell 4; have x5 := XR.out.cell 5))
      have hz4 := HR.out.size
      have HZ := Lib.hid (HR.out.alloc hz4 (.cells #[.int .i64 W, .int .i64 H, .slice dA' nd dc', .slice tA' nt tc', .slice sA' ns sc'] 25))
      have PZ := Lib.hid (Blk.new w4 25 #[.int .i64 W, .int .i64 H, .slice dA' nd dc', .slice tA' nt tc', .slice sA' ns sc'])
      have CZ := Lib.hid (CR.out.alloc (.cells #[.int .i64 W, .int .i64 H, .slice dA' nd dc', .slice tA' nt tc', .slice sA' ns sc'] 25))
      have XZ := Lib.hid (XR.out.alloc (.cells #[.int .i64 W, .int .i64 H, .slice dA' nd dc', .slice tA' nt tc', .slice sA' ns sc'] 25))
      have RD := Lib.hid ((O4.out.below (belowAlloc w4 (.cells #[.int .i64 W, .int .i64 H, .slice dA' nd dc', .slice tA' nt tc', .slice sA' ns sc'] 25))).rd)
      have RL := Lib.hid ((L4.out.below (belowAlloc w4 (.cells #[.int .i64 W, .int .i64 H, .slice dA' nd dc', .slice tA' nt tc', .slice sA' ns sc'] 25))).rd (fun i hi => by have := HSL.out.2 i hi; unfold maxLen; omega))
      obtain ⟨P, hP⟩ : ∃ P, P = w4.heap.size := ⟨_, rfl⟩
      rw [← hP] at PZ
      rw [← hP]
      clear hP
      generalize w4.alloc (.cells #[.int .i64 W, .int .i64 H, .slice dA' nd dc', .slice tA' nt tc', .slice sA' ns sc'] 25) = Z at HZ PZ CZ XZ RD RL ⊢
      clear c0 c1 c2 c3 c4 x0 x1 x2 x3 x4 x5 CR XR HR O4 L4 HCC HCL HFC HFL hz4
      have CR := CZ
      have XR := XZ
      have HQ := Lib.hid (Below.refl Z.heap.size Z)
      have hzZ := HZ.out.size
      have c0 := CR.out.cell 0
      have c1 := CR.out.cell 1
      have c2 := CR.out.cell 2
      have c3 := CR.out.cell 3
      have c4 := CR.out.cell 4
      have x0 := XR.out.cell 0
      have x1 := XR.out.cell 1
      have x2 := XR.out.cell 2
      have x3 := XR.out.cell 3
      have x4 := XR.out.cell 4
      have x5 := XR.out.cell 5
      have p0 := PZ.out.cell 0
      have p1 := PZ.out.cell 1
      have p2 := PZ.out.cell 2
      have p3 := PZ.out.cell 3
      have p4 := PZ.out.cell 4
      have HK1 := Lib.hid (fun V (hb : Below Z.heap.size Z V) => lroute_all W H dA' tA' sA' mA nd dc' nt tc' ns sc' ln mc Z.heap.size dep tide sw L at_ lv dr fr dst tl V hnd hnt hns (HWY.out V (HZ.out.trans (hb.mono hzZ))) (RD.out.below hb) hb.size (RL.out.below hb) (by have := HSL.out; omega))
      have HK2 := Lib.hid (fun V (hb : Below Z.heap.size Z V) => rroute2_all W H dA tA sA lA nd dc nt tc ns sc ln lc B dep tide sw L at_ lv dr fr dst tl V hnd hnt hns (HRC.out V (HZ.out.trans (hb.mono hzZ))) (Nat.le_trans HBB.out (HZ.out.trans (hb.mono hzZ)).size) (HRL.out V (HZ.out.trans (hb.mono hzZ))) (by have := HSL.out; omega))
      have HF1 := Lib.hid (fun V (hb : Below Z.heap.size Z V) => lblock_all W H dA' tA' sA' mA nd dc' nt tc' ns sc' ln mc Z.heap.size dep tide sw L at_ lv dr fr dst tl V hnd hnt hns (HWY.out V (HZ.out.trans (hb.mono hzZ))) (RD.out.below hb) hb.size (RL.out.below hb) (by have := HSL.out; omega))
      have HF2 := Lib.hid (fun V (hb : Below Z.heap.size Z V) => rblock_all W H dA tA sA lA nd dc nt tc ns sc ln lc B dep tide sw L at_ lv dr fr dst tl V hnd hnt hns (HRC.out V (HZ.out.trans (hb.mono hzZ))) (Nat.le_trans HBB.out (HZ.out.trans (hb.mono hzZ)).size) (HRL.out V (HZ.out.trans (hb.mono hzZ))) (by have := HSL.out; omega))
      have HIR := Lib.hid (fun (hrc : M.rtC W H nd nt ns dep tide sw ln L ⟨at_, lv, dr, tl, fr, dst⟩ = 0) V vA vc (hb : Below w.heap.size w V) hv => isroute_all W H dA tA sA lA nd dc nt tc ns sc ln lc B dep tide sw L at_ lv dr fr dst tl V (HRC.out V hb) (Nat.le_trans HBB.out hb.size) (HRL.out V hb) (by have := HSL.out; omega) hrc vA vc hv)
      have HBL := Lib.hid (show (M.bkL W H nd nt ns dep tide sw ln L ⟨at_, lv, dr, tl, fr, dst⟩).length ≤ 30 by
        unfold M.bkL
        split
        · unfold M.blockI
          split
          · simp
          · have h1 := M.keep_len (s := M.seaR W H nd nt dep tide sw) (L := L) (n := ln) (r := ⟨at_, lv, dr, tl, fr, dst⟩) ln
            have h2 := HSL.out.1
            simp
            omega
        · simp)
      obtain ⟨RC, hRC⟩ : ∃ RC, RC = M.rtC W H nd nt ns dep tide sw ln L ⟨at_, lv, dr, tl, fr, dst⟩ := ⟨_, rfl⟩
      obtain ⟨RN, hRN⟩ : ∃ RN, RN = M.rtN W H nd nt ns dep tide sw ln L ⟨at_, lv, dr, tl, fr, dst⟩ := ⟨_, rfl⟩
      obtain ⟨RF, hRF⟩ : ∃ RF, RF = M.rtF W H nd nt dep tide sw ln L ⟨at_, lv, dr, tl, fr, dst⟩ := ⟨_, rfl⟩
      obtain ⟨BC, hBC⟩ : ∃ BC, BC = M.bkC W H nd nt ns dep tide sw ln L ⟨at_, lv, dr, tl, fr, dst⟩ := ⟨_, rfl⟩
      obtain ⟨BL, hBL⟩ : ∃ BL, BL = M.bkL W H nd nt ns dep tide sw ln L ⟨at_, lv, dr, tl, fr, dst⟩ := ⟨_, rfl⟩
      rw [← hRC, ← hRN, ← hRF] at HK1 HK2 HIR
      rw [← hBC, ← hBL] at HF1 HF2
      rw [← hBL] at HBL
      clear hRC hRN hRF hBC hBL CZ XZ
      by_cases hz : RC = 0
      · have e0 : (RC == 0) = true := by rw [beq_iff_eq]; exact hz
        have HIR2 := Lib.hid (HIR.out hz)
        clear hz
        go_upto_region 6 with (first
          | (go_at_call 13; go_must (refine (HK1.out _ HQ.out).mono ?_); rintro e w5 ⟨⟨v5, rfl, ho⟩, hb5⟩; have OA := Lib.hid ho; obtain ⟨aA, ac, rfl⟩ := OA.out.form; clear ho; have HQ' := Lib.hid (HQ.out.trans (hb5.mono HQ.out.size)); have CR' := Lib.hid (CR.out.below' hb5); have XR' := Lib.hid (XR.out.below' hb5); have PZ' := Lib.hid (PZ.out.below' hb5); clear hb5 HQ CR XR PZ c0 c1 c2 c3 c4 x0 x1 x2 x3 x4 x5 p0 p1 p2 p3 p4; have HQ := HQ'; have CR := CR'; have XR := XR'; have PZ := PZ'; clear HQ' CR' XR' PZ'; have c0 := CR.out.cell 0; have c1 := CR.out.cell 1; have c2 := CR.out.cell 2; have c3 := CR.out.cell 3; have c4 := CR.out.cell 4; have x0 := XR.out.cell 0; have x1 := XR.out.cell 1; have x2 := XR.out.cell 2; have x3 := XR.out.cell 3; have x4 := XR.out.cell 4; have x5 := XR.out.cell 5; have p0 := PZ.out.cell 0; have p1 := PZ.out.cell 1; have p2 := PZ.out.cell 2; have p3 := PZ.out.cell 3; have p4 := PZ.out.cell 4)
          | (go_at_call 14; go_must (refine (HK2.out _ HQ.out).mono ?_); rintro e w6 ⟨⟨v6, rfl, ho⟩, hb6⟩; have OB := Lib.hid ho; obtain ⟨bA, bc, rfl⟩ := OB.out.form; have OA' := Lib.hid (OA.out.below hb6); clear OA; have OA := OA'; clear OA'; clear ho; have HQ' := Lib.hid (HQ.out.trans (hb6.mono HQ.out.size)); have CR' := Lib.hid (CR.out.below' hb6); have XR' := Lib.hid (XR.out.below' hb6); have PZ' := Lib.hid (PZ.out.below' hb6); clear hb6 HQ CR XR PZ c0 c1 c2 c3 c4 x0 x1 x2 x3 x4 x5 p0 p1 p2 p3 p4; have HQ := HQ'; have CR := CR'; have XR := XR'; have PZ := PZ'; clear HQ' CR' XR' PZ'; have c0 := CR.out.cell 0; have c1 := CR.out.cell 1; have c2 := CR.out.cell 2; have c3 := CR.out.cell 3; have c4 := CR.out.cell 4; have x0 := XR.out.cell 0; have x1 := XR.out.cell 1; have x2 := XR.out.cell 2; have x3 := XR.out.cell 3; have x4 := XR.out.cell 4; have x5 := XR.out.cell 5; have p0 := PZ.out.cell 0; have p1 := PZ.out.cell 1; have p2 := PZ.out.cell 2; have p3 := PZ.out.cell 3; have p4 := PZ.out.cell 4))
        go_upto_region 10 with (first
          | (go_at_call 15; go_must (refine (HIR2.out _ aA ac (HZ.out.trans (HQ.out.mono hzZ)) (Own.rd1' OA.out)).mono ?_); rintro e w6' ⟨rfl, hb6⟩; have HQ' := Lib.hid (HQ.out.trans (hb6.mono HQ.out.size)); have CR' := Lib.hid (CR.out.below' hb6); have XR' := Lib.hid (XR.out.below' hb6); have PZ' := Lib.hid (PZ.out.below' hb6); clear hb6 HQ CR XR PZ c0 c1 c2 c3 c4 x0 x1 x2 x3 x4 x5 p0 p1 p2 p3 p4; have HQ := HQ'; have CR := CR'; have XR := XR'; have PZ := PZ'; clear HQ' CR' XR' PZ'; have c0 := CR.out.cell 0; have c1 := CR.out.cell 1; have c2 := CR.out.cell 2; have c3 := CR.out.cell 3; have c4 := CR.out.cell 4; have x0 := XR.out.cell 0; have x1 := XR.out.cell 1; have x2 := XR.out.cell 2; have x3 := XR.out.cell 3; have x4 := XR.out.cell 4; have x5 := XR.out.cell 5; have p0 := PZ.out.cell 0; have p1 := PZ.out.cell 1; have p2 := PZ.out.cell 2; have p3 := PZ.out.cell 3; have p4 := PZ.out.cell 4)
          | (go_at_call 16; go_must (refine (HF1.out _ HQ.out).mono ?_); rintro e w7 ⟨⟨v7, rfl, ho⟩, hb5⟩; have SA := Lib.hid ho; obtain ⟨fA, fc, rfl⟩ := SA.out.form; clear ho; have HQ' := Lib.hid (HQ.out.trans (hb5.mono HQ.out.size)); have CR' := Lib.hid (CR.out.below' hb5); have XR' := Lib.hid (XR.out.below' hb5); have PZ' := Lib.hid (PZ.out.below' hb5); clear hb5 HQ CR XR PZ c0 c1 c2 c3 c4 x0 x1 x2 x3 x4 x5 p0 p1 p2 p3 p4; have HQ := HQ'; have CR := CR'; have XR := XR'; have PZ := PZ'; clear HQ' CR' XR' PZ'; have c0 := CR.out.cell 0; have c1 := CR.out.cell 1; have c2 := CR.out.cell 2; have c3 := CR.out.cell 3; have c4 := CR.out.cell 4; have x0 := XR.out.cell 0; have x1 := XR.out.cell 1; have x2 := XR.out.cell 2; have x3 := XR.out.cell 3; have x4 := XR.out.cell 4; have x5 := XR.out.cell 5; have p0 := PZ.out.cell 0; have p1 := PZ.out.cell 1; have p2 := PZ.out.cell 2; have p3 := PZ.out.cell 3; have p4 := PZ.out.cell 4)
          | (go_at_call 17; go_must (refine (HF2.out _ HQ.out).mono ?_); rintro e w8 ⟨⟨v8, rfl, ho⟩, hb6⟩; have SB := Lib.hid ho; obtain ⟨gA, gc, rfl⟩ := SB.out.form; have SA' := Lib.hid (SA.out.below hb6); clear ho SA; have SA := SA'; clear SA'; have HQ' := Lib.hid (HQ.out.trans (hb6.mono HQ.out.size)); have CR' := Lib.hid (CR.out.below' hb6); have XR' := Lib.hid (XR.out.below' hb6); have PZ' := Lib.hid (PZ.out.below' hb6); clear hb6 HQ CR XR PZ c0 c1 c2 c3 c4 x0 x1 x2 x3 x4 x5 p0 p1 p2 p3 p4; have HQ := HQ'; have CR := CR'; have XR := XR'; have PZ := PZ'; clear HQ' CR' XR' PZ'; have c0 := CR.out.cell 0; have c1 := CR.out.cell 1; have c2 := CR.out.cell 2; have c3 := CR.out.cell 3; have c4 := CR.out.cell 4; have x0 := XR.out.cell 0; have x1 := XR.out.cell 1; have x2 := XR.out.cell 2; have x3 := XR.out.cell 3; have x4 := XR.out.cell 4; have x5 := XR.out.cell 5; have p0 := PZ.out.cell 0; have p1 := PZ.out.cell 1; have p2 := PZ.out.cell 2; have p3 := PZ.out.cell 3; have p4 := PZ.out.cell 4))
        have HSI := Lib.hid (sameInts_any fA gA BL.length BL.length fc gc w8.heap.size (fun i => BL.getD i 0) (fun i => BL.getD i 0) w8 (by unfold maxLen; have := HBL.out; omega) (by unfold maxLen; have := HBL.out; omega) (Own.rd1' SA.out) (Own.rd1' SB.out))
        rw [same_self] at HSI
        clear c0 c1 c2 c3 c4 x0 x1 x2 x3 x4 x5 p0 p1 p2 p3 p4
        have HR := Lib.hid (HZ.out.trans (HQ.out.mono hzZ))
        go_wp2_with (first
          | (go_at_call 12; go_must (refine HSI.out.mono ?_); rintro e w10 ⟨rfl, hs1⟩; have HS := Lib.hid (HR.out.trans (hs1.mono HR.out.size)); clear hs1)
          | (go_at_call 7; go_must (refine (HWO.out _ HS.out).mono ?_); rintro e w11 ⟨rfl, hb11⟩; have HB11 := Lib.hid (HS.out.trans (hb11.mono HS.out.size)); clear hb11))
        go_ret
        exact ⟨rfl, HB11.out⟩
      · have e0 : (RC == 0) = false := by rw [beq_eq_false_iff_ne]; exact hz
        clear hz
        go_upto_region 6 with (first
          | (go_at_call 13; go_must (refine (HK1.out _ HQ.out).mono ?_); rintro e w5 ⟨⟨v5, rfl, ho⟩, hb5⟩; have OA := Lib.hid ho; obtain ⟨aA, ac, rfl⟩ := OA.out.form; clear ho; have HQ' := Lib.hid (HQ.out.trans (hb5.mono HQ.out.size)); have CR' := Lib.hid (CR.out.below' hb5); have XR' := Lib.hid (XR.out.below' hb5); have PZ' := Lib.hid (PZ.out.below' hb5); clear hb5 HQ CR XR PZ c0 c1 c2 c3 c4 x0 x1 x2 x3 x4 x5 p0 p1 p2 p3 p4; have HQ := HQ'; have CR := CR'; have XR := XR'; have PZ := PZ'; clear HQ' CR' XR' PZ'; have c0 := CR.out.cell 0; have c1 := CR.out.cell 1; have c2 := CR.out.cell 2; have c3 := CR.out.cell 3; have c4 := CR.out.cell 4; have x0 := XR.out.cell 0; have x1 := XR.out.cell 1; have x2 := XR.out.cell 2; have x3 := XR.out.cell 3; have x4 := XR.out.cell 4; have x5 := XR.out.cell 5; have p0 := PZ.out.cell 0; have p1 := PZ.out.cell 1; have p2 := PZ.out.cell 2; have p3 := PZ.out.cell 3; have p4 := PZ.out.cell 4)
          | (go_at_call 14; go_must (refine (HK2.out _ HQ.out).mono ?_); rintro e w6 ⟨⟨v6, rfl, ho⟩, hb6⟩; have OB := Lib.hid ho; obtain ⟨bA, bc, rfl⟩ := OB.out.form; have OA' := Lib.hid (OA.out.below hb6); clear OA; have OA := OA'; clear OA'; clear ho; have HQ' := Lib.hid (HQ.out.trans (hb6.mono HQ.out.size)); have CR' := Lib.hid (CR.out.below' hb6); have XR' := Lib.hid (XR.out.below' hb6); have PZ' := Lib.hid (PZ.out.below' hb6); clear hb6 HQ CR XR PZ c0 c1 c2 c3 c4 x0 x1 x2 x3 x4 x5 p0 p1 p2 p3 p4; have HQ := HQ'; have CR := CR'; have XR := XR'; have PZ := PZ'; clear HQ' CR' XR' PZ'; have c0 := CR.out.cell 0; have c1 := CR.out.cell 1; have c2 := CR.out.cell 2; have c3 := CR.out.cell 3; have c4 := CR.out.cell 4; have x0 := XR.out.cell 0; have x1 := XR.out.cell 1; have x2 := XR.out.cell 2; have x3 := XR.out.cell 3; have x4 := XR.out.cell 4; have x5 := XR.out.cell 5; have p0 := PZ.out.cell 0; have p1 := PZ.out.cell 1; have p2 := PZ.out.cell 2; have p3 := PZ.out.cell 3; have p4 := PZ.out.cell 4))
        go_upto_region 10 with (first
          | (go_at_call 16; go_must (refine (HF1.out _ HQ.out).mono ?_); rintro e w7 ⟨⟨v7, rfl, ho⟩, hb5⟩; have SA := Lib.hid ho; obtain ⟨fA, fc, rfl⟩ := SA.out.form; clear ho; have HQ' := Lib.hid (HQ.out.trans (hb5.mono HQ.out.size)); have CR' := Lib.hid (CR.out.below' hb5); have XR' := Lib.hid (XR.out.below' hb5); have PZ' := Lib.hid (PZ.out.below' hb5); clear hb5 HQ CR XR PZ c0 c1 c2 c3 c4 x0 x1 x2 x3 x4 x5 p0 p1 p2 p3 p4; have HQ := HQ'; have CR := CR'; have XR := XR'; have PZ := PZ'; clear HQ' CR' XR' PZ'; have c0 := CR.out.cell 0; have c1 := CR.out.cell 1; have c2 := CR.out.cell 2; have c3 := CR.out.cell 3; have c4 := CR.out.cell 4; have x0 := XR.out.cell 0; have x1 := XR.out.cell 1; have x2 := XR.out.cell 2; have x3 := XR.out.cell 3; have x4 := XR.out.cell 4; have x5 := XR.out.cell 5; have p0 := PZ.out.cell 0; have p1 := PZ.out.cell 1; have p2 := PZ.out.cell 2; have p3 := PZ.out.cell 3; have p4 := PZ.out.cell 4)
          | (go_at_call 17; go_must (refine (HF2.out _ HQ.out).mono ?_); rintro e w8 ⟨⟨v8, rfl, ho⟩, hb6⟩; have SB := Lib.hid ho; obtain ⟨gA, gc, rfl⟩ := SB.out.form; have SA' := Lib.hid (SA.out.below hb6); clear ho SA; have SA := SA'; clear SA'; have HQ' := Lib.hid (HQ.out.trans (hb6.mono HQ.out.size)); have CR' := Lib.hid (CR.out.below' hb6); have XR' := Lib.hid (XR.out.below' hb6); have PZ' := Lib.hid (PZ.out.below' hb6); clear hb6 HQ CR XR PZ c0 c1 c2 c3 c4 x0 x1 x2 x3 x4 x5 p0 p1 p2 p3 p4; have HQ := HQ'; have CR := CR'; have XR := XR'; have PZ := PZ'; clear HQ' CR' XR' PZ'; have c0 := CR.out.cell 0; have c1 := CR.out.cell 1; have c2 := CR.out.cell 2; have c3 := CR.out.cell 3; have c4 := CR.out.cell 4; have x0 := XR.out.cell 0; have x1 := XR.out.cell 1; have x2 := XR.out.cell 2; have x3 := XR.out.cell 3; have x4 := XR.out.cell 4; have x5 := XR.out.cell 5; have p0 := PZ.out.cell 0; have p1 := PZ.out.cell 1; have p2 := PZ.out.cell 2; have p3 := PZ.out.cell 3; have p4 := PZ.out.cell 4))
        have HSI := Lib.hid (sameInts_any fA gA BL.length BL.length fc gc w8.heap.size (fun i => BL.getD i 0) (fun i => BL.getD i 0) w8 (by unfold maxLen; have := HBL.out; omega) (by unfold maxLen; have := HBL.out; omega) (Own.rd1' SA.out) (Own.rd1' SB.out))
        rw [same_self] at HSI
        clear c0 c1 c2 c3 c4 x0 x1 x2 x3 x4 x5 p0 p1 p2 p3 p4
        have HR := Lib.hid (HZ.out.trans (HQ.out.mono hzZ))
        go_wp2_with (first
          | (go_at_call 12; go_must (refine HSI.out.mono ?_); rintro e w10 ⟨rfl, hs1⟩; have HS := Lib.hid (HR.out.trans (hs1.mono HR.out.size)); clear hs1)
          | (go_at_call 7; go_must (refine (HWO.out _ HS.out).mono ?_); rintro e w11 ⟨rfl, hb11⟩; have HB11 := Lib.hid (HS.out.trans (hb11.mono HS.out.size)); clear hb11))
        go_ret
        exact ⟨rfl, HB11.out⟩
    · rw [hl] at HFL
      clear hf hl
      go_upto_region 2 with (first
        | (go_at_call 5; go_must (refine (HFC.out _ HR.out).mono ?_); rintro e w1 ⟨rfl, hb1⟩; have HR' := Lib.hid (HR.out.trans (hb1.mono HR.out.size)); have CR' := Lib.hid (CR.out.below' hb1); have XR' := Lib.hid (XR.out.below' hb1); clear hb1 HR CR XR c0 c1 c2 c3 c4 x0 x1 x2 x3 x4 x5; have HR := HR'; have CR := CR'; have XR := XR'; clear HR' CR' XR'; have c0 := CR.out.cell 0; have c1 := CR.out.cell 1; have c2 := CR.out.cell 2; have c3 := CR.out.cell 3; have c4 := CR.out.cell 4; have x0 := XR.out.cell 0; have x1 := XR.out.cell 1; have x2 := XR.out.cell 2; have x3 := XR.out.cell 3; have x4 := XR.out.cell 4; have x5 := XR.out.cell 5)
        | (go_at_call 6; go_must (refine (HFL.out _ HR.out).mono ?_); rintro e w2 ⟨rfl, h2⟩; rw [h2]; clear h2))
      go_wp2_with (go_at_call 7; go_must (refine (HWO.out _ HR.out).mono ?_); rintro e w9 ⟨rfl, hb9⟩; have HB9 := Lib.hid (HR.out.trans (hb9.mono HR.out.size)); clear hb9)
      go_ret
      exact ⟨rfl, HB9.out⟩
  · rw [hf] at HFC
    clear hf
    go_upto_region 2 with (go_at_call 5; go_must (refine (HFC.out _ HR.out).mono ?_); rintro e w1 ⟨rfl, hb1⟩; have HR' := Lib.hid (HR.out.trans (hb1.mono HR.out.size)); have CR' := Lib.hid (CR.out.below' hb1); have XR' := Lib.hid (XR.out.below' hb1); clear hb1 HR CR XR c0 c1 c2 c3 c4 x0 x1 x2 x3 x4 x5; have HR := HR'; have CR := CR'; have XR := XR'; clear HR' CR' XR'; have c0 := CR.out.cell 0; have c1 := CR.out.cell 1; have c2 := CR.out.cell 2; have c3 := CR.out.cell 3; have c4 := CR.out.cell 4; have x0 := XR.out.cell 0; have x1 := XR.out.cell 1; have x2 := XR.out.cell 2; have x3 := XR.out.cell 3; have x4 := XR.out.cell 4; have x5 := XR.out.cell 5)
    go_wp2_with (go_at_call 7; go_must (refine (HWO.out _ HR.out).mono ?_); rintro e w9 ⟨rfl, hb9⟩; have HB9 := Lib.hid (HR.out.trans (hb9.mono HR.out.size)); clear hb9)
    go_ret
    exact ⟨rfl, HB9.out⟩
end
end Go.Proofs.YtkdpmihdhiokkaaGreatDoor
/- Proved: LanesRoutes answers true at every chart, legs and trip, and its arguments read as they did: the row and its tied card. Conditions: none beyond the card. -/
namespace Go.Proofs.YtkdpmihdhiokkaaGreatDoor
open Go.ChangeShapes Go.WideShapes Go.ChangeAt Go.RowKit Go.Deep Go.Joins

namespace lanesRoutes
set_option maxRecDepth 100000 in
theorem contract (H : Type) (enc : TypeId × Value → H) (W : World) (base : Nat) (args : Array Value) (ds gs : List (DataW H)) (before : List MemPlace)
    (hval : ∀ (j : Nat) t v, Tryz.f4.params[j]? = some t → args[j]? = some v → Value.okWide Tryz.prog W .any base t v)
    (hW : DataW.Whole enc Tryz.prog Tryz.f4.params.toList Rows.lanesRoutesSpec.vars false W args.toList ds gs before) (hL : laidMetH Tryz.prog laidL W) :
    Calls Tryz.prog 4 args W fun e W' => ∃ v, e = .returned v ∧ Rows.lanesRoutesSpec.post enc Tryz.prog Tryz.f4 false true false false W args v W' := by
  have hW' := hW
  obtain ⟨p, q, hA0, hV, rfl, hfz, hnd⟩ := hW
  have hA : DataW.TrodAll enc Tryz.prog W 0 (fun _ => true) true Tryz.f4.params.toList args.toList ds p := hA0
  rw [Tryz.params4] at hA hval
  obtain ⟨v0, v1, v2, d0, d1, d2, p0, p1, p2, rfl, rfl, rfl, h0, h1, h2⟩ := trodAll_three hA
  obtain ⟨rfl, rfl⟩ := trodVars_none hV
  have hWy := ways_of_laid hL
  obtain ⟨cW, cH, dA, tA, sA, nd, dc, nt, tc, ns, sc, dep, tide, sw, rfl, hnd, hnt, hns, hRC⟩ := open_chart (hval 0 25 v0 rfl rfl) h0
  obtain ⟨lA, ln, lc, L, rfl, hln, hlc, hRL⟩ := open_legs (hval 1 26 v1 rfl rfl) h1
  obtain ⟨at_, lv, dr, tl, fr, dst, rfl⟩ := open_trip (hval 2 39 v2 rfl rfl) h2
  refine (lanesRoutes_any cW cH dA tA sA lA nd dc nt tc ns sc ln lc W.heap.size dep tide sw L at_ lv dr fr dst tl W hnd hnt hns hln hWy hRC (Nat.le_refl _) hRL).mono fun e W' ⟨he, hbl⟩ => ⟨_, he, ?_⟩
  exact post_true rfl rfl (by
    rw [Tryz.params4]
    intro t ht
    simp at ht
    rcases ht with rfl | rfl | rfl
    · exact ⟨by kernel_rfl, of_decide_eq_true (by kernel_rfl)⟩
    · exact ⟨by kernel_rfl, of_decide_eq_true (by kernel_rfl)⟩
    · exact ⟨by kernel_rfl, of_decide_eq_true (by kernel_rfl)⟩) hW' rfl rfl rfl hbl

set_option maxRecDepth 100000 in
theorem lifted (os : Os) (started : os.Started) (H : Type) (enc : TypeId × Value → H) :
    ReturnsInHanded {} Tryz.checked os 4 .any (fun w args => (Rows.lanesRoutesSpec.pre enc Tryz.prog Tryz.f4 [] false w args ∧ laidMetH Tryz.prog laidL w) ∧ sizedMet enc Tryz.prog Tryz.f4 (OpenSpec.ofChange Rows.lanesRoutesSpec) false w args)
      (Rows.lanesRoutesSpec.post enc Tryz.prog Tryz.f4 false true false false) := by
  refine returnsInHanded_of_change_and (C := Tryz.checked) (X := fun w _ => laidMetH Tryz.prog laidL w) (fun _ _ _ hh h => h.of_heap hh) own started (by kernel_rfl) Tryz.func4
    (ChangeSpec.witness_shaped (enc := enc) (C := Tryz.checked) (os := os) (X := fun w _ => laidMetH Tryz.prog laidL w) false (World.doorLaid Tryz.prog 400 os) #[.agg #[.int .i64 0, .int .i64 0, .slice none 0 0, .slice none 0 0, .slice none 0 0], .slice none 0 0, .agg #[.int .i64 0, .int .i64 0, .int .i64 0, .bool false, .int .i64 0, .int .i64 0]] 8 rfl (World.shaped_of_RefB (by kernel_rfl) (by kernel_rfl)) (by kernel_rfl) (by kernel_rfl) (by kernel_rfl) (door_met os _)) ?_
  intro W base args ds gs before hval hW _ _ hL _
  exact contract H enc W base args ds gs before hval hW hL
end lanesRoutes

theorem lanesRoutes_holds : Rows.LanesRoutesSaid :=
  OpenClaim.holds_of_wide 4 Tryz.f4 rfl rfl rfl rfl rfl rfl rfl ⟨rfl, rfl, rfl, rfl, rfl⟩ rfl rfl rfl rfl rfl (by kernel_rfl) Tryz.func4 (by kernel_rfl)
    (of_decide_eq_true (by kernel_rfl)) (by unfold Func.isWrapper; first | (rw [if_pos (by decide +kernel)]; kernel_rfl) | (rw [if_neg (by decide +kernel)]; exact ⟨rfl, rfl⟩))
    (fun os started H enc _ => lanesRoutes.lifted os started H enc)

theorem lanesRoutes_card : Rows.LanesRoutesCardSaid :=
  Claim7.holds_tied_plain_at .later [] [.data] true Rows.lanesRoutesCard.stood.harness false
    lanesRoutes_holds (fun _ h => by cases h) (by kernel_rfl) (fun _ h => by cases h) lanesRoutes_row_tie rfl ⟨rfl, rfl⟩ (by kernel_rfl) rfl
    (fun f fn hf hfn => by
      obtain rfl : f = 4 := Option.some.inj ((show Tryz.prog.funcNamed "coble/coblelaw06.LanesRoutes" = some 4 by kernel_rfl).symm.trans hf) |>.symm
      obtain rfl : fn = Tryz.f4 := (Option.some.inj (Tryz.func4.symm.trans hfn)).symm
      exact ⟨by kernel_rfl, fun j t ht => by
        rw [Tryz.params4] at ht
        have hm : t ∈ [25, 26, 39] := by simpa using Array.mem_of_getElem? ht
        have hall : ([25, 26, 39].all fun u => !Tryz.prog.wantsStandIn u) = true := by kernel_rfl
        exact (show Tryz.prog.wantsStandIn t = false by simpa using List.all_eq_true.1 hall t hm)⟩)
    (by kernel_rfl)
end Go.Proofs.YtkdpmihdhiokkaaGreatDoor
