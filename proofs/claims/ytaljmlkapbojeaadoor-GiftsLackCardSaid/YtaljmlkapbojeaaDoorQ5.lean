/- GiftsPays, walked. -/
import Derived.Test.YtaljmlkapbojeaaDoorQ2
import Derived.Test.YtaljmlkapbojeaaDoorQ4
import Derived.Test.YtaljmlkapbojeaaDoorW2
import Derived.Deep.RegionHeld3
import Derived.Deep.DeepCutAuto
namespace Go.Proofs.YtaljmlkapbojeaaDoor
open Go.RowKit

def payN (gn bn : Nat) (G H : Nat → Nat → Int) : Nat := if M.okF gn bn G H && lpd gn bn G H then bn else 0
def PayV (gn bn : Nat) (G H : Nat → Nat → Int) (e : Ending) (w' : World) : Prop :=
  ∃ A c, e = .returned (.tuple #[.slice A (payN gn bn G H) c, .int .i64 (payE gn bn G H)]) ∧ RR w' w'.heap.size A (payN gn bn G H) (fun _ => gn) (M.payAt gn bn (s0 G H gn))
section
variable (gA bA : Option Addr) (gn gc bn bc B : Nat) (G H : Nat → Nat → Int) (w : World) (hg : gn ≤ maxLen) (hb : bn ≤ maxLen) (hR : BookRd w B gA gn G bA bn H) (hB : B ≤ w.heap.size)
include hg hb hR hB
theorem gpay_any : Calls Tryd.prog 10 #[.agg #[.slice gA gn gc, .slice bA bn bc]] w fun e w' => PayV gn bn G H e w' ∧ Below w.heap.size w w' := by
  cases hk : M.okF gn bn G H
  · exact (pay_bad _ _ _ _ _ _ B _ _ _ hg hb hR hB hk).mono fun e w' h => ⟨⟨none, 0, by rw [h.1]; simp [payE, payN, hk], .inl (by simp [payN, hk])⟩, h.2⟩
  · cases hl : lpd gn bn G H
    · exact (pay_none _ _ _ _ _ _ B _ _ _ hR hB hk hl).mono fun e w' h => ⟨⟨none, 0, by rw [h.1]; simp [payE, payN, hk, hl], .inl (by simp [payN, hk, hl])⟩, h.2⟩
    · refine (pay_ok _ _ _ _ _ _ B _ _ _ hR hB hk hl).mono ?_
      rintro e w' ⟨v, F, rfl, hr, hb⟩
      obtain ⟨A, c, rfl, hrr⟩ := hr.rr
      have hN : payN gn bn G H = bn := by simp [payN, hk, hl]
      exact ⟨⟨A, c, by rw [hN]; simp [payE, hk, hl], by rw [hN]; exact hrr⟩, hb⟩
theorem rpay_any : Calls Tryd.prog 11 #[.agg #[.slice gA gn gc, .slice bA bn bc]] w fun e w' => PayV gn bn G H e w' ∧ Below w.heap.size w w' := by
  cases hk : M.okF gn bn G H
  · exact (rpay_bad _ _ _ _ _ _ B _ _ _ hg hb hR hB hk).mono fun e w' h => ⟨⟨none, 0, by rw [h.1]; simp [payE, payN, hk], .inl (by simp [payN, hk])⟩, h.2⟩
  · cases hl : lpd gn bn G H
    · exact (rpay_none _ _ _ _ _ _ B _ _ _ hR hB hk hl).mono fun e w' h => ⟨⟨none, 0, by rw [h.1]; simp [payE, payN, hk, hl], .inl (by simp [payN, hk, hl])⟩, h.2⟩
    · refine (rpay_ok _ _ _ _ _ _ B _ _ _ hR hB hk hl).mono ?_
      rintro e w' ⟨v, F, rfl, hr, hb⟩
      obtain ⟨A, c, rfl, hrr⟩ := hr.rr
      have hN : payN gn bn G H = bn := by simp [payN, hk, hl]
      exact ⟨⟨A, c, by rw [hN]; simp [payE, hk, hl], by rw [hN]; exact hrr⟩, hb⟩
theorem gshort_any (hT : TabAt 1 Lib.deBruijn64tab w) (hG : 1 < w.heap.size) : Calls Tryd.prog 12 #[.agg #[.slice gA gn gc, .slice bA bn bc]] w fun e w' => ShortV w gn bn G H e w' ∧ Below w.heap.size w w' := by
  cases hk : M.okF gn bn G H
  · exact gshort_bad gA bA gn gc bn bc B G H w hg hb hR hB hk
  · exact gshort_ok gA bA gn gc bn bc B G H w hR hB hk hT hG
theorem rshort_any : Calls Tryd.prog 13 #[.agg #[.slice gA gn gc, .slice bA bn bc]] w fun e w' => ShortV w gn bn G H e w' ∧ Below w.heap.size w w' := by
  cases hk : M.okF gn bn G H
  · exact rshort_bad gA bA gn gc bn bc B G H w hg hb hR hB hk
  · exact rshort_ok gA bA gn gc bn bc B G H w hR hB hk
end
theorem same_self (n : Nat) (f : Nat → Int) : sameF n n f f = true := by
  unfold sameF
  rw [M.allTo_iff.2 fun i _ => by simp]; simp
theorem sameR_self (n : Nat) (m : Nat → Nat) (f : Nat → Nat → Int) : sameRF n n m m f f = true := by
  unfold sameRF
  rw [M.allTo_iff.2 fun i _ => same_self _ _]; simp
theorem short_len {gn bn : Nat} {G H : Nat → Nat → Int} : (listOf bn (shortS gn bn G H)).length ≤ bn := by
  cases shortS gn bn G H with
  | none => simp [listOf]
  | some t => exact M.elL_len bn t

/-- what each world of the last statement keeps -/
def KeptQ (w : World) (D : Nat) (A1 : Option Addr) (gn c1 : Nat) (A2 : Option Addr) (bn c2 : Nat) (gA : Option Addr) (gc : Nat) (bA : Option Addr) (bc : Nat) (w7 w' : World) : Prop :=
  w'.cell? ⟨D, 0, none⟩ = some (.slice A1 gn c1) ∧ w'.cell? ⟨D, 1, none⟩ = some (.slice A2 bn c2) ∧ w'.cell? ⟨w.heap.size, 0, none⟩ = some (.slice gA gn gc) ∧ w'.cell? ⟨w.heap.size, 1, none⟩ = some (.slice bA bn bc) ∧ Below w7.heap.size w7 w' ∧ w7.heap.size ≤ w'.heap.size
section
variable {w w7 W W' : World} {D gn c1 bn c2 gc bc : Nat} {A1 A2 gA bA : Option Addr}
theorem KeptQ.drew (h : KeptQ w D A1 gn c1 A2 bn c2 gA gc bA bc w7 W) : KeptQ w D A1 gn c1 A2 bn c2 gA gc bA bc w7 W.drew := ⟨h.1, h.2.1, h.2.2.1, h.2.2.2.1, h.2.2.2.2.1.drew, h.2.2.2.2.2⟩
theorem KeptQ.keep (h : KeptQ w D A1 gn c1 A2 bn c2 gA gc bA bc w7 W) (h1 : D < w7.heap.size) (h2 : w.heap.size < w7.heap.size) (hb : Below W.heap.size W W') : KeptQ w D A1 gn c1 A2 bn c2 gA gc bA bc w7 W' := by
  obtain ⟨a, b, c, d, e, f⟩ := h
  have hz := hb.size
  exact ⟨(hb.cell (p := ⟨D, 0, none⟩) (by show D < _; omega)).trans a, (hb.cell (p := ⟨D, 1, none⟩) (by show D < _; omega)).trans b, (hb.cell (p := ⟨w.heap.size, 0, none⟩) (by show w.heap.size < _; omega)).trans c, (hb.cell (p := ⟨w.heap.size, 1, none⟩) (by show w.heap.size < _; omega)).trans d, e.trans (hb.mono f), by omega⟩
end

set_option maxRecDepth 100000 in
set_option maxHeartbeats 3200000 in
theorem pays_thick (gA bA : Option Addr) (gn gc bn bc B : Nat) (G H : Nat → Nat → Int) (w : World) (hg : gn ≤ maxLen) (hb : bn ≤ maxLen) (hR : BookRd w B gA gn G bA bn H) (hB : B ≤ w.heap.size) (ht : thickF gn bn (M.okF gn bn G H) = true) :
    Calls Tryd.prog 3 #[.agg #[.slice gA gn gc, .slice bA bn bc]] w fun e w' => e = .returned (.bool true) ∧ Below w.heap.size w w' := by
  go_enter Tryd.func3, Tryd.ntmps3
  go_wp2_with fail
  refine (thick_any gA bA gn gc bn bc B G H _ hg hb (by exact hR.below ((belowAlloc _ _).mono hB)) (by simp; omega)).mono ?_
  rw [ht]
  rintro e w1 ⟨rfl, hb1⟩
  have HB1 := Lib.hid hb1
  clear hb1
  go_wp2_with (go_at_call 8; refine (works_any _).mono ?_; rintro e w9 ⟨rfl, hb9⟩; have HB9 := Lib.hid hb9; clear hb9)
  go_ret
  exact ⟨rfl, (belowAlloc _ _).trans ((HB1.out.mono (by simp)).trans (HB9.out.mono (by have := HB1.out.size; simp at this; omega)))⟩

set_option maxRecDepth 100000 in
set_option maxHeartbeats 6400000 in
theorem pays_thin (gA bA : Option Addr) (gn gc bn bc B : Nat) (G H : Nat → Nat → Int) (w : World) (hg : gn ≤ maxLen) (hb : bn ≤ maxLen) (hR : BookRd w B gA gn G bA bn H) (hB : B ≤ w.heap.size) (ht : thickF gn bn (M.okF gn bn G H) = false)
    (hT : TabAt 1 Lib.deBruijn64tab w) (hG : 1 < w.heap.size) :
    Calls Tryd.prog 3 #[.agg #[.slice gA gn gc, .slice bA bn bc]] w fun e w' => e = .returned (.bool true) ∧ Below w.heap.size w w' := by
  have hgn : gn ≤ 12 ∧ bn ≤ 10 := by unfold thickF at ht; simp at ht; omega
  have HT := Lib.hid hT
  have SL := short_len (gn := gn) (bn := bn) (G := G) (H := H)
  obtain ⟨sl, hsl⟩ : ∃ sl, sl = listOf bn (shortS gn bn G H) := ⟨_, rfl⟩
  have hpn : payN gn bn G H ≤ bn := by unfold payN; split <;> omega
  rw [← hsl] at SL
  have HSL := Lib.hid hsl
  clear hT hsl
  go_enter Tryd.func3, Tryd.ntmps3
  go_wp2_with fail
  refine (thick_any gA bA gn gc bn bc B G H _ hg hb (by exact hR.below ((belowAlloc _ _).mono hB)) (by simp; omega)).mono ?_
  rw [ht]
  rintro e w1 ⟨rfl, hb1⟩
  have K1 := Lib.hid ((Blk.new w 25 #[.slice gA gn gc, .slice bA bn bc]).below hb1 (by simp))
  have W1 := Lib.hid ((belowAlloc w (.cells #[.slice gA gn gc, .slice bA bn bc] 25)).trans (hb1.mono (by simp)))
  have hz1 : w.heap.size + 1 ≤ w1.heap.size := by have := hb1.size; simpa using this
  have HR := Lib.hid hR
  have q0 := K1.out.cell 0
  have q1 := K1.out.cell 1
  clear hb1 hR
  go_wp2_with fail
  clear q0 q1
  refine (copy_any gA bA gn gc bn bc B G H _ (by omega) (by omega) (by exact HR.out.below (W1.out.mono hB)) (by omega)).mono ?_
  rintro e w3 ⟨v1, v2, rfl, ho1, ho2, hb3⟩
  obtain ⟨A1, c1, rfl, hr1⟩ := ho1.rd
  obtain ⟨A2, c2, rfl, hr2⟩ := ho2.rd
  have hz3 := hb3.size
  obtain ⟨V, hV⟩ : ∃ V, V = w3.alloc (.cells #[.slice A1 gn c1, .slice A2 bn c2] 25) := ⟨_, rfl⟩
  obtain ⟨D, hD⟩ : ∃ D, D = w3.heap.size := ⟨_, rfl⟩
  have hbV := belowAlloc w3 (.cells #[.slice A1 gn c1, .slice A2 bn c2] 25)
  have hzV := size_alloc w3 (.cells #[.slice A1 gn c1, .slice A2 bn c2] 25)
  have KD := Lib.hid (blk_at w3 (t := 25) (cs := #[.slice A1 gn c1, .slice A2 bn c2]) hD)
  rw [← hV] at hbV hzV KD
  rw [← hD] at hzV hz3 hbV hr1 hr2
  have hD1 : w.heap.size + 1 ≤ D := by omega
  have CV := Lib.hid (BookRd.below (And.intro hr1 hr2) hbV)
  have KV := Lib.hid ((K1.out.below hb3 K1.out.lt).below hbV (by omega))
  have WV := Lib.hid ((W1.out.trans (hb3.mono (by omega))).trans (hbV.mono (by omega)))
  have d0 := KD.out.cell 0
  have d1 := KD.out.cell 1
  have b0 := KV.out.cell 0
  have b1 := KV.out.cell 1
  have hzVD : V.heap.size = D + 1 := hzV
  have HZV := Lib.hid hzV
  clear hzVD hr1 hr2 ho1 ho2 hb3 hbV
  go_upto_region 4 with fail
  rw [← hV, ← hD]
  have hVD : D < V.heap.size := by omega
  clear hV hD hzV hz3 hz1
  go_wp2_with (first | (go_at_call 10; go_must (refine (gpay_any A1 A2 gn c1 bn c2 D G H _ hg hb CV.out (by omega)).mono ?_); rintro e w4 ⟨⟨pA, pc, rfl, hrr⟩, hb4⟩; have P4 := Lib.hid hrr; clear d0 d1 b0 b1; have B4 := Lib.hid (hb4); have W4 := Lib.hid (WV.out.trans (B4.out.mono (by omega))); have hz4 := B4.out.size; have d0 := (KD.out.below B4.out (by omega)).cell 0; have d1 := (KD.out.below B4.out (by omega)).cell 1; have b0 := (KV.out.below B4.out (by omega)).cell 0; have b1 := (KV.out.below B4.out (by omega)).cell 1; clear hb4 hrr) | (go_at_call 11; go_must (refine (rpay_any gA bA gn gc bn bc B G H _ hg hb (HR.out.below (W4.out.mono hB)) (by omega)).mono ?_); rintro e w5 ⟨⟨rA, rc, rfl, hrr⟩, hb5⟩; have P5 := Lib.hid hrr; have P45 := Lib.hid ((P4.out.below hb5).more hb5.size); clear d0 d1 b0 b1; have B5 := Lib.hid (B4.out.trans (hb5.mono hz4)); have W5 := Lib.hid (WV.out.trans (B5.out.mono (by omega))); have hz5 := B5.out.size; have d0 := (KD.out.below B5.out (by omega)).cell 0; have d1 := (KD.out.below B5.out (by omega)).cell 1; have b0 := (KV.out.below B5.out (by omega)).cell 0; have b1 := (KV.out.below B5.out (by omega)).cell 1; clear hb5 hrr) | (go_at_call 12; go_must (refine (gshort_any A1 A2 gn c1 bn c2 D G H _ hg hb (CV.out.below (B5.out.mono (by omega))) (by omega) (TabAt.below (g := 1) (tab := Lib.deBruijn64tab) (w := w) HT.out W5.out hG) (by omega)).mono ?_); rintro e w6 ⟨⟨v6, rfl, ho6⟩, hb6⟩; rw [← HSL.out] at ho6; obtain ⟨sA, sc, rfl, hs6⟩ := ho6.rd1; have S6 := Lib.hid hs6; have P46 := Lib.hid ((P45.out.below hb6).more hb6.size); have P56 := Lib.hid ((P5.out.below hb6).more hb6.size); clear d0 d1 b0 b1; have B6 := Lib.hid (B5.out.trans (hb6.mono hz5)); have W6 := Lib.hid (WV.out.trans (B6.out.mono (by omega))); have hz6 := B6.out.size; have d0 := (KD.out.below B6.out (by omega)).cell 0; have d1 := (KD.out.below B6.out (by omega)).cell 1; have b0 := (KV.out.below B6.out (by omega)).cell 0; have b1 := (KV.out.below B6.out (by omega)).cell 1; clear hb6 ho6 hs6) | (go_at_call 13; go_must (refine (rshort_any gA bA gn gc bn bc B G H _ hg hb (HR.out.below (W6.out.mono hB)) (by omega)).mono ?_); rintro e w7 ⟨⟨v7, rfl, ho7⟩, hb7⟩; rw [← HSL.out] at ho7; obtain ⟨tA, tc, rfl, hs7⟩ := ho7.rd1; have S7 := Lib.hid hs7; have S67 := Lib.hid ((S6.out.below hb7).more hb7.size); have P47 := Lib.hid ((P46.out.below hb7).more hb7.size); have P57 := Lib.hid ((P56.out.below hb7).more hb7.size); clear d0 d1 b0 b1; have B7 := Lib.hid (B6.out.trans (hb7.mono hz6)); have W7 := Lib.hid (WV.out.trans (B7.out.mono (by omega))); have hz7 := B7.out.size; have d0 := (KD.out.below B7.out (by omega)).cell 0; have d1 := (KD.out.below B7.out (by omega)).cell 1; have b0 := (KV.out.below B7.out (by omega)).cell 0; have b1 := (KV.out.below B7.out (by omega)).cell 1; clear hb7 ho7 hs7 P4 P45 P46 P5 P56 S6 B4 B5 B6 W4 W5 W6))
  obtain ⟨er, her⟩ : ∃ er, er = M.chkN gn bn G H := ⟨_, rfl⟩
  obtain ⟨pe, hpe⟩ : ∃ pe, pe = payE gn bn G H := ⟨_, rfl⟩
  obtain ⟨se, hse⟩ : ∃ se, se = shortE gn bn G H := ⟨_, rfl⟩
  rw [← hpe, ← hse]
  have HER := Lib.hid her
  have g1 : (er == er) = true := by simp
  have g2 : (pe == pe) = true := by simp
  have g3 : (se == se) = true := by simp
  have C7 := Lib.hid (CV.out.below (B7.out.mono (by omega)))
  have R7 := Lib.hid (HR.out.below (W7.out.mono hB))
  have hD7 : D < w7.heap.size := by omega
  have hS7 : w.heap.size < w7.heap.size := by omega
  have ky : KeptQ w D A1 gn c1 A2 bn c2 gA gc bA bc w7 w7 := ⟨d0, d1, b0, b1, Below.refl _ _, Nat.le_refl _⟩
  have kd := ky.drew
  clear her hpe hse d0 d1 b0 b1 ky KD KV CV HR WV HZV hz4 hz5 hz6 hz7 hVD
  go_region_held3 (fun w' => w'.cell? ⟨D, 0, none⟩ = some (.slice A1 gn c1) ∧ w'.cell? ⟨D, 1, none⟩ = some (.slice A2 bn c2) ∧ w'.cell? ⟨w.heap.size, 0, none⟩ = some (.slice gA gn gc) ∧ w'.cell? ⟨w.heap.size, 1, none⟩ = some (.slice bA bn bc) ∧ Below w7.heap.size w7 w' ∧ w7.heap.size ≤ w'.heap.size)
    (first
      | assumption
      | exact KeptQ.keep (w := w) (D := D) (w7 := w7) (by assumption) hD7 hS7 hbx
      | fail)
    (first
      | (go_at_call 14; refine (check_any A1 A2 gn c1 bn c2 D G H _ hg hb (C7.out.below (Below.mono (by go_split_ands; assumption) (by omega))) (by go_split_ands; omega)).mono ?_; rw [← HER.out]; rintro e w8 ⟨rfl, hbx⟩)
      | (go_at_call 15; refine (rcheck_any gA bA gn gc bn bc B G H _ hg hb (R7.out.below (Below.mono (by go_split_ands; assumption) (by omega))) (by go_split_ands; omega)).mono ?_; rw [← HER.out]; rintro e w8 ⟨rfl, hbx⟩)
      | (go_at_call 16; refine (sameRows_any pA rA _ _ pc rc w7.heap.size _ _ _ _ _ (by unfold maxLen; omega) (by unfold maxLen; omega) (fun _ _ => by unfold maxLen; omega) (fun _ _ => by unfold maxLen; omega) (P47.out.below (by go_split_ands; assumption)) (P57.out.below (by go_split_ands; assumption)) (by go_split_ands; omega)).mono ?_; rw [sameR_self]; rintro e w8 ⟨rfl, hbx⟩)
      | (go_at_call 17; refine (sameInts_any sA tA _ _ sc tc w7.heap.size _ _ _ (by unfold maxLen; omega) (by unfold maxLen; omega) (S67.out.below (by go_split_ands; assumption)) (S7.out.below (by go_split_ands; assumption))).mono ?_; rw [same_self]; rintro e w8 ⟨rfl, hbx⟩)
      | (go_at_call 8; refine (works_any _).mono ?_; rintro e w8 ⟨rfl, hbx⟩)
      | fail)
  go_split_ands
  go_wp2
  go_ret
  exact ⟨rfl, W7.out.trans (Below.mono (by assumption) (by omega))⟩
theorem giftsPays_any (gA bA : Option Addr) (gn gc bn bc B : Nat) (G H : Nat → Nat → Int) (w : World) (hg : gn ≤ maxLen) (hb : bn ≤ maxLen) (hR : BookRd w B gA gn G bA bn H) (hB : B ≤ w.heap.size)
    (hT : TabAt 1 Lib.deBruijn64tab w) (hG : 1 < w.heap.size) :
    Calls Tryd.prog 3 #[.agg #[.slice gA gn gc, .slice bA bn bc]] w fun e w' => e = .returned (.bool true) ∧ Below w.heap.size w w' := by
  cases ht : thickF gn bn (M.okF gn bn G H)
  · exact pays_thin gA bA gn gc bn bc B G H w hg hb hR hB ht hT hG
  · exact pays_thick gA bA gn gc bn bc B G H w hg hb hR hB ht
end Go.Proofs.YtaljmlkapbojeaaDoor
