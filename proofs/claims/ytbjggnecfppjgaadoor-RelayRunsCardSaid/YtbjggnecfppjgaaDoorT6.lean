/- offer, repeat. -/
import Derived.Test.YtbjggnecfppjgaaDoorT5
namespace Go.Proofs.YtbjggnecfppjgaaDoor
open Go.RowKit

/-- what a step leaves: false and the state as it was, or true and the next one -/
def StepV (n g : Nat) (s : M.St) (o : Option M.St) (w : World) (e : Ending) (w' : World) : Prop := e = .returned (.bool o.isSome) ∧ Sf w' g (stF n (o.getD s)) ∧ w.grownBy w' (some g)
theorem stepV_none {n g : Nat} {s : M.St} {o : Option M.St} {w w' : World} (h : o = none) (hs : Sf w' g (stF n s)) (hg : w.grownBy w' (some g)) : StepV n g s o w (.returned (.bool false)) w' := by subst h; exact ⟨rfl, hs, hg⟩
theorem stepV_some {n g : Nat} {s t : M.St} {o : Option M.St} {w w' : World} (h : o = some t) (hs : Sf w' g (stF n t)) (hg : w.grownBy w' (some g)) : StepV n g s o w (.returned (.bool true)) w' := by subst h; exact ⟨rfl, hs, hg⟩
theorem grown_refl (w : World) (r : Option Nat) : w.grownBy w r := ⟨rfl, rfl, rfl, Nat.le_refl _, fun _ _ _ => rfl⟩
set_option maxRecDepth 100000 in
set_option maxHeartbeats 3200000 in
theorem offer_any (n g : Nat) (s : M.St) (a b : Int) (w : World) (hs : Sf w g (stF n s)) (hn : n ≤ 4) (hwf : M.Wf n s) :
    Calls Tryd.prog 61 #[.pointer (some ⟨g, 0, none⟩), .int .i64 a, .int .i64 b] w (StepV n g s (M.offer n s a b) w) := by
  have hgw := hs.lt
  have ck := hs.ck
  have cn := hs.cn
  have H := Lib.hid hs
  have HW := Lib.hid hwf
  obtain ⟨o, ho⟩ : ∃ o, o = M.offer n s a b := ⟨_, rfl⟩
  rw [← ho]
  unfold M.offer at ho
  clear hs hwf
  by_cases h1 : 0 ≤ a
  rotate_left
  · have g1 : decide (a < 0) = true := decide_eq_true (by omega)
    rw [if_neg (by omega)] at ho
    have HO := Lib.hid ho
    clear ho
    go_enter Tryd.func61, Tryd.ntmps61
    go_wp2_with fail
    go_ret
    exact stepV_none HO.out H.out (grown_refl _ _)
  have g1 : decide (a < 0) = false := decide_eq_false (by omega)
  by_cases h2 : a < n
  rotate_left
  · have g2 : decide ((n : Int) ≤ a) = true := decide_eq_true (by omega)
    rw [if_neg (by omega)] at ho
    have HO := Lib.hid ho
    clear ho
    go_enter Tryd.func61, Tryd.ntmps61
    go_wp2_with fail
    go_ret
    exact stepV_none HO.out H.out (grown_refl _ _)
  have g2 : decide ((n : Int) ≤ a) = false := decide_eq_false (by omega)
  by_cases h3 : 0 ≤ b
  rotate_left
  · have g3 : decide (b < 0) = true := decide_eq_true (by omega)
    rw [if_neg (by omega)] at ho
    have HO := Lib.hid ho
    clear ho
    go_enter Tryd.func61, Tryd.ntmps61
    go_wp2_with fail
    go_ret
    exact stepV_none HO.out H.out (grown_refl _ _)
  have g3 : decide (b < 0) = false := decide_eq_false (by omega)
  by_cases h4 : b < n
  rotate_left
  · have g4 : decide ((n : Int) ≤ b) = true := decide_eq_true (by omega)
    rw [if_neg (by omega)] at ho
    have HO := Lib.hid ho
    clear ho
    go_enter Tryd.func61, Tryd.ntmps61
    go_wp2_with fail
    go_ret
    exact stepV_none HO.out H.out (grown_refl _ _)
  have g4 : decide ((n : Int) ≤ b) = false := decide_eq_false (by omega)
  by_cases h5 : a ≠ b
  rotate_left
  · have g5 : (a == b) = true := by rw [beq_iff_eq]; omega
    rw [if_neg (fun h => h5 h.2.2.2.2.1)] at ho
    have HO := Lib.hid ho
    clear ho
    go_enter Tryd.func61, Tryd.ntmps61
    go_wp2_with fail
    go_ret
    exact stepV_none HO.out H.out (grown_refl _ _)
  have g5 : (a == b) = false := by rw [beq_eq_false_iff_ne]; exact h5
  by_cases h6 : s.k < 6
  rotate_left
  · have HRM := Lib.hid (decide_eq_false h6)
    rw [if_neg (by omega)] at ho
    have HO := Lib.hid ho
    clear ho
    go_enter Tryd.func61, Tryd.ntmps61
    go_wp2_with (go_at_call 65; refine (room_any n g s _ H.out).mono ?_; rw [HRM.out]; rintro e w1 ⟨rfl, rfl⟩)
    go_ret
    exact stepV_none HO.out H.out (grown_refl _ _)
  have HRM := Lib.hid (decide_eq_true h6)
  obtain ⟨a, rfl⟩ := Int.eq_ofNat_of_zero_le h1
  rw [Int.toNat_natCast] at ho
  have p1 := idx_cen g a (by omega)
  obtain ⟨c0, c1, c2⟩ := H.out.cen (a := a) (by omega)
  have hcb := HW.out.cen a (by omega)
  by_cases h7 : s.c a 0 = 1
  rotate_left
  · have g7 : (s.c a 0 != 1) = true := by rw [bne_iff_ne]; exact h7
    rw [if_neg (by omega)] at ho
    have HO := Lib.hid ho
    clear ho
    go_enter Tryd.func61, Tryd.ntmps61
    go_wp2_with (go_at_call 65; refine (room_any n g s _ H.out).mono ?_; rw [HRM.out]; rintro e w1 ⟨rfl, rfl⟩)
    go_ret
    exact stepV_none HO.out H.out (grown_refl _ _)
  have g7 : (s.c a 0 != 1) = false := by rw [h7]; rfl
  by_cases h8 : s.c a 2 < 9
  rotate_left
  · have g8 : decide (9 ≤ s.c a 2) = true := decide_eq_true (by omega)
    rw [if_neg (by omega)] at ho
    have HO := Lib.hid ho
    clear ho
    go_enter Tryd.func61, Tryd.ntmps61
    go_wp2_with (go_at_call 65; refine (room_any n g s _ H.out).mono ?_; rw [HRM.out]; rintro e w1 ⟨rfl, rfl⟩)
    go_ret
    exact stepV_none HO.out H.out (grown_refl _ _)
  have g8 : decide (9 ≤ s.c a 2) = false := decide_eq_false (by omega)
  rw [if_pos ⟨h1, h2, h3, h4, h5, h6, h7, h8⟩] at ho
  have HO := Lib.hid ho
  have z0 := H.out.frz (1 + a * 3)
  have z1 := H.out.frz (1 + a * 3 + 1)
  have z2 := H.out.frz (1 + a * 3 + 2)
  have ha4 : a < 4 := by omega
  obtain ⟨tu, htu⟩ : ∃ tu, tu = s.c a 2 := ⟨_, rfl⟩
  rw [← htu] at c2 hcb HO g8 h8
  have hw : IntKind.i64.wrap (tu + 1) = tu + 1 := by rw [IntKind.wrap_i64]; omega
  clear ho h7 htu
  go_enter Tryd.func61, Tryd.ntmps61
  go_upto_region 7 with (go_at_call 65; refine (room_any n g s _ H.out).mono ?_; rw [HRM.out]; rintro e w1 ⟨rfl, rfl⟩)
  obtain ⟨X, hX⟩ : ∃ X, X = ((w.setCell ⟨g, 1 + a * 3, none⟩ (.int .i64 2)).setCell ⟨g, 1 + a * 3 + 1, none⟩ (.int .i64 b)).setCell ⟨g, 1 + a * 3 + 2, none⟩ (.int .i64 (tu + 1)) := ⟨_, rfl⟩
  have SX := Lib.hid (show Sf X g (stF n (M.setC s a (M.v3 2 b (tu + 1)))) by rw [hX]; exact H.out.set3 ha4 2 b (tu + 1))
  have GX := Lib.hid (show w.grownBy X (some g) by rw [hX]; exact grown_set3 w g _ _ _ _ _ _)
  rw [← hX]
  clear hX c0 c1 c2 z0 z1 z2
  go_wp2_with (go_at_call 74; refine (send_any n g (M.setC s a (M.v3 2 b (tu + 1))) 1 (a : Int) b _ SX.out (by omega) h6).mono ?_; rintro e w9 ⟨⟨rv, rfl⟩, h9, g9⟩; have H9 := Lib.hid h9; have G9 := Lib.hid g9; clear h9 g9)
  go_ret
  exact stepV_some HO.out H9.out (GX.out.trans G9.out)
set_option maxRecDepth 100000 in
set_option maxHeartbeats 3200000 in
theorem repeat_any (n g : Nat) (s : M.St) (a : Int) (w : World) (hs : Sf w g (stF n s)) (hn : n ≤ 4) (hwf : M.Wf n s) :
    Calls Tryd.prog 62 #[.pointer (some ⟨g, 0, none⟩), .int .i64 a] w (StepV n g s (M.again n s a) w) := by
  have hgw := hs.lt
  have ck := hs.ck
  have cn := hs.cn
  have H := Lib.hid hs
  have HW := Lib.hid hwf
  obtain ⟨o, ho⟩ : ∃ o, o = M.again n s a := ⟨_, rfl⟩
  rw [← ho]
  unfold M.again at ho
  clear hs hwf
  by_cases h1 : 0 ≤ a
  rotate_left
  · have g1 : decide (a < 0) = true := decide_eq_true (by omega)
    rw [if_neg (by omega)] at ho
    have HO := Lib.hid ho
    clear ho
    go_enter Tryd.func62, Tryd.ntmps62
    go_wp2_with fail
    go_ret
    exact stepV_none HO.out H.out (grown_refl _ _)
  have g1 : decide (a < 0) = false := decide_eq_false (by omega)
  by_cases h2 : a < n
  rotate_left
  · have g2 : decide ((n : Int) ≤ a) = true := decide_eq_true (by omega)
    rw [if_neg (by omega)] at ho
    have HO := Lib.hid ho
    clear ho
    go_enter Tryd.func62, Tryd.ntmps62
    go_wp2_with fail
    go_ret
    exact stepV_none HO.out H.out (grown_refl _ _)
  have g2 : decide ((n : Int) ≤ a) = false := decide_eq_false (by omega)
  by_cases h6 : s.k < 6
  rotate_left
  · have HRM := Lib.hid (decide_eq_false h6)
    rw [if_neg (by omega)] at ho
    have HO := Lib.hid ho
    clear ho
    go_enter Tryd.func62, Tryd.ntmps62
    go_wp2_with (go_at_call 65; refine (room_any n g s _ H.out).mono ?_; rw [HRM.out]; rintro e w1 ⟨rfl, rfl⟩)
    go_ret
    exact stepV_none HO.out H.out (grown_refl _ _)
  have HRM := Lib.hid (decide_eq_true h6)
  obtain ⟨a, rfl⟩ := Int.eq_ofNat_of_zero_le h1
  rw [Int.toNat_natCast, if_pos ⟨h1, h2, h6⟩] at ho
  have p1 := idx_cen g a (by omega)
  obtain ⟨c0, c1, c2⟩ := H.out.cen (a := a) (by omega)
  have ha4 : a < 4 := by omega
  have HA := Lib.hid (H.out.alloc (.cells #[.int .i64 (s.c a 0), .int .i64 (s.c a 1), .int .i64 (s.c a 2)] 69))
  have GA := Lib.hid (World.grownBy_alloc w (.cells #[.int .i64 (s.c a 0), .int .i64 (s.c a 1), .int .i64 (s.c a 2)] 69) (some g))
  by_cases h7 : s.c a 0 = 2
  · rw [if_pos h7] at ho
    have HO := Lib.hid ho
    have e2 : (s.c a 0 == 2) = true := by rw [h7]; rfl
    clear ho h7
    go_enter Tryd.func62, Tryd.ntmps62
    go_wp2_with (first | (go_at_call 65; refine (room_any n g s _ H.out).mono ?_; rw [HRM.out]; rintro e w1 ⟨rfl, rfl⟩) | (go_at_call 74; refine (send_any n g s 1 (a : Int) (s.c a 1) _ HA.out (by omega) h6).mono ?_; rintro e w9 ⟨⟨rv, rfl⟩, h9, g9⟩; have H9 := Lib.hid h9; have G9 := Lib.hid g9; clear h9 g9))
    go_ret
    exact stepV_some HO.out H9.out (GA.out.trans G9.out)
  · rw [if_neg h7] at ho
    have e2 : (s.c a 0 == 2) = false := by rw [beq_eq_false_iff_ne]; exact h7
    by_cases h8 : s.c a 0 = 3
    · rw [if_pos h8] at ho
      have HO := Lib.hid ho
      have e3 : (s.c a 0 == 3) = true := by rw [h8]; rfl
      clear ho h7 h8
      go_enter Tryd.func62, Tryd.ntmps62
      go_wp2_with (first | (go_at_call 65; refine (room_any n g s _ H.out).mono ?_; rw [HRM.out]; rintro e w1 ⟨rfl, rfl⟩) | (go_at_call 74; refine (send_any n g s 2 (a : Int) (s.c a 1) _ HA.out (by omega) h6).mono ?_; rintro e w9 ⟨⟨rv, rfl⟩, h9, g9⟩; have H9 := Lib.hid h9; have G9 := Lib.hid g9; clear h9 g9))
      go_ret
      exact stepV_some HO.out H9.out (GA.out.trans G9.out)
    · rw [if_neg h8] at ho
      have HO := Lib.hid ho
      have e3 : (s.c a 0 == 3) = false := by rw [beq_eq_false_iff_ne]; exact h8
      clear ho h7 h8
      go_enter Tryd.func62, Tryd.ntmps62
      go_wp2_with (go_at_call 65; refine (room_any n g s _ H.out).mono ?_; rw [HRM.out]; rintro e w1 ⟨rfl, rfl⟩)
      go_ret
      exact stepV_none HO.out HA.out GA.out
end Go.Proofs.YtbjggnecfppjgaaDoor
