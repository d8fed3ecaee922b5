/- offer, repeat. -/
import Derived.Test.YtfnfjmjejffjiaaDoorT4
namespace Go.Proofs.YtfnfjmjejffjiaaDoor
open Go.RowKit

/-- what a step leaves: false and the state as it was, or true and the next one -/
def StepV (n g : Nat) (s : M.St) (o : Option M.St) (w : World) (e : Ending) (w' : World) : Prop := e = .returned (.bool o.isSome) ∧ Sf w' g (stF n (o.getD s)) ∧ w.grownBy w' (some g)
theorem stepV_none {n g : Nat} {s : M.St} {o : Option M.St} {w w' : World} (h : o = none) (hs : Sf w' g (stF n s)) (hg : w.grownBy w' (some g)) : StepV n g s o w (.returned (.bool false)) w' := by subst h; exact ⟨rfl, hs, hg⟩
theorem stepV_some {n g : Nat} {s t : M.St} {o : Option M.St} {w w' : World} (h : o = some t) (hs : Sf w' g (stF n t)) (hg : w.grownBy w' (some g)) : StepV n g s o w (.returned (.bool true)) w' := by subst h; exact ⟨rfl, hs, hg⟩
theorem grown_refl (w : World) (r : Option Nat) : w.grownBy w r := ⟨rfl, rfl, rfl, Nat.le_refl _, fun _ _ _ => rfl⟩
set_option maxRecDepth 100000 in
set_option maxHeartbeats 3200000 in
theorem offer_any (n g : Nat) (s : M.St) (a b : Int) (w : World) (hs : Sf w g (stF n s)) (hn : n ≤ 4) (hwf : M.Wf n s) :
    Calls Tryd.prog 37 #[.pointer (some ⟨g, 0, none⟩), .int .i64 a, .int .i64 b] w (StepV n g s (M.offer n s a b) w) := by
  have hgw := hs.lt
  have ck := hs.ck
  have cn := hs.cn
  have H := Lib.hid hs
  have HW := Lib.hid hwf
  obtain ⟨o, ho⟩ : ∃ o, o = M.offer n s a b := ⟨_, rfl⟩
  rw [← ho]
  unfold M.offer at ho
  clear hs hwf
  by_cases h1 : 0 ≤ a
  rotate_left
  · have g1 : decide (a < 0) = true := decide_eq_true (by omega)
    rw [if_neg (by omega)] at ho
    have HO := Lib.hid ho
    clear ho
    go_enter Tryd.func37, Tryd.ntmps37
    go_wp2_with fail
    go_ret
    exact stepV_none HO.out H.out (grown_refl _ _)
  have g1 : decide (a < 0) = false := decide_eq_false (by omega)
  by_cases h2 : a < n
  rotate_left
  · have g2 : decide ((n : Int) ≤ a) = true := decide_eq_true (by omega)
    rw [if_neg (by omega)] at ho
    have HO := Lib.hid ho
    clear ho
    go_enter Tryd.func37, Tryd.ntmps37
    go_wp2_with fail
    go_ret
    exact stepV_none HO.out H.out (grown_refl _ _)
  have g2 : decide ((n : Int) ≤ a) = false := decide_eq_false (by omega)
  by_cases h3 : 0 ≤ b
  rotate_left
  · have g3 : decide (b < 0) = true := decide_eq_true (by omega)
    rw [if_neg (by omega)] at ho
    have HO := Lib.hid ho
    clear ho
    go_enter Tryd.func37, Tryd.ntmps37
    go_wp2_with fail
    go_ret
    exact stepV_none HO.out H.out (grown_refl _ _)
  have g3 : decide (b < 0) = false := decide_eq_false (by omega)
  by_cases h4 : b < n
  rotate_left
  · have g4 : decide ((n : Int) ≤ b) = true := decide_eq_true (by omega)
    rw [if_neg (by omega)] at ho
    have HO := Lib.hid ho
    clear ho
    go_enter Tryd.func37, Tryd.ntmps37
    go_wp2_with fail
    go_ret
    exact stepV_none HO.out H.out (grown_refl _ _)
  have g4 : decide ((n : Int) ≤ b) = false := decide_eq_false (by omega)
  by_cases h5 : a ≠ b
  rotate_left
  · have g5 : (a == b) = true := by rw [beq_iff_eq]; omega
    rw [if_neg (fun h => h5 h.2.2.2.2.1)] at ho
    have HO := Lib.hid ho
    clear ho
    go_enter Tryd.func37, Tryd.ntmps37
    go_wp2_with fail
    go_ret
    exact stepV_none HO.out H.out (grown_refl _ _)
  have g5 : (a == b) = false := by rw [beq_eq_false_iff_ne]; exact h5
  by_cases h6 : s.k < 6
  rotate_left
  · have HRM := Lib.hid (decide_eq_false h6)
    rw [if_neg (by omega)] at ho
    have HO := Lib.hid ho
    clear ho
    go_enter Tryd.func37, Tryd.ntmps37
    go_wp2_with (go_at_call 41; refine (room_any n g s _ H.out).mono ?_; rw [HRM.out]; rintro e w1 ⟨rfl, rfl⟩)
    go_ret
    exact stepV_none HO.out H.out (grown_refl _ _)
  have HRM := Lib.hid (decide_eq_true h6)
  obtain ⟨a, rfl⟩ := Int.eq_ofNat_of_zero_le h1
  rw [Int.toNat_natCast] at ho
  have p1 := idx_cen g a (by omega)
  obtain ⟨c0, c1, c2⟩ := H.out.cen (a := a) (by omega)
  have hcb := HW.out.cen a (by omega)
  by_cases h7 : s.c a 0 = 1
  rotate_left
  · have g7 : (s.c a 0 != 1) = true := by rw [bne_iff_ne]; exact h7
    rw [if_neg (by omega)] at ho
    have HO := Lib.hid ho
    clear ho
    go_enter Tryd.func37, Tryd.ntmps37
    go_wp2_with (go_at_call 41; refine (room_any n g s _ H.out).mono ?_; rw [HRM.out]; rintro e w1 ⟨rfl, rfl⟩)
    go_ret
    exact stepV_none HO.out H.out (grown_refl _ _)
  have g7 : (s.c a 0 != 1) = false := by rw [h7]; rfl
  by_cases h8 : s.c a 2 < 9
  rotate_left
  · have g8 : decide (9 ≤ s.c a 2) = true := decide_eq_true (by omega)
    rw [if_neg (by omega)] at ho
    have HO := Lib.hid ho
    clear ho
    go_enter Tryd.func37, Tryd.ntmps37
    go_wp2_with (go_at_call 41; refine (room_any n g s _ H.out).mono ?_; rw [HRM.out]; rintro e w1 ⟨rfl, rfl⟩)
    go_ret
    exact stepV_none HO.out H.out (grown_refl _ _)
  have g8 : decide (9 ≤ s.c a 2) = false := decide_eq_false (by omega)
  rw [if_pos ⟨h1, h2, h3, h4, h5, h6, h7, h8⟩] at ho
  have HO := Lib.hid ho
  have z0 := H.out.frz (1 + a * 3)
  have z1 := H.out.frz (1 + a * 3 + 1)
  have z2 := H.out.frz (1 + a * 3 + 2)
  have ha4 : a < 4 := by omega
  obtain ⟨tu, htu⟩ : ∃ tu, tu = s.c a 2 := ⟨_, rfl⟩
  rw [← htu] at c2 hcb HO g8 h8
  have hw : IntKind.i64.wrap (tu + 1) = tu + 1 := by rw [IntKind.wrap_i64]; omega
  clear ho h7 htu
  go_enter Tryd.func37, Tryd.ntmps37
  go_upto_region 7 with (go_at_call 41; refine (room_any n g s _ H.out).mono ?_; rw [HRM.out]; rintro e w1 ⟨rfl, rfl⟩)
  obtain ⟨X, hX⟩ : ∃ X, X = ((w.setCell ⟨g, 1 + a * 3, none⟩ (.int .i64 2)).setCell ⟨g, 1 + a * 3 + 1, none⟩ (.int .i64 b)).setCell ⟨g, 1 + a * 3 + 2, none⟩ (.int .i64 (tu + 1)) := ⟨_, rfl⟩
  have SX := Lib.hid (show Sf X g (stF n (M.setC s a (M.v3 2 b (tu + 1)))) by rw [hX]; exact H.out.set3 ha4 2 b (tu + 1))
  have GX := Lib.hid (show w.grownBy X (some g) by rw [hX]; exact grown_set3 w g _ _ _ _ _ _)
  rw [← hX]
  clear hX c0 c1 c2 z0 z1 z2
  go_wp2_with (go_at_call 47; refine (send_any n g (M.setC s a (M.v3 2 b (tu + 1))) 1 (a : Int) b _ SX.out (by omega) h6).mono ?_; rintro e w9 ⟨⟨rv, rfl⟩, h9, g9⟩; have H9 := Lib.hid h9; have G9 := Lib.hid g9; clear h9 g9)
  go_ret
  exact stepV_some HO.out H9.out (GX.out.trans G9.out)
set_option maxRecDepth 100000 in
set_option maxHeartbeats 3200000 in
theorem repeat_any (n g : Nat) (s : M.St) (a : Int) (w : World) (hs : Sf w g (stF n s)) (hn : n ≤ 4) (hwf : M.Wf n s) :
    Calls Tryd.prog 38 #[.pointer (some ⟨g, 0, none⟩), .int .i64 a] w (StepV n g s (M.again n s a) w) := by
  have hgw := hs.lt
  have ck := hs.ck
  have cn := hs.cn
  have H := Lib.hid hs
  have HW := Lib.hid hwf
  obtain ⟨o, ho⟩ : ∃ o, o = M.again n s a := ⟨_, rfl⟩
  rw [← ho]
  unfold M.again at ho
  clear hs hwf
  by_cases h1 : 0 ≤ a
  rotate_left
  · have g1 : decide (a < 0) = true := decide_eq_true (by omega)
    rw [if_neg (by omega)] at ho
    have HO := Lib.hid ho
    clear ho
    go_enter Tryd.func38, Tryd.ntmps38
    go_wp2_with fail
    go_ret
    exact stepV_none HO.out H.out (grown_refl _ _)
  have g1 : decide (a < 0) = false := decide_eq_false (by omega)
  by_cases h2 : a < n
  rotate_left
  · have g2 : decide ((n : Int) ≤ a) = true := decide_eq_true (by omega)
    rw [if_neg (by omega)] at ho
    have HO := Lib.hid ho
    clear ho
    go_enter Tryd.func38, Tryd.ntmps38
    go_wp2_with fail
    go_ret
    exact stepV_none HO.out H.out (grown_refl _ _)
  have g2 : decide ((n : Int) ≤ a) = false := decide_eq_false (by omega)
  by_cases h6 : s.k < 6
  rotate_left
  · have HRM := Lib.hid (decide_eq_false h6)
    rw [if_neg (by omega)] at ho
    have HO := Lib.hid ho
    clear ho
    go_enter Tryd.func38, Tryd.ntmps38
    go_wp2_with (go_at_call 41; refine (room_any n g s _ H.out).mono ?_; rw [HRM.out]; rintro e w1 ⟨rfl, rfl⟩)
    go_ret
    exact stepV_none HO.out H.out (grown_refl _ _)
  have HRM := Lib.hid (decide_eq_true h6)
  obtain ⟨a, rfl⟩ := Int.eq_ofNat_of_zero_le h1
  rw [Int.toNat_natCast, if_pos ⟨h1, h2, h6⟩] at ho
  have p1 := idx_cen g a (by omega)
  obtain ⟨c0, c1, c2⟩ := H.out.cen (a := a) (by omega)
  have ha4 : a < 4 := by omega
  have HA := Lib.hid (H.out.alloc (.cells #[.int .i64 (s.c a 0), .int .i64 (s.c a 1), .int .i64 (s.c a 2)] 51))
  have GA := Lib.hid (World.grownBy_alloc w (.cells #[.int .i64 (s.c a 0), .int .i64 (s.c a 1), .int .i64 (s.c a 2)] 51) (some g))
  by_cases h7 : s.c a 0 = 2
  · rw [if_pos h7] at ho
    have HO := Lib.hid ho
    have e2 : (s.c a 0 == 2) = true := by rw [h7]; rfl
    clear ho h7
    go_enter Tryd.func38, Tryd.ntmps38
    go_wp2_with (first | (go_at_call 41; refine (room_any n g s _ H.out).mono ?_; rw [HRM.out]; rintro e w1 ⟨rfl, rfl⟩) | (go_at_call 47; refine (send_any n g s 1 (a : Int) (s.c a 1) _ HA.out (by omega) h6).mono ?_; rintro e w9 ⟨⟨rv, rfl⟩, h9, g9⟩; have H9 := Lib.hid h9; have G9 := Lib.hid g9; clear h9 g9))
    go_ret
    exact stepV_some HO.out H9.out (GA.out.trans G9.out)
  · rw [if_neg h7] at ho
    have e2 : (s.c a 0 == 2) = false := by rw [beq_eq_false_iff_ne]; exact h7
    by_cases h8 : s.c a 0 = 3
    · rw [if_pos h8] at ho
      have HO := Lib.hid ho
      have e3 : (s.c a 0 == 3) = true := by rw [h8]; rfl
      clear ho h7 h8
      go_enter Tryd.func38, Tryd.ntmps38
      go_wp2_with (first | (go_at_call 41; refine (room_any n g s _ H.out).mono ?_; rw [HRM.out]; rintro e w1 ⟨rfl, rfl⟩) | (go_at_call 47; refine (send_any n g s 2 (a : Int) (s.c a 1) _ HA.out (by omega) h6).mono ?_; rintro e w9 ⟨⟨rv, rfl⟩, h9, g9⟩; have H9 := Lib.hid h9; have G9 := Lib.hid g9; clear h9 g9))
      go_ret
      exact stepV_some HO.out H9.out (GA.out.trans G9.out)
    · rw [if_neg h8] at ho
      have HO := Lib.hid ho
      have e3 : (s.c a 0 == 3) = false := by rw [beq_eq_false_iff_ne]; exact h8
      clear ho h7 h8
      go_enter Tryd.func38, Tryd.ntmps38
      go_wp2_with (go_at_call 41; refine (room_any n g s _ H.out).mono ?_; rw [HRM.out]; rintro e w1 ⟨rfl, rfl⟩)
      go_ret
      exact stepV_none HO.out HA.out GA.out
end Go.Proofs.YtfnfjmjejffjiaaDoor
/- apply. -/
namespace Go.Proofs.YtfnfjmjejffjiaaDoor
open Go.RowKit

/-- no message behind the last one -/
def M.Out (s : M.St) : Prop := ∀ b, s.k ≤ b → ∀ j, s.m b j = 0
theorem M.Out.drop {s : M.St} (_h : M.Out s) (a : Nat) (ha : a < s.k) : M.Out (M.drop s a) := fun b hb j => by
  have hb : s.k - 1 ≤ b := hb
  show (if b < a then s.m b else if b + 1 < s.k then s.m (b + 1) else fun _ => 0) j = 0
  rw [if_neg (by omega), if_neg (by omega)]
theorem M.Out.add {s : M.St} (h : M.Out s) (v : Nat → Int) : M.Out (M.add s v) := fun b hb j => by
  have hb : s.k + 1 ≤ b := hb
  show (if b = s.k then v else s.m b) j = 0
  rw [if_neg (by omega)]; exact h b (by omega) j
theorem M.Out.handle {s : M.St} (h : M.Out s) (x : Nat → Int) : M.Out (M.handle s x) := by
  unfold M.handle
  split
  · exact M.Out.add (s := M.setC s _ _) h _
  split
  · exact h.add _
  split
  · exact M.Out.add (s := M.setC s _ _) h _
  split
  · exact h.add _
  split
  · exact h
  · exact h
theorem M.Out.step {n : Nat} {s t : M.St} (h : M.Out s) {k a b : Int} (ht : M.step n s k a b = some t) : M.Out t := by
  unfold M.step at ht
  split at ht
  · unfold M.offer at ht
    split at ht
    · injection ht with ht; subst ht; exact M.Out.add (s := M.setC s _ _) h _
    · cases ht
  split at ht
  · cases ht
  split at ht
  · unfold M.again at ht
    split at ht
    · split at ht
      · injection ht with ht; subst ht; exact h.add _
      split at ht
      · injection ht with ht; subst ht; exact h.add _
      · cases ht
    · cases ht
  split at ht
  · cases ht
  rename_i hr
  have hr : 0 ≤ a ∧ a < s.k := Classical.not_not.1 hr
  split at ht
  · injection ht with ht; subst ht; exact (h.drop _ (by omega)).handle _
  split at ht
  · injection ht with ht; subst ht; exact h.drop _ (by omega)
  split at ht
  · split at ht
    · injection ht with ht; subst ht; exact h.add _
    · cases ht
  · cases ht
theorem M.Out.go {n : Nat} {s : M.St} (h : M.Out s) (k a b : Int) : M.Out (M.go n s k a b) := by
  unfold M.go
  cases e : M.step n s k a b with
  | none => exact h
  | some t => exact h.step e
set_option maxRecDepth 100000 in
set_option maxHeartbeats 6400000 in
theorem apply_any (n g : Nat) (s : M.St) (e0 e1 e2 : Int) (w : World) (hs : Sf w g (stF n s)) (hn : n ≤ 4) (hwf : M.Wf n s) (hout : M.Out s) :
    Calls Tryd.prog 28 #[.pointer (some ⟨g, 0, none⟩), .agg #[.int .i64 e0, .int .i64 e1, .int .i64 e2]] w (StepV n g s (M.step n s e0 e1 e2) w) := by
  have hgw := hs.lt
  have ck := hs.ck
  have hk6 := hwf.k6
  have HA := Lib.hid (hs.alloc (.cells #[.int .i64 e0, .int .i64 e1, .int .i64 e2] 38))
  have GA := fun q => (World.grownBy_alloc w (.cells #[.int .i64 e0, .int .i64 e1, .int .i64 e2] 38) (some g)).trans (grown_drewN (w.alloc (.cells #[.int .i64 e0, .int .i64 e1, .int .i64 e2] 38)) g q)
  have GA := Lib.hid GA
  have H := Lib.hid hs
  have HW := Lib.hid hwf
  have HOU := Lib.hid hout
  obtain ⟨o, ho⟩ : ∃ o, o = M.step n s e0 e1 e2 := ⟨_, rfl⟩
  rw [← ho]
  unfold M.step at ho
  clear hs hwf hout
  by_cases q1 : e0 = 1
  · rw [if_pos q1] at ho
    have k1 : (e0 == 1) = true := by rw [q1]; rfl
    have HO := Lib.hid ho
    clear ho q1
    by_cases f1 : 0 ≤ e1
    · have i1 : decide (0 ≤ e1) = true := decide_eq_true f1
      by_cases f2 : e1 < s.k
      · have i2 : decide (e1 < (s.k : Int)) = true := decide_eq_true f2
        go_enter Tryd.func28, Tryd.ntmps28
        go_wp2_with fail
        go_quiet (fail)
        go_wp2_with (go_at_call 37; refine (offer_any n g s e1 e2 _ (HA.out.drewN _) hn HW.out).mono ?_; rintro e w9 ⟨rfl, h9, g9⟩; have H9 := Lib.hid h9; have G9 := Lib.hid g9; clear h9 g9)
        go_ret
        exact ⟨by rw [HO.out]; rfl, by rw [HO.out]; exact H9.out, (GA.out _).trans G9.out⟩
      · have i2 : decide (e1 < (s.k : Int)) = false := decide_eq_false f2
        go_enter Tryd.func28, Tryd.ntmps28
        go_wp2_with fail
        go_quiet (fail)
        go_wp2_with (go_at_call 37; refine (offer_any n g s e1 e2 _ (HA.out.drewN _) hn HW.out).mono ?_; rintro e w9 ⟨rfl, h9, g9⟩; have H9 := Lib.hid h9; have G9 := Lib.hid g9; clear h9 g9)
        go_ret
        exact ⟨by rw [HO.out]; rfl, by rw [HO.out]; exact H9.out, (GA.out _).trans G9.out⟩
    · have i1 : decide (0 ≤ e1) = false := decide_eq_false f1
      go_enter Tryd.func28, Tryd.ntmps28
      go_wp2_with fail
      go_quiet (fail)
      go_wp2_with (go_at_call 37; refine (offer_any n g s e1 e2 _ (HA.out.drewN _) hn HW.out).mono ?_; rintro e w9 ⟨rfl, h9, g9⟩; have H9 := Lib.hid h9; have G9 := Lib.hid g9; clear h9 g9)
      go_ret
      exact ⟨by rw [HO.out]; rfl, by rw [HO.out]; exact H9.out, (GA.out _).trans G9.out⟩
  rw [if_neg q1] at ho
  have k1 : (e0 == 1) = false := by rw [beq_eq_false_iff_ne]; exact q1
  by_cases q2 : e2 ≠ 0
  · rw [if_pos q2] at ho
    have k2 : (e2 != 0) = true := by rw [bne_iff_ne]; exact q2
    have HO := Lib.hid ho
    clear ho
    by_cases f1 : 0 ≤ e1
    · have i1 : decide (0 ≤ e1) = true := decide_eq_true f1
      by_cases f2 : e1 < s.k
      · have i2 : decide (e1 < (s.k : Int)) = true := decide_eq_true f2
        go_enter Tryd.func28, Tryd.ntmps28
        go_wp2_with fail
        go_quiet (fail)
        go_wp2_with fail
        go_ret
        exact stepV_none HO.out (HA.out.drewN _) (GA.out _)
      · have i2 : decide (e1 < (s.k : Int)) = false := decide_eq_false f2
        go_enter Tryd.func28, Tryd.ntmps28
        go_wp2_with fail
        go_quiet (fail)
        go_wp2_with fail
        go_ret
        exact stepV_none HO.out (HA.out.drewN _) (GA.out _)
    · have i1 : decide (0 ≤ e1) = false := decide_eq_false f1
      go_enter Tryd.func28, Tryd.ntmps28
      go_wp2_with fail
      go_quiet (fail)
      go_wp2_with fail
      go_ret
      exact stepV_none HO.out (HA.out.drewN _) (GA.out _)
  rw [if_neg q2] at ho
  have k2 : (e2 != 0) = false := by have : e2 = 0 := Classical.not_not.1 q2; rw [this]; rfl
  by_cases q5 : e0 = 5
  · rw [if_pos q5] at ho
    have k5 : (e0 == 5) = true := by rw [q5]; rfl
    have HO := Lib.hid ho
    clear ho q5
    by_cases f1 : 0 ≤ e1
    · have i1 : decide (0 ≤ e1) = true := decide_eq_true f1
      by_cases f2 : e1 < s.k
      · have i2 : decide (e1 < (s.k : Int)) = true := decide_eq_true f2
        go_enter Tryd.func28, Tryd.ntmps28
        go_wp2_with fail
        go_quiet (fail)
        go_wp2_with (go_at_call 38; refine (repeat_any n g s e1 _ (HA.out.drewN _) hn HW.out).mono ?_; rintro e w9 ⟨rfl, h9, g9⟩; have H9 := Lib.hid h9; have G9 := Lib.hid g9; clear h9 g9)
        go_ret
        exact ⟨by rw [HO.out]; rfl, by rw [HO.out]; exact H9.out, (GA.out _).trans G9.out⟩
      · have i2 : decide (e1 < (s.k : Int)) = false := decide_eq_false f2
        go_enter Tryd.func28, Tryd.ntmps28
        go_wp2_with fail
        go_quiet (fail)
        go_wp2_with (go_at_call 38; refine (repeat_any n g s e1 _ (HA.out.drewN _) hn HW.out).mono ?_; rintro e w9 ⟨rfl, h9, g9⟩; have H9 := Lib.hid h9; have G9 := Lib.hid g9; clear h9 g9)
        go_ret
        exact ⟨by rw [HO.out]; rfl, by rw [HO.out]; exact H9.out, (GA.out _).trans G9.out⟩
    · have i1 : decide (0 ≤ e1) = false := decide_eq_false f1
      go_enter Tryd.func28, Tryd.ntmps28
      go_wp2_with fail
      go_quiet (fail)
      go_wp2_with (go_at_call 38; refine (repeat_any n g s e1 _ (HA.out.drewN _) hn HW.out).mono ?_; rintro e w9 ⟨rfl, h9, g9⟩; have H9 := Lib.hid h9; have G9 := Lib.hid g9; clear h9 g9)
      go_ret
      exact ⟨by rw [HO.out]; rfl, by rw [HO.out]; exact H9.out, (GA.out _).trans G9.out⟩
  rw [if_neg q5] at ho
  have k5 : (e0 == 5) = false := by rw [beq_eq_false_iff_ne]; exact q5
  by_cases f1 : 0 ≤ e1
  · have i1 : decide (0 ≤ e1) = true := decide_eq_true f1
    by_cases f2 : e1 < s.k
    · have i2 : decide (e1 < (s.k : Int)) = true := decide_eq_true f2
      rw [if_neg (fun h => h ⟨f1, f2⟩)] at ho
      obtain ⟨a, rfl⟩ := Int.eq_ofNat_of_zero_le f1
      rw [Int.toNat_natCast] at ho
      have ha : a < s.k := by omega
      have hm := HW.out.msg a ha
      obtain ⟨oo, hoo⟩ := Int.eq_ofNat_of_zero_le hm.2.2.2.2.1
      have hoo4 : oo < 4 := by have := hm.2.2.2.2.2.1; omega
      have hcc := HW.out.cen oo (by have := hm.2.2.2.2.2.1; omega)
      by_cases q3 : e0 = 2
      · rw [if_pos q3] at ho
        have k3 : (e0 == 2) = true := by rw [q3]; rfl
        have HO := Lib.hid (ho.trans (show some (M.handle (M.drop s a) (s.m a)) = some (M.handle (M.drop s a) (M.v4 (s.m a 0) (s.m a 1) (s.m a 2) (s.m a 3))) from rfl))
        rw [hoo] at HO
        have HOO := Lib.hid hoo
        clear ho hoo q1 q2 q3 q5 hm
        go_enter Tryd.func28, Tryd.ntmps28
        go_wp2_with fail
        go_quiet (fail)
        go_wp2_with (first | (go_at_call 40; refine (remove_any n g s a _ (HA.out.drewN _) ha hk6 (fun b hb _ j _ => HOU.out b hb j)).mono ?_; rw [HOO.out]; rintro e w8 ⟨rfl, h8, g8⟩; have H8 := Lib.hid h8; have G8 := Lib.hid g8; clear h8 g8) | (go_at_call 39; refine (handle_any n g oo (M.drop s a) (s.m a 0) (s.m a 1) (s.m a 3) _ H8.out hoo4 (by show s.k - 1 < 6; omega) ⟨hcc.1, hcc.2.1⟩).mono ?_; rintro e w9 ⟨⟨rv, rfl⟩, h9, g9⟩; have H9 := Lib.hid h9; have G9 := Lib.hid g9; clear h9 g9))
        go_ret
        exact stepV_some HO.out H9.out (((GA.out _).trans G8.out).trans G9.out)
      rw [if_neg q3] at ho
      have k3 : (e0 == 2) = false := by rw [beq_eq_false_iff_ne]; exact q3
      by_cases q4 : e0 = 3
      · rw [if_pos q4] at ho
        have k4 : (e0 == 3) = true := by rw [q4]; rfl
        have HO := Lib.hid ho
        clear ho hoo q1 q2 q3 q4 q5 hm
        go_enter Tryd.func28, Tryd.ntmps28
        go_wp2_with fail
        go_quiet (fail)
        go_wp2_with (go_at_call 40; refine (remove_any n g s a _ (HA.out.drewN _) ha hk6 (fun b hb _ j _ => HOU.out b hb j)).mono ?_; rintro e w8 ⟨rfl, h8, g8⟩; have H8 := Lib.hid h8; have G8 := Lib.hid g8; clear h8 g8)
        go_ret
        exact stepV_some HO.out H8.out ((GA.out _).trans G8.out)
      rw [if_neg q4] at ho
      have k4 : (e0 == 3) = false := by rw [beq_eq_false_iff_ne]; exact q4
      by_cases q6 : e0 = 4
      · rw [if_pos q6] at ho
        have k6 : (e0 == 4) = true := by rw [q6]; rfl
        by_cases hr : s.k < 6
        · rw [if_pos hr] at ho
          have HO := Lib.hid ho
          have HRM := Lib.hid (decide_eq_true hr)
          clear ho hoo q1 q2 q3 q4 q5 q6 hm
          go_enter Tryd.func28, Tryd.ntmps28
          go_wp2_with fail
          go_quiet (fail)
          go_upto_region 19 with (go_at_call 41; refine (room_any n g s _ (HA.out.drewN _)).mono ?_; rw [HRM.out]; rintro e w1 ⟨rfl, rfl⟩)
          obtain ⟨X, hX⟩ : ∃ X, X = (w.alloc (.cells #[.int .i64 e0, .int .i64 (a : Int), .int .i64 e2] 38)).drewN nq := ⟨_, rfl⟩
          have SX := Lib.hid (show Sf X g (stF n s) by rw [hX]; exact HA.out.drewN _)
          have BX := (show Blk X w.heap.size 38 #[.int .i64 e0, .int .i64 (a : Int), .int .i64 e2] by rw [hX]; exact Blk.new w _ _)
          have GX := Lib.hid (show w.grownBy X (some g) by rw [hX]; exact GA.out _)
          rw [← hX]
          have y1 := BX.cell 1
          have x1 := idx_msg g a (by omega)
          have x2 := idx_msg g s.k hr
          obtain ⟨m0, m1, m2, m3⟩ := SX.out.msg (a := a) (by omega)
          obtain ⟨n0, n1, n2, n3⟩ := SX.out.msg (a := s.k) hr
          have z0 := SX.out.frz (13 + s.k * 4)
          have z1 := SX.out.frz (13 + s.k * 4 + 1)
          have z2 := SX.out.frz (13 + s.k * 4 + 2)
          have z3 := SX.out.frz (13 + s.k * 4 + 3)
          have zk := SX.out.frz 37
          have cX := SX.out.ck
          have hwX := SX.out.lt
          have hBX := BX.lt
          clear hX BX ck
          go_still_tail 14, (by kernel_rfl)
          change wpList _ _ _ _ _ X.drew
          go_wp2_with fail
          go_ret
          refine stepV_some HO.out ?_ ?_
          · exact ((((((SX.out.set_ (i := 13 + s.k * 4) (by omega) (s.m a 0)).set_ (i := 13 + s.k * 4 + 1) (by omega) (s.m a 1)).set_ (i := 13 + s.k * 4 + 2) (by omega) (s.m a 2)).set_ (i := 13 + s.k * 4 + 3) (by omega) (s.m a 3)).set_ (i := 37) (by omega) (s.k + 1)).congr fun i hi => stF_add n s (s.m a) hr i hi).drew
          · exact GX.out.trans ((((((grown_set X g (13 + s.k * 4) _).trans (grown_set _ g (13 + s.k * 4 + 1) _)).trans (grown_set _ g (13 + s.k * 4 + 2) _)).trans (grown_set _ g (13 + s.k * 4 + 3) _)).trans (grown_set _ g 37 _)).trans (grown_drew _ g))
        · rw [if_neg hr] at ho
          have HO := Lib.hid ho
          have HRM := Lib.hid (decide_eq_false hr)
          clear ho hoo q1 q2 q3 q4 q5 q6 hm
          go_enter Tryd.func28, Tryd.ntmps28
          go_wp2_with fail
          go_quiet (fail)
          go_wp2_with (go_at_call 41; refine (room_any n g s _ (HA.out.drewN _)).mono ?_; rw [HRM.out]; rintro e w1 ⟨rfl, rfl⟩)
          go_ret
          exact stepV_none HO.out (HA.out.drewN _) (GA.out _)
      rw [if_neg q6] at ho
      have k6 : (e0 == 4) = false := by rw [beq_eq_false_iff_ne]; exact q6
      have HO := Lib.hid ho
      clear ho hoo q1 q2 q3 q4 q5 q6 hm
      go_enter Tryd.func28, Tryd.ntmps28
      go_wp2_with fail
      go_quiet (fail)
      go_wp2_with fail
      go_ret
      exact stepV_none HO.out (HA.out.drewN _) (GA.out _)
    · have i2 : decide (e1 < (s.k : Int)) = false := decide_eq_false f2
      rw [if_pos (fun h => by omega)] at ho
      have HO := Lib.hid ho
      clear ho
      go_enter Tryd.func28, Tryd.ntmps28
      go_wp2_with fail
      go_quiet (fail)
      go_wp2_with fail
      go_ret
      exact stepV_none HO.out (HA.out.drewN _) (GA.out _)
  · have i1 : decide (0 ≤ e1) = false := decide_eq_false f1
    rw [if_pos (fun h => by omega)] at ho
    have HO := Lib.hid ho
    clear ho
    go_enter Tryd.func28, Tryd.ntmps28
    go_wp2_with fail
    go_quiet (fail)
    go_wp2_with fail
    go_ret
    exact stepV_none HO.out (HA.out.drewN _) (GA.out _)
end Go.Proofs.YtfnfjmjejffjiaaDoor
