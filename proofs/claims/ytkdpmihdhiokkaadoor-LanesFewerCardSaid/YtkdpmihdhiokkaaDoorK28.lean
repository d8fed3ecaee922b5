/- Trips in memory; are all of them valid; a copy of legs. -/
import Derived.Test.YtkdpmihdhiokkaaDoorK27
import Derived.Test.YtkdpmihdhiokkaaDoorLaI
namespace Go.Proofs.YtkdpmihdhiokkaaDoor
open Go.RowKit

/-- a trip's cells -/
def tripRow (r : M.Trip) : Nat → Value := fun j => if j = 0 then .int .i64 r.at_ else if j = 1 then .int .i64 r.lv else if j = 2 then .int .i64 r.dr else if j = 3 then .bool r.tail else if j = 4 then .int .i64 r.from_ else .int .i64 r.to_
def RdT (w : World) (B : Nat) (A : Option Addr) (n : Nat) (R : Nat → M.Trip) : Prop := RdV w B A 6 n (fun i => tripRow (R i))
section
variable {w w' : World} {B n : Nat} {A : Option Addr} {R : Nat → M.Trip}
theorem RdT.below (h : RdT w B A n R) (hb : Below B w w') : RdT w' B A n R := RdV.below h hb
theorem RdT.more {B' : Nat} (h : RdT w B A n R) (hB : B ≤ B') : RdT w B' A n R := RdV.more h hB
theorem RdT.at_ (h : RdT w B A n R) {i : Nat} (hi : i < n) : ∃ b off, A = some ⟨b, off, none⟩ ∧ b < B ∧ w.cell? ⟨b, off + i * 6, none⟩ = some (.int .i64 (R i).at_) ∧ w.cell? ⟨b, off + i * 6 + 1, none⟩ = some (.int .i64 (R i).lv) ∧ w.cell? ⟨b, off + i * 6 + 2, none⟩ = some (.int .i64 (R i).dr) ∧
    w.cell? ⟨b, off + i * 6 + 3, none⟩ = some (.bool (R i).tail) ∧ w.cell? ⟨b, off + i * 6 + 4, none⟩ = some (.int .i64 (R i).from_) ∧ w.cell? ⟨b, off + i * 6 + 5, none⟩ = some (.int .i64 (R i).to_) := by
  obtain ⟨b, off, hA, hb, hc⟩ := h.resolve_left (by omega)
  exact ⟨b, off, hA, hb, hc i 0 hi (by omega), hc i 1 hi (by omega), hc i 2 hi (by omega), hc i 3 hi (by omega), hc i 4 hi (by omega), hc i 5 hi (by omega)⟩
end
section
variable (s : M.Sea) (dA tA sA lA' gA : Option Addr) (dc tc sc ln' lc' gn gc B base x : Nat) (R : Nat → M.Trip) (w : World)
set_option maxRecDepth 100000 in
set_option maxHeartbeats 3200000 in
theorem alltrips_any (hs : s.Ok) (ht : TrK w base x s.nd s dA tA sA lA' dc tc sc ln' lc') (hB : B ≤ w.heap.size) (hT : RdT w B gA gn R) (hgn : gn ≤ 1048576) :
    Calls Tryd.prog 57 #[.slice gA gn gc, .func (.func 58) #[.pointer (some ⟨x, 0, none⟩)] #[]] w fun e w' => e = .returned (.bool (M.allTo gn fun i => M.tripOk s (R i))) ∧ Below w.heap.size w w' := by
  have HV := Lib.hid (fun W (hb : Below w.heap.size w W) (r : M.Trip) => trip_any s dA tA sA lA' dc tc sc ln' lc' base x W r.at_ r.lv r.dr r.from_ r.to_ r.tail hs (ht.below hb))
  have HL := Lib.hid hT
  clear ht hT hs
  go_enter Tryd.func57, Tryd.ntmps57
  go_wp2_with fail
  go_loopw [9] (fun i wr => ∃ k : Nat, k ≤ gn ∧ i = .int .i64 k ∧ M.allTo k (fun i => M.tripOk s (R i)) = true ∧ Below w.heap.size w wr) (fun i _ => gn - (intOf i).toNat)
  case atStart => exact ⟨0, Nat.zero_le _, rfl, rfl, Below.refl _ _⟩
  case round =>
    obtain ⟨k, hk, rfl, hf, hbw⟩ := hrel
    have HF := Lib.hid hf
    have HW := Lib.hid hbw
    have hz := hbw.size
    clear hf hbw
    by_cases hlt : k < gn
    · obtain ⟨b, off, rfl, hb, c0, c1, c2, c3, c4, c5⟩ := (HL.out.below (HW.out.mono hB)).at_ hlt
      have HNX := Lib.hid (show M.allTo (k + 1) (fun i => M.tripOk s (R i)) = (M.allTo k (fun i => M.tripOk s (R i)) && M.tripOk s (R k)) from rfl)
      have HFF := Lib.hid (fun h : M.tripOk s (R k) = false => (show M.allTo gn (fun i => M.tripOk s (R i)) = false from by
        cases ha : M.allTo gn (fun i => M.tripOk s (R i))
        · rfl
        · have := M.allTo_iff.1 ha k hlt; rw [h] at this; cases this))
      have HV2 := Lib.hid (fun W (hb : Below wr.heap.size wr W) => HV.out W (HW.out.trans (hb.mono hz)) (R k))
      have kx : decide (gn ≤ k) = false := decide_eq_false (by omega)
      have hOK : M.tripOk s ⟨(R k).at_, (R k).lv, (R k).dr, (R k).tail, (R k).from_, (R k).to_⟩ = M.tripOk s (R k) := rfl
      rw [hOK] at HV2
      obtain ⟨ok, hok⟩ : ∃ ok, ok = M.tripOk s (R k) := ⟨_, rfl⟩
      rw [← hok] at HV2 HNX HFF
      generalize R k = r at *
      clear hok hOK
      cases ok
      · go_wp2_with (go_at_call 58; go_must (refine (HV2.out _ (belowAlloc wr _)).mono ?_); rintro e w5 ⟨rfl, hb5⟩; have HB5 := Lib.hid ((belowAlloc wr (.cells #[.int .i64 r.at_, .int .i64 r.lv, .int .i64 r.dr, .bool r.tail, .int .i64 r.from_, .int .i64 r.to_] 28)).trans (hb5.mono (by simp))); clear hb5)
        go_ret
        exact ⟨ret_bool (HFF.out (by first | rfl | trivial)).symm, HW.out.trans (HB5.out.mono hz)⟩
      · go_wp2_with (go_at_call 58; go_must (refine (HV2.out _ (belowAlloc wr _)).mono ?_); rintro e w5 ⟨rfl, hb5⟩; have HB5 := Lib.hid ((belowAlloc wr (.cells #[.int .i64 r.at_, .int .i64 r.lv, .int .i64 r.dr, .bool r.tail, .int .i64 r.from_, .int .i64 r.to_] 28)).trans (hb5.mono (by simp))); clear hb5)
        go_roundw
        case rel => exact ⟨k + 1, by omega, by go_num, by rw [HNX.out, HF.out]; rfl, HW.out.trans (HB5.out.mono hz)⟩
        case measure => simp [intOf]; omega
    · obtain rfl : k = gn := by omega
      go_wp2_with fail
      go_ret
      exact ⟨ret_bool HF.out.symm, HW.out⟩
end
theorem legRow_one (l : M.Leg) (u : Value) (hu : u.oneCell' = true) (j : Nat) : (legRow l u j).oneCell' = true := by
  unfold legRow
  (repeat' split) <;> first | rfl | exact hu
/-- legs in memory as rows of cells -/
theorem RdL.v {w : World} {B n : Nat} {A : Option Addr} {L : Nat → M.Leg} (h : RdL w B A n L) (base : Nat) : ∃ V : Nat → Value, RdV w B A 5 n (legV L V) ∧ (∀ i, i < n → LegCells w B base (V i) (L i)) ∧ ∀ i, (V i).oneCell' = true := by
  rcases h with h | ⟨b, off, rfl, hb, hc⟩
  · exact ⟨fun _ => .int .i64 0, .inl h, fun i hi => absurd hi (by omega), fun _ => rfl⟩
  · have hex : ∀ i, ∃ u : Value, u.oneCell' = true ∧ (i < n → w.cell? ⟨b, off + i * 5 + 4, none⟩ = some u ∧ LegCells w B base u (L i)) := fun i => by
      by_cases hi : i < n
      · obtain ⟨_, _, _, _, cA, cc, h4, h5, h6⟩ := hc i hi
        exact ⟨.slice cA (L i).n cc, rfl, fun _ => ⟨h4, h6, .inl ⟨cA, cc, rfl, h5⟩⟩⟩
      · exact ⟨.int .i64 0, rfl, fun h => absurd h hi⟩
    refine ⟨fun i => Classical.choose (hex i), .inr ⟨b, off, rfl, hb, fun i j hi hj => ?_⟩, fun i hi => ((Classical.choose_spec (hex i)).2 hi).2, fun i => (Classical.choose_spec (hex i)).1⟩
    obtain ⟨h0, h1, h2, h3, _⟩ := hc i hi
    have h4 := ((Classical.choose_spec (hex i)).2 hi).1
    have hj5 : j = 0 ∨ j = 1 ∨ j = 2 ∨ j = 3 ∨ j = 4 := by omega
    unfold legV legRow
    rcases hj5 with rfl | rfl | rfl | rfl | rfl
    · exact h0
    · exact h1
    · exact h2
    · exact h3
    · exact h4
theorem legs_nil (W : World) (a : Option Addr) (l c : Nat) : (binOp .eql 26 (.slice a l c) (.slice none 0 0)).run Tryd.prog W = .ok (.bool a.isNone) W := Lib.run_eql_slice_nil W _ _ a l c 0 0 Tryd.underlying26
section
variable (lA : Option Addr) (ln lc B : Nat) (L : Nat → M.Leg) (w : World)
set_option maxRecDepth 100000 in
set_option maxHeartbeats 3200000 in
theorem clonelegs_any (hL : RdL w B lA ln L) (hB : B ≤ w.heap.size) (hln : ln ≤ 1048576) (hz : lA = none → ln = 0) :
    Calls Tryd.prog 59 #[.slice lA ln lc] w fun e w' => (∃ v, e = .returned v ∧ OwnL w' B w.heap.size v ln L) ∧ Below w.heap.size w w' := by
  obtain ⟨V, hv, hc, h1⟩ := hL.v w.heap.size
  have HV := Lib.hid hv
  have HC := Lib.hid hc
  have H1 := Lib.hid h1
  obtain ⟨j0, ji, jz0, jz1, jz2⟩ := info_parts leg_info
  have MJ := Lib.hid (And.intro ji (And.intro jz0 (And.intro jz1 jz2)))
  have hn2 := legs_nil
  clear ji jz0 jz1 jz2 hv hc h1 hL
  cases lA with
  | none =>
    obtain rfl := hz rfl
    clear hz
    go_enter Tryd.func59, Tryd.ntmps59
    go_wp2_with fail
    go_ret
    exact ⟨⟨_, rfl, OwnL.nil_⟩, Below.refl _ _⟩
  | some a =>
    clear hz
    go_enter Tryd.func59, Tryd.ntmps59
    go_wp2_with (at_builtin; go_must (refine wpList_copy rfl (.tmp 5) (.tmp 6) 26 rfl 41 j0 _ 5 56 Tryd.underlying26 MJ.out.1 MJ.out.2.1 MJ.out.2.2.1 MJ.out.2.2.2 rfl (by decide) (by decide) (g := w.heap.size) rfl (Blk.new w 41 #[]) (fun i j => legRow_one (L i) (V i) (H1.out i) j) rfl (HV.out.below ((belowAlloc w _).mono hB)) hln ?_); intro A7 c7 w7 o7 hb7; have HO7 := Lib.hid o7; have HB7 := Lib.hid ((belowAlloc w (.cells #[] 41)).trans (hb7.mono (by simp))); clear o7 hb7)
    go_ret
    exact ⟨⟨_, rfl, ⟨V, HO7.out, fun i hi => (HC.out i hi).below HB7.out hB⟩⟩, HB7.out⟩
end
end Go.Proofs.YtkdpmihdhiokkaaDoor
