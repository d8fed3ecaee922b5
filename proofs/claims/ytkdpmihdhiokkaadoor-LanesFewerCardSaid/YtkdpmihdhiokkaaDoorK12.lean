/- Legs in memory; are all of them valid; lanes.open whole. -/
import Derived.Test.YtkdpmihdhiokkaaDoorK11
namespace Go.Proofs.YtkdpmihdhiokkaaDoor
open Go.RowKit

/-- n legs below block B -/
def RdL (w : World) (B : Nat) (A : Option Addr) (n : Nat) (L : Nat → M.Leg) : Prop :=
  n = 0 ∨ ∃ b off, A = some ⟨b, off, none⟩ ∧ b < B ∧ ∀ i, i < n → w.cell? ⟨b, off + i * 5, none⟩ = some (.int .i64 (L i).at_) ∧ w.cell? ⟨b, off + i * 5 + 1, none⟩ = some (.int .i64 (L i).lv) ∧ w.cell? ⟨b, off + i * 5 + 2, none⟩ = some (.int .i64 (L i).dr) ∧
    w.cell? ⟨b, off + i * 5 + 3, none⟩ = some (.bool (L i).tail) ∧ ∃ cA cc, w.cell? ⟨b, off + i * 5 + 4, none⟩ = some (.slice cA (L i).n cc) ∧ Rd1 w B cA (L i).n (L i).c ∧ (L i).n ≤ maxLen
theorem RdL.below {w w' : World} {B n : Nat} {A : Option Addr} {L : Nat → M.Leg} (h : RdL w B A n L) (hb : Below B w w') : RdL w' B A n L := by
  rcases h with h | ⟨b, off, hA, hb', hc⟩
  · exact .inl h
  · refine .inr ⟨b, off, hA, hb', fun i hi => ?_⟩
    obtain ⟨h0, h1, h2, h3, cA, cc, h4, h5, h6⟩ := hc i hi
    exact ⟨(hb.cell (p := ⟨b, _, none⟩) hb').trans h0, (hb.cell (p := ⟨b, _, none⟩) hb').trans h1, (hb.cell (p := ⟨b, _, none⟩) hb').trans h2, (hb.cell (p := ⟨b, _, none⟩) hb').trans h3, cA, cc, (hb.cell (p := ⟨b, _, none⟩) hb').trans h4, h5.below hb, h6⟩
theorem RdL.more {w : World} {B B' n : Nat} {A : Option Addr} {L : Nat → M.Leg} (h : RdL w B A n L) (hB : B ≤ B') : RdL w B' A n L := by
  rcases h with h | ⟨b, off, hA, hb', hc⟩
  · exact .inl h
  · refine .inr ⟨b, off, hA, by omega, fun i hi => ?_⟩
    obtain ⟨h0, h1, h2, h3, cA, cc, h4, h5, h6⟩ := hc i hi
    exact ⟨h0, h1, h2, h3, cA, cc, h4, h5.more hB, h6⟩
theorem RdL.at_ {w : World} {B n : Nat} {A : Option Addr} {L : Nat → M.Leg} (h : RdL w B A n L) {i : Nat} (hi : i < n) : ∃ b off, A = some ⟨b, off, none⟩ ∧ b < B ∧ w.cell? ⟨b, off + i * 5, none⟩ = some (.int .i64 (L i).at_) ∧ w.cell? ⟨b, off + i * 5 + 1, none⟩ = some (.int .i64 (L i).lv) ∧ w.cell? ⟨b, off + i * 5 + 2, none⟩ = some (.int .i64 (L i).dr) ∧
    w.cell? ⟨b, off + i * 5 + 3, none⟩ = some (.bool (L i).tail) ∧ ∃ cA cc, w.cell? ⟨b, off + i * 5 + 4, none⟩ = some (.slice cA (L i).n cc) ∧ Rd1 w B cA (L i).n (L i).c ∧ (L i).n ≤ maxLen := by
  obtain ⟨b, off, hA, hb', hc⟩ := h.resolve_left (by omega)
  exact ⟨b, off, hA, hb', hc i hi⟩
section
variable (s : M.Sea) (dA tA sA lA lA' : Option Addr) (dc tc sc ln lc ln' lc' B base x : Nat) (L : Nat → M.Leg) (w : World)
set_option maxRecDepth 100000 in
set_option maxHeartbeats 3200000 in
theorem alllegs_any (hs : s.Ok) (ht : TrK w base x s.nd s dA tA sA lA' dc tc sc ln' lc') (hR : RdC w B dA tA sA s.nd s.nt s.nt s.dep s.tide s.sw) (hB : B ≤ w.heap.size) (hL : RdL w B lA ln L) (hln : ln ≤ 1048576) :
    Calls Tryd.prog 73 #[.slice lA ln lc, .func (.func 74) #[.pointer (some ⟨x, 0, none⟩)] #[]] w fun e w' => e = .returned (.bool (M.allTo ln fun i => M.legOk s (L i))) ∧ Below w.heap.size w w' := by
  have HV := Lib.hid (fun W (hb : Below w.heap.size w W) (l : M.Leg) cA cc (h1 : Rd1 W B cA l.n l.c) (h2 : l.n ≤ maxLen) => valid_any s dA tA sA lA' dc tc sc ln' lc' B base x W l.at_ l.lv l.dr l.tail l.n l.c cA cc hs (ht.below hb) (hR.below (hb.mono hB)) (Nat.le_trans hB hb.size) h1 h2)
  have HL := Lib.hid hL
  clear ht hR hL hs
  go_enter Tryd.func73, Tryd.ntmps73
  go_wp2_with fail
  go_loopw [9] (fun i wr => ∃ k : Nat, k ≤ ln ∧ i = .int .i64 k ∧ M.allTo k (fun i => M.legOk s (L i)) = true ∧ Below w.heap.size w wr) (fun i _ => ln - (intOf i).toNat)
  case atStart => exact ⟨0, Nat.zero_le _, rfl, rfl, Below.refl _ _⟩
  case round =>
    obtain ⟨k, hk, rfl, hf, hbw⟩ := hrel
    have HF := Lib.hid hf
    have HW := Lib.hid hbw
    have hz := hbw.size
    clear hf hbw
    by_cases hlt : k < ln
    · obtain ⟨b, off, rfl, hb, c0, c1, c2, c3, cA, cc, c4, hr, hm⟩ := (HL.out.below (HW.out.mono hB)).at_ hlt
      have HNX := Lib.hid (show M.allTo (k + 1) (fun i => M.legOk s (L i)) = (M.allTo k (fun i => M.legOk s (L i)) && M.legOk s (L k)) from rfl)
      have HFF := Lib.hid (fun h : M.legOk s (L k) = false => (show M.allTo ln (fun i => M.legOk s (L i)) = false from by
        cases ha : M.allTo ln (fun i => M.legOk s (L i))
        · rfl
        · have := M.allTo_iff.1 ha k hlt; rw [h] at this; cases this))
      have HV2 := Lib.hid (fun W (hb : Below wr.heap.size wr W) => HV.out W (HW.out.trans (hb.mono hz)) (L k) cA cc (hr.below (hb.mono (Nat.le_trans hB hz))) hm)
      have kx : decide (ln ≤ k) = false := decide_eq_false (by omega)
      have hOK : M.legOk s ⟨(L k).at_, (L k).lv, (L k).dr, (L k).tail, (L k).n, (L k).c⟩ = M.legOk s (L k) := rfl
      rw [hOK] at HV2
      obtain ⟨ok, hok⟩ : ∃ ok, ok = M.legOk s (L k) := ⟨_, rfl⟩
      rw [← hok] at HV2 HNX HFF
      generalize L k = l at *
      clear hok hOK hr hm
      cases ok
      · go_wp2_with (go_at_call 74; go_must (refine (HV2.out _ (belowAlloc wr _)).mono ?_); rintro e w5 ⟨rfl, hb5⟩; have HB5 := Lib.hid ((belowAlloc wr (.cells #[.int .i64 l.at_, .int .i64 l.lv, .int .i64 l.dr, .bool l.tail, .slice cA l.n cc] 41)).trans (hb5.mono (by simp))); clear hb5)
        go_ret
        exact ⟨ret_bool (HFF.out (by first | rfl | trivial)).symm, HW.out.trans (HB5.out.mono hz)⟩
      · go_wp2_with (go_at_call 74; go_must (refine (HV2.out _ (belowAlloc wr _)).mono ?_); rintro e w5 ⟨rfl, hb5⟩; have HB5 := Lib.hid ((belowAlloc wr (.cells #[.int .i64 l.at_, .int .i64 l.lv, .int .i64 l.dr, .bool l.tail, .slice cA l.n cc] 41)).trans (hb5.mono (by simp))); clear hb5)
        go_roundw
        case rel => exact ⟨k + 1, by omega, by go_num, by rw [HNX.out, HF.out]; rfl, HW.out.trans (HB5.out.mono hz)⟩
        case measure => simp [intOf]; omega
    · obtain rfl : k = ln := by omega
      go_wp2_with fail
      go_ret
      exact ⟨ret_bool HF.out.symm, HW.out⟩
end
/-- the legs of a chart are valid -/
def M.legsOk (s : M.Sea) (n : Nat) (L : Nat → M.Leg) : Bool := decide (n ≤ 12) && M.allTo n fun i => M.legOk s (L i)
section
variable (s : M.Sea) (dA tA sA lA : Option Addr) (dc tc sc ln lc B : Nat) (L : Nat → M.Leg) (w : World)
theorem lopen_any (hs : s.Ok) (hw : Ways w) (hR : RdC w B dA tA sA s.nd s.nt s.nt s.dep s.tide s.sw) (hB : B ≤ w.heap.size) (hL : RdL w B lA ln L) (hln : ln ≤ 1048576) :
    Calls Tryd.prog 40 #[.agg #[.int .i64 (s.W : Int), .int .i64 (s.H : Int), .slice dA s.nd dc, .slice tA s.nt tc, .slice sA s.nt sc], .slice lA ln lc] w fun e w' =>
      (if M.legsOk s ln L = true then ∃ x, e = .returned (.tuple #[.pointer (some ⟨x, 0, none⟩), .int .i64 0]) ∧ TrK w' w.heap.size x s.nd s dA tA sA lA dc tc sc ln lc else e = .returned (.tuple #[.pointer none, .int .i64 60])) ∧ Below w.heap.size w w' :=
  lopen_gen s dA tA sA lA dc tc sc ln lc B w (M.allTo ln fun i => M.legOk s (L i)) hs hw hR hB hln fun W x ht hb =>
    alllegs_any s dA tA sA lA lA dc tc sc ln lc ln lc B w.heap.size x L W hs ht (hR.below (hb.mono hB)) (Nat.le_trans hB hb.size) (hL.below (hb.mono hB)) hln
end
end Go.Proofs.YtkdpmihdhiokkaaDoor
