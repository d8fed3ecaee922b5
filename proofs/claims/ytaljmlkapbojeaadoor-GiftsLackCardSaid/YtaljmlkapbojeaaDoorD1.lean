/- TrailingZeros, elements, members. -/
import Derived.Test.YtaljmlkapbojeaaDoorEMath
import Derived.Test.YtaljmlkapbojeaaDoorOwn
import Derived.Test.YtaljmlkapbojeaaDoorG7
import Derived.Shelf.Spec.TrailingZeros
namespace Go.Proofs.YtaljmlkapbojeaaDoor
open Go.RowKit

theorem i64_and_nat (a b : Nat) (ha : a < 9223372036854775808) (hb : b < 9223372036854775808) : bits .and .i64 (a : Int) (b : Int) = ((a &&& b : Nat) : Int) := by
  have hx : a &&& b < 2 ^ 63 := Nat.and_lt_two_pow _ (by omega)
  show IntKind.i64.wrap ((BitVec.ofInt 64 (a : Int) &&& BitVec.ofInt 64 (b : Int)).toNat : Int) = _
  rw [BitVec.toNat_and, ofInt_i64 a ha, ofInt_i64 b hb, IntKind.wrap_i64]
  omega
theorem TabAt.below {g B : Nat} {tab : List Nat} {w w' : World} (h : TabAt g tab w) (hb : Below B w w') (hg : g < B) : TabAt g tab w' := fun j hj => (hb.cell (p := ⟨g, j, none⟩) hg).trans (h j hj)

set_option maxHeartbeats 1000000 in
theorem tz64_any (x : Nat) (hx : x < 18446744073709551616) (hx0 : x ≠ 0) (w : World) (hT : TabAt 1 Lib.deBruijn64tab w) :
    Calls Tryd.prog 57 #[.int .u64 (x : Int)] w fun e w' => e = .returned (.int .i64 (Lib.ctz 64 x : Nat)) ∧ w = w' := by
  obtain ⟨hlow, hk⟩ := Lib.lowest_bit 64 x hx0 hx
  obtain ⟨hi, htab⟩ := Lib.deBruijn64_at _ hk
  have hcell := hT _ hi
  rw [htab] at hcell
  have key := tz64_key x _ hx hx0 hlow
  obtain ⟨k, hkk⟩ : ∃ k, k = Lib.ctz 64 x := ⟨_, rfl⟩
  rw [← hkk] at hcell key hk hi ⊢
  obtain ⟨idx, hidx⟩ : ∃ idx, idx = 2 ^ k * 285870213051353865 % 18446744073709551616 / 288230376151711744 := ⟨_, rfl⟩
  rw [← hidx] at hcell key hi
  have hz : ((x : Int) == 0) = false := by simp; omega
  clear hT htab hlow hidx hkk
  go_enter Tryd.func57, Tryd.ntmps57
  go_wp2_with (simp only [key])
  go_ret
  exact ⟨rfl, rfl⟩
set_option maxHeartbeats 1000000 in
theorem tz_any (x : Nat) (hx : x < 18446744073709551616) (hx0 : x ≠ 0) (w : World) (hT : TabAt 1 Lib.deBruijn64tab w) :
    Calls Tryd.prog 47 #[.int .u64 (x : Int)] w fun e w' => e = .returned (.int .i64 (Lib.ctz 64 x : Nat)) ∧ w = w' := by
  go_enter Tryd.func47, Tryd.ntmps47
  go_wp2_with (go_at_call 57; refine (tz64_any x hx hx0 _ hT).mono ?_; rintro e w1 ⟨rfl, rfl⟩)
  go_ret
  exact ⟨rfl, rfl⟩

abbrev nats (l : List Nat) : Nat → Int := fun i => (l.getD i 0 : Nat)
theorem app_nats {l : List Nat} {n : Nat} (i j : Nat) (hi : i < l.length + 1) : upd (ints (nats l)) l.length (fun _ => .int .i64 (n : Int)) i j = ints (nats (l ++ [n])) i j := by
  unfold upd
  split
  · subst_vars
    simp [ints, nats]
  · have h2 : i < l.length := by omega
    simp [ints, nats, List.getElem?_append_left h2]

set_option maxRecDepth 100000 in
set_option maxHeartbeats 2000000 in
theorem elements_any (n s : Nat) (hs : s < 2 ^ n) (hn : n ≤ 16) (w : World) (hT : TabAt 1 Lib.deBruijn64tab w) (hG : 1 < w.heap.size) :
    Calls Tryd.prog 32 #[.int .i64 (s : Int)] w fun e w' => (∃ v, e = .returned v ∧ Own w' w.heap.size 3 1 v (M.elL n s).length (ints (nats (M.elL n s)))) ∧ Below w.heap.size w w' := by
  obtain ⟨i0, hi, hz0, hz1, hz2⟩ := info_parts int_info
  have MI := Lib.hid (And.intro hi (And.intro hz0 (And.intro hz1 hz2)))
  clear hi hz0 hz1 hz2
  have h16 : 2 ^ n ≤ 65536 := by have := Nat.pow_le_pow_right (n := 2) (by omega) hn; simpa using this
  have HT := Lib.hid hT
  clear hT
  go_enter Tryd.func32, Tryd.ntmps32
  go_wp2_with fail
  go_loopw [0, 2] (fun c v wr => ∃ (q : Nat) (l : List Nat), q < 2 ^ n ∧ c = .int .i64 (q : Int) ∧ l ++ M.elL n q = M.elL n s ∧ Own wr w.heap.size 3 1 v l.length (ints (nats l)) ∧ Below w.heap.size w wr) (fun c _ _ => (intOf c).toNat)
  case atStart => exact ⟨s, [], hs, rfl, rfl, Own.nil_, Below.refl _ _⟩
  case round =>
    obtain ⟨q, l, hq, rfl, hl, ho, hbw⟩ := hrel
    obtain ⟨vA, vc, rfl⟩ := ho.form
    have HL := Lib.hid hl
    have HO := Lib.hid ho
    have HB := Lib.hid hbw
    have hz := hbw.size
    have hll : l.length ≤ n := by
      have h1 := congrArg List.length hl
      have h2 := M.elL_len n s
      rw [List.length_append] at h1
      omega
    by_cases h0 : q = 0
    · subst h0
      have hl0 : l = M.elL n s := by rw [← hl, M.elL_zero, List.append_nil]
      have HL0 := Lib.hid hl0
      clear hl ho hbw hl0
      go_wp2_with fail
      go_ret
      exact ⟨⟨_, rfl, by rw [← HL0.out]; exact HO.out⟩, HB.out⟩
    · obtain ⟨hk, he, hlt⟩ := M.elL_next hq h0 (by omega)
      have HE := Lib.hid he
      have hqz : ((q : Int) == 0) = false := by simp; omega
      have u1 : IntKind.u64.wrap (q : Int) = q := by rw [IntKind.wrap_u64]; omega
      have hand : bits .and .i64 (q : Int) ((q : Int) - 1) = ((q &&& (q - 1) : Nat) : Int) := by
        rw [show (q : Int) - 1 = ((q - 1 : Nat) : Int) by omega]
        exact i64_and_nat q (q - 1) (by omega) (by omega)
      obtain ⟨z, hz'⟩ : ∃ z, z = Lib.ctz 64 q := ⟨_, rfl⟩
      obtain ⟨r, hr⟩ : ∃ r, r = q &&& (q - 1) := ⟨_, rfl⟩
      rw [← hr] at hand hlt HE
      rw [← hz'] at hk HE
      have HZ := Lib.hid hz'
      clear hl ho hbw he hr hz'
      go_wp2_with (first | (go_at_call 47; go_must (refine (tz_any q (by omega) h0 _ (TabAt.below (g := 1) (tab := Lib.deBruijn64tab) (w := w) HT.out HB.out hG)).mono ?_); rw [← HZ.out]; rintro e w1 ⟨rfl, rfl⟩) | (at_builtin; refine wpList_app rfl (.tmp 9) (.tmp 13) 33 rfl w.heap.size 3 1 8 Tryd.underlying33 MI.out.1 MI.out.2.1 MI.out.2.2.1 MI.out.2.2.2 rfl (by decide) (by decide) (HO.out.alloc _) rfl (by omega) (by simp; omega) wr.heap.size 1 (fun _ => .int .i64 (z : Int)) rfl (cell_last rfl) (fun _ _ => rfl) ?_; intro v2 w2 o2 hg2 hat2; obtain ⟨A2, z2, rfl⟩ := o2.form; have HO2 := Lib.hid o2; have HG2 := Lib.hid hg2; clear o2 hg2 hat2))
      go_roundw
      case rel =>
        refine ⟨r, l ++ [z], by omega, rfl, by rw [List.append_assoc, List.singleton_append, ← HE.out]; exact HL.out, ?_, ((HB.out.alloc hz _).grown HG2.out (by simp; omega) (fun g hg => (HO.out.block hg).1))⟩
        rw [List.length_append]
        exact HO2.out.congr fun i j hi _ => app_nats i j hi
      case measure => simp [intOf]; omega

set_option maxRecDepth 100000 in
set_option maxHeartbeats 2000000 in
theorem members_any (n s : Nat) (hs : s < 2 ^ n) (hn : n ≤ 16) (w : World) :
    Calls Tryd.prog 34 #[.int .i64 (s : Int), .int .i64 (n : Int)] w fun e w' => (∃ v, e = .returned v ∧ Own w' w.heap.size 3 1 v (M.elL n s).length (ints (nats (M.elL n s)))) ∧ Below w.heap.size w w' := by
  obtain ⟨i0, hi, hz0, hz1, hz2⟩ := info_parts int_info
  have MI := Lib.hid (And.intro hi (And.intro hz0 (And.intro hz1 hz2)))
  clear hi hz0 hz1 hz2
  have hbt := toNat_i64_and_one
  go_enter Tryd.func34, Tryd.ntmps34
  go_wp2_with fail
  go_loopw [5, 6] (fun v i wr => ∃ k : Nat, k ≤ n ∧ i = .int .i64 (k : Int) ∧ Own wr w.heap.size 3 1 v (M.elL k s).length (ints (nats (M.elL k s))) ∧ Below w.heap.size w wr) (fun _ i _ => n - (intOf i).toNat)
  case atStart => exact ⟨0, Nat.zero_le _, rfl, Own.nil_, Below.refl _ _⟩
  case round =>
    obtain ⟨k, hk, rfl, ho, hbw⟩ := hrel
    obtain ⟨vA, vc, rfl⟩ := ho.form
    have HO := Lib.hid ho
    have HB := Lib.hid hbw
    have hz := hbw.size
    have hlk := M.elL_len k s
    by_cases hlt : k < n
    · have he := M.elL_succ k s
      have hb := M.bt_nat s k
      have u1 : IntKind.u64.wrap (k : Int) = k := by rw [IntKind.wrap_u64]; omega
      have u2 : min k 64 = k := by omega
      clear ho hbw
      cases hc : s.testBit k
      · rw [hc] at he hb
        have HE := Lib.hid he
        unfold M.bt at hb
        clear he hc
        go_wp2_with fail
        go_roundw
        case rel => exact ⟨k + 1, by omega, by go_num, by rw [HE.out]; simpa using HO.out, HB.out⟩
        case measure => simp [intOf]; omega
      · rw [hc] at he hb
        have HE := Lib.hid he
        unfold M.bt at hb
        clear he hc
        go_wp2_with (at_builtin; refine wpList_app rfl (.tmp 18) (.tmp 20) 33 rfl w.heap.size 3 1 8 Tryd.underlying33 MI.out.1 MI.out.2.1 MI.out.2.2.1 MI.out.2.2.2 rfl (by decide) (by decide) (HO.out.alloc _) rfl (by omega) (by simp; omega) wr.heap.size 1 (fun _ => .int .i64 (k : Int)) rfl (cell_last rfl) (fun _ _ => rfl) ?_; intro v2 w2 o2 hg2 hat2; obtain ⟨A2, z2, rfl⟩ := o2.form; have HO2 := Lib.hid o2; have HG2 := Lib.hid hg2; clear o2 hg2 hat2)
        go_roundw
        case rel =>
          refine ⟨k + 1, by omega, by go_num, ?_, ((HB.out.alloc hz _).grown HG2.out (by simp; omega) (fun g hg => (HO.out.block hg).1))⟩
          rw [HE.out, if_pos rfl, List.length_append]
          exact HO2.out.congr fun i j hi _ => app_nats i j hi
        case measure => simp [intOf]; omega
    · obtain rfl : k = n := by omega
      clear ho hbw
      go_wp2_with fail
      go_ret
      exact ⟨⟨_, rfl, HO.out⟩, HB.out⟩
end Go.Proofs.YtaljmlkapbojeaaDoor
