/- The law's own lasts: for how many months, with a flow. -/
import Derived.Test.YtaljmlkapbojeaaVMath
import Derived.Test.YtaljmlkapbojeaaY4
namespace Go.Proofs.Ytaljmlkapbojeaa
open Go.RowKit

def LastR (r le : Int) (n fn : Nat) (m f : Nat → Nat → Int) (once mo : Int) : Value :=
  if fn = n ∧ M.spansOk n m f = true then .tuple #[.int .i64 (M.fLast r le n f once mo : Nat), .bool true] else .tuple #[.int .i64 0, .bool false]

theorem lastR_bad {r le : Int} {n : Nat} {m f : Nat → Nat → Int} {once mo : Int} (h : M.spansOk n m f = false) : LastR r le n n m f once mo = .tuple #[.int .i64 0, .bool false] := by
  unfold LastR
  rw [if_neg (fun h2 => by rw [h] at h2; exact absurd h2.2 (by decide))]
theorem spans_bad {n k : Nat} {m f : Nat → Nat → Int} (hk : k < n) (h : M.inSpan m f k = false) : M.spansOk n m f = false := by
  refine Bool.eq_false_iff.2 fun h2 => ?_
  rw [M.allTo_iff.1 h2 k hk] at h
  cases h
theorem inSpan_false {m f : Nat → Nat → Int} {i : Nat} (h : f i 0 < m i 0 ∨ m i 1 < f i 0 ∨ f i 1 < m i 2 ∨ m i 3 < f i 1) : M.inSpan m f i = false := by
  refine Bool.eq_false_iff.2 fun h2 => ?_
  have := M.inSpan_iff.1 h2
  omega

set_option maxRecDepth 100000 in
set_option maxHeartbeats 6400000 in
theorem lastsL_ne (r le once mo : Int) (A fA : Option Addr) (n c fn fc : Nat) (w : World) (hne : fn ≠ n) :
    Calls Try.prog 20 #[.agg #[.int .i64 r, .int .i64 le, .slice A n c], .slice fA fn fc, .int .i64 once, .int .i64 mo] w fun e w' => e = .returned (.tuple #[.int .i64 0, .bool false]) ∧ Below w.heap.size w w' := by
  go_enter Try.func20, Try.ntmps20
  go_wp2_with fail
  go_ret2
  exact ⟨rfl, belowAlloc _ _⟩

set_option maxRecDepth 100000 in
set_option maxHeartbeats 6400000 in
theorem lastsL_eq (r le once mo : Int) (A fA : Option Addr) (n c fc B : Nat) (m f : Nat → Nat → Int) (w : World) (hR : Rd w B A 4 n m) (hF : Rd w B fA 2 n f) (hB : B ≤ w.heap.size) (hok : M.okY r le n m = true)
    (h0 : 0 ≤ once) (h1 : once ≤ 100000000) (h2 : 0 ≤ mo) (h3 : mo ≤ 100000000) :
    Calls Try.prog 20 #[.agg #[.int .i64 r, .int .i64 le, .slice A n c], .slice fA n fc, .int .i64 once, .int .i64 mo] w fun e w' => e = .returned (LastR r le n n m f once mo) ∧ Below w.heap.size w w' := by
  have ok := M.okY_iff.1 hok
  have hn := ok.2.2.2.2.1
  have HM := Lib.hid ok.2.2.2.2.2
  have r0 := ok.1
  have r1 := ok.2.1
  have r2 := ok.2.2.1
  have r3 := ok.2.2.2.1
  clear ok hok
  go_enter Try.func20, Try.ntmps20
  go_wp2_with fail
  go_loopw [10, 11, 12] (fun s q i wr => ∃ k : Nat, k ≤ n ∧ i = .int .i64 k ∧ M.spansOk k m f = true ∧ s = .int .i64 (r + once + M.sumTo k (M.dfl f mo)) ∧ q = .int .i64 (M.lastTo (M.over (r + once - le) (M.dfl f mo)) k : Nat) ∧
    Blk wr w.heap.size 43 #[.int .i64 r, .int .i64 le, .slice A n c] ∧ Below w.heap.size w wr) (fun _ _ i _ => n - (intOf i).toNat)
  case atStart => exact ⟨0, Nat.zero_le _, rfl, rfl, by simp [M.sumTo], rfl, Blk.new _ _ _, belowAlloc _ _⟩
  case round =>
    obtain ⟨k, hk', rfl, hsp, rfl, rfl, k1, hW⟩ := hrel
    have HSP := Lib.hid hsp
    clear hsp
    have q0 := k1.cell 0
    have q1 := k1.cell 1
    have q2 := k1.cell 2
    have K1 := Lib.hid k1
    have hks := k1.lt
    have HW := Lib.hid hW
    have hsz := hW.size
    by_cases hlt : k < n
    · obtain ⟨b, off, rfl, hb', c0, c1, c2, c3⟩ := (hR.below (hW.mono hB)).at4 hlt
      obtain ⟨fb, fo, rfl, hfb, d0, d1⟩ := (hF.below (hW.mono hB)).at2 hlt
      have hbs : b < wr.heap.size := by omega
      have hfs : fb < wr.heap.size := by omega
      have hmk := HM.out k hlt
      clear k1 hW hR hF
      by_cases g0 : f k 0 < m k 0
      · have e0 := decide_eq_true g0
        have HG := Lib.hid g0
        clear g0
        go_wp2_with fail
        go_quiet (fail)
        go_wp2_with fail
        go_ret2
        exact ⟨by rw [lastR_bad (spans_bad hlt (inSpan_false (.inl HG.out)))]; rfl, ((HW.out.alloc (by omega) _).drewN _)⟩
      by_cases g1 : m k 1 < f k 0
      · have e0 := decide_eq_false g0
        have e1 := decide_eq_true g1
        have HG := Lib.hid g1
        clear g0 g1
        go_wp2_with fail
        go_quiet (fail)
        go_wp2_with fail
        go_ret2
        exact ⟨by rw [lastR_bad (spans_bad hlt (inSpan_false (.inr (.inl HG.out))))]; rfl, ((HW.out.alloc (by omega) _).drewN _)⟩
      by_cases g2 : f k 1 < m k 2
      · have e0 := decide_eq_false g0
        have e1 := decide_eq_false g1
        have e2 := decide_eq_true g2
        have HG := Lib.hid g2
        clear g0 g1 g2
        go_wp2_with fail
        go_quiet (fail)
        go_wp2_with fail
        go_ret2
        exact ⟨by rw [lastR_bad (spans_bad hlt (inSpan_false (.inr (.inr (.inl HG.out)))))]; rfl, ((HW.out.alloc (by omega) _).drewN _)⟩
      by_cases g3 : m k 3 < f k 1
      · have e0 := decide_eq_false g0
        have e1 := decide_eq_false g1
        have e2 := decide_eq_false g2
        have e3 := decide_eq_true g3
        have HG := Lib.hid g3
        clear g0 g1 g2 g3
        go_wp2_with fail
        go_quiet (fail)
        go_wp2_with fail
        go_ret2
        exact ⟨by rw [lastR_bad (spans_bad hlt (inSpan_false (.inr (.inr (.inr HG.out)))))]; rfl, ((HW.out.alloc (by omega) _).drewN _)⟩
      have e0 := decide_eq_false g0
      have e1 := decide_eq_false g1
      have e2 := decide_eq_false g2
      have e3 := decide_eq_false g3
      have hsp1 : M.spansOk (k + 1) m f = true := by
        unfold M.spansOk
        simp only [M.allTo, Bool.and_eq_true]
        exact ⟨HSP.out, M.inSpan_iff.2 ⟨by omega, by omega, by omega, by omega⟩⟩
      have HSP1 := Lib.hid hsp1
      have hbd := M.sumTo_bd2 (n := k) (f := M.dfl f mo) (c := 101000000) fun i hi => by
        have h4 := HM.out i (by omega)
        have h5 := M.inSpan_iff.1 (M.allTo_iff.1 HSP.out i hi)
        unfold M.dfl; omega
      have hd : M.sumTo (k + 1) (M.dfl f mo) = M.sumTo k (M.dfl f mo) + (f k 0 - f k 1 + mo) := rfl
      have hov : (0 ≤ M.over (r + once - le) (M.dfl f mo) k) ↔ le ≤ r + once + M.sumTo k (M.dfl f mo) + (f k 0 - f k 1 + mo) := by unfold M.over; rw [hd]; omega
      obtain ⟨sk, hsk⟩ : ∃ sk, sk = M.sumTo k (M.dfl f mo) := ⟨_, rfl⟩
      rw [← hsk] at hbd hov hd ⊢
      have hll := M.lastTo_le (M.over (r + once - le) (M.dfl f mo)) k
      have hls : M.lastTo (M.over (r + once - le) (M.dfl f mo)) (k + 1) = if M.lastTo (M.over (r + once - le) (M.dfl f mo)) k = k ∧ 0 ≤ M.over (r + once - le) (M.dfl f mo) k then k + 1 else M.lastTo (M.over (r + once - le) (M.dfl f mo)) k := rfl
      obtain ⟨ll, hlk⟩ : ∃ ll, ll = M.lastTo (M.over (r + once - le) (M.dfl f mo)) k := ⟨_, rfl⟩
      rw [← hlk] at hll hls ⊢
      have b1 : -6060000000 ≤ sk ∧ sk ≤ 6060000000 := by omega
      have w1 : IntKind.i64.wrap (f k 0 - f k 1) = f k 0 - f k 1 := IntWalk.i64_in _ (by omega)
      have w2 : IntKind.i64.wrap (f k 0 - f k 1 + mo) = f k 0 - f k 1 + mo := IntWalk.i64_in _ (by omega)
      have w3 : IntKind.i64.wrap (r + once + sk + (f k 0 - f k 1 + mo)) = r + once + sk + (f k 0 - f k 1 + mo) := IntWalk.i64_in _ (by omega)
      have HD := Lib.hid hd
      have HOV := Lib.hid hov
      have HLS := Lib.hid hls
      clear hsk hlk hsp1 hbd hov hd hls g0 g1 g2 g3
      by_cases g4 : le ≤ r + once + sk + (f k 0 - f k 1 + mo)
      · have e4 := decide_eq_true g4
        by_cases g5 : ll = k
        · have hlx : M.lastTo (M.over (r + once - le) (M.dfl f mo)) (k + 1) = if ll = k ∧ 0 ≤ M.over (r + once - le) (M.dfl f mo) k then k + 1 else ll := HLS.out
          rw [if_pos ⟨g5, HOV.out.2 g4⟩] at hlx
          have HLX := Lib.hid hlx
          clear hlx
          obtain rfl : k = ll := g5.symm
          go_wp2_with fail
          go_quiet (fail)
          go_wp2_with fail
          go_quiet (fail)
          go_wp2_with fail
          go_roundw
          case rel => exact ⟨k + 1, by omega, by go_num, HSP1.out, by rw [HD.out]; go_num, by rw [HLX.out] <;> go_num, K1.out.below ((belowAlloc _ _).drewN _) K1.out.lt, (HW.out.alloc (by omega) _).drewN _⟩
          case measure => simp [intOf]; omega
        · have hlx : M.lastTo (M.over (r + once - le) (M.dfl f mo)) (k + 1) = if ll = k ∧ 0 ≤ M.over (r + once - le) (M.dfl f mo) k then k + 1 else ll := HLS.out
          rw [if_neg (show ¬ (ll = k ∧ 0 ≤ M.over (r + once - le) (M.dfl f mo) k) from fun h => g5 h.1)] at hlx
          have HLX := Lib.hid hlx
          clear hlx
          go_wp2_with fail
          go_quiet (fail)
          go_wp2_with fail
          go_quiet (fail)
          go_wp2_with fail
          go_roundw
          case rel => exact ⟨k + 1, by omega, by go_num, HSP1.out, by rw [HD.out]; go_num, by rw [HLX.out] <;> go_num, K1.out.below ((belowAlloc _ _).drewN _) K1.out.lt, (HW.out.alloc (by omega) _).drewN _⟩
          case measure => simp [intOf]; omega
      · have e4 := decide_eq_false g4
        have hlx : M.lastTo (M.over (r + once - le) (M.dfl f mo)) (k + 1) = if ll = k ∧ 0 ≤ M.over (r + once - le) (M.dfl f mo) k then k + 1 else ll := HLS.out
        rw [if_neg (show ¬ (ll = k ∧ 0 ≤ M.over (r + once - le) (M.dfl f mo) k) from fun h => g4 (HOV.out.1 h.2))] at hlx
        have HLX := Lib.hid hlx
        clear hlx
        go_wp2_with fail
        go_quiet (fail)
        go_wp2_with fail
        go_quiet (fail)
        go_wp2_with fail
        go_roundw
        case rel => exact ⟨k + 1, by omega, by go_num, HSP1.out, by rw [HD.out]; go_num, by rw [HLX.out] <;> go_num, K1.out.below ((belowAlloc _ _).drewN _) K1.out.lt, (HW.out.alloc (by omega) _).drewN _⟩
        case measure => simp [intOf]; omega
    · obtain rfl : k = n := by omega
      clear k1 hW hR hF
      go_wp2_with fail
      go_ret2
      exact ⟨by unfold LastR; rw [if_pos ⟨rfl, HSP.out⟩]; rfl, HW.out⟩
end Go.Proofs.Ytaljmlkapbojeaa
