/- The reference: Settle. -/
import Derived.Test.YtfnfjmjejffjiaaDoorG2
namespace Go.Proofs.YtfnfjmjejffjiaaDoor
open Go.RowKit

section
variable {n o en ec B D : Nat} {A : Option Addr} {E : Nat → Nat → Int} {w : World}
set_option maxRecDepth 100000 in
set_option maxHeartbeats 6400000 in
theorem rSettle_ok (hn : 2 ≤ n ∧ n ≤ 4) (ho : o < n) (hen : en ≤ 200) (hR : Rd w B A 3 en E) (hB : B ≤ w.heap.size) (hD : M.Can n (M.runF n o E en) D) (hD6 : D ≤ 6) (hl : ∀ m, m < D → ¬ M.Can n (M.runF n o E en) m) :
    Calls Tryd.prog 7 #[.int .i64 (n : Int), .int .i64 (o : Int), .slice A en ec] w fun e w' => Below w.heap.size w w' ∧ ∃ (l : List (Int × Nat)) (u : Value), l.length = D ∧ e = .returned (.tuple #[u, .int .i64 0]) ∧ Own w' w.heap.size 38 3 u l.length (ints2 (evF l)) := by
  have HRU := Lib.hid (rRun_ok n o A en ec B E w hn ho hen hR hB)
  have hof : (0 : Int) ≤ o ∧ (o : Int) < n := by omega
  have hwf := M.Wf.run (n := n) (first := (o : Int)) hof E en
  obtain ⟨s, hs⟩ : ∃ s, s = M.runF n o E en := ⟨_, rfl⟩
  obtain ⟨h1, h2⟩ := M.reach_least hD hl
  rw [← hs] at h1 h2 hwf
  have H1 := Lib.hid h1
  have H2 := Lib.hid h2
  have HRE := Lib.hid (fun (V : World) (m : Nat) (hm : m ≤ D) (base : Nat) (v : Value) (hv : CallV n s base v V) (hb : base ≤ V.heap.size) => reach_any hn m (by omega) s v base V hv hb hwf)
  have HSE := Lib.hid hs
  clear h1 h2 hwf hD hl hR hB hs
  go_enter Tryd.func7, Tryd.ntmps7
  go_wp2_with fail
  refine HRU.out.mono ?_
  rintro e w1 ⟨⟨v, bv, rfl, hc, -⟩, hb⟩
  rw [← HSE.out] at hc
  obtain ⟨C, c, C', c', rfl, o1, o2⟩ := hc
  have HC := Lib.hid (CallV.below (show CallV n s w.heap.size (.agg #[.slice C n c, .slice C' s.k c']) w1 from ⟨_, _, _, _, rfl, o1, o2⟩) (belowAlloc w1 (.cells #[.slice C n c, .slice C' s.k c'] 31)))
  have D0 := Lib.hid (Blk.new w1 31 #[.slice C n c, .slice C' s.k c'])
  have HB1 := Lib.hid (hb.alloc hb.size (.cells #[.slice C n c, .slice C' s.k c'] 31))
  have hz1 := hb.size
  clear o1 o2 HRU hb
  go_wp2_with fail
  generalize w1.alloc (.cells #[.slice C n c, .slice C' s.k c'] 31) = X at HC D0 HB1 ⊢
  generalize w1.heap.size = g8 at D0 ⊢
  clear hz1 w1
  go_loopw [11] (fun i wr => ∃ m : Nat, m ≤ D ∧ i = .int .i64 (m : Int) ∧ Hid (Below w.heap.size w wr ∧ Blk wr g8 31 #[.slice C n c, .slice C' s.k c'] ∧ CallV n s w.heap.size (.agg #[.slice C n c, .slice C' s.k c']) wr)) (fun i _ => D - (intOf i).toNat)
  case atStart => exact ⟨0, Nat.zero_le _, rfl, Lib.hid ⟨HB1.out, D0.out, HC.out⟩⟩
  case round =>
    obtain ⟨m, hm, rfl, HS⟩ := hrel
    clear HC D0 HB1
    have d0 := HS.out.2.1.cell 0
    have d1 := HS.out.2.1.cell 1
    have HRX := Lib.hid (HRE.out wr m hm w.heap.size _ HS.out.2.2 HS.out.1.size)
    go_wp2_with fail
    refine HRX.out.mono ?_
    rintro e w2 ⟨hb, ⟨hl, rfl⟩ | ⟨l, hl, hlm, u, rfl, ou⟩⟩
    · have hlt : m < D := by
        by_cases e : m = D
        · obtain ⟨l, h3, _⟩ := H2.out
          rw [← e, hl] at h3; cases h3
        · omega
      clear d0 d1 hl
      go_wp2_with fail
      go_roundw
      case rel => exact ⟨m + 1, by omega, by go_num, Lib.hid ⟨HS.out.1.trans (hb.mono HS.out.1.size), HS.out.2.1.below' hb, CallV.below HS.out.2.2 hb⟩⟩
      case measure => simp [intOf]; omega
    · obtain rfl : m = D := by
        by_cases e : m < D
        · rw [H1.out m e] at hl; cases hl
        · omega
      clear d0 d1
      go_wp2_with fail
      go_ret2
      exact ⟨HS.out.1.trans (hb.mono HS.out.1.size), l, u, hlm, rfl, Own.less ou HS.out.1.size⟩
end
section
variable {n o : Int} {A : Option Addr} {en ec : Nat} {w : World}
set_option maxRecDepth 100000 in
set_option maxHeartbeats 3200000 in
theorem rSettle_bad (h : chkE n o en ≠ 0) :
    Calls Tryd.prog 7 #[.int .i64 n, .int .i64 o, .slice A en ec] w fun e w' => e = .returned (.tuple #[.slice none 0 0, .int .i64 (chkE n o en)]) ∧ Below w.heap.size w w' := by
  have HRU := Lib.hid (rRun_bad n o A en ec w h)
  obtain ⟨r, hr⟩ : ∃ r, r = chkE n o en := ⟨_, rfl⟩
  unfold BadV at HRU
  rw [← hr] at h HRU ⊢
  have hr3 : (r != 0) = true := by simpa using h
  clear hr
  go_enter Tryd.func7, Tryd.ntmps7
  go_wp2_with fail
  refine HRU.out.mono ?_
  rintro e w1 ⟨rfl, hb⟩
  have HB1 := Lib.hid (hb.alloc hb.size (.cells #[.slice none 0 0, .slice none 0 0] 31))
  clear hb
  go_wp2_with fail
  go_ret2
  exact ⟨rfl, HB1.out⟩
end
end Go.Proofs.YtfnfjmjejffjiaaDoor
