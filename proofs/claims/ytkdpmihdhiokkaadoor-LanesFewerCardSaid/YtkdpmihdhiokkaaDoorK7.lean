/- lanes.open: the rows of neighbours. -/
import Derived.Test.YtkdpmihdhiokkaaDoorK6
import Derived.Test.YtkdpmihdhiokkaaDoorLaB
namespace Go.Proofs.YtkdpmihdhiokkaaDoor
open Go.RowKit

theorem ints_info : (Tryd.prog.info? 22).map (fun i => (i.zero, i.size, i.bytes)) = some (some (.slice none 0 0), 1, 24) := by kernel_rfl
/-- the traffic, with k rows of neighbours -/
def TrK (w : World) (base x k : Nat) (s : M.Sea) (dA tA sA lA : Option Addr) (dc tc sc ln lc : Nat) : Prop :=
  ∃ nA nc, ∃ V : Nat → Value, Blk w x 107 #[.int .i64 (s.W : Int), .int .i64 (s.H : Int), .slice dA s.nd dc, .slice tA s.nt tc, .slice sA s.nt sc, .slice lA ln lc, .slice nA k nc] ∧ base ≤ x ∧
    Own w base 22 1 (.slice nA k nc) k (fun i _ => V i) ∧ ∀ i, i < k → Own w base 3 1 (V i) (M.nearL s.W s.H i).length (lst (M.nearL s.W s.H i))
section
variable {w w' : World} {base x k : Nat} {s : M.Sea} {dA tA sA lA : Option Addr} {dc tc sc ln lc : Nat}
theorem TrK.below (h : TrK w base x k s dA tA sA lA dc tc sc ln lc) (hb : Below w.heap.size w w') : TrK w' base x k s dA tA sA lA dc tc sc ln lc := by
  obtain ⟨nA, nc, V, h1, h2, h3, h4⟩ := h
  exact ⟨nA, nc, V, h1.below' hb, h2, h3.below hb, fun i hi => (h4 i hi).below hb⟩
theorem TrK.less {base' : Nat} (h : TrK w base x k s dA tA sA lA dc tc sc ln lc) (hb : base' ≤ base) : TrK w base' x k s dA tA sA lA dc tc sc ln lc := by
  obtain ⟨nA, nc, V, h1, h2, h3, h4⟩ := h
  exact ⟨nA, nc, V, h1, by omega, h3.less hb, fun i hi => (h4 i hi).less hb⟩
end
section
variable (s : M.Sea) (dA tA sA lA : Option Addr) (dc tc sc ln lc B : Nat) (w : World)
set_option maxRecDepth 100000 in
set_option maxHeartbeats 6400000 in
theorem lopen_gen (okL : Bool) (hs : s.Ok) (hw : Ways w) (hR : RdC w B dA tA sA s.nd s.nt s.nt s.dep s.tide s.sw) (hB : B ≤ w.heap.size) (hln : ln ≤ 1048576)
    (hall : ∀ W x, TrK W w.heap.size x s.nd s dA tA sA lA dc tc sc ln lc → Below w.heap.size w W → Calls Tryd.prog 73 #[.slice lA ln lc, .func (.func 74) #[.pointer (some ⟨x, 0, none⟩)] #[]] W fun e w' => e = .returned (.bool okL) ∧ Below W.heap.size W w') :
    Calls Tryd.prog 40 #[.agg #[.int .i64 (s.W : Int), .int .i64 (s.H : Int), .slice dA s.nd dc, .slice tA s.nt tc, .slice sA s.nt sc], .slice lA ln lc] w fun e w' =>
      (if (decide (ln ≤ 12) && okL) = true then ∃ x, e = .returned (.tuple #[.pointer (some ⟨x, 0, none⟩), .int .i64 0]) ∧ TrK w' w.heap.size x s.nd s dA tA sA lA dc tc sc ln lc else e = .returned (.tuple #[.pointer none, .int .i64 60])) ∧ Below w.heap.size w w' := by
  have hnd := hs.nd1
  obtain ⟨G, hG⟩ : ∃ G : Ending → World → Prop, G = fun e w' => (if (decide (ln ≤ 12) && okL) = true then ∃ x, e = .returned (.tuple #[.pointer (some ⟨x, 0, none⟩), .int .i64 0]) ∧ TrK w' w.heap.size x s.nd s dA tA sA lA dc tc sc ln lc else e = .returned (.tuple #[.pointer none, .int .i64 60])) := ⟨_, rfl⟩
  have HG := Lib.hid hG
  have hGG : (fun e w' => (if (decide (ln ≤ 12) && okL) = true then ∃ x, e = .returned (.tuple #[.pointer (some ⟨x, 0, none⟩), .int .i64 0]) ∧ TrK w' w.heap.size x s.nd s dA tA sA lA dc tc sc ln lc else e = .returned (.tuple #[.pointer none, .int .i64 60])) ∧ Below w.heap.size w w') = (fun e w' => G e w' ∧ Below w.heap.size w w') := by rw [hG]
  rw [hGG]
  clear hGG hG
  have HALL := Lib.hid hall
  have HCK := Lib.hid (fun W (hb : Below w.heap.size w W) => cchk_any (s.W : Int) (s.H : Int) dA tA sA s.nd dc s.nt tc s.nt sc B s.dep s.tide s.sw W (by unfold maxLen; omega) (by have := hs.t2; unfold maxLen; omega) (by have := hs.t2; unfold maxLen; omega) (hR.below (hb.mono hB)) (Nat.le_trans hB hb.size))
  rw [hs.chk, if_pos rfl] at HCK
  have HNX := Lib.hid (fun W c d (hb : Below w.heap.size w W) (hc : c < s.nd) (hd : d < 6) => cnext_ok s dA tA sA dc tc sc B W c d hs (⟨hw.1.below (hb.mono hw.2), Nat.lt_of_lt_of_le hw.2 hb.size⟩) hc hd (hR.below (hb.mono hB)) (Nat.le_trans hB hb.size))
  obtain ⟨i0, hi, hz0, hz1, hz2⟩ := info_parts int_info
  have MI := Lib.hid (And.intro hi (And.intro hz0 (And.intro hz1 hz2)))
  obtain ⟨j0, ji, jz0, jz1, jz2⟩ := info_parts ints_info
  have MJ := Lib.hid (And.intro ji (And.intro jz0 (And.intro jz1 jz2)))
  have HB0 := Lib.hid (belowAlloc w (.cells #[.int .i64 (s.W : Int), .int .i64 (s.H : Int), .slice dA s.nd dc, .slice tA s.nt tc, .slice sA s.nt sc] 25))
  have C0 := Lib.hid (Blk.new w 25 #[.int .i64 (s.W : Int), .int .i64 (s.H : Int), .slice dA s.nd dc, .slice tA s.nt tc, .slice sA s.nt sc])
  clear hi hz0 hz1 hz2 ji jz0 jz1 jz2 hs hw hR hall
  go_enter Tryd.func40, Tryd.ntmps40
  go_upto_region 2 with (go_at_call 70; go_must (refine (HCK.out _ HB0.out).mono ?_); rintro e w1 ⟨rfl, hb1⟩; have HB1 := Lib.hid (HB0.out.trans (hb1.mono HB0.out.size)); have C1 := Lib.hid (C0.out.below' hb1); clear hb1)
  have c0 := C1.out.cell 0
  have c1 := C1.out.cell 1
  have c2 := C1.out.cell 2
  have c3 := C1.out.cell 3
  have c4 := C1.out.cell 4
  have hx : w.heap.size < w1.heap.size := C1.out.lt
  go_wp2_with fail
  have HB2 := Lib.hid (HB1.out.alloc HB1.out.size (.cells #[.int .i64 (s.W : Int), .int .i64 (s.H : Int), .slice dA s.nd dc, .slice tA s.nt tc, .slice sA s.nt sc, .slice lA ln lc, .slice none 0 0] 107))
  have C2 := Lib.hid (C1.out.alloc (.cells #[.int .i64 (s.W : Int), .int .i64 (s.H : Int), .slice dA s.nd dc, .slice tA s.nt tc, .slice sA s.nt sc, .slice lA ln lc, .slice none 0 0] 107))
  have T2 := Lib.hid (show TrK (w1.alloc (.cells #[.int .i64 (s.W : Int), .int .i64 (s.H : Int), .slice dA s.nd dc, .slice tA s.nt tc, .slice sA s.nt sc, .slice lA ln lc, .slice none 0 0] 107)) w.heap.size w1.heap.size 0 s dA tA sA lA dc tc sc ln lc from ⟨none, 0, fun _ => .int .i64 0, Blk.new w1 _ _, HB1.out.size, Own.nil_, fun i hi => absurd hi (by omega)⟩)
  obtain ⟨x, hx0⟩ : ∃ x, x = w1.heap.size := ⟨_, rfl⟩
  rw [← hx0] at T2 hx
  generalize w1.alloc (.cells #[.int .i64 (s.W : Int), .int .i64 (s.H : Int), .slice dA s.nd dc, .slice tA s.nt tc, .slice sA s.nt sc, .slice lA ln lc, .slice none 0 0] 107) = Y at HB2 C2 T2 ⊢
  rw [← hx0]
  clear hx0 c0 c1 c2 c3 c4 C1 C0 HB1 HB0
  go_loopw [25] (fun i wr => ∃ k : Nat, k ≤ s.nd ∧ i = .int .i64 k ∧ TrK wr w.heap.size x k s dA tA sA lA dc tc sc ln lc ∧ Blk wr w.heap.size 25 #[.int .i64 (s.W : Int), .int .i64 (s.H : Int), .slice dA s.nd dc, .slice tA s.nt tc, .slice sA s.nt sc] ∧ Below w.heap.size w wr) (fun i _ => s.nd - (intOf i).toNat)
  case atStart => exact ⟨0, Nat.zero_le _, rfl, T2.out, C2.out, HB2.out⟩
  case round =>
    obtain ⟨k, hk, rfl, ht, hc, hbw⟩ := hrel
    have HT := Lib.hid ht
    have HC := Lib.hid hc
    have HW := Lib.hid hbw
    have hz := hbw.size
    clear ht hc hbw
    obtain ⟨wo, rfl⟩ : ∃ wo, wo = wr := ⟨_, rfl⟩
    by_cases hlt : k < s.nd
    · have HB3 := Lib.hid (belowAlloc wo (.cells #[.int .i64 (k : Int)] 3))
      have O3 := Lib.hid (own_one (Blk.new wo 3 #[.int .i64 (k : Int)]) (lst (M.rawL s.W s.H k 0)) rfl)
      go_upto_region 9 with fail
      generalize hY : wo.alloc (.cells #[.int .i64 (k : Int)] 3) = Y at HB3 O3 ⊢
      clear hY
      go_wp2_with fail
      go_loopw [30, 9] (fun d v wq => ∃ m : Nat, m ≤ 6 ∧ d = .int .i64 m ∧ Own wq wo.heap.size 3 1 v (M.rawL s.W s.H k m).length (lst (M.rawL s.W s.H k m)) ∧ Below wo.heap.size wo wq) (fun d _ _ => 6 - (intOf d).toNat)
      case atStart => exact ⟨0, Nat.zero_le _, rfl, O3.out, HB3.out⟩
      case round =>
        obtain ⟨m, hm, rfl, o4, hb4⟩ := hrel
        obtain ⟨vA, vc, rfl⟩ := o4.form
        have O4 := Lib.hid o4
        have HB4 := Lib.hid hb4
        have hz4 := hb4.size
        have hlen := M.rawL_len s.W s.H k m
        have HC4 := Lib.hid (HC.out.below' hb4)
        clear o4 hb4
        by_cases hm6 : m < 6
        · have HN := Lib.hid (HNX.out wr k m (HW.out.trans (HB4.out.mono hz)) hlt hm6)
          have c0 := HC4.out.cell 0
          have c1 := HC4.out.cell 1
          have c2 := HC4.out.cell 2
          have c3 := HC4.out.cell 3
          have c4 := HC4.out.cell 4
          have HRS := Lib.hid (show M.rawL s.W s.H k (m + 1) = if M.nbIs s.W s.H k m then M.rawL s.W s.H k m ++ [((M.nbN s.W k m : Nat) : Int)] else M.rawL s.W s.H k m from rfl)
          have HNV := Lib.hid (show M.nbV s.W s.H k m = if M.nbIs s.W s.H k m then ((M.nbN s.W k m : Nat) : Int) else 0 from rfl)
          obtain ⟨nv, hnv⟩ : ∃ nv, nv = M.nbV s.W s.H k m := ⟨_, rfl⟩
          rw [← hnv] at HN HNV
          clear hnv
          cases hni : M.nbIs s.W s.H k m
          · rw [hni] at HN HRS
            clear hni
            go_wp2_with (go_at_call 71; go_must (refine HN.out.mono ?_); rintro e w5 ⟨⟨q, rfl, hq⟩, hb5⟩; have HB5 := Lib.hid hb5; clear hb5)
            go_roundw
            case rel => exact ⟨m + 1, by omega, by go_num, by rw [HRS.out]; exact O4.out.below HB5.out, HB4.out.trans (HB5.out.mono hz4)⟩
            case measure => simp [intOf]; omega
          · rw [hni] at HN HRS HNV
            clear hni
            go_wp2_with (first
              | (go_at_call 71; go_must (refine HN.out.mono ?_); rintro e w5 ⟨⟨q, rfl, hq⟩, hb5⟩; have HB5 := Lib.hid (HB4.out.trans (hb5.mono hz4)); have O5 := Lib.hid (O4.out.below hb5); clear hb5)
              | (at_builtin; refine wpList_app rfl (.tmp 42) (.tmp 44) 22 rfl wo.heap.size 3 1 8 Tryd.underlying22 MI.out.1 MI.out.2.1 MI.out.2.2.1 MI.out.2.2.2 rfl (by decide) (by decide) (O5.out.alloc _) rfl (by omega) (by have h := HB5.out.size; simp; omega) w5.heap.size 1 (fun _ => .int .i64 nv) rfl (cell_last rfl) (fun _ _ => rfl) ?_; intro v6 w6 o6 hg6 hat6; obtain ⟨A6, z6, rfl⟩ := o6.form; have HO6 := Lib.hid o6; have HG6 := Lib.hid hg6; clear o6 hg6 hat6))
            go_roundw
            case rel =>
              refine ⟨m + 1, by omega, by go_num, ?_, (HB5.out.alloc HB5.out.size _).grown HG6.out (by have h := HB5.out.size; simp; omega) (fun q hq => (O5.out.block hq).1)⟩
              have h1 := HNV.out
              rw [HRS.out]
              simp only [if_true, List.length_append] at h1 ⊢
              rw [← h1]
              exact HO6.out.congr (lst_app _ _)
            case measure => simp [intOf]; omega
        · obtain rfl : m = 6 := by omega
          have HS := Lib.hid (sort_own (M.rawL s.W s.H k 6) wo.heap.size _ wr O4.out (by omega) (by omega))
          have HLN := Lib.hid (show M.nearL s.W s.H k = (M.rawL s.W s.H k 6).mergeSort M.leI from rfl)
          have HLL := Lib.hid (show (M.nearL s.W s.H k).length = (M.rawL s.W s.H k 6).length from List.length_mergeSort _)
          obtain ⟨nA, nc, V, t1, t2, t3, t4⟩ := HT.out
          have HT1 := Lib.hid t1
          have HT3 := Lib.hid t3
          have HT4 := Lib.hid t4
          have hxo : x < wo.heap.size := t1.lt
          clear t1 t3 t4
          go_upto_region 17 with (go_at_call 72; go_must (refine HS.out.mono ?_); rintro e w5 ⟨rfl, o5, g5⟩; have O5 := Lib.hid o5; have HB5 := Lib.hid (Below.grown HB4.out g5 hz4 (fun q hq => (O4.out.block hq).1)); clear o5 g5)
          have hz5 := HB5.out.size
          have N5 := Lib.hid (HT3.out.below HB5.out)
          have X5 := Lib.hid (HT1.out.below' HB5.out)
          have x6 := X5.out.cell 6
          have hx5 := X5.out.lt
          go_wp2_with (at_builtin; go_must (refine wpList_app rfl (.tmp 53) (.tmp 55) 105 rfl w.heap.size 22 1 24 Tryd.underlying105 MJ.out.1 MJ.out.2.1 MJ.out.2.2.1 MJ.out.2.2.2 rfl (by decide) (by decide) (N5.out.alloc _) rfl (by omega) (by simp; omega) w5.heap.size 1 (fun _ => .slice vA (M.rawL s.W s.H k 6).length vc) rfl (cell_last rfl) (fun _ _ => rfl) ?_); intro v6 w6 o6 hg6 hat6; obtain ⟨A6, z6, rfl⟩ := o6.form; have HO6 := Lib.hid o6; have HG6 := Lib.hid hg6; have X6 := Lib.hid (Blk.grown_own (X5.out.alloc (.cells #[.slice vA (M.rawL s.W s.H k 6).length vc] 22)) (N5.out.alloc _) (by decide) hg6); have y6 := X6.out.cell 6; have f6 := X6.out.frz 6; clear o6 hg6 hat6)
          go_roundw
          case rel =>
            have hw5 : w.heap.size ≤ w5.heap.size := Nat.le_trans hz hz5
            have NX := Lib.hid (N5.out.alloc (.cells #[.slice vA (M.rawL s.W s.H k 6).length vc] 22))
            have hap : ∀ {b n : Nat} {v : Value} {F : Nat → Nat → Value}, Own w5 b 3 1 v n F → Own (w6.setCell ⟨x, 6, none⟩ (.slice A6 (k + 1) z6)) b 3 1 v n F := by
              intro b n v F h
              have h1 := h.alloc (.cells #[.slice vA (M.rawL s.W s.H k 6).length vc] 22)
              have h2 := Own.apart_grown h1 (Own.apart_type NX.out h1 (by decide)) HG6.out
              exact h2.setCell (p := ⟨x, 6, none⟩) (h2.ne_blk X6.out (by decide)) _
            refine ⟨k + 1, by omega, by go_num, ⟨A6, z6, fun i => if i = k then .slice vA (M.rawL s.W s.H k 6).length vc else V i, X6.out.set_ 6 _, t2, ?_, ?_⟩, ?_, ?_⟩
            · refine (HO6.out.setCell (p := ⟨x, 6, none⟩) (HO6.out.ne_blk X6.out (by decide)) _).congr fun i j hi _ => ?_
              unfold upd
              by_cases e : i = k
              · subst e; simp
              · simp [e]
            · intro i hi
              by_cases e : i = k
              · subst e
                simp only [if_true]
                rw [HLL.out]
                have h1 := hap O5.out
                rw [← HLN.out] at h1
                exact h1.less hz
              · simp only [e, if_false]
                exact hap ((HT4.out i (by omega)).below HB5.out)
            · have h1 := Blk.grown_own ((HC.out.below' HB5.out).alloc (.cells #[.slice vA (M.rawL s.W s.H k 6).length vc] 22)) NX.out (by decide) HG6.out
              exact h1.far (p := ⟨x, 6, none⟩) (by show w.heap.size ≠ x; omega) _
            · exact ((((HW.out.trans (HB5.out.mono hz)).alloc hw5 _).grown HG6.out (by simp; omega) (fun q hq => (N5.out.block hq).1)).setCell (p := ⟨x, 6, none⟩) t2 _)
          case measure => simp [intOf]; omega
    · obtain rfl : k = s.nd := by omega
      by_cases hl : ln ≤ 12
      · have g1 : decide (12 < ln) = false := decide_eq_false (by omega)
        have g2 : decide ((12 : Int) < (ln : Int)) = false := decide_eq_false (by omega)
        have HA := Lib.hid (HALL.out wo x HT.out HW.out)
        cases okL
        · go_wp2_with (go_at_call 73; go_must (refine HA.out.mono ?_); rintro e w5 ⟨rfl, hb5⟩; have HB5 := Lib.hid hb5; clear hb5)
          go_ret2
          refine ⟨?_, HW.out.trans (HB5.out.mono hz)⟩
          rw [HG.out]
          simp
        · go_wp2_with (go_at_call 73; go_must (refine HA.out.mono ?_); rintro e w5 ⟨rfl, hb5⟩; have HB5 := Lib.hid hb5; clear hb5)
          go_ret2
          refine ⟨?_, HW.out.trans (HB5.out.mono hz)⟩
          rw [HG.out]
          simp only [hl, decide_true, Bool.and_self, if_true]
          exact ⟨x, rfl, HT.out.below HB5.out⟩
      · have g1 : decide (12 < ln) = true := decide_eq_true (by omega)
        have g2 : decide ((12 : Int) < (ln : Int)) = true := decide_eq_true (by omega)
        go_wp2_with fail
        go_ret2
        refine ⟨?_, HW.out⟩
        rw [HG.out]
        simp [hl]
end
end Go.Proofs.YtkdpmihdhiokkaaDoor
