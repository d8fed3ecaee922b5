/- The reference: IsLeg. -/
import Derived.Test.YtkdpmihdhiokkaaDoorR6
import Derived.Test.YtkdpmihdhiokkaaDoorMix
namespace Go.Proofs.YtkdpmihdhiokkaaDoor
open Go.RowKit

section
variable (s : M.Sea) (dA tA sA cA : Option Addr) (dc tc sc cc B : Nat) (l : M.Leg) (w : World)
set_option maxRecDepth 100000 in
set_option maxHeartbeats 64000000 in
theorem isleg_ok (hs : s.Ok) (hR : RdC w B dA tA sA s.nd s.nt s.nt s.dep s.tide s.sw) (hB : B ≤ w.heap.size) (hl : Rd1 w B cA l.n l.c) (hn : l.n ≤ maxLen) :
    Calls Tryd.prog 39 #[.agg #[.int .i64 (s.W : Int), .int .i64 (s.H : Int), .slice dA s.nd dc, .slice tA s.nt tc, .slice sA s.nt sc], .agg #[.int .i64 l.at_, .int .i64 l.lv, .int .i64 l.dr, .bool l.tail, .slice cA l.n cc]] w fun e w' => e = .returned (.bool (M.legOk s l)) ∧ Below w.heap.size w w' := by
  have hnt : 1 ≤ s.nt ∧ s.nt ≤ 60 := ⟨hs.t1, hs.t2⟩
  unfold maxLen at hn
  have HOK := Lib.hid (show M.legOk s l = (M.unit l.lv l.dr && decide (0 < l.n) && decide (0 ≤ l.at_) && decide (l.n ≤ s.nt) && decide (l.at_ ≤ (s.nt : Int) - l.n) && M.allTo l.n (M.legStep s l)) from rfl)
  have HB0 := Lib.hid (belowAlloc2 w (.cells #[.int .i64 (s.W : Int), .int .i64 (s.H : Int), .slice dA s.nd dc, .slice tA s.nt tc, .slice sA s.nt sc] 25) (.cells #[.int .i64 l.at_, .int .i64 l.lv, .int .i64 l.dr, .bool l.tail, .slice cA l.n cc] 41))
  have C0 := Lib.hid ((Blk.new w 25 #[.int .i64 (s.W : Int), .int .i64 (s.H : Int), .slice dA s.nd dc, .slice tA s.nt tc, .slice sA s.nt sc]).alloc (.cells #[.int .i64 l.at_, .int .i64 l.lv, .int .i64 l.dr, .bool l.tail, .slice cA l.n cc] 41))
  have L0 := Lib.hid (Blk.new1 w (.cells #[.int .i64 (s.W : Int), .int .i64 (s.H : Int), .slice dA s.nd dc, .slice tA s.nt tc, .slice sA s.nt sc] 25) 41 #[.int .i64 l.at_, .int .i64 l.lv, .int .i64 l.dr, .bool l.tail, .slice cA l.n cc])
  obtain ⟨X, hX⟩ : ∃ X, X = (w.alloc (.cells #[.int .i64 (s.W : Int), .int .i64 (s.H : Int), .slice dA s.nd dc, .slice tA s.nt tc, .slice sA s.nt sc] 25)).alloc (.cells #[.int .i64 l.at_, .int .i64 l.lv, .int .i64 l.dr, .bool l.tail, .slice cA l.n cc] 41) := ⟨_, rfl⟩
  have HXe := Lib.hid hX
  rw [← hX] at HB0 C0 L0
  obtain ⟨R, hRR⟩ : ∃ R, R = M.legOk s l := ⟨_, rfl⟩
  rw [← hRR] at HOK
  rw [← hRR]
  have HIC := Lib.hid (fun W c => riscell_ok s dA tA sA dc tc sc W c hs)
  have HCA := Lib.hid (fun W (hb : Below w.heap.size w W) (c t : Nat) (hc : c < s.nd) (ht : t < s.nt) => rcan_ok s dA tA sA dc tc sc B W l.lv l.dr c t hs hc ht (hR.below (hb.mono hB)) (Nat.le_trans hB hb.size))
  have HNX := Lib.hid (fun W (a b : Nat) (ha : a < s.nd) => rnext_ok s dA tA sA dc tc sc W a b hs ha)
  have HL := Lib.hid (fun W (hb : Below w.heap.size w W) => hl.below (hb.mono hB))
  have HSX := Lib.hid hs
  clear hRR hX hR hl hs
  have c3 := C0.out.cell 3
  have l0 := L0.out.cell 0
  have l1 := L0.out.cell 1
  have l2 := L0.out.cell 2
  have l4 := L0.out.cell 4
  cases hu : M.unit l.lv l.dr
  · have HU := Lib.hid hu
    clear hu
    go_enter Tryd.func39, Tryd.ntmps39
    go_upto_region 1 with fail
    rw [← HXe.out]
    go_wp2_with (go_at_call 34; refine (runit_any _ _ _).mono ?_; rw [HU.out]; rintro e w1 ⟨rfl, rfl⟩)
    go_ret
    exact ⟨ret_bool (by rw [HOK.out, HU.out]; simp), HB0.out⟩
  · have HU := Lib.hid hu
    clear hu
    by_cases hp : 0 < l.n ∧ 0 ≤ l.at_ ∧ l.n ≤ s.nt ∧ l.at_ + l.n ≤ s.nt
    · obtain ⟨p1, p2, p3, p4⟩ := hp
      have HP := Lib.hid (show R = M.allTo l.n (M.legStep s l) by rw [HOK.out, HU.out, decide_eq_true p1, decide_eq_true p2, decide_eq_true p3, decide_eq_true (show l.at_ ≤ (s.nt : Int) - l.n by omega)]; simp)
      obtain ⟨at', hat⟩ : ∃ a : Nat, l.at_ = (a : Int) := ⟨l.at_.toNat, by omega⟩
      have HAT := Lib.hid hat
      clear hat
      have q1 : ((l.n : Int) == 0) = false := by rw [beq_eq_false_iff_ne]; omega
      have q2 : decide (l.at_ < 0) = false := decide_eq_false (by omega)
      have q3 : decide (s.nt < l.n) = false := decide_eq_false (by omega)
      have q4 : decide ((s.nt : Int) - (l.n : Int) < l.at_) = false := decide_eq_false (by omega)
      go_enter Tryd.func39, Tryd.ntmps39
      go_upto_region 1 with fail
      rw [← HXe.out]
      go_wp2_with (go_at_call 34; refine (runit_any _ _ _).mono ?_; rw [HU.out]; rintro e w1 ⟨rfl, rfl⟩)
      clear c3 l0 l1 l2 l4
      obtain ⟨X, rfl⟩ : ∃ X, X = w1 := ⟨_, rfl⟩
      go_loopw [5] (fun i wr => ∃ k : Nat, k ≤ l.n ∧ i = .int .i64 (k : Int) ∧ Hid (M.allTo k (M.legStep s l) = true) ∧ Below X.heap.size X wr) (fun i _ => l.n - (intOf i).toNat)
      case atStart => exact ⟨0, Nat.zero_le _, rfl, Lib.hid rfl, Below.refl _ _⟩
      case round =>
        obtain ⟨i, hi, rfl, HF, hbw⟩ := hrel
        have HCr := Lib.hid (C0.out.below' hbw)
        have HLr := Lib.hid (L0.out.below' hbw)
        have HW := Lib.hid (HB0.out.trans (hbw.mono HB0.out.size))
        have HWX := Lib.hid hbw
        have hz := hbw.size
        clear hbw
        have l4 := HLr.out.cell 4
        by_cases hlt : i < l.n
        · obtain ⟨cb, co, hcA, hcb, _⟩ := (HL.out wr HW.out).at_ hlt
          subst hcA
          have HCW := Lib.hid (fun W (hb : Below wr.heap.size wr W) j (hj : j < l.n) => (show W.cell? ⟨cb, co + j, none⟩ = some (.int .i64 (l.c j)) from by
            have h := HL.out W (HW.out.trans (hb.mono HW.out.size))
            exact h.cx hj))
          have HCI := Lib.hid (fun W (hb : Below wr.heap.size wr W) => HCW.out W hb i hlt)
          have i1 : (i : Int) < (l.n : Int) := by omega
          go_upto_region 6 with fail
          clear l4
          have HLS := Lib.hid (show M.legStep s l i = (M.inB 0 ((s.nd : Int) - 1) (l.c i) && M.can s l.lv l.dr (l.c i).toNat (l.at_ + i).toNat && (i == 0 || M.adj s.W s.H (l.c (i - 1)).toNat (l.c i).toNat)) from rfl)
          have HNO := Lib.hid (fun h : M.legStep s l i = false => (show R = false by rw [HP.out]; exact M.allTo_no hlt h))
          have HNS := Lib.hid (show M.allTo (i + 1) (M.legStep s l) = (M.allTo i (M.legStep s l) && M.legStep s l i) from rfl)
          cases q5 : M.inB 0 ((s.nd : Int) - 1) (l.c i)
          · have HC6 := Lib.hid (fun W => HIC.out W (l.c i))
            rw [q5] at HC6
            have HEF := Lib.hid (HNO.out (by rw [HLS.out, q5]; rfl))
            clear q5
            refine wp_region_T 45 (fun w' => Below wr.heap.size wr w') (by kernel_rfl) (Below.refl _ _).drew ?_
            intro hS
            refine wpAnyT_take (i := 0) (v := ?_) rfl (by kernel_rfl) (by kernel_rfl) (by kernel_rfl) (by kernel_rfl) (by kernel_rfl) (fun _ _ _ h => h) (.inl ⟨by kernel_rfl, ?_⟩) hS ?_
            rotate_left
            · (intro w' hw; have c0 := (HCr.out.below' hw).cell 0; have c1 := (HCr.out.below' hw).cell 1; have c2 := (HCr.out.below' hw).cell 2; have c3 := (HCr.out.below' hw).cell 3; have c4 := (HCr.out.below' hw).cell 4; have l0 := (HLr.out.below' hw).cell 0; have l1 := (HLr.out.below' hw).cell 1; have l2 := (HLr.out.below' hw).cell 2; have l4 := (HLr.out.below' hw).cell 4; have e1 := HCI.out w' hw; go_simp; try with_reducible rfl)
            try simp only [put_laws]
            refine wpAnyT_take (i := 1) (v := ?_) rfl (by kernel_rfl) (by kernel_rfl) (by kernel_rfl) (by kernel_rfl) (by kernel_rfl) (fun _ _ _ h => h) (.inl ⟨by kernel_rfl, ?_⟩) hS ?_
            rotate_left
            · (intro w' hw; have c0 := (HCr.out.below' hw).cell 0; have c1 := (HCr.out.below' hw).cell 1; have c2 := (HCr.out.below' hw).cell 2; have c3 := (HCr.out.below' hw).cell 3; have c4 := (HCr.out.below' hw).cell 4; have l0 := (HLr.out.below' hw).cell 0; have l1 := (HLr.out.below' hw).cell 1; have l2 := (HLr.out.below' hw).cell 2; have l4 := (HLr.out.below' hw).cell 4; have e1 := HCI.out w' hw; go_simp; try with_reducible rfl)
            try simp only [put_laws]
            refine wpAnyT_take (i := 2) (v := ?_) rfl (by kernel_rfl) (by kernel_rfl) (by kernel_rfl) (by kernel_rfl) (by kernel_rfl) (fun _ _ _ h => h) (.inl ⟨by kernel_rfl, ?_⟩) hS ?_
            rotate_left
            · (intro w' hw; have c0 := (HCr.out.below' hw).cell 0; have c1 := (HCr.out.below' hw).cell 1; have c2 := (HCr.out.below' hw).cell 2; have c3 := (HCr.out.below' hw).cell 3; have c4 := (HCr.out.below' hw).cell 4; have l0 := (HLr.out.below' hw).cell 0; have l1 := (HLr.out.below' hw).cell 1; have l2 := (HLr.out.below' hw).cell 2; have l4 := (HLr.out.below' hw).cell 4; have e1 := HCI.out w' hw; go_simp; try with_reducible rfl)
            try simp only [put_laws]
            refine wpAnyT_take (i := 3) (v := ?_) rfl (by kernel_rfl) (by kernel_rfl) (by kernel_rfl) (by kernel_rfl) (by kernel_rfl) (fun _ _ _ h => h) (.inl ⟨by kernel_rfl, ?_⟩) hS ?_
            rotate_left
            · (intro w' hw; have c0 := (HCr.out.below' hw).cell 0; have c1 := (HCr.out.below' hw).cell 1; have c2 := (HCr.out.below' hw).cell 2; have c3 := (HCr.out.below' hw).cell 3; have c4 := (HCr.out.below' hw).cell 4; have l0 := (HLr.out.below' hw).cell 0; have l1 := (HLr.out.below' hw).cell 1; have l2 := (HLr.out.below' hw).cell 2; have l4 := (HLr.out.below' hw).cell 4; have e1 := HCI.out w' hw; go_simp; try with_reducible rfl)
            try simp only [put_laws]
            refine wpAnyT_take (i := 4) (v := ?_) rfl (by kernel_rfl) (by kernel_rfl) (by kernel_rfl) (by kernel_rfl) (by kernel_rfl) (fun _ _ _ h => h) (.inl ⟨by kernel_rfl, ?_⟩) hS ?_
            rotate_left
            · (intro w' hw; have c0 := (HCr.out.below' hw).cell 0; have c1 := (HCr.out.below' hw).cell 1; have c2 := (HCr.out.below' hw).cell 2; have c3 := (HCr.out.below' hw).cell 3; have c4 := (HCr.out.below' hw).cell 4; have l0 := (HLr.out.below' hw).cell 0; have l1 := (HLr.out.below' hw).cell 1; have l2 := (HLr.out.below' hw).cell 2; have l4 := (HLr.out.below' hw).cell 4; have e1 := HCI.out w' hw; go_simp; try with_reducible rfl)
            try simp only [put_laws]
            refine wpAnyT_take (i := 5) (v := ?_) rfl (by kernel_rfl) (by kernel_rfl) (by kernel_rfl) (by kernel_rfl) (by kernel_rfl) (fun _ _ _ h => h) (.inl ⟨by kernel_rfl, ?_⟩) hS ?_
            rotate_left
            · (intro w' hw; have c0 := (HCr.out.below' hw).cell 0; have c1 := (HCr.out.below' hw).cell 1; have c2 := (HCr.out.below' hw).cell 2; have c3 := (HCr.out.below' hw).cell 3; have c4 := (HCr.out.below' hw).cell 4; have l0 := (HLr.out.below' hw).cell 0; have l1 := (HLr.out.below' hw).cell 1; have l2 := (HLr.out.below' hw).cell 2; have l4 := (HLr.out.below' hw).cell 4; have e1 := HCI.out w' hw; go_simp; try with_reducible rfl)
            try simp only [put_laws]
            refine wpAnyT_one (i := 6) (by kernel_rfl) rfl ?_
            intro K' hK'
            go_simp
            refine (HC6.out _).mono ?_
            rintro e w8 ⟨rfl, hb8⟩
            have hS' := Below.trans hS (Below.mono hb8 (Below.size hS))
            clear hS
            have hS := hS'
            clear hS' hb8
            refine hK'.out _ _ (.inr hS) ?_
            clear hK' K'
            try simp only [put_laws]
            refine wpAnyT_one (i := 7) (by kernel_rfl) rfl ?_
            intro K' hK'
            go_simp
            refine hK'.out _ _ (.inr hS) ?_
            clear hK' K'
            try simp only [put_laws]
            refine wpAnyT_one (i := 8) (by kernel_rfl) rfl ?_
            intro K' hK'
            go_simp
            refine hK'.out _ _ (.inr hS) ?_
            clear hK' K'
            try simp only [put_laws]
            refine wpAnyT_take (i := 9) (v := undef) rfl (by kernel_rfl) (by kernel_rfl) (by kernel_rfl) (by kernel_rfl) (by kernel_rfl) (fun _ _ _ h => h) (.inr ⟨by kernel_rfl, rfl⟩) hS ?_
            refine wpAnyT_take (i := 10) (v := undef) rfl (by kernel_rfl) (by kernel_rfl) (by kernel_rfl) (by kernel_rfl) (by kernel_rfl) (fun _ _ _ h => h) (.inr ⟨by kernel_rfl, rfl⟩) hS ?_
            refine wpAnyT_take (i := 11) (v := undef) rfl (by kernel_rfl) (by kernel_rfl) (by kernel_rfl) (by kernel_rfl) (by kernel_rfl) (fun _ _ _ h => h) (.inr ⟨by kernel_rfl, rfl⟩) hS ?_
            refine wpAnyT_take (i := 12) (v := undef) rfl (by kernel_rfl) (by kernel_rfl) (by kernel_rfl) (by kernel_rfl) (by kernel_rfl) (fun _ _ _ h => h) (.inr ⟨by kernel_rfl, rfl⟩) hS ?_
            refine wpAnyT_take (i := 13) (v := undef) rfl (by kernel_rfl) (by kernel_rfl) (by kernel_rfl) (by kernel_rfl) (by kernel_rfl) (fun _ _ _ h => h) (.inr ⟨by kernel_rfl, rfl⟩) hS ?_
            refine wpAnyT_take (i := 14) (v := undef) rfl (by kernel_rfl) (by kernel_rfl) (by kernel_rfl) (by kernel_rfl) (by kernel_rfl) (fun _ _ _ h => h) (.inr ⟨by kernel_rfl, rfl⟩) hS ?_
            refine wpAnyT_take (i := 15) (v := undef) rfl (by kernel_rfl) (by kernel_rfl) (by kernel_rfl) (by kernel_rfl) (by kernel_rfl) (fun _ _ _ h => h) (.inr ⟨by kernel_rfl, rfl⟩) hS ?_
            refine wpAnyT_take (i := 16) (v := undef) rfl (by kernel_rfl) (by kernel_rfl) (by kernel_rfl) (by kernel_rfl) (by kernel_rfl) (fun _ _ _ h => h) (.inr ⟨by kernel_rfl, rfl⟩) hS ?_
            refine wpAnyT_take (i := 17) (v := undef) rfl (by kernel_rfl) (by kernel_rfl) (by kernel_rfl) (by kernel_rfl) (by kernel_rfl) (fun _ _ _ h => h) (.inr ⟨by kernel_rfl, rfl⟩) hS ?_
            refine wpAnyT_take (i := 18) (v := undef) rfl (by kernel_rfl) (by kernel_rfl) (by kernel_rfl) (by kernel_rfl) (by kernel_rfl) (fun _ _ _ h => h) (.inr ⟨by kernel_rfl, rfl⟩) hS ?_
            refine wpAnyT_take (i := 19) (v := undef) rfl (by kernel_rfl) (by kernel_rfl) (by kernel_rfl) (by kernel_rfl) (by kernel_rfl) (fun _ _ _ h => h) (.inr ⟨by kernel_rfl, rfl⟩) hS ?_
            refine wpAnyT_take (i := 20) (v := undef) rfl (by kernel_rfl) (by kernel_rfl) (by kernel_rfl) (by kernel_rfl) (by kernel_rfl) (fun _ _ _ h => h) (.inr ⟨by kernel_rfl, rfl⟩) hS ?_
            refine wpAnyT_take (i := 21) (v := undef) rfl (by kernel_rfl) (by kernel_rfl) (by kernel_rfl) (by kernel_rfl) (by kernel_rfl) (fun _ _ _ h => h) (.inr ⟨by kernel_rfl, rfl⟩) hS ?_
            refine wpAnyT_take (i := 22) (v := undef) rfl (by kernel_rfl) (by kernel_rfl) (by kernel_rfl) (by kernel_rfl) (by kernel_rfl) (fun _ _ _ h => h) (.inr ⟨by kernel_rfl, rfl⟩) hS ?_
            try simp only [put_laws]
            refine wpAnyT_one (i := 23) (by kernel_rfl) rfl ?_
            intro K' hK'
            go_simp
            refine hK'.out _ _ (.inr hS) ?_
            clear hK' K'
            try simp only [put_laws]
            refine wpAnyT_one (i := 24) (by kernel_rfl) rfl ?_
            intro K' hK'
            go_simp
            refine hK'.out _ _ (.inr hS) ?_
            clear hK' K'
            try simp only [put_laws]
            refine wpAnyT_one (i := 25) (by kernel_rfl) rfl ?_
            intro K' hK'
            go_simp
            refine hK'.out _ _ (.inr hS) ?_
            clear hK' K'
            try simp only [put_laws]
            refine wpAnyT_one (i := 26) (by kernel_rfl) rfl ?_
            intro K' hK'
            go_simp
            refine hK'.out _ _ (.inr hS) ?_
            clear hK' K'
            try simp only [put_laws]
            refine wpAnyT_one (i := 27) (by kernel_rfl) rfl ?_
            intro K' hK'
            go_simp
            refine hK'.out _ _ (.inr hS) ?_
            clear hK' K'
            try simp only [put_laws]
            refine wpAnyT_one (i := 28) (by kernel_rfl) rfl ?_
            intro K' hK'
            go_simp
            refine hK'.out _ _ (.inr hS) ?_
            clear hK' K'
            try simp only [put_laws]
            refine wpAnyT_one (i := 29) (by kernel_rfl) rfl ?_
            intro K' hK'
            go_simp
            refine hK'.out _ _ (.inr hS) ?_
            clear hK' K'
            try simp only [put_laws]
            refine wpAnyT_take (i := 30) (v := undef) rfl (by kernel_rfl) (by kernel_rfl) (by kernel_rfl) (by kernel_rfl) (by kernel_rfl) (fun _ _ _ h => h) (.inr ⟨by kernel_rfl, rfl⟩) hS ?_
            refine wpAnyT_take (i := 31) (v := undef) rfl (by kernel_rfl) (by kernel_rfl) (by kernel_rfl) (by kernel_rfl) (by kernel_rfl) (fun _ _ _ h => h) (.inr ⟨by kernel_rfl, rfl⟩) hS ?_
            refine wpAnyT_take (i := 32) (v := undef) rfl (by kernel_rfl) (by kernel_rfl) (by kernel_rfl) (by kernel_rfl) (by kernel_rfl) (fun _ _ _ h => h) (.inr ⟨by kernel_rfl, rfl⟩) hS ?_
            refine wpAnyT_take (i := 33) (v := undef) rfl (by kernel_rfl) (by kernel_rfl) (by kernel_rfl) (by kernel_rfl) (by kernel_rfl) (fun _ _ _ h => h) (.inr ⟨by kernel_rfl, rfl⟩) hS ?_
            refine wpAnyT_take (i := 34) (v := undef) rfl (by kernel_rfl) (by kernel_rfl) (by kernel_rfl) (by kernel_rfl) (by kernel_rfl) (fun _ _ _ h => h) (.inr ⟨by kernel_rfl, rfl⟩) hS ?_
            refine wpAnyT_take (i := 35) (v := undef) rfl (by kernel_rfl) (by kernel_rfl) (by kernel_rfl) (by kernel_rfl) (by kernel_rfl) (fun _ _ _ h => h) (.inr ⟨by kernel_rfl, rfl⟩) hS ?_
            refine wpAnyT_take (i := 36) (v := undef) rfl (by kernel_rfl) (by kernel_rfl) (by kernel_rfl) (by kernel_rfl) (by kernel_rfl) (fun _ _ _ h => h) (.inr ⟨by kernel_rfl, rfl⟩) hS ?_
            refine wpAnyT_take (i := 37) (v := undef) rfl (by kernel_rfl) (by kernel_rfl) (by kernel_rfl) (by kernel_rfl) (by kernel_rfl) (fun _ _ _ h => h) (.inr ⟨by kernel_rfl, rfl⟩) hS ?_
            refine wpAnyT_take (i := 38) (v := undef) rfl (by kernel_rfl) (by kernel_rfl) (by kernel_rfl) (by kernel_rfl) (by kernel_rfl) (fun _ _ _ h => h) (.inr ⟨by kernel_rfl, rfl⟩) hS ?_
            refine wpAnyT_take (i := 39) (v := undef) rfl (by kernel_rfl) (by kernel_rfl) (by kernel_rfl) (by kernel_rfl) (by kernel_rfl) (fun _ _ _ h => h) (.inr ⟨by kernel_rfl, rfl⟩) hS ?_
            refine wpAnyT_take (i := 40) (v := undef) rfl (by kernel_rfl) (by kernel_rfl) (by kernel_rfl) (by kernel_rfl) (by kernel_rfl) (fun _ _ _ h => h) (.inr ⟨by kernel_rfl, rfl⟩) hS ?_
            refine wpAnyT_take (i := 41) (v := undef) rfl (by kernel_rfl) (by kernel_rfl) (by kernel_rfl) (by kernel_rfl) (by kernel_rfl) (fun _ _ _ h => h) (.inr ⟨by kernel_rfl, rfl⟩) hS ?_
            try simp only [put_laws]
            refine wpAnyT_one (i := 42) (by kernel_rfl) rfl ?_
            intro K' hK'
            go_simp
            refine hK'.out _ _ (.inr hS) ?_
            clear hK' K'
            try simp only [put_laws]
            refine wpAnyT_one (i := 43) (by kernel_rfl) rfl ?_
            intro K' hK'
            go_simp
            refine hK'.out _ _ (.inr hS) ?_
            clear hK' K'
            try simp only [put_laws]
            refine wpAnyT_one (i := 44) (by kernel_rfl) rfl ?_
            intro K' hK'
            go_simp
            refine hK'.out _ _ (.inr hS) ?_
            clear hK' K'
            try simp only [put_laws]
            refine wpAnyT_one (i := 45) (by kernel_rfl) rfl ?_
            intro K' hK'
            go_simp
            refine hK'.out _ _ (.inl rfl) ?_
            clear hK' K'
            try simp only [put_laws]
            refine wpAnyT_done (by kernel_rfl) ?_ _
            go_wp2_with fail
            go_ret
            exact ⟨ret_bool HEF.out.symm, HW.out.trans (Below.mono hS HW.out.size)⟩
          · have hci := M.inB_iff.1 q5
            obtain ⟨q, hq⟩ : ∃ q : Nat, l.c i = (q : Int) := ⟨(l.c i).toNat, by omega⟩
            have hqn : q < s.nd := by omega
            have HC6 := Lib.hid (fun W => HIC.out W (l.c i))
            rw [q5, hq] at HC6
            rw [hq] at HCI
            have HQ5 := Lib.hid q5
            have HTN := Lib.hid (show (l.c i).toNat = q ∧ (l.at_ + i).toNat = at' + i by have := HAT.out; omega)
            have hwa : IntKind.i64.wrap (l.at_ + (i : Int)) = ((at' + i : Nat) : Int) := by rw [IntKind.wrap_i64]; have := HAT.out; omega
            have hti : at' + i < s.nt := by have := HAT.out; omega
            rw [HQ5.out, HTN.out.1, HTN.out.2, Bool.true_and] at HLS
            clear q5 hq hci
            cases q6 : M.can s l.lv l.dr q (at' + i)
            · have HC23 := Lib.hid (fun W hb => HCA.out W hb q (at' + i) hqn hti)
              rw [q6] at HC23
              have HEF := Lib.hid (HNO.out (by rw [HLS.out, q6]; rfl))
              clear q6
              refine wp_region_T 45 (fun w' => Below wr.heap.size wr w') (by kernel_rfl) (Below.refl _ _).drew ?_
              intro hS
              refine wpAnyT_take (i := 0) (v := ?_) rfl (by kernel_rfl) (by kernel_rfl) (by kernel_rfl) (by kernel_rfl) (by kernel_rfl) (fun _ _ _ h => h) (.inl ⟨by kernel_rfl, ?_⟩) hS ?_
              rotate_left
              · (intro w' hw; have c0 := (HCr.out.below' hw).cell 0; have c1 := (HCr.out.below' hw).cell 1; have c2 := (HCr.out.below' hw).cell 2; have c3 := (HCr.out.below' hw).cell 3; have c4 := (HCr.out.below' hw).cell 4; have l0 := (HLr.out.below' hw).cell 0; have l1 := (HLr.out.below' hw).cell 1; have l2 := (HLr.out.below' hw).cell 2; have l4 := (HLr.out.below' hw).cell 4; have e1 := HCI.out w' hw; go_simp; try with_reducible rfl)
              try simp only [put_laws]
              refine wpAnyT_take (i := 1) (v := ?_) rfl (by kernel_rfl) (by kernel_rfl) (by kernel_rfl) (by kernel_rfl) (by kernel_rfl) (fun _ _ _ h => h) (.inl ⟨by kernel_rfl, ?_⟩) hS ?_
              rotate_left
              · (intro w' hw; have c0 := (HCr.out.below' hw).cell 0; have c1 := (HCr.out.below' hw).cell 1; have c2 := (HCr.out.below' hw).cell 2; have c3 := (HCr.out.below' hw).cell 3; have c4 := (HCr.out.below' hw).cell 4; have l0 := (HLr.out.below' hw).cell 0; have l1 := (HLr.out.below' hw).cell 1; have l2 := (HLr.out.below' hw).cell 2; have l4 := (HLr.out.below' hw).cell 4; have e1 := HCI.out w' hw; go_simp; try with_reducible rfl)
              try simp only [put_laws]
              refine wpAnyT_take (i := 2) (v := ?_) rfl (by kernel_rfl) (by kernel_rfl) (by kernel_rfl) (by kernel_rfl) (by kernel_rfl) (fun _ _ _ h => h) (.inl ⟨by kernel_rfl, ?_⟩) hS ?_
              rotate_left
              · (intro w' hw; have c0 := (HCr.out.below' hw).cell 0; have c1 := (HCr.out.below' hw).cell 1; have c2 := (HCr.out.below' hw).cell 2; have c3 := (HCr.out.below' hw).cell 3; have c4 := (HCr.out.below' hw).cell 4; have l0 := (HLr.out.below' hw).cell 0; have l1 := (HLr.out.below' hw).cell 1; have l2 := (HLr.out.below' hw).cell 2; have l4 := (HLr.out.below' hw).cell 4; have e1 := HCI.out w' hw; go_simp; try with_reducible rfl)
              try simp only [put_laws]
              refine wpAnyT_take (i := 3) (v := ?_) rfl (by kernel_rfl) (by kernel_rfl) (by kernel_rfl) (by kernel_rfl) (by kernel_rfl) (fun _ _ _ h => h) (.inl ⟨by kernel_rfl, ?_⟩) hS ?_
              rotate_left
              · (intro w' hw; have c0 := (HCr.out.below' hw).cell 0; have c1 := (HCr.out.below' hw).cell 1; have c2 := (HCr.out.below' hw).cell 2; have c3 := (HCr.out.below' hw).cell 3; have c4 := (HCr.out.below' hw).cell 4; have l0 := (HLr.out.below' hw).cell 0; have l1 := (HLr.out.below' hw).cell 1; have l2 := (HLr.out.below' hw).cell 2; have l4 := (HLr.out.below' hw).cell 4; have e1 := HCI.out w' hw; go_simp; try with_reducible rfl)
              try simp only [put_laws]
              refine wpAnyT_take (i := 4) (v := ?_) rfl (by kernel_rfl) (by kernel_rfl) (by kernel_rfl) (by kernel_rfl) (by kernel_rfl) (fun _ _ _ h => h) (.inl ⟨by kernel_rfl, ?_⟩) hS ?_
              rotate_left
              · (intro w' hw; have c0 := (HCr.out.below' hw).cell 0; have c1 := (HCr.out.below' hw).cell 1; have c2 := (HCr.out.below' hw).cell 2; have c3 := (HCr.out.below' hw).cell 3; have c4 := (HCr.out.below' hw).cell 4; have l0 := (HLr.out.below' hw).cell 0; have l1 := (HLr.out.below' hw).cell 1; have l2 := (HLr.out.below' hw).cell 2; have l4 := (HLr.out.below' hw).cell 4; have e1 := HCI.out w' hw; go_simp; try with_reducible rfl)
              try simp only [put_laws]
              refine wpAnyT_take (i := 5) (v := ?_) rfl (by kernel_rfl) (by kernel_rfl) (by kernel_rfl) (by kernel_rfl) (by kernel_rfl) (fun _ _ _ h => h) (.inl ⟨by kernel_rfl, ?_⟩) hS ?_
              rotate_left
              · (intro w' hw; have c0 := (HCr.out.below' hw).cell 0; have c1 := (HCr.out.below' hw).cell 1; have c2 := (HCr.out.below' hw).cell 2; have c3 := (HCr.out.below' hw).cell 3; have c4 := (HCr.out.below' hw).cell 4; have l0 := (HLr.out.below' hw).cell 0; have l1 := (HLr.out.below' hw).cell 1; have l2 := (HLr.out.below' hw).cell 2; have l4 := (HLr.out.below' hw).cell 4; have e1 := HCI.out w' hw; go_simp; try with_reducible rfl)
              try simp only [put_laws]
              refine wpAnyT_one (i := 6) (by kernel_rfl) rfl ?_
              intro K' hK'
              go_simp
              refine (HC6.out _).mono ?_
              rintro e w8 ⟨rfl, hb8⟩
              have hS' := Below.trans hS (Below.mono hb8 (Below.size hS))
              clear hS
              have hS := hS'
              clear hS' hb8
              refine hK'.out _ _ (.inr hS) ?_
              clear hK' K'
              try simp only [put_laws]
              refine wpAnyT_one (i := 7) (by kernel_rfl) rfl ?_
              intro K' hK'
              go_simp
              refine hK'.out _ _ (.inr hS) ?_
              clear hK' K'
              try simp only [put_laws]
              refine wpAnyT_one (i := 8) (by kernel_rfl) rfl ?_
              intro K' hK'
              go_simp
              refine hK'.out _ _ (.inr hS) ?_
              clear hK' K'
              try simp only [put_laws]
              refine wpAnyT_take (i := 9) (v := ?_) rfl (by kernel_rfl) (by kernel_rfl) (by kernel_rfl) (by kernel_rfl) (by kernel_rfl) (fun _ _ _ h => h) (.inl ⟨by kernel_rfl, ?_⟩) hS ?_
              rotate_left
              · (intro w' hw; have c0 := (HCr.out.below' hw).cell 0; have c1 := (HCr.out.below' hw).cell 1; have c2 := (HCr.out.below' hw).cell 2; have c3 := (HCr.out.below' hw).cell 3; have c4 := (HCr.out.below' hw).cell 4; have l0 := (HLr.out.below' hw).cell 0; have l1 := (HLr.out.below' hw).cell 1; have l2 := (HLr.out.below' hw).cell 2; have l4 := (HLr.out.below' hw).cell 4; have e1 := HCI.out w' hw; go_simp; try with_reducible rfl)
              try simp only [put_laws]
              refine wpAnyT_take (i := 10) (v := ?_) rfl (by kernel_rfl) (by kernel_rfl) (by kernel_rfl) (by kernel_rfl) (by kernel_rfl) (fun _ _ _ h => h) (.inl ⟨by kernel_rfl, ?_⟩) hS ?_
              rotate_left
              · (intro w' hw; have c0 := (HCr.out.below' hw).cell 0; have c1 := (HCr.out.below' hw).cell 1; have c2 := (HCr.out.below' hw).cell 2; have c3 := (HCr.out.below' hw).cell 3; have c4 := (HCr.out.below' hw).cell 4; have l0 := (HLr.out.below' hw).cell 0; have l1 := (HLr.out.below' hw).cell 1; have l2 := (HLr.out.below' hw).cell 2; have l4 := (HLr.out.below' hw).cell 4; have e1 := HCI.out w' hw; go_simp; try with_reducible rfl)
              try simp only [put_laws]
              refine wpAnyT_take (i := 11) (v := ?_) rfl (by kernel_rfl) (by kernel_rfl) (by kernel_rfl) (by kernel_rfl) (by kernel_rfl) (fun _ _ _ h => h) (.inl ⟨by kernel_rfl, ?_⟩) hS ?_
              rotate_left
              · (intro w' hw; have c0 := (HCr.out.below' hw).cell 0; have c1 := (HCr.out.below' hw).cell 1; have c2 := (HCr.out.below' hw).cell 2; have c3 := (HCr.out.below' hw).cell 3; have c4 := (HCr.out.below' hw).cell 4; have l0 := (HLr.out.below' hw).cell 0; have l1 := (HLr.out.below' hw).cell 1; have l2 := (HLr.out.below' hw).cell 2; have l4 := (HLr.out.below' hw).cell 4; have e1 := HCI.out w' hw; go_simp; try with_reducible rfl)
              try simp only [put_laws]
              refine wpAnyT_take (i := 12) (v := ?_) rfl (by kernel_rfl) (by kernel_rfl) (by kernel_rfl) (by kernel_rfl) (by kernel_rfl) (fun _ _ _ h => h) (.inl ⟨by kernel_rfl, ?_⟩) hS ?_
              rotate_left
              · (intro w' hw; have c0 := (HCr.out.below' hw).cell 0; have c1 := (HCr.out.below' hw).cell 1; have c2 := (HCr.out.below' hw).cell 2; have c3 := (HCr.out.below' hw).cell 3; have c4 := (HCr.out.below' hw).cell 4; have l0 := (HLr.out.below' hw).cell 0; have l1 := (HLr.out.below' hw).cell 1; have l2 := (HLr.out.below' hw).cell 2; have l4 := (HLr.out.below' hw).cell 4; have e1 := HCI.out w' hw; go_simp; try with_reducible rfl)
              try simp only [put_laws]
              refine wpAnyT_take (i := 13) (v := ?_) rfl (by kernel_rfl) (by kernel_rfl) (by kernel_rfl) (by kernel_rfl) (by kernel_rfl) (fun _ _ _ h => h) (.inl ⟨by kernel_rfl, ?_⟩) hS ?_
              rotate_left
              · (intro w' hw; have c0 := (HCr.out.below' hw).cell 0; have c1 := (HCr.out.below' hw).cell 1; have c2 := (HCr.out.below' hw).cell 2; have c3 := (HCr.out.below' hw).cell 3; have c4 := (HCr.out.below' hw).cell 4; have l0 := (HLr.out.below' hw).cell 0; have l1 := (HLr.out.below' hw).cell 1; have l2 := (HLr.out.below' hw).cell 2; have l4 := (HLr.out.below' hw).cell 4; have e1 := HCI.out w' hw; go_simp; try with_reducible rfl)
              try simp only [put_laws]
              refine wpAnyT_take (i := 14) (v := ?_) rfl (by kernel_rfl) (by kernel_rfl) (by kernel_rfl) (by kernel_rfl) (by kernel_rfl) (fun _ _ _ h => h) (.inl ⟨by kernel_rfl, ?_⟩) hS ?_
              rotate_left
              · (intro w' hw; have c0 := (HCr.out.below' hw).cell 0; have c1 := (HCr.out.below' hw).cell 1; have c2 := (HCr.out.below' hw).cell 2; have c3 := (HCr.out.below' hw).cell 3; have c4 := (HCr.out.below' hw).cell 4; have l0 := (HLr.out.below' hw).cell 0; have l1 := (HLr.out.below' hw).cell 1; have l2 := (HLr.out.below' hw).cell 2; have l4 := (HLr.out.below' hw).cell 4; have e1 := HCI.out w' hw; go_simp; try with_reducible rfl)
              try simp only [put_laws]
              refine wpAnyT_take (i := 15) (v := ?_) rfl (by kernel_rfl) (by kernel_rfl) (by kernel_rfl) (by kernel_rfl) (by kernel_rfl) (fun _ _ _ h => h) (.inl ⟨by kernel_rfl, ?_⟩) hS ?_
              rotate_left
              · (intro w' hw; have c0 := (HCr.out.below' hw).cell 0; have c1 := (HCr.out.below' hw).cell 1; have c2 := (HCr.out.below' hw).cell 2; have c3 := (HCr.out.below' hw).cell 3; have c4 := (HCr.out.below' hw).cell 4; have l0 := (HLr.out.below' hw).cell 0; have l1 := (HLr.out.below' hw).cell 1; have l2 := (HLr.out.below' hw).cell 2; have l4 := (HLr.out.below' hw).cell 4; have e1 := HCI.out w' hw; go_simp; try with_reducible rfl)
              try simp only [put_laws]
              refine wpAnyT_take (i := 16) (v := ?_) rfl (by kernel_rfl) (by kernel_rfl) (by kernel_rfl) (by kernel_rfl) (by kernel_rfl) (fun _ _ _ h => h) (.inl ⟨by kernel_rfl, ?_⟩) hS ?_
              rotate_left
              · (intro w' hw; have c0 := (HCr.out.below' hw).cell 0; have c1 := (HCr.out.below' hw).cell 1; have c2 := (HCr.out.below' hw).cell 2; have c3 := (HCr.out.below' hw).cell 3; have c4 := (HCr.out.below' hw).cell 4; have l0 := (HLr.out.below' hw).cell 0; have l1 := (HLr.out.below' hw).cell 1; have l2 := (HLr.out.below' hw).cell 2; have l4 := (HLr.out.below' hw).cell 4; have e1 := HCI.out w' hw; go_simp; try with_reducible rfl)
              try simp only [put_laws]
              refine wpAnyT_take (i := 17) (v := ?_) rfl (by kernel_rfl) (by kernel_rfl) (by kernel_rfl) (by kernel_rfl) (by kernel_rfl) (fun _ _ _ h => h) (.inl ⟨by kernel_rfl, ?_⟩) hS ?_
              rotate_left
              · (intro w' hw; have c0 := (HCr.out.below' hw).cell 0; have c1 := (HCr.out.below' hw).cell 1; have c2 := (HCr.out.below' hw).cell 2; have c3 := (HCr.out.below' hw).cell 3; have c4 := (HCr.out.below' hw).cell 4; have l0 := (HLr.out.below' hw).cell 0; have l1 := (HLr.out.below' hw).cell 1; have l2 := (HLr.out.below' hw).cell 2; have l4 := (HLr.out.below' hw).cell 4; have e1 := HCI.out w' hw; go_simp; try with_reducible rfl)
              try simp only [put_laws]
              refine wpAnyT_take (i := 18) (v := ?_) rfl (by kernel_rfl) (by kernel_rfl) (by kernel_rfl) (by kernel_rfl) (by kernel_rfl) (fun _ _ _ h => h) (.inl ⟨by kernel_rfl, ?_⟩) hS ?_
              rotate_left
              · (intro w' hw; have c0 := (HCr.out.below' hw).cell 0; have c1 := (HCr.out.below' hw).cell 1; have c2 := (HCr.out.below' hw).cell 2; have c3 := (HCr.out.below' hw).cell 3; have c4 := (HCr.out.below' hw).cell 4; have l0 := (HLr.out.below' hw).cell 0; have l1 := (HLr.out.below' hw).cell 1; have l2 := (HLr.out.below' hw).cell 2; have l4 := (HLr.out.below' hw).cell 4; have e1 := HCI.out w' hw; go_simp; try with_reducible rfl)
              try simp only [put_laws]
              refine wpAnyT_take (i := 19) (v := ?_) rfl (by kernel_rfl) (by kernel_rfl) (by kernel_rfl) (by kernel_rfl) (by kernel_rfl) (fun _ _ _ h => h) (.inl ⟨by kernel_rfl, ?_⟩) hS ?_
              rotate_left
              · (intro w' hw; have c0 := (HCr.out.below' hw).cell 0; have c1 := (HCr.out.below' hw).cell 1; have c2 := (HCr.out.below' hw).cell 2; have c3 := (HCr.out.below' hw).cell 3; have c4 := (HCr.out.below' hw).cell 4; have l0 := (HLr.out.below' hw).cell 0; have l1 := (HLr.out.below' hw).cell 1; have l2 := (HLr.out.below' hw).cell 2; have l4 := (HLr.out.below' hw).cell 4; have e1 := HCI.out w' hw; go_simp; try with_reducible rfl)
              try simp only [put_laws]
              refine wpAnyT_take (i := 20) (v := ?_) rfl (by kernel_rfl) (by kernel_rfl) (by kernel_rfl) (by kernel_rfl) (by kernel_rfl) (fun _ _ _ h => h) (.inl ⟨by kernel_rfl, ?_⟩) hS ?_
              rotate_left
              · (intro w' hw; have c0 := (HCr.out.below' hw).cell 0; have c1 := (HCr.out.below' hw).cell 1; have c2 := (HCr.out.below' hw).cell 2; have c3 := (HCr.out.below' hw).cell 3; have c4 := (HCr.out.below' hw).cell 4; have l0 := (HLr.out.below' hw).cell 0; have l1 := (HLr.out.below' hw).cell 1; have l2 := (HLr.out.below' hw).cell 2; have l4 := (HLr.out.below' hw).cell 4; have e1 := HCI.out w' hw; go_simp; try with_reducible rfl)
              try simp only [put_laws]
              refine wpAnyT_take (i := 21) (v := ?_) rfl (by kernel_rfl) (by kernel_rfl) (by kernel_rfl) (by kernel_rfl) (by kernel_rfl) (fun _ _ _ h => h) (.inl ⟨by kernel_rfl, ?_⟩) hS ?_
              rotate_left
              · (intro w' hw; have c0 := (HCr.out.below' hw).cell 0; have c1 := (HCr.out.below' hw).cell 1; have c2 := (HCr.out.below' hw).cell 2; have c3 := (HCr.out.below' hw).cell 3; have c4 := (HCr.out.below' hw).cell 4; have l0 := (HLr.out.below' hw).cell 0; have l1 := (HLr.out.below' hw).cell 1; have l2 := (HLr.out.below' hw).cell 2; have l4 := (HLr.out.below' hw).cell 4; have e1 := HCI.out w' hw; go_simp; try with_reducible rfl)
              try simp only [put_laws]
              refine wpAnyT_take (i := 22) (v := ?_) rfl (by kernel_rfl) (by kernel_rfl) (by kernel_rfl) (by kernel_rfl) (by kernel_rfl) (fun _ _ _ h => h) (.inl ⟨by kernel_rfl, ?_⟩) hS ?_
              rotate_left
              · (intro w' hw; have c0 := (HCr.out.below' hw).cell 0; have c1 := (HCr.out.below' hw).cell 1; have c2 := (HCr.out.below' hw).cell 2; have c3 := (HCr.out.below' hw).cell 3; have c4 := (HCr.out.below' hw).cell 4; have l0 := (HLr.out.below' hw).cell 0; have l1 := (HLr.out.below' hw).cell 1; have l2 := (HLr.out.below' hw).cell 2; have l4 := (HLr.out.below' hw).cell 4; have e1 := HCI.out w' hw; go_simp; try with_reducible rfl)
              try simp only [put_laws]
              refine wpAnyT_one (i := 23) (by kernel_rfl) rfl ?_
              intro K' hK'
              go_simp
              refine (HC23.out _ (HW.out.trans (Below.mono hS HW.out.size))).mono ?_
              rintro e w8 ⟨rfl, hb8⟩
              have hS' := Below.trans hS (Below.mono hb8 (Below.size hS))
              clear hS
              have hS := hS'
              clear hS' hb8
              refine hK'.out _ _ (.inr hS) ?_
              clear hK' K'
              try simp only [put_laws]
              refine wpAnyT_one (i := 24) (by kernel_rfl) rfl ?_
              intro K' hK'
              go_simp
              refine hK'.out _ _ (.inr hS) ?_
              clear hK' K'
              try simp only [put_laws]
              refine wpAnyT_one (i := 25) (by kernel_rfl) rfl ?_
              intro K' hK'
              go_simp
              refine hK'.out _ _ (.inr hS) ?_
              clear hK' K'
              try simp only [put_laws]
              refine wpAnyT_one (i := 26) (by kernel_rfl) rfl ?_
              intro K' hK'
              go_simp
              refine hK'.out _ _ (.inr hS) ?_
              clear hK' K'
              try simp only [put_laws]
              refine wpAnyT_one (i := 27) (by kernel_rfl) rfl ?_
              intro K' hK'
              go_simp
              refine hK'.out _ _ (.inr hS) ?_
              clear hK' K'
              try simp only [put_laws]
              refine wpAnyT_one (i := 28) (by kernel_rfl) rfl ?_
              intro K' hK'
              go_simp
              refine hK'.out _ _ (.inr hS) ?_
              clear hK' K'
              try simp only [put_laws]
              refine wpAnyT_one (i := 29) (by kernel_rfl) rfl ?_
              intro K' hK'
              go_simp
              refine hK'.out _ _ (.inr hS) ?_
              clear hK' K'
              try simp only [put_laws]
              refine wpAnyT_take (i := 30) (v := undef) rfl (by kernel_rfl) (by kernel_rfl) (by kernel_rfl) (by kernel_rfl) (by kernel_rfl) (fun _ _ _ h => h) (.inr ⟨by kernel_rfl, rfl⟩) hS ?_
              refine wpAnyT_take (i := 31) (v := undef) rfl (by kernel_rfl) (by kernel_rfl) (by kernel_rfl) (by kernel_rfl) (by kernel_rfl) (fun _ _ _ h => h) (.inr ⟨by kernel_rfl, rfl⟩) hS ?_
              refine wpAnyT_take (i := 32) (v := undef) rfl (by kernel_rfl) (by kernel_rfl) (by kernel_rfl) (by kernel_rfl) (by kernel_rfl) (fun _ _ _ h => h) (.inr ⟨by kernel_rfl, rfl⟩) hS ?_
              refine wpAnyT_take (i := 33) (v := undef) rfl (by kernel_rfl) (by kernel_rfl) (by kernel_rfl) (by kernel_rfl) (by kernel_rfl) (fun _ _ _ h => h) (.inr ⟨by kernel_rfl, rfl⟩) hS ?_
              refine wpAnyT_take (i := 34) (v := undef) rfl (by kernel_rfl) (by kernel_rfl) (by kernel_rfl) (by kernel_rfl) (by kernel_rfl) (fun _ _ _ h => h) (.inr ⟨by kernel_rfl, rfl⟩) hS ?_
              refine wpAnyT_take (i := 35) (v := undef) rfl (by kernel_rfl) (by kernel_rfl) (by kernel_rfl) (by kernel_rfl) (by kernel_rfl) (fun _ _ _ h => h) (.inr ⟨by kernel_rfl, rfl⟩) hS ?_
              refine wpAnyT_take (i := 36) (v := undef) rfl (by kernel_rfl) (by kernel_rfl) (by kernel_rfl) (by kernel_rfl) (by kernel_rfl) (fun _ _ _ h => h) (.inr ⟨by kernel_rfl, rfl⟩) hS ?_
              refine wpAnyT_take (i := 37) (v := undef) rfl (by kernel_rfl) (by kernel_rfl) (by kernel_rfl) (by kernel_rfl) (by kernel_rfl) (fun _ _ _ h => h) (.inr ⟨by kernel_rfl, rfl⟩) hS ?_
              refine wpAnyT_take (i := 38) (v := undef) rfl (by kernel_rfl) (by kernel_rfl) (by kernel_rfl) (by kernel_rfl) (by kernel_rfl) (fun _ _ _ h => h) (.inr ⟨by kernel_rfl, rfl⟩) hS ?_
              refine wpAnyT_take (i := 39) (v := undef) rfl (by kernel_rfl) (by kernel_rfl) (by kernel_rfl) (by kernel_rfl) (by kernel_rfl) (fun _ _ _ h => h) (.inr ⟨by kernel_rfl, rfl⟩) hS ?_
              refine wpAnyT_take (i := 40) (v := undef) rfl (by kernel_rfl) (by kernel_rfl) (by kernel_rfl) (by kernel_rfl) (by kernel_rfl) (fun _ _ _ h => h) (.inr ⟨by kernel_rfl, rfl⟩) hS ?_
              refine wpAnyT_take (i := 41) (v := undef) rfl (by kernel_rfl) (by kernel_rfl) (by kernel_rfl) (by kernel_rfl) (by kernel_rfl) (fun _ _ _ h => h) (.inr ⟨by kernel_rfl, rfl⟩) hS ?_
              try simp only [put_laws]
              refine wpAnyT_one (i := 42) (by kernel_rfl) rfl ?_
              intro K' hK'
              go_simp
              refine hK'.out _ _ (.inr hS) ?_
              clear hK' K'
              try simp only [put_laws]
              refine wpAnyT_one (i := 43) (by kernel_rfl) rfl ?_
              intro K' hK'
              go_simp
              refine hK'.out _ _ (.inr hS) ?_
              clear hK' K'
              try simp only [put_laws]
              refine wpAnyT_one (i := 44) (by kernel_rfl) rfl ?_
              intro K' hK'
              go_simp
              refine hK'.out _ _ (.inr hS) ?_
              clear hK' K'
              try simp only [put_laws]
              refine wpAnyT_one (i := 45) (by kernel_rfl) rfl ?_
              intro K' hK'
              go_simp
              refine hK'.out _ _ (.inl rfl) ?_
              clear hK' K'
              try simp only [put_laws]
              refine wpAnyT_done (by kernel_rfl) ?_ _
              go_wp2_with fail
              go_ret
              exact ⟨ret_bool HEF.out.symm, HW.out.trans (Below.mono hS HW.out.size)⟩
            · have HC23 := Lib.hid (fun W hb => HCA.out W hb q (at' + i) hqn hti)
              rw [q6] at HC23
              rw [q6, Bool.true_and] at HLS
              clear q6
              by_cases hpos : 0 < i
              rotate_left
              · have HST := Lib.hid (show M.legStep s l i = true by rw [HLS.out]; have h0 : i = 0 := (by omega); rw [h0]; rfl)
                have gi : decide (0 < i) = false := decide_eq_false hpos
                have gi2 : decide ((0 : Int) < (i : Int)) = false := decide_eq_false (by omega)
                clear hpos
                refine wp_region_T 45 (fun w' => Below wr.heap.size wr w') (by kernel_rfl) (Below.refl _ _).drew ?_
                intro hS
                refine wpAnyT_take (i := 0) (v := ?_) rfl (by kernel_rfl) (by kernel_rfl) (by kernel_rfl) (by kernel_rfl) (by kernel_rfl) (fun _ _ _ h => h) (.inl ⟨by kernel_rfl, ?_⟩) hS ?_
                rotate_left
                · (intro w' hw; have c0 := (HCr.out.below' hw).cell 0; have c1 := (HCr.out.below' hw).cell 1; have c2 := (HCr.out.below' hw).cell 2; have c3 := (HCr.out.below' hw).cell 3; have c4 := (HCr.out.below' hw).cell 4; have l0 := (HLr.out.below' hw).cell 0; have l1 := (HLr.out.below' hw).cell 1; have l2 := (HLr.out.below' hw).cell 2; have l4 := (HLr.out.below' hw).cell 4; have e1 := HCI.out w' hw; go_simp; try with_reducible rfl)
                try simp only [put_laws]
                refine wpAnyT_take (i := 1) (v := ?_) rfl (by kernel_rfl) (by kernel_rfl) (by kernel_rfl) (by kernel_rfl) (by kernel_rfl) (fun _ _ _ h => h) (.inl ⟨by kernel_rfl, ?_⟩) hS ?_
                rotate_left
                · (intro w' hw; have c0 := (HCr.out.below' hw).cell 0; have c1 := (HCr.out.below' hw).cell 1; have c2 := (HCr.out.below' hw).cell 2; have c3 := (HCr.out.below' hw).cell 3; have c4 := (HCr.out.below' hw).cell 4; have l0 := (HLr.out.below' hw).cell 0; have l1 := (HLr.out.below' hw).cell 1; have l2 := (HLr.out.below' hw).cell 2; have l4 := (HLr.out.below' hw).cell 4; have e1 := HCI.out w' hw; go_simp; try with_reducible rfl)
                try simp only [put_laws]
                refine wpAnyT_take (i := 2) (v := ?_) rfl (by kernel_rfl) (by kernel_rfl) (by kernel_rfl) (by kernel_rfl) (by kernel_rfl) (fun _ _ _ h => h) (.inl ⟨by kernel_rfl, ?_⟩) hS ?_
                rotate_left
                · (intro w' hw; have c0 := (HCr.out.below' hw).cell 0; have c1 := (HCr.out.below' hw).cell 1; have c2 := (HCr.out.below' hw).cell 2; have c3 := (HCr.out.below' hw).cell 3; have c4 := (HCr.out.below' hw).cell 4; have l0 := (HLr.out.below' hw).cell 0; have l1 := (HLr.out.below' hw).cell 1; have l2 := (HLr.out.below' hw).cell 2; have l4 := (HLr.out.below' hw).cell 4; have e1 := HCI.out w' hw; go_simp; try with_reducible rfl)
                try simp only [put_laws]
                refine wpAnyT_take (i := 3) (v := ?_) rfl (by kernel_rfl) (by kernel_rfl) (by kernel_rfl) (by kernel_rfl) (by kernel_rfl) (fun _ _ _ h => h) (.inl ⟨by kernel_rfl, ?_⟩) hS ?_
                rotate_left
                · (intro w' hw; have c0 := (HCr.out.below' hw).cell 0; have c1 := (HCr.out.below' hw).cell 1; have c2 := (HCr.out.below' hw).cell 2; have c3 := (HCr.out.below' hw).cell 3; have c4 := (HCr.out.below' hw).cell 4; have l0 := (HLr.out.below' hw).cell 0; have l1 := (HLr.out.below' hw).cell 1; have l2 := (HLr.out.below' hw).cell 2; have l4 := (HLr.out.below' hw).cell 4; have e1 := HCI.out w' hw; go_simp; try with_reducible rfl)
                try simp only [put_laws]
                refine wpAnyT_take (i := 4) (v := ?_) rfl (by kernel_rfl) (by kernel_rfl) (by kernel_rfl) (by kernel_rfl) (by kernel_rfl) (fun _ _ _ h => h) (.inl ⟨by kernel_rfl, ?_⟩) hS ?_
                rotate_left
                · (intro w' hw; have c0 := (HCr.out.below' hw).cell 0; have c1 := (HCr.out.below' hw).cell 1; have c2 := (HCr.out.below' hw).cell 2; have c3 := (HCr.out.below' hw).cell 3; have c4 := (HCr.out.below' hw).cell 4; have l0 := (HLr.out.below' hw).cell 0; have l1 := (HLr.out.below' hw).cell 1; have l2 := (HLr.out.below' hw).cell 2; have l4 := (HLr.out.below' hw).cell 4; have e1 := HCI.out w' hw; go_simp; try with_reducible rfl)
                try simp only [put_laws]
                refine wpAnyT_take (i := 5) (v := ?_) rfl (by kernel_rfl) (by kernel_rfl) (by kernel_rfl) (by kernel_rfl) (by kernel_rfl) (fun _ _ _ h => h) (.inl ⟨by kernel_rfl, ?_⟩) hS ?_
                rotate_left
                · (intro w' hw; have c0 := (HCr.out.below' hw).cell 0; have c1 := (HCr.out.below' hw).cell 1; have c2 := (HCr.out.below' hw).cell 2; have c3 := (HCr.out.below' hw).cell 3; have c4 := (HCr.out.below' hw).cell 4; have l0 := (HLr.out.below' hw).cell 0; have l1 := (HLr.out.below' hw).cell 1; have l2 := (HLr.out.below' hw).cell 2; have l4 := (HLr.out.below' hw).cell 4; have e1 := HCI.out w' hw; go_simp; try with_reducible rfl)
                try simp only [put_laws]
                refine wpAnyT_one (i := 6) (by kernel_rfl) rfl ?_
                intro K' hK'
                go_simp
                refine (HC6.out _).mono ?_
                rintro e w8 ⟨rfl, hb8⟩
                have hS' := Below.trans hS (Below.mono hb8 (Below.size hS))
                clear hS
                have hS := hS'
                clear hS' hb8
                refine hK'.out _ _ (.inr hS) ?_
                clear hK' K'
                try simp only [put_laws]
                refine wpAnyT_one (i := 7) (by kernel_rfl) rfl ?_
                intro K' hK'
                go_simp
                refine hK'.out _ _ (.inr hS) ?_
                clear hK' K'
                try simp only [put_laws]
                refine wpAnyT_one (i := 8) (by kernel_rfl) rfl ?_
                intro K' hK'
                go_simp
                refine hK'.out _ _ (.inr hS) ?_
                clear hK' K'
                try simp only [put_laws]
                refine wpAnyT_take (i := 9) (v := ?_) rfl (by kernel_rfl) (by kernel_rfl) (by kernel_rfl) (by kernel_rfl) (by kernel_rfl) (fun _ _ _ h => h) (.inl ⟨by kernel_rfl, ?_⟩) hS ?_
                rotate_left
                · (intro w' hw; have c0 := (HCr.out.below' hw).cell 0; have c1 := (HCr.out.below' hw).cell 1; have c2 := (HCr.out.below' hw).cell 2; have c3 := (HCr.out.below' hw).cell 3; have c4 := (HCr.out.below' hw).cell 4; have l0 := (HLr.out.below' hw).cell 0; have l1 := (HLr.out.below' hw).cell 1; have l2 := (HLr.out.below' hw).cell 2; have l4 := (HLr.out.below' hw).cell 4; have e1 := HCI.out w' hw; go_simp; try with_reducible rfl)
                try simp only [put_laws]
                refine wpAnyT_take (i := 10) (v := ?_) rfl (by kernel_rfl) (by kernel_rfl) (by kernel_rfl) (by kernel_rfl) (by kernel_rfl) (fun _ _ _ h => h) (.inl ⟨by kernel_rfl, ?_⟩) hS ?_
                rotate_left
                · (intro w' hw; have c0 := (HCr.out.below' hw).cell 0; have c1 := (HCr.out.below' hw).cell 1; have c2 := (HCr.out.below' hw).cell 2; have c3 := (HCr.out.below' hw).cell 3; have c4 := (HCr.out.below' hw).cell 4; have l0 := (HLr.out.below' hw).cell 0; have l1 := (HLr.out.below' hw).cell 1; have l2 := (HLr.out.below' hw).cell 2; have l4 := (HLr.out.below' hw).cell 4; have e1 := HCI.out w' hw; go_simp; try with_reducible rfl)
                try simp only [put_laws]
                refine wpAnyT_take (i := 11) (v := ?_) rfl (by kernel_rfl) (by kernel_rfl) (by kernel_rfl) (by kernel_rfl) (by kernel_rfl) (fun _ _ _ h => h) (.inl ⟨by kernel_rfl, ?_⟩) hS ?_
                rotate_left
                · (intro w' hw; have c0 := (HCr.out.below' hw).cell 0; have c1 := (HCr.out.below' hw).cell 1; have c2 := (HCr.out.below' hw).cell 2; have c3 := (HCr.out.below' hw).cell 3; have c4 := (HCr.out.below' hw).cell 4; have l0 := (HLr.out.below' hw).cell 0; have l1 := (HLr.out.below' hw).cell 1; have l2 := (HLr.out.below' hw).cell 2; have l4 := (HLr.out.below' hw).cell 4; have e1 := HCI.out w' hw; go_simp; try with_reducible rfl)
                try simp only [put_laws]
                refine wpAnyT_take (i := 12) (v := ?_) rfl (by kernel_rfl) (by kernel_rfl) (by kernel_rfl) (by kernel_rfl) (by kernel_rfl) (fun _ _ _ h => h) (.inl ⟨by kernel_rfl, ?_⟩) hS ?_
                rotate_left
                · (intro w' hw; have c0 := (HCr.out.below' hw).cell 0; have c1 := (HCr.out.below' hw).cell 1; have c2 := (HCr.out.below' hw).cell 2; have c3 := (HCr.out.below' hw).cell 3; have c4 := (HCr.out.below' hw).cell 4; have l0 := (HLr.out.below' hw).cell 0; have l1 := (HLr.out.below' hw).cell 1; have l2 := (HLr.out.below' hw).cell 2; have l4 := (HLr.out.below' hw).cell 4; have e1 := HCI.out w' hw; go_simp; try with_reducible rfl)
                try simp only [put_laws]
                refine wpAnyT_take (i := 13) (v := ?_) rfl (by kernel_rfl) (by kernel_rfl) (by kernel_rfl) (by kernel_rfl) (by kernel_rfl) (fun _ _ _ h => h) (.inl ⟨by kernel_rfl, ?_⟩) hS ?_
                rotate_left
                · (intro w' hw; have c0 := (HCr.out.below' hw).cell 0; have c1 := (HCr.out.below' hw).cell 1; have c2 := (HCr.out.below' hw).cell 2; have c3 := (HCr.out.below' hw).cell 3; have c4 := (HCr.out.below' hw).cell 4; have l0 := (HLr.out.below' hw).cell 0; have l1 := (HLr.out.below' hw).cell 1; have l2 := (HLr.out.below' hw).cell 2; have l4 := (HLr.out.below' hw).cell 4; have e1 := HCI.out w' hw; go_simp; try with_reducible rfl)
                try simp only [put_laws]
                refine wpAnyT_take (i := 14) (v := ?_) rfl (by kernel_rfl) (by kernel_rfl) (by kernel_rfl) (by kernel_rfl) (by kernel_rfl) (fun _ _ _ h => h) (.inl ⟨by kernel_rfl, ?_⟩) hS ?_
                rotate_left
                · (intro w' hw; have c0 := (HCr.out.below' hw).cell 0; have c1 := (HCr.out.below' hw).cell 1; have c2 := (HCr.out.below' hw).cell 2; have c3 := (HCr.out.below' hw).cell 3; have c4 := (HCr.out.below' hw).cell 4; have l0 := (HLr.out.below' hw).cell 0; have l1 := (HLr.out.below' hw).cell 1; have l2 := (HLr.out.below' hw).cell 2; have l4 := (HLr.out.below' hw).cell 4; have e1 := HCI.out w' hw; go_simp; try with_reducible rfl)
                try simp only [put_laws]
                refine wpAnyT_take (i := 15) (v := ?_) rfl (by kernel_rfl) (by kernel_rfl) (by kernel_rfl) (by kernel_rfl) (by kernel_rfl) (fun _ _ _ h => h) (.inl ⟨by kernel_rfl, ?_⟩) hS ?_
                rotate_left
                · (intro w' hw; have c0 := (HCr.out.below' hw).cell 0; have c1 := (HCr.out.below' hw).cell 1; have c2 := (HCr.out.below' hw).cell 2; have c3 := (HCr.out.below' hw).cell 3; have c4 := (HCr.out.below' hw).cell 4; have l0 := (HLr.out.below' hw).cell 0; have l1 := (HLr.out.below' hw).cell 1; have l2 := (HLr.out.below' hw).cell 2; have l4 := (HLr.out.below' hw).cell 4; have e1 := HCI.out w' hw; go_simp; try with_reducible rfl)
                try simp only [put_laws]
                refine wpAnyT_take (i := 16) (v := ?_) rfl (by kernel_rfl) (by kernel_rfl) (by kernel_rfl) (by kernel_rfl) (by kernel_rfl) (fun _ _ _ h => h) (.inl ⟨by kernel_rfl, ?_⟩) hS ?_
                rotate_left
                · (intro w' hw; have c0 := (HCr.out.below' hw).cell 0; have c1 := (HCr.out.below' hw).cell 1; have c2 := (HCr.out.below' hw).cell 2; have c3 := (HCr.out.below' hw).cell 3; have c4 := (HCr.out.below' hw).cell 4; have l0 := (HLr.out.below' hw).cell 0; have l1 := (HLr.out.below' hw).cell 1; have l2 := (HLr.out.below' hw).cell 2; have l4 := (HLr.out.below' hw).cell 4; have e1 := HCI.out w' hw; go_simp; try with_reducible rfl)
                try simp only [put_laws]
                refine wpAnyT_take (i := 17) (v := ?_) rfl (by kernel_rfl) (by kernel_rfl) (by kernel_rfl) (by kernel_rfl) (by kernel_rfl) (fun _ _ _ h => h) (.inl ⟨by kernel_rfl, ?_⟩) hS ?_
                rotate_left
                · (intro w' hw; have c0 := (HCr.out.below' hw).cell 0; have c1 := (HCr.out.below' hw).cell 1; have c2 := (HCr.out.below' hw).cell 2; have c3 := (HCr.out.below' hw).cell 3; have c4 := (HCr.out.below' hw).cell 4; have l0 := (HLr.out.below' hw).cell 0; have l1 := (HLr.out.below' hw).cell 1; have l2 := (HLr.out.below' hw).cell 2; have l4 := (HLr.out.below' hw).cell 4; have e1 := HCI.out w' hw; go_simp; try with_reducible rfl)
                try simp only [put_laws]
                refine wpAnyT_take (i := 18) (v := ?_) rfl (by kernel_rfl) (by kernel_rfl) (by kernel_rfl) (by kernel_rfl) (by kernel_rfl) (fun _ _ _ h => h) (.inl ⟨by kernel_rfl, ?_⟩) hS ?_
                rotate_left
                · (intro w' hw; have c0 := (HCr.out.below' hw).cell 0; have c1 := (HCr.out.below' hw).cell 1; have c2 := (HCr.out.below' hw).cell 2; have c3 := (HCr.out.below' hw).cell 3; have c4 := (HCr.out.below' hw).cell 4; have l0 := (HLr.out.below' hw).cell 0; have l1 := (HLr.out.below' hw).cell 1; have l2 := (HLr.out.below' hw).cell 2; have l4 := (HLr.out.below' hw).cell 4; have e1 := HCI.out w' hw; go_simp; try with_reducible rfl)
                try simp only [put_laws]
                refine wpAnyT_take (i := 19) (v := ?_) rfl (by kernel_rfl) (by kernel_rfl) (by kernel_rfl) (by kernel_rfl) (by kernel_rfl) (fun _ _ _ h => h) (.inl ⟨by kernel_rfl, ?_⟩) hS ?_
                rotate_left
                · (intro w' hw; have c0 := (HCr.out.below' hw).cell 0; have c1 := (HCr.out.below' hw).cell 1; have c2 := (HCr.out.below' hw).cell 2; have c3 := (HCr.out.below' hw).cell 3; have c4 := (HCr.out.below' hw).cell 4; have l0 := (HLr.out.below' hw).cell 0; have l1 := (HLr.out.below' hw).cell 1; have l2 := (HLr.out.below' hw).cell 2; have l4 := (HLr.out.below' hw).cell 4; have e1 := HCI.out w' hw; go_simp; try with_reducible rfl)
                try simp only [put_laws]
                refine wpAnyT_take (i := 20) (v := ?_) rfl (by kernel_rfl) (by kernel_rfl) (by kernel_rfl) (by kernel_rfl) (by kernel_rfl) (fun _ _ _ h => h) (.inl ⟨by kernel_rfl, ?_⟩) hS ?_
                rotate_left
                · (intro w' hw; have c0 := (HCr.out.below' hw).cell 0; have c1 := (HCr.out.below' hw).cell 1; have c2 := (HCr.out.below' hw).cell 2; have c3 := (HCr.out.below' hw).cell 3; have c4 := (HCr.out.below' hw).cell 4; have l0 := (HLr.out.below' hw).cell 0; have l1 := (HLr.out.below' hw).cell 1; have l2 := (HLr.out.below' hw).cell 2; have l4 := (HLr.out.below' hw).cell 4; have e1 := HCI.out w' hw; go_simp; try with_reducible rfl)
                try simp only [put_laws]
                refine wpAnyT_take (i := 21) (v := ?_) rfl (by kernel_rfl) (by kernel_rfl) (by kernel_rfl) (by kernel_rfl) (by kernel_rfl) (fun _ _ _ h => h) (.inl ⟨by kernel_rfl, ?_⟩) hS ?_
                rotate_left
                · (intro w' hw; have c0 := (HCr.out.below' hw).cell 0; have c1 := (HCr.out.below' hw).cell 1; have c2 := (HCr.out.below' hw).cell 2; have c3 := (HCr.out.below' hw).cell 3; have c4 := (HCr.out.below' hw).cell 4; have l0 := (HLr.out.below' hw).cell 0; have l1 := (HLr.out.below' hw).cell 1; have l2 := (HLr.out.below' hw).cell 2; have l4 := (HLr.out.below' hw).cell 4; have e1 := HCI.out w' hw; go_simp; try with_reducible rfl)
                try simp only [put_laws]
                refine wpAnyT_take (i := 22) (v := ?_) rfl (by kernel_rfl) (by kernel_rfl) (by kernel_rfl) (by kernel_rfl) (by kernel_rfl) (fun _ _ _ h => h) (.inl ⟨by kernel_rfl, ?_⟩) hS ?_
                rotate_left
                · (intro w' hw; have c0 := (HCr.out.below' hw).cell 0; have c1 := (HCr.out.below' hw).cell 1; have c2 := (HCr.out.below' hw).cell 2; have c3 := (HCr.out.below' hw).cell 3; have c4 := (HCr.out.below' hw).cell 4; have l0 := (HLr.out.below' hw).cell 0; have l1 := (HLr.out.below' hw).cell 1; have l2 := (HLr.out.below' hw).cell 2; have l4 := (HLr.out.below' hw).cell 4; have e1 := HCI.out w' hw; go_simp; try with_reducible rfl)
                try simp only [put_laws]
                refine wpAnyT_one (i := 23) (by kernel_rfl) rfl ?_
                intro K' hK'
                go_simp
                refine (HC23.out _ (HW.out.trans (Below.mono hS HW.out.size))).mono ?_
                rintro e w8 ⟨rfl, hb8⟩
                have hS' := Below.trans hS (Below.mono hb8 (Below.size hS))
                clear hS
                have hS := hS'
                clear hS' hb8
                refine hK'.out _ _ (.inr hS) ?_
                clear hK' K'
                try simp only [put_laws]
                refine wpAnyT_one (i := 24) (by kernel_rfl) rfl ?_
                intro K' hK'
                go_simp
                refine hK'.out _ _ (.inr hS) ?_
                clear hK' K'
                try simp only [put_laws]
                refine wpAnyT_one (i := 25) (by kernel_rfl) rfl ?_
                intro K' hK'
                go_simp
                refine hK'.out _ _ (.inr hS) ?_
                clear hK' K'
                try simp only [put_laws]
                refine wpAnyT_one (i := 26) (by kernel_rfl) rfl ?_
                intro K' hK'
                go_simp
                refine hK'.out _ _ (.inr hS) ?_
                clear hK' K'
                try simp only [put_laws]
                refine wpAnyT_one (i := 27) (by kernel_rfl) rfl ?_
                intro K' hK'
                go_simp
                refine hK'.out _ _ (.inr hS) ?_
                clear hK' K'
                try simp only [put_laws]
                refine wpAnyT_one (i := 28) (by kernel_rfl) rfl ?_
                intro K' hK'
                go_simp
                refine hK'.out _ _ (.inr hS) ?_
                clear hK' K'
                try simp only [put_laws]
                refine wpAnyT_one (i := 29) (by kernel_rfl) rfl ?_
                intro K' hK'
                go_simp
                refine hK'.out _ _ (.inr hS) ?_
                clear hK' K'
                try simp only [put_laws]
                refine wpAnyT_take (i := 30) (v := undef) rfl (by kernel_rfl) (by kernel_rfl) (by kernel_rfl) (by kernel_rfl) (by kernel_rfl) (fun _ _ _ h => h) (.inr ⟨by kernel_rfl, rfl⟩) hS ?_
                refine wpAnyT_take (i := 31) (v := undef) rfl (by kernel_rfl) (by kernel_rfl) (by kernel_rfl) (by kernel_rfl) (by kernel_rfl) (fun _ _ _ h => h) (.inr ⟨by kernel_rfl, rfl⟩) hS ?_
                refine wpAnyT_take (i := 32) (v := undef) rfl (by kernel_rfl) (by kernel_rfl) (by kernel_rfl) (by kernel_rfl) (by kernel_rfl) (fun _ _ _ h => h) (.inr ⟨by kernel_rfl, rfl⟩) hS ?_
                refine wpAnyT_take (i := 33) (v := undef) rfl (by kernel_rfl) (by kernel_rfl) (by kernel_rfl) (by kernel_rfl) (by kernel_rfl) (fun _ _ _ h => h) (.inr ⟨by kernel_rfl, rfl⟩) hS ?_
                refine wpAnyT_take (i := 34) (v := undef) rfl (by kernel_rfl) (by kernel_rfl) (by kernel_rfl) (by kernel_rfl) (by kernel_rfl) (fun _ _ _ h => h) (.inr ⟨by kernel_rfl, rfl⟩) hS ?_
                refine wpAnyT_take (i := 35) (v := undef) rfl (by kernel_rfl) (by kernel_rfl) (by kernel_rfl) (by kernel_rfl) (by kernel_rfl) (fun _ _ _ h => h) (.inr ⟨by kernel_rfl, rfl⟩) hS ?_
                refine wpAnyT_take (i := 36) (v := undef) rfl (by kernel_rfl) (by kernel_rfl) (by kernel_rfl) (by kernel_rfl) (by kernel_rfl) (fun _ _ _ h => h) (.inr ⟨by kernel_rfl, rfl⟩) hS ?_
                refine wpAnyT_take (i := 37) (v := undef) rfl (by kernel_rfl) (by kernel_rfl) (by kernel_rfl) (by kernel_rfl) (by kernel_rfl) (fun _ _ _ h => h) (.inr ⟨by kernel_rfl, rfl⟩) hS ?_
                refine wpAnyT_take (i := 38) (v := undef) rfl (by kernel_rfl) (by kernel_rfl) (by kernel_rfl) (by kernel_rfl) (by kernel_rfl) (fun _ _ _ h => h) (.inr ⟨by kernel_rfl, rfl⟩) hS ?_
                refine wpAnyT_take (i := 39) (v := undef) rfl (by kernel_rfl) (by kernel_rfl) (by kernel_rfl) (by kernel_rfl) (by kernel_rfl) (fun _ _ _ h => h) (.inr ⟨by kernel_rfl, rfl⟩) hS ?_
                refine wpAnyT_take (i := 40) (v := undef) rfl (by kernel_rfl) (by kernel_rfl) (by kernel_rfl) (by kernel_rfl) (by kernel_rfl) (fun _ _ _ h => h) (.inr ⟨by kernel_rfl, rfl⟩) hS ?_
                refine wpAnyT_take (i := 41) (v := undef) rfl (by kernel_rfl) (by kernel_rfl) (by kernel_rfl) (by kernel_rfl) (by kernel_rfl) (fun _ _ _ h => h) (.inr ⟨by kernel_rfl, rfl⟩) hS ?_
                try simp only [put_laws]
                refine wpAnyT_one (i := 42) (by kernel_rfl) rfl ?_
                intro K' hK'
                go_simp
                refine hK'.out _ _ (.inr hS) ?_
                clear hK' K'
                try simp only [put_laws]
                refine wpAnyT_one (i := 43) (by kernel_rfl) rfl ?_
                intro K' hK'
                go_simp
                refine hK'.out _ _ (.inr hS) ?_
                clear hK' K'
                try simp only [put_laws]
                refine wpAnyT_one (i := 44) (by kernel_rfl) rfl ?_
                intro K' hK'
                go_simp
                refine hK'.out _ _ (.inr hS) ?_
                clear hK' K'
                try simp only [put_laws]
                refine wpAnyT_one (i := 45) (by kernel_rfl) rfl ?_
                intro K' hK'
                go_simp
                refine hK'.out _ _ (.inl rfl) ?_
                clear hK' K'
                try simp only [put_laws]
                refine wpAnyT_done (by kernel_rfl) ?_ _
                go_wp2_with fail
                go_roundw
                case rel => exact ⟨i + 1, by omega, by go_num, Lib.hid (by rw [HNS.out, HF.out, HST.out]; rfl), HWX.out.trans (Below.mono hS hz)⟩
                case measure => simp [intOf]; omega
              · obtain ⟨j, hj⟩ : ∃ j, i = j + 1 := ⟨i - 1, by omega⟩
                have HSJ := M.allTo_iff.1 HF.out j (by omega)
                unfold M.legStep at HSJ
                simp only [Bool.and_eq_true, M.inB_iff] at HSJ
                obtain ⟨q', hq'⟩ : ∃ q : Nat, l.c j = (q : Int) := ⟨(l.c j).toNat, by omega⟩
                have hqn' : q' < s.nd := by omega
                have HCJ := Lib.hid (fun W (hb : Below wr.heap.size wr W) => HCW.out W hb j (by omega))
                rw [hq'] at HCJ
                have HTJ := Lib.hid (show (l.c (i - 1)).toNat = q' by rw [hj, Nat.add_sub_cancel]; omega)
                rw [HTJ.out] at HLS
                have HI0 := Lib.hid (show (i == 0) = false by rw [hj]; rfl)
                rw [HI0.out, Bool.false_or] at HLS
                have HC42 := Lib.hid (fun W => HNX.out W q' q hqn')
                have hwj : IntKind.i64.wrap ((i : Int) - 1) = (j : Int) := by rw [IntKind.wrap_i64]; omega
                have j1 : (j : Int) < (l.n : Int) := by omega
                have gi : decide (0 < i) = true := decide_eq_true hpos
                have gi2 : decide ((0 : Int) < (i : Int)) = true := decide_eq_true (by omega)
                clear HSJ hq' hj hpos
                obtain ⟨nv, hnv⟩ : ∃ nv, nv = M.adj s.W s.H q' q := ⟨_, rfl⟩
                rw [← hnv] at HC42 HLS
                clear hnv
                refine wp_region_T 45 (fun w' => Below wr.heap.size wr w') (by kernel_rfl) (Below.refl _ _).drew ?_
                intro hS
                refine wpAnyT_take (i := 0) (v := ?_) rfl (by kernel_rfl) (by kernel_rfl) (by kernel_rfl) (by kernel_rfl) (by kernel_rfl) (fun _ _ _ h => h) (.inl ⟨by kernel_rfl, ?_⟩) hS ?_
                rotate_left
                · (intro w' hw; have c0 := (HCr.out.below' hw).cell 0; have c1 := (HCr.out.below' hw).cell 1; have c2 := (HCr.out.below' hw).cell 2; have c3 := (HCr.out.below' hw).cell 3; have c4 := (HCr.out.below' hw).cell 4; have l0 := (HLr.out.below' hw).cell 0; have l1 := (HLr.out.below' hw).cell 1; have l2 := (HLr.out.below' hw).cell 2; have l4 := (HLr.out.below' hw).cell 4; have e1 := HCI.out w' hw; have e2 := HCJ.out w' hw; go_simp; try with_reducible rfl)
                try simp only [put_laws]
                refine wpAnyT_take (i := 1) (v := ?_) rfl (by kernel_rfl) (by kernel_rfl) (by kernel_rfl) (by kernel_rfl) (by kernel_rfl) (fun _ _ _ h => h) (.inl ⟨by kernel_rfl, ?_⟩) hS ?_
                rotate_left
                · (intro w' hw; have c0 := (HCr.out.below' hw).cell 0; have c1 := (HCr.out.below' hw).cell 1; have c2 := (HCr.out.below' hw).cell 2; have c3 := (HCr.out.below' hw).cell 3; have c4 := (HCr.out.below' hw).cell 4; have l0 := (HLr.out.below' hw).cell 0; have l1 := (HLr.out.below' hw).cell 1; have l2 := (HLr.out.below' hw).cell 2; have l4 := (HLr.out.below' hw).cell 4; have e1 := HCI.out w' hw; have e2 := HCJ.out w' hw; go_simp; try with_reducible rfl)
                try simp only [put_laws]
                refine wpAnyT_take (i := 2) (v := ?_) rfl (by kernel_rfl) (by kernel_rfl) (by kernel_rfl) (by kernel_rfl) (by kernel_rfl) (fun _ _ _ h => h) (.inl ⟨by kernel_rfl, ?_⟩) hS ?_
                rotate_left
                · (intro w' hw; have c0 := (HCr.out.below' hw).cell 0; have c1 := (HCr.out.below' hw).cell 1; have c2 := (HCr.out.below' hw).cell 2; have c3 := (HCr.out.below' hw).cell 3; have c4 := (HCr.out.below' hw).cell 4; have l0 := (HLr.out.below' hw).cell 0; have l1 := (HLr.out.below' hw).cell 1; have l2 := (HLr.out.below' hw).cell 2; have l4 := (HLr.out.below' hw).cell 4; have e1 := HCI.out w' hw; have e2 := HCJ.out w' hw; go_simp; try with_reducible rfl)
                try simp only [put_laws]
                refine wpAnyT_take (i := 3) (v := ?_) rfl (by kernel_rfl) (by kernel_rfl) (by kernel_rfl) (by kernel_rfl) (by kernel_rfl) (fun _ _ _ h => h) (.inl ⟨by kernel_rfl, ?_⟩) hS ?_
                rotate_left
                · (intro w' hw; have c0 := (HCr.out.below' hw).cell 0; have c1 := (HCr.out.below' hw).cell 1; have c2 := (HCr.out.below' hw).cell 2; have c3 := (HCr.out.below' hw).cell 3; have c4 := (HCr.out.below' hw).cell 4; have l0 := (HLr.out.below' hw).cell 0; have l1 := (HLr.out.below' hw).cell 1; have l2 := (HLr.out.below' hw).cell 2; have l4 := (HLr.out.below' hw).cell 4; have e1 := HCI.out w' hw; have e2 := HCJ.out w' hw; go_simp; try with_reducible rfl)
                try simp only [put_laws]
                refine wpAnyT_take (i := 4) (v := ?_) rfl (by kernel_rfl) (by kernel_rfl) (by kernel_rfl) (by kernel_rfl) (by kernel_rfl) (fun _ _ _ h => h) (.inl ⟨by kernel_rfl, ?_⟩) hS ?_
                rotate_left
                · (intro w' hw; have c0 := (HCr.out.below' hw).cell 0; have c1 := (HCr.out.below' hw).cell 1; have c2 := (HCr.out.below' hw).cell 2; have c3 := (HCr.out.below' hw).cell 3; have c4 := (HCr.out.below' hw).cell 4; have l0 := (HLr.out.below' hw).cell 0; have l1 := (HLr.out.below' hw).cell 1; have l2 := (HLr.out.below' hw).cell 2; have l4 := (HLr.out.below' hw).cell 4; have e1 := HCI.out w' hw; have e2 := HCJ.out w' hw; go_simp; try with_reducible rfl)
                try simp only [put_laws]
                refine wpAnyT_take (i := 5) (v := ?_) rfl (by kernel_rfl) (by kernel_rfl) (by kernel_rfl) (by kernel_rfl) (by kernel_rfl) (fun _ _ _ h => h) (.inl ⟨by kernel_rfl, ?_⟩) hS ?_
                rotate_left
                · (intro w' hw; have c0 := (HCr.out.below' hw).cell 0; have c1 := (HCr.out.below' hw).cell 1; have c2 := (HCr.out.below' hw).cell 2; have c3 := (HCr.out.below' hw).cell 3; have c4 := (HCr.out.below' hw).cell 4; have l0 := (HLr.out.below' hw).cell 0; have l1 := (HLr.out.below' hw).cell 1; have l2 := (HLr.out.below' hw).cell 2; have l4 := (HLr.out.below' hw).cell 4; have e1 := HCI.out w' hw; have e2 := HCJ.out w' hw; go_simp; try with_reducible rfl)
                try simp only [put_laws]
                refine wpAnyT_one (i := 6) (by kernel_rfl) rfl ?_
                intro K' hK'
                go_simp
                refine (HC6.out _).mono ?_
                rintro e w8 ⟨rfl, hb8⟩
                have hS' := Below.trans hS (Below.mono hb8 (Below.size hS))
                clear hS
                have hS := hS'
                clear hS' hb8
                refine hK'.out _ _ (.inr hS) ?_
                clear hK' K'
                try simp only [put_laws]
                refine wpAnyT_one (i := 7) (by kernel_rfl) rfl ?_
                intro K' hK'
                go_simp
                refine hK'.out _ _ (.inr hS) ?_
                clear hK' K'
                try simp only [put_laws]
                refine wpAnyT_one (i := 8) (by kernel_rfl) rfl ?_
                intro K' hK'
                go_simp
                refine hK'.out _ _ (.inr hS) ?_
                clear hK' K'
                try simp only [put_laws]
                refine wpAnyT_take (i := 9) (v := ?_) rfl (by kernel_rfl) (by kernel_rfl) (by kernel_rfl) (by kernel_rfl) (by kernel_rfl) (fun _ _ _ h => h) (.inl ⟨by kernel_rfl, ?_⟩) hS ?_
                rotate_left
                · (intro w' hw; have c0 := (HCr.out.below' hw).cell 0; have c1 := (HCr.out.below' hw).cell 1; have c2 := (HCr.out.below' hw).cell 2; have c3 := (HCr.out.below' hw).cell 3; have c4 := (HCr.out.below' hw).cell 4; have l0 := (HLr.out.below' hw).cell 0; have l1 := (HLr.out.below' hw).cell 1; have l2 := (HLr.out.below' hw).cell 2; have l4 := (HLr.out.below' hw).cell 4; have e1 := HCI.out w' hw; have e2 := HCJ.out w' hw; go_simp; try with_reducible rfl)
                try simp only [put_laws]
                refine wpAnyT_take (i := 10) (v := ?_) rfl (by kernel_rfl) (by kernel_rfl) (by kernel_rfl) (by kernel_rfl) (by kernel_rfl) (fun _ _ _ h => h) (.inl ⟨by kernel_rfl, ?_⟩) hS ?_
                rotate_left
                · (intro w' hw; have c0 := (HCr.out.below' hw).cell 0; have c1 := (HCr.out.below' hw).cell 1; have c2 := (HCr.out.below' hw).cell 2; have c3 := (HCr.out.below' hw).cell 3; have c4 := (HCr.out.below' hw).cell 4; have l0 := (HLr.out.below' hw).cell 0; have l1 := (HLr.out.below' hw).cell 1; have l2 := (HLr.out.below' hw).cell 2; have l4 := (HLr.out.below' hw).cell 4; have e1 := HCI.out w' hw; have e2 := HCJ.out w' hw; go_simp; try with_reducible rfl)
                try simp only [put_laws]
                refine wpAnyT_take (i := 11) (v := ?_) rfl (by kernel_rfl) (by kernel_rfl) (by kernel_rfl) (by kernel_rfl) (by kernel_rfl) (fun _ _ _ h => h) (.inl ⟨by kernel_rfl, ?_⟩) hS ?_
                rotate_left
                · (intro w' hw; have c0 := (HCr.out.below' hw).cell 0; have c1 := (HCr.out.below' hw).cell 1; have c2 := (HCr.out.below' hw).cell 2; have c3 := (HCr.out.below' hw).cell 3; have c4 := (HCr.out.below' hw).cell 4; have l0 := (HLr.out.below' hw).cell 0; have l1 := (HLr.out.below' hw).cell 1; have l2 := (HLr.out.below' hw).cell 2; have l4 := (HLr.out.below' hw).cell 4; have e1 := HCI.out w' hw; have e2 := HCJ.out w' hw; go_simp; try with_reducible rfl)
                try simp only [put_laws]
                refine wpAnyT_take (i := 12) (v := ?_) rfl (by kernel_rfl) (by kernel_rfl) (by kernel_rfl) (by kernel_rfl) (by kernel_rfl) (fun _ _ _ h => h) (.inl ⟨by kernel_rfl, ?_⟩) hS ?_
                rotate_left
                · (intro w' hw; have c0 := (HCr.out.below' hw).cell 0; have c1 := (HCr.out.below' hw).cell 1; have c2 := (HCr.out.below' hw).cell 2; have c3 := (HCr.out.below' hw).cell 3; have c4 := (HCr.out.below' hw).cell 4; have l0 := (HLr.out.below' hw).cell 0; have l1 := (HLr.out.below' hw).cell 1; have l2 := (HLr.out.below' hw).cell 2; have l4 := (HLr.out.below' hw).cell 4; have e1 := HCI.out w' hw; have e2 := HCJ.out w' hw; go_simp; try with_reducible rfl)
                try simp only [put_laws]
                refine wpAnyT_take (i := 13) (v := ?_) rfl (by kernel_rfl) (by kernel_rfl) (by kernel_rfl) (by kernel_rfl) (by kernel_rfl) (fun _ _ _ h => h) (.inl ⟨by kernel_rfl, ?_⟩) hS ?_
                rotate_left
                · (intro w' hw; have c0 := (HCr.out.below' hw).cell 0; have c1 := (HCr.out.below' hw).cell 1; have c2 := (HCr.out.below' hw).cell 2; have c3 := (HCr.out.below' hw).cell 3; have c4 := (HCr.out.below' hw).cell 4; have l0 := (HLr.out.below' hw).cell 0; have l1 := (HLr.out.below' hw).cell 1; have l2 := (HLr.out.below' hw).cell 2; have l4 := (HLr.out.below' hw).cell 4; have e1 := HCI.out w' hw; have e2 := HCJ.out w' hw; go_simp; try with_reducible rfl)
                try simp only [put_laws]
                refine wpAnyT_take (i := 14) (v := ?_) rfl (by kernel_rfl) (by kernel_rfl) (by kernel_rfl) (by kernel_rfl) (by kernel_rfl) (fun _ _ _ h => h) (.inl ⟨by kernel_rfl, ?_⟩) hS ?_
                rotate_left
                · (intro w' hw; have c0 := (HCr.out.below' hw).cell 0; have c1 := (HCr.out.below' hw).cell 1; have c2 := (HCr.out.below' hw).cell 2; have c3 := (HCr.out.below' hw).cell 3; have c4 := (HCr.out.below' hw).cell 4; have l0 := (HLr.out.below' hw).cell 0; have l1 := (HLr.out.below' hw).cell 1; have l2 := (HLr.out.below' hw).cell 2; have l4 := (HLr.out.below' hw).cell 4; have e1 := HCI.out w' hw; have e2 := HCJ.out w' hw; go_simp; try with_reducible rfl)
                try simp only [put_laws]
                refine wpAnyT_take (i := 15) (v := ?_) rfl (by kernel_rfl) (by kernel_rfl) (by kernel_rfl) (by kernel_rfl) (by kernel_rfl) (fun _ _ _ h => h) (.inl ⟨by kernel_rfl, ?_⟩) hS ?_
                rotate_left
                · (intro w' hw; have c0 := (HCr.out.below' hw).cell 0; have c1 := (HCr.out.below' hw).cell 1; have c2 := (HCr.out.below' hw).cell 2; have c3 := (HCr.out.below' hw).cell 3; have c4 := (HCr.out.below' hw).cell 4; have l0 := (HLr.out.below' hw).cell 0; have l1 := (HLr.out.below' hw).cell 1; have l2 := (HLr.out.below' hw).cell 2; have l4 := (HLr.out.below' hw).cell 4; have e1 := HCI.out w' hw; have e2 := HCJ.out w' hw; go_simp; try with_reducible rfl)
                try simp only [put_laws]
                refine wpAnyT_take (i := 16) (v := ?_) rfl (by kernel_rfl) (by kernel_rfl) (by kernel_rfl) (by kernel_rfl) (by kernel_rfl) (fun _ _ _ h => h) (.inl ⟨by kernel_rfl, ?_⟩) hS ?_
                rotate_left
                · (intro w' hw; have c0 := (HCr.out.below' hw).cell 0; have c1 := (HCr.out.below' hw).cell 1; have c2 := (HCr.out.below' hw).cell 2; have c3 := (HCr.out.below' hw).cell 3; have c4 := (HCr.out.below' hw).cell 4; have l0 := (HLr.out.below' hw).cell 0; have l1 := (HLr.out.below' hw).cell 1; have l2 := (HLr.out.below' hw).cell 2; have l4 := (HLr.out.below' hw).cell 4; have e1 := HCI.out w' hw; have e2 := HCJ.out w' hw; go_simp; try with_reducible rfl)
                try simp only [put_laws]
                refine wpAnyT_take (i := 17) (v := ?_) rfl (by kernel_rfl) (by kernel_rfl) (by kernel_rfl) (by kernel_rfl) (by kernel_rfl) (fun _ _ _ h => h) (.inl ⟨by kernel_rfl, ?_⟩) hS ?_
                rotate_left
                · (intro w' hw; have c0 := (HCr.out.below' hw).cell 0; have c1 := (HCr.out.below' hw).cell 1; have c2 := (HCr.out.below' hw).cell 2; have c3 := (HCr.out.below' hw).cell 3; have c4 := (HCr.out.below' hw).cell 4; have l0 := (HLr.out.below' hw).cell 0; have l1 := (HLr.out.below' hw).cell 1; have l2 := (HLr.out.below' hw).cell 2; have l4 := (HLr.out.below' hw).cell 4; have e1 := HCI.out w' hw; have e2 := HCJ.out w' hw; go_simp; try with_reducible rfl)
                try simp only [put_laws]
                refine wpAnyT_take (i := 18) (v := ?_) rfl (by kernel_rfl) (by kernel_rfl) (by kernel_rfl) (by kernel_rfl) (by kernel_rfl) (fun _ _ _ h => h) (.inl ⟨by kernel_rfl, ?_⟩) hS ?_
                rotate_left
                · (intro w' hw; have c0 := (HCr.out.below' hw).cell 0; have c1 := (HCr.out.below' hw).cell 1; have c2 := (HCr.out.below' hw).cell 2; have c3 := (HCr.out.below' hw).cell 3; have c4 := (HCr.out.below' hw).cell 4; have l0 := (HLr.out.below' hw).cell 0; have l1 := (HLr.out.below' hw).cell 1; have l2 := (HLr.out.below' hw).cell 2; have l4 := (HLr.out.below' hw).cell 4; have e1 := HCI.out w' hw; have e2 := HCJ.out w' hw; go_simp; try with_reducible rfl)
                try simp only [put_laws]
                refine wpAnyT_take (i := 19) (v := ?_) rfl (by kernel_rfl) (by kernel_rfl) (by kernel_rfl) (by kernel_rfl) (by kernel_rfl) (fun _ _ _ h => h) (.inl ⟨by kernel_rfl, ?_⟩) hS ?_
                rotate_left
                · (intro w' hw; have c0 := (HCr.out.below' hw).cell 0; have c1 := (HCr.out.below' hw).cell 1; have c2 := (HCr.out.below' hw).cell 2; have c3 := (HCr.out.below' hw).cell 3; have c4 := (HCr.out.below' hw).cell 4; have l0 := (HLr.out.below' hw).cell 0; have l1 := (HLr.out.below' hw).cell 1; have l2 := (HLr.out.below' hw).cell 2; have l4 := (HLr.out.below' hw).cell 4; have e1 := HCI.out w' hw; have e2 := HCJ.out w' hw; go_simp; try with_reducible rfl)
                try simp only [put_laws]
                refine wpAnyT_take (i := 20) (v := ?_) rfl (by kernel_rfl) (by kernel_rfl) (by kernel_rfl) (by kernel_rfl) (by kernel_rfl) (fun _ _ _ h => h) (.inl ⟨by kernel_rfl, ?_⟩) hS ?_
                rotate_left
                · (intro w' hw; have c0 := (HCr.out.below' hw).cell 0; have c1 := (HCr.out.below' hw).cell 1; have c2 := (HCr.out.below' hw).cell 2; have c3 := (HCr.out.below' hw).cell 3; have c4 := (HCr.out.below' hw).cell 4; have l0 := (HLr.out.below' hw).cell 0; have l1 := (HLr.out.below' hw).cell 1; have l2 := (HLr.out.below' hw).cell 2; have l4 := (HLr.out.below' hw).cell 4; have e1 := HCI.out w' hw; have e2 := HCJ.out w' hw; go_simp; try with_reducible rfl)
                try simp only [put_laws]
                refine wpAnyT_take (i := 21) (v := ?_) rfl (by kernel_rfl) (by kernel_rfl) (by kernel_rfl) (by kernel_rfl) (by kernel_rfl) (fun _ _ _ h => h) (.inl ⟨by kernel_rfl, ?_⟩) hS ?_
                rotate_left
                · (intro w' hw; have c0 := (HCr.out.below' hw).cell 0; have c1 := (HCr.out.below' hw).cell 1; have c2 := (HCr.out.below' hw).cell 2; have c3 := (HCr.out.below' hw).cell 3; have c4 := (HCr.out.below' hw).cell 4; have l0 := (HLr.out.below' hw).cell 0; have l1 := (HLr.out.below' hw).cell 1; have l2 := (HLr.out.below' hw).cell 2; have l4 := (HLr.out.below' hw).cell 4; have e1 := HCI.out w' hw; have e2 := HCJ.out w' hw; go_simp; try with_reducible rfl)
                try simp only [put_laws]
                refine wpAnyT_take (i := 22) (v := ?_) rfl (by kernel_rfl) (by kernel_rfl) (by kernel_rfl) (by kernel_rfl) (by kernel_rfl) (fun _ _ _ h => h) (.inl ⟨by kernel_rfl, ?_⟩) hS ?_
                rotate_left
                · (intro w' hw; have c0 := (HCr.out.below' hw).cell 0; have c1 := (HCr.out.below' hw).cell 1; have c2 := (HCr.out.below' hw).cell 2; have c3 := (HCr.out.below' hw).cell 3; have c4 := (HCr.out.below' hw).cell 4; have l0 := (HLr.out.below' hw).cell 0; have l1 := (HLr.out.below' hw).cell 1; have l2 := (HLr.out.below' hw).cell 2; have l4 := (HLr.out.below' hw).cell 4; have e1 := HCI.out w' hw; have e2 := HCJ.out w' hw; go_simp; try with_reducible rfl)
                try simp only [put_laws]
                refine wpAnyT_one (i := 23) (by kernel_rfl) rfl ?_
                intro K' hK'
                go_simp
                refine (HC23.out _ (HW.out.trans (Below.mono hS HW.out.size))).mono ?_
                rintro e w8 ⟨rfl, hb8⟩
                have hS' := Below.trans hS (Below.mono hb8 (Below.size hS))
                clear hS
                have hS := hS'
                clear hS' hb8
                refine hK'.out _ _ (.inr hS) ?_
                clear hK' K'
                try simp only [put_laws]
                refine wpAnyT_one (i := 24) (by kernel_rfl) rfl ?_
                intro K' hK'
                go_simp
                refine hK'.out _ _ (.inr hS) ?_
                clear hK' K'
                try simp only [put_laws]
                refine wpAnyT_one (i := 25) (by kernel_rfl) rfl ?_
                intro K' hK'
                go_simp
                refine hK'.out _ _ (.inr hS) ?_
                clear hK' K'
                try simp only [put_laws]
                refine wpAnyT_one (i := 26) (by kernel_rfl) rfl ?_
                intro K' hK'
                go_simp
                refine hK'.out _ _ (.inr hS) ?_
                clear hK' K'
                try simp only [put_laws]
                refine wpAnyT_one (i := 27) (by kernel_rfl) rfl ?_
                intro K' hK'
                go_simp
                refine hK'.out _ _ (.inr hS) ?_
                clear hK' K'
                try simp only [put_laws]
                refine wpAnyT_one (i := 28) (by kernel_rfl) rfl ?_
                intro K' hK'
                go_simp
                refine hK'.out _ _ (.inr hS) ?_
                clear hK' K'
                try simp only [put_laws]
                refine wpAnyT_one (i := 29) (by kernel_rfl) rfl ?_
                intro K' hK'
                go_simp
                refine hK'.out _ _ (.inr hS) ?_
                clear hK' K'
                try simp only [put_laws]
                refine wpAnyT_take (i := 30) (v := ?_) rfl (by kernel_rfl) (by kernel_rfl) (by kernel_rfl) (by kernel_rfl) (by kernel_rfl) (fun _ _ _ h => h) (.inl ⟨by kernel_rfl, ?_⟩) hS ?_
                rotate_left
                · (intro w' hw; have c0 := (HCr.out.below' hw).cell 0; have c1 := (HCr.out.below' hw).cell 1; have c2 := (HCr.out.below' hw).cell 2; have c3 := (HCr.out.below' hw).cell 3; have c4 := (HCr.out.below' hw).cell 4; have l0 := (HLr.out.below' hw).cell 0; have l1 := (HLr.out.below' hw).cell 1; have l2 := (HLr.out.below' hw).cell 2; have l4 := (HLr.out.below' hw).cell 4; have e1 := HCI.out w' hw; have e2 := HCJ.out w' hw; go_simp; try with_reducible rfl)
                try simp only [put_laws]
                refine wpAnyT_take (i := 31) (v := ?_) rfl (by kernel_rfl) (by kernel_rfl) (by kernel_rfl) (by kernel_rfl) (by kernel_rfl) (fun _ _ _ h => h) (.inl ⟨by kernel_rfl, ?_⟩) hS ?_
                rotate_left
                · (intro w' hw; have c0 := (HCr.out.below' hw).cell 0; have c1 := (HCr.out.below' hw).cell 1; have c2 := (HCr.out.below' hw).cell 2; have c3 := (HCr.out.below' hw).cell 3; have c4 := (HCr.out.below' hw).cell 4; have l0 := (HLr.out.below' hw).cell 0; have l1 := (HLr.out.below' hw).cell 1; have l2 := (HLr.out.below' hw).cell 2; have l4 := (HLr.out.below' hw).cell 4; have e1 := HCI.out w' hw; have e2 := HCJ.out w' hw; go_simp; try with_reducible rfl)
                try simp only [put_laws]
                refine wpAnyT_take (i := 32) (v := ?_) rfl (by kernel_rfl) (by kernel_rfl) (by kernel_rfl) (by kernel_rfl) (by kernel_rfl) (fun _ _ _ h => h) (.inl ⟨by kernel_rfl, ?_⟩) hS ?_
                rotate_left
                · (intro w' hw; have c0 := (HCr.out.below' hw).cell 0; have c1 := (HCr.out.below' hw).cell 1; have c2 := (HCr.out.below' hw).cell 2; have c3 := (HCr.out.below' hw).cell 3; have c4 := (HCr.out.below' hw).cell 4; have l0 := (HLr.out.below' hw).cell 0; have l1 := (HLr.out.below' hw).cell 1; have l2 := (HLr.out.below' hw).cell 2; have l4 := (HLr.out.below' hw).cell 4; have e1 := HCI.out w' hw; have e2 := HCJ.out w' hw; go_simp; try with_reducible rfl)
                try simp only [put_laws]
                refine wpAnyT_take (i := 33) (v := ?_) rfl (by kernel_rfl) (by kernel_rfl) (by kernel_rfl) (by kernel_rfl) (by kernel_rfl) (fun _ _ _ h => h) (.inl ⟨by kernel_rfl, ?_⟩) hS ?_
                rotate_left
                · (intro w' hw; have c0 := (HCr.out.below' hw).cell 0; have c1 := (HCr.out.below' hw).cell 1; have c2 := (HCr.out.below' hw).cell 2; have c3 := (HCr.out.below' hw).cell 3; have c4 := (HCr.out.below' hw).cell 4; have l0 := (HLr.out.below' hw).cell 0; have l1 := (HLr.out.below' hw).cell 1; have l2 := (HLr.out.below' hw).cell 2; have l4 := (HLr.out.below' hw).cell 4; have e1 := HCI.out w' hw; have e2 := HCJ.out w' hw; go_simp; try with_reducible rfl)
                try simp only [put_laws]
                refine wpAnyT_take (i := 34) (v := ?_) rfl (by kernel_rfl) (by kernel_rfl) (by kernel_rfl) (by kernel_rfl) (by kernel_rfl) (fun _ _ _ h => h) (.inl ⟨by kernel_rfl, ?_⟩) hS ?_
                rotate_left
                · (intro w' hw; have c0 := (HCr.out.below' hw).cell 0; have c1 := (HCr.out.below' hw).cell 1; have c2 := (HCr.out.below' hw).cell 2; have c3 := (HCr.out.below' hw).cell 3; have c4 := (HCr.out.below' hw).cell 4; have l0 := (HLr.out.below' hw).cell 0; have l1 := (HLr.out.below' hw).cell 1; have l2 := (HLr.out.below' hw).cell 2; have l4 := (HLr.out.below' hw).cell 4; have e1 := HCI.out w' hw; have e2 := HCJ.out w' hw; go_simp; try with_reducible rfl)
                try simp only [put_laws]
                refine wpAnyT_take (i := 35) (v := ?_) rfl (by kernel_rfl) (by kernel_rfl) (by kernel_rfl) (by kernel_rfl) (by kernel_rfl) (fun _ _ _ h => h) (.inl ⟨by kernel_rfl, ?_⟩) hS ?_
                rotate_left
                · (intro w' hw; have c0 := (HCr.out.below' hw).cell 0; have c1 := (HCr.out.below' hw).cell 1; have c2 := (HCr.out.below' hw).cell 2; have c3 := (HCr.out.below' hw).cell 3; have c4 := (HCr.out.below' hw).cell 4; have l0 := (HLr.out.below' hw).cell 0; have l1 := (HLr.out.below' hw).cell 1; have l2 := (HLr.out.below' hw).cell 2; have l4 := (HLr.out.below' hw).cell 4; have e1 := HCI.out w' hw; have e2 := HCJ.out w' hw; go_simp; try with_reducible rfl)
                try simp only [put_laws]
                refine wpAnyT_take (i := 36) (v := ?_) rfl (by kernel_rfl) (by kernel_rfl) (by kernel_rfl) (by kernel_rfl) (by kernel_rfl) (fun _ _ _ h => h) (.inl ⟨by kernel_rfl, ?_⟩) hS ?_
                rotate_left
                · (intro w' hw; have c0 := (HCr.out.below' hw).cell 0; have c1 := (HCr.out.below' hw).cell 1; have c2 := (HCr.out.below' hw).cell 2; have c3 := (HCr.out.below' hw).cell 3; have c4 := (HCr.out.below' hw).cell 4; have l0 := (HLr.out.below' hw).cell 0; have l1 := (HLr.out.below' hw).cell 1; have l2 := (HLr.out.below' hw).cell 2; have l4 := (HLr.out.below' hw).cell 4; have e1 := HCI.out w' hw; have e2 := HCJ.out w' hw; go_simp; try with_reducible rfl)
                try simp only [put_laws]
                refine wpAnyT_take (i := 37) (v := ?_) rfl (by kernel_rfl) (by kernel_rfl) (by kernel_rfl) (by kernel_rfl) (by kernel_rfl) (fun _ _ _ h => h) (.inl ⟨by kernel_rfl, ?_⟩) hS ?_
                rotate_left
                · (intro w' hw; have c0 := (HCr.out.below' hw).cell 0; have c1 := (HCr.out.below' hw).cell 1; have c2 := (HCr.out.below' hw).cell 2; have c3 := (HCr.out.below' hw).cell 3; have c4 := (HCr.out.below' hw).cell 4; have l0 := (HLr.out.below' hw).cell 0; have l1 := (HLr.out.below' hw).cell 1; have l2 := (HLr.out.below' hw).cell 2; have l4 := (HLr.out.below' hw).cell 4; have e1 := HCI.out w' hw; have e2 := HCJ.out w' hw; go_simp; try with_reducible rfl)
                try simp only [put_laws]
                refine wpAnyT_take (i := 38) (v := ?_) rfl (by kernel_rfl) (by kernel_rfl) (by kernel_rfl) (by kernel_rfl) (by kernel_rfl) (fun _ _ _ h => h) (.inl ⟨by kernel_rfl, ?_⟩) hS ?_
                rotate_left
                · (intro w' hw; have c0 := (HCr.out.below' hw).cell 0; have c1 := (HCr.out.below' hw).cell 1; have c2 := (HCr.out.below' hw).cell 2; have c3 := (HCr.out.below' hw).cell 3; have c4 := (HCr.out.below' hw).cell 4; have l0 := (HLr.out.below' hw).cell 0; have l1 := (HLr.out.below' hw).cell 1; have l2 := (HLr.out.below' hw).cell 2; have l4 := (HLr.out.below' hw).cell 4; have e1 := HCI.out w' hw; have e2 := HCJ.out w' hw; go_simp; try with_reducible rfl)
                try simp only [put_laws]
                refine wpAnyT_take (i := 39) (v := ?_) rfl (by kernel_rfl) (by kernel_rfl) (by kernel_rfl) (by kernel_rfl) (by kernel_rfl) (fun _ _ _ h => h) (.inl ⟨by kernel_rfl, ?_⟩) hS ?_
                rotate_left
                · (intro w' hw; have c0 := (HCr.out.below' hw).cell 0; have c1 := (HCr.out.below' hw).cell 1; have c2 := (HCr.out.below' hw).cell 2; have c3 := (HCr.out.below' hw).cell 3; have c4 := (HCr.out.below' hw).cell 4; have l0 := (HLr.out.below' hw).cell 0; have l1 := (HLr.out.below' hw).cell 1; have l2 := (HLr.out.below' hw).cell 2; have l4 := (HLr.out.below' hw).cell 4; have e1 := HCI.out w' hw; have e2 := HCJ.out w' hw; go_simp; try with_reducible rfl)
                try simp only [put_laws]
                refine wpAnyT_take (i := 40) (v := ?_) rfl (by kernel_rfl) (by kernel_rfl) (by kernel_rfl) (by kernel_rfl) (by kernel_rfl) (fun _ _ _ h => h) (.inl ⟨by kernel_rfl, ?_⟩) hS ?_
                rotate_left
                · (intro w' hw; have c0 := (HCr.out.below' hw).cell 0; have c1 := (HCr.out.below' hw).cell 1; have c2 := (HCr.out.below' hw).cell 2; have c3 := (HCr.out.below' hw).cell 3; have c4 := (HCr.out.below' hw).cell 4; have l0 := (HLr.out.below' hw).cell 0; have l1 := (HLr.out.below' hw).cell 1; have l2 := (HLr.out.below' hw).cell 2; have l4 := (HLr.out.below' hw).cell 4; have e1 := HCI.out w' hw; have e2 := HCJ.out w' hw; go_simp; try with_reducible rfl)
                try simp only [put_laws]
                refine wpAnyT_take (i := 41) (v := ?_) rfl (by kernel_rfl) (by kernel_rfl) (by kernel_rfl) (by kernel_rfl) (by kernel_rfl) (fun _ _ _ h => h) (.inl ⟨by kernel_rfl, ?_⟩) hS ?_
                rotate_left
                · (intro w' hw; have c0 := (HCr.out.below' hw).cell 0; have c1 := (HCr.out.below' hw).cell 1; have c2 := (HCr.out.below' hw).cell 2; have c3 := (HCr.out.below' hw).cell 3; have c4 := (HCr.out.below' hw).cell 4; have l0 := (HLr.out.below' hw).cell 0; have l1 := (HLr.out.below' hw).cell 1; have l2 := (HLr.out.below' hw).cell 2; have l4 := (HLr.out.below' hw).cell 4; have e1 := HCI.out w' hw; have e2 := HCJ.out w' hw; go_simp; try with_reducible rfl)
                try simp only [put_laws]
                refine wpAnyT_one (i := 42) (by kernel_rfl) rfl ?_
                intro K' hK'
                go_simp
                refine (HC42.out _).mono ?_
                rintro e w8 ⟨rfl, hb8⟩
                have hS' := Below.trans hS (Below.mono hb8 (Below.size hS))
                clear hS
                have hS := hS'
                clear hS' hb8
                refine hK'.out _ _ (.inr hS) ?_
                clear hK' K'
                try simp only [put_laws]
                refine wpAnyT_one (i := 43) (by kernel_rfl) rfl ?_
                intro K' hK'
                go_simp
                refine hK'.out _ _ (.inr hS) ?_
                clear hK' K'
                try simp only [put_laws]
                refine wpAnyT_one (i := 44) (by kernel_rfl) rfl ?_
                intro K' hK'
                go_simp
                refine hK'.out _ _ (.inr hS) ?_
                clear hK' K'
                try simp only [put_laws]
                refine wpAnyT_one (i := 45) (by kernel_rfl) rfl ?_
                intro K' hK'
                go_simp
                refine hK'.out _ _ (.inl rfl) ?_
                clear hK' K'
                try simp only [put_laws]
                refine wpAnyT_done (by kernel_rfl) ?_ _
                cases nv
                · have HEF := Lib.hid (HNO.out HLS.out)
                  go_wp2_with fail
                  go_ret
                  exact ⟨ret_bool HEF.out.symm, HW.out.trans (Below.mono hS HW.out.size)⟩
                · have HST := Lib.hid HLS.out
                  go_wp2_with fail
                  go_roundw
                  case rel => exact ⟨i + 1, by omega, by go_num, Lib.hid (by rw [HNS.out, HF.out, HST.out]; rfl), HWX.out.trans (Below.mono hS hz)⟩
                  case measure => simp [intOf]; omega
        · obtain rfl : i = l.n := by omega
          go_wp2_with fail
          go_ret
          exact ⟨ret_bool (by rw [HP.out, HF.out]), HW.out⟩
    · have HF := Lib.hid (show R = false by
        rw [HOK.out]
        cases hh : (M.unit l.lv l.dr && decide (0 < l.n) && decide (0 ≤ l.at_) && decide (l.n ≤ s.nt) && decide (l.at_ ≤ (s.nt : Int) - l.n) && M.allTo l.n (M.legStep s l))
        · rfl
        · simp only [Bool.and_eq_true, decide_eq_true_eq] at hh
          exact absurd ⟨hh.1.1.1.1.2, hh.1.1.1.2, hh.1.1.2, by omega⟩ hp)
      by_cases p1 : l.n = 0
      · have q1 : ((l.n : Int) == 0) = true := by rw [beq_iff_eq]; omega
        clear hp p1
        go_enter Tryd.func39, Tryd.ntmps39
        go_upto_region 1 with fail
        rw [← HXe.out]
        go_wp2_with (go_at_call 34; refine (runit_any _ _ _).mono ?_; rw [HU.out]; rintro e w1 ⟨rfl, rfl⟩)
        go_ret
        exact ⟨ret_bool HF.out.symm, HB0.out⟩
      · have q1 : ((l.n : Int) == 0) = false := by rw [beq_eq_false_iff_ne]; omega
        by_cases p2 : l.at_ < 0
        · have q2 : decide (l.at_ < 0) = true := decide_eq_true p2
          clear hp p1 p2
          go_enter Tryd.func39, Tryd.ntmps39
          go_upto_region 1 with fail
          rw [← HXe.out]
          go_wp2_with (go_at_call 34; refine (runit_any _ _ _).mono ?_; rw [HU.out]; rintro e w1 ⟨rfl, rfl⟩)
          go_ret
          exact ⟨ret_bool HF.out.symm, HB0.out⟩
        · have q2 : decide (l.at_ < 0) = false := decide_eq_false p2
          by_cases p3 : s.nt < l.n
          · have q3 : decide (s.nt < l.n) = true := decide_eq_true p3
            clear hp p1 p2
            go_enter Tryd.func39, Tryd.ntmps39
            go_upto_region 1 with fail
            rw [← HXe.out]
            go_wp2_with (go_at_call 34; refine (runit_any _ _ _).mono ?_; rw [HU.out]; rintro e w1 ⟨rfl, rfl⟩)
            go_ret
            exact ⟨ret_bool HF.out.symm, HB0.out⟩
          · have q3 : decide (s.nt < l.n) = false := decide_eq_false p3
            have q4 : decide ((s.nt : Int) - (l.n : Int) < l.at_) = true := decide_eq_true (by
              exact Decidable.byContradiction fun h => hp ⟨by omega, by omega, by omega, by omega⟩)
            clear hp p1 p2
            go_enter Tryd.func39, Tryd.ntmps39
            go_upto_region 1 with fail
            rw [← HXe.out]
            go_wp2_with (go_at_call 34; refine (runit_any _ _ _).mono ?_; rw [HU.out]; rintro e w1 ⟨rfl, rfl⟩)
            go_ret
            exact ⟨ret_bool HF.out.symm, HB0.out⟩
end
end Go.Proofs.YtkdpmihdhiokkaaDoor
