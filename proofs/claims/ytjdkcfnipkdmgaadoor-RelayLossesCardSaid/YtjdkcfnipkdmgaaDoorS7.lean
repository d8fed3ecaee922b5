/- The reference's identify and Identify. -/
import Derived.Test.YtjdkcfnipkdmgaaDoorS6
import Derived.Deep.CutBlock
namespace Go.Proofs.YtjdkcfnipkdmgaaDoor
open Go.RowKit

section
variable (wA gA : Option Addr) (wn wc gn gc B : Nat) (f g : Nat → ByteArray) (e : Int) (w : World) (hwn : wn ≤ 1048576) (hgn : gn ≤ 1048576) (hW : RdS w B wA wn f) (hG : RdS w B gA gn g) (hB : B ≤ w.heap.size)
include hwn hgn hW hG hB
set_option maxRecDepth 100000 in
set_option maxHeartbeats 3200000 in
theorem ridl_any (hV : M.isV wn f = true) (hR : M.isR wn f gn g e = true) :
    Calls Tryd.prog 46 #[.slice wA wn wc, .agg #[.slice gA gn gc, .int .i64 e]] w fun en w' => (∃ v, en = .returned v ∧ Own w' w.heap.size 3 1 v (idL wn f gn g e).length (ints (nats (idL wn f gn g e)))) ∧ Below w.heap.size w w' := by
  have hbl := Lib.hid (belowAlloc w (.cells #[.slice gA gn gc, .int .i64 e] 24))
  have HL := Lib.hid (show idL wn f gn g e = M.elP wn (fun i => M.may gn g e (f i)) by unfold idL; rw [hV, hR]; rfl)
  have HFit := Lib.hid (fun i (hi : i < wn) k (hk : k < gn) => fit_of hV hR hi hk)
  have HW := Lib.hid hW
  have HG := Lib.hid hG
  clear hW hG hV hR
  obtain ⟨i0, hi, hz0, hz1, hz2⟩ := info_parts int_info
  have MI := Lib.hid (And.intro hi (And.intro hz0 (And.intro hz1 hz2)))
  clear hi hz0 hz1 hz2
  have hBK := Lib.hid (Blk.new w 24 #[.slice gA gn gc, .int .i64 e])
  obtain ⟨w2, hw2⟩ : ∃ w2, w2 = w.alloc (.cells #[.slice gA gn gc, .int .i64 e] 24) := ⟨_, rfl⟩
  have hz2 : w2.heap.size = w.heap.size + 1 := by rw [hw2]; simp
  go_enter Tryd.func46, Tryd.ntmps46
  go_upto_block 0 with fail
  rw [← hw2] at hbl hBK ⊢
  clear hw2
  go_wp2_with fail
  go_loopw [5, 6, 7, 8] (fun v i _ _ wr => ∃ n : Nat, n ≤ wn ∧ i = .int .i64 n ∧ Own wr w2.heap.size 3 1 v (M.elP n (fun i => M.may gn g e (f i))).length (ints (nats (M.elP n (fun i => M.may gn g e (f i))))) ∧ Below w2.heap.size w2 wr) (fun _ i _ _ _ => wn - (intOf i).toNat)
  case atStart => exact ⟨0, Nat.zero_le _, rfl, Own.nil_, Below.refl _ _⟩
  case round =>
    obtain ⟨n, hn, rfl, o0, hbw⟩ := hrel
    obtain ⟨X, rfl⟩ : ∃ X, X = wr := ⟨_, rfl⟩
    obtain ⟨vA, vc, rfl⟩ := o0.form
    have O0 := Lib.hid o0
    have HBw := Lib.hid hbw
    have hz := hbw.size
    have hl := M.elP_len n (fun i => M.may gn g e (f i))
    clear o0
    by_cases hlt : n < wn
    · have HE2 := Lib.hid (M.elP_succ n (fun i => M.may gn g e (f i)))
      clear hbw
      go_wp2_with fail
      go_loopw [7, 8] (fun s i wr => ∃ k : Nat, k ≤ gn ∧ i = .int .i64 k ∧ s = .bool (M.may k g e (f n)) ∧ Below X.heap.size X wr) (fun _ i _ => gn - (intOf i).toNat)
      case atStart => exact ⟨0, Nat.zero_le _, rfl, rfl, Below.refl _ _⟩
      case round =>
        obtain ⟨k, hk, rfl, rfl, hbx⟩ := hrel
        have hzx := hbx.size
        have HBX := Lib.hid hbx
        have q0 := (hbx.cell (p := ⟨w.heap.size, 0, none⟩) (by show w.heap.size < X.heap.size; omega)).trans ((HBw.out.cell (p := ⟨w.heap.size, 0, none⟩) (by show w.heap.size < w2.heap.size; omega)).trans (hBK.out.cell 0))
        have q1 := (hbx.cell (p := ⟨w.heap.size, 1, none⟩) (by show w.heap.size < X.heap.size; omega)).trans ((HBw.out.cell (p := ⟨w.heap.size, 1, none⟩) (by show w.heap.size < w2.heap.size; omega)).trans (hBK.out.cell 1))
        have hbB : Below B w X := (hbl.out.mono hB).trans (HBw.out.mono (by omega))
        have hbB2 := hbB.trans (hbx.mono (by omega))
        have hSx : w.heap.size < wr.heap.size := by omega
        by_cases hlk : k < gn
        · cases hm : M.may k g e (f n)
          · have HX := Lib.hid (show M.may (k + 1) g e (f n) = false by unfold M.may at hm ⊢; simp only [M.allTo, hm, Bool.false_and])
            clear hm hbx hbB hbB2
            go_wp2_with fail
            go_quiet (fail)
            go_wp2_with fail
            go_roundw
            case rel => exact ⟨k + 1, by omega, by go_num, by rw [HX.out], HBX.out.drewN _⟩
            case measure => simp [intOf]; omega
          · have HX := Lib.hid (show M.may (k + 1) g e (f n) = decide (M.dst (f n) (g k) ≤ e) by unfold M.may at hm ⊢; simp only [M.allTo, hm, Bool.true_and])
            obtain ⟨b, off, rfl, hb, c0⟩ := (HW.out.below hbB2).at_ hlt
            obtain ⟨gb, go, rfl, hgb, d0⟩ := (HG.out.below hbB2).at_ hlk
            have hbs : b < wr.heap.size := by omega
            have hgs : gb < wr.heap.size := by omega
            have n1 : decide (wn ≤ n) = false := decide_eq_false (by omega)
            have n2 : decide (gn ≤ k) = false := decide_eq_false (by omega)
            have hft := HFit.out n hlt k hlk
            have HC : ∀ (m : Nat) (W : World), Calls Tryd.prog 23 #[.string (f n), .string (g k)] (W.drewN m) fun en w'' => en = .returned (.int .i64 (M.dst (f n) (g k))) ∧ ∃ q, w'' = (W.drewN m).drewN q := fun m W => distance_any _ _ _ (by have := hft.1; omega) hft.2.1
            have HC := Lib.hid HC
            clear hm hbx hbB hbB2 hft
            go_wp2_with fail
            go_quiet (exact Calls.quiet_of (HC.out _ _))
            go_wp2_with fail
            go_roundw
            case rel => exact ⟨k + 1, by omega, by go_num, by rw [HX.out], HBX.out.drewN _⟩
            case measure => simp [intOf]; omega
        · obtain rfl : k = gn := by omega
          cases hm : M.may k g e (f n)
          · have HM := Lib.hid hm
            clear hm hbx hbB hbB2
            go_wp2_with fail
            go_roundw
            case rel =>
              refine ⟨n + 1, by omega, by go_num, ?_, HBw.out.trans (HBX.out.mono hz)⟩
              rw [HE2.out, HM.out]
              simp only [Bool.false_eq_true, if_false, List.append_nil]
              exact O0.out.below HBX.out
            case measure => simp [intOf]; omega
          · have HM := Lib.hid hm
            have O3 := Lib.hid (O0.out.below HBX.out)
            have HB3 := Lib.hid (HBw.out.trans (HBX.out.mono hz))
            clear hm hbx hbB hbB2
            go_wp2_with (at_builtin; refine wpList_app rfl (.tmp 39) (.tmp 41) 27 rfl w2.heap.size 3 1 8 Tryd.underlying27 MI.out.1 MI.out.2.1 MI.out.2.2.1 MI.out.2.2.2 rfl (by decide) (by decide) (O3.out.alloc _) rfl (by omega) (by simp; omega) wr.heap.size 1 (fun _ => .int .i64 (n : Int)) rfl (cell_last rfl) (fun _ _ => rfl) ?_; intro v6 w6 o6 hg6 hat6; obtain ⟨A6, z6, rfl⟩ := o6.form; have HO6 := Lib.hid o6; have HG6 := Lib.hid hg6; clear o6 hg6 hat6)
            go_roundw
            case rel =>
              refine ⟨n + 1, by omega, by go_num, ?_, (HB3.out.alloc (by omega) _).grown HG6.out (by simp; omega) (fun q hq => (O3.out.block hq).1)⟩
              rw [HE2.out, HM.out]
              simp only [if_true, List.length_append]
              exact HO6.out.congr fun i j hi _ => app_nats i j hi
            case measure => simp [intOf]; omega
    · obtain rfl : n = wn := by omega
      clear hbw
      go_wp2_with fail
      go_ret
      exact ⟨⟨.slice vA _ vc, rfl, by rw [HL.out]; exact O0.out.less hbl.out.size⟩, hbl.out.trans (HBw.out.mono hbl.out.size)⟩
end
section
variable (wA gA : Option Addr) (wn wc gn gc B : Nat) (f g : Nat → ByteArray) (e : Int) (w : World) (hwn : wn ≤ 1048576) (hgn : gn ≤ 1048576) (hW : RdS w B wA wn f) (hG : RdS w B gA gn g) (hB : B ≤ w.heap.size) (hSf : ∀ i, i < wn → (f i).size ≤ 1048576) (hSg : ∀ i, i < gn → (g i).size ≤ 1048576)
include hwn hgn hW hG hB hSf hSg
set_option maxRecDepth 100000 in
set_option maxHeartbeats 3200000 in
theorem ridentify_any :
    Calls Tryd.prog 17 #[.slice wA wn wc, .agg #[.slice gA gn gc, .int .i64 e]] w fun en w' => IdV w wn f gn g e en w' ∧ Below w.heap.size w w' := by
  have hbl := Lib.hid (belowAlloc w (.cells #[.slice gA gn gc, .int .i64 e] 24))
  have hBK := Lib.hid (Blk.new w 24 #[.slice gA gn gc, .int .i64 e])
  cases hV : M.isV wn f
  · have HE := Lib.hid (show idE wn f gn g e = 102 by unfold idE; rw [hV]; rfl)
    have HL := Lib.hid (show idL wn f gn g e = [] by unfold idL; rw [hV]; rfl)
    go_enter Tryd.func17, Tryd.ntmps17
    go_wp2_with fail
    refine (isvoc_any wA wn wc B f _ (by unfold maxLen; omega) (hW.below (hbl.out.mono hB)) hSf).mono ?_
    rw [hV]
    rintro en w1 ⟨rfl, q, rfl⟩
    go_wp2_with fail
    go_ret2
    exact ⟨⟨.slice none 0 0, by rw [HE.out]; rfl, by rw [HL.out]; exact Own.nil_⟩, hbl.out.drewN _⟩
  · have HBW : ∀ q, Hid (Below w.heap.size w ((w.alloc (.cells #[.slice gA gn gc, .int .i64 e] 24)).drewN q)) := fun q => Lib.hid (hbl.out.drewN q)
    cases hR : M.isR wn f gn g e
    · have HE := Lib.hid (show idE wn f gn g e = 1 by unfold idE; rw [hV, hR]; rfl)
      have HL := Lib.hid (show idL wn f gn g e = [] by unfold idL; rw [hR]; simp)
      go_enter Tryd.func17, Tryd.ntmps17
      go_wp2_with fail
      refine (isvoc_any wA wn wc B f _ (by unfold maxLen; omega) (hW.below (hbl.out.mono hB)) hSf).mono ?_
      rw [hV]
      rintro en w1 ⟨rfl, q, rfl⟩
      go_wp2_with fail
      refine (isradio_any wA gA wn wc gn gc B f g e _ hwn hgn (hW.below ((HBW q).out.mono hB)) (hG.below ((HBW q).out.mono hB)) (Nat.le_trans hB (HBW q).out.size) hSf hSg).mono ?_
      rw [hR]
      rintro en w2 ⟨rfl, hb2⟩
      have HB2 := Lib.hid ((HBW q).out.trans (hb2.mono (HBW q).out.size))
      clear hb2
      go_wp2_with fail
      go_ret2
      exact ⟨⟨.slice none 0 0, by rw [HE.out]; rfl, by rw [HL.out]; exact Own.nil_⟩, HB2.out⟩
    · have HE := Lib.hid (show idE wn f gn g e = 0 by unfold idE; rw [hV, hR]; rfl)
      have HVR := Lib.hid (And.intro hV hR)
      go_enter Tryd.func17, Tryd.ntmps17
      go_wp2_with fail
      refine (isvoc_any wA wn wc B f _ (by unfold maxLen; omega) (hW.below (hbl.out.mono hB)) hSf).mono ?_
      rw [hV]
      rintro en w1 ⟨rfl, q, rfl⟩
      go_wp2_with fail
      refine (isradio_any wA gA wn wc gn gc B f g e _ hwn hgn (hW.below ((HBW q).out.mono hB)) (hG.below ((HBW q).out.mono hB)) (Nat.le_trans hB (HBW q).out.size) hSf hSg).mono ?_
      rw [hR]
      rintro en w2 ⟨rfl, hb2⟩
      have K2 := (show Blk ((w.alloc (.cells #[.slice gA gn gc, .int .i64 e] 24)).drewN q) w.heap.size 24 #[.slice gA gn gc, .int .i64 e] from hBK.out).below hb2 (by simp)
      have q0 := K2.cell 0
      have q1 := K2.cell 1
      have HB2 := Lib.hid ((HBW q).out.trans (hb2.mono (HBW q).out.size))
      clear hb2 K2
      go_wp2_with fail
      refine (ridl_any wA gA wn wc gn gc B f g e _ hwn hgn (hW.below (HB2.out.mono hB)) (hG.below (HB2.out.mono hB)) (Nat.le_trans hB HB2.out.size) HVR.out.1 HVR.out.2).mono ?_
      rintro en w3 ⟨⟨v, rfl, ho⟩, hb3⟩
      have HO := Lib.hid ho
      have HB3 := Lib.hid hb3
      clear ho hb3
      go_wp2_with fail
      go_ret2
      exact ⟨⟨v, by rw [HE.out]; rfl, HO.out.less HB2.out.size⟩, HB2.out.trans (HB3.out.mono HB2.out.size)⟩
end
end Go.Proofs.YtjdkcfnipkdmgaaDoor
