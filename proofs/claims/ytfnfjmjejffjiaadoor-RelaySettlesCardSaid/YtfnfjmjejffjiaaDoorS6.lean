/- Identify, with its closure; the reference's identify. -/
import Derived.Test.YtfnfjmjejffjiaaDoorS5
import Derived.Deep.CutBlock
namespace Go.Proofs.YtfnfjmjejffjiaaDoor
open Go.RowKit

abbrev ints (f : Nat → Int) : Nat → Nat → Value := fun i _ => .int .i64 (f i)
abbrev nats (l : List Nat) : Nat → Int := fun i => (l.getD i 0 : Nat)
theorem app_nats {l : List Nat} {n : Nat} (i j : Nat) (hi : i < l.length + 1) : upd (ints (nats l)) l.length (fun _ => .int .i64 (n : Int)) i j = ints (nats (l ++ [n])) i j := by
  unfold upd ints nats
  by_cases h : i = l.length
  · subst h; simp
  · rw [if_neg h]
    have : i < l.length := by omega
    simp [List.getElem?_append_left this]
theorem int_info : (Tryd.prog.info? 3).map (fun i => (i.zero, i.size, i.bytes)) = some (some (.int .i64 0), 1, 8) := by kernel_rfl
theorem info_parts {t : TypeId} {z : Value} {m b : Nat} (h : (Tryd.prog.info? t).map (fun i => (i.zero, i.size, i.bytes)) = some (some z, m, b)) : ∃ i, Tryd.prog.info? t = some i ∧ i.zero = some z ∧ i.size = m ∧ i.bytes = b := by
  cases hi : Tryd.prog.info? t with
  | none => rw [hi] at h; cases h
  | some i =>
    rw [hi] at h
    simp only [Option.map_some, Option.some.injEq, Prod.mk.injEq] at h
    exact ⟨i, rfl, h.1, h.2.1, h.2.2⟩
/-- words that can meet: the first one of letters only, the second one no shorter -/
def Fit (a b : ByteArray) : Prop := a.size ≤ 12 ∧ a.size ≤ b.size ∧ M.low a = true
set_option maxHeartbeats 1600000 in
theorem chkI (s a : ByteArray) (e : Int) (L R : Nat) (w : World) (hc : w.cell? ⟨L, 0, none⟩ = some (.string a)) (hd : w.cell? ⟨R, 1, none⟩ = some (.int .i64 e)) (hL : L < w.heap.size) (hR : R < w.heap.size) (hf : Fit a s) :
    Calls Tryd.prog 35 #[.string s, .pointer (some ⟨L, 0, none⟩), .pointer (some ⟨R, 0, none⟩)] w fun en w' => en = .returned (.bool (decide (e < M.dst a s))) ∧ Below w.heap.size w w' := by
  have HF := Lib.hid hf
  have hbd := M.dstTo_bd a.size a s
  have h12 := hf.1
  clear hf
  go_enter Tryd.func35, Tryd.ntmps35
  go_wp2_with fail
  have kd : w.drew.cell? ⟨L, 0, none⟩ = some (.string a) ∧ w.drew.cell? ⟨R, 1, none⟩ = some (.int .i64 e) ∧ Below w.heap.size w w.drew ∧ w.heap.size ≤ w.drew.heap.size := ⟨hc, hd, (Below.refl _ _).drew, Nat.le_refl _⟩
  go_region_held3 (fun w' => w'.cell? ⟨L, 0, none⟩ = some (.string a) ∧ w'.cell? ⟨R, 1, none⟩ = some (.int .i64 e) ∧ Below w.heap.size w w' ∧ w.heap.size ≤ w'.heap.size)
    (first | assumption | (go_split_ands; exact ⟨((by assumption : Below _ _ _).cell (p := ⟨L, 0, none⟩) hL).trans hc, ((by assumption : Below _ _ _).cell (p := ⟨R, 1, none⟩) hR).trans hd, by assumption, Below.size (by assumption)⟩) | fail)
    (first | (go_at_call 36; refine (apart_any _ _ _ (by omega) HF.out.2.1 HF.out.2.2).mono ?_; rintro en w1 ⟨rfl, hb1⟩; have hbx := Below.trans (by go_split_ands; assumption : Below w.heap.size w _) (hb1.mono (by go_split_ands; assumption))) | fail)
  all_goals
    go_split_ands
    go_wp2
    go_ret
    exact ⟨rfl, by assumption⟩
set_option maxHeartbeats 1600000 in
theorem idxI (A : Option Addr) (n c B : Nat) (g : Nat → ByteArray) (a : ByteArray) (e : Int) (L R : Nat) (w : World) (hn : n ≤ maxLen) (hR : RdS w B A n g) (hB : B ≤ w.heap.size) (hF : ∀ i, i < n → Fit a (g i)) (hc : w.cell? ⟨L, 0, none⟩ = some (.string a)) (hd : w.cell? ⟨R, 1, none⟩ = some (.int .i64 e)) (hL : L < w.heap.size) (hRs : R < w.heap.size) :
    Calls Tryd.prog 46 #[.slice A n c, .func (.func 35) #[] #[.pointer (some ⟨L, 0, none⟩), .pointer (some ⟨R, 0, none⟩)]] w (Idx n (fun i => decide (e < M.dst a (g i))) w) := by
  unfold maxLen at hn
  have HC := Lib.hid (And.intro hc hd)
  have HS := Lib.hid hF
  clear hc hd hF
  go_enter Tryd.func46, Tryd.ntmps46
  go_wp2_with fail
  go_loopw [5, 8] (fun _ i wr => ∃ k : Nat, k ≤ n ∧ i = .int .i64 k ∧ M.anyTo k (fun i => decide (e < M.dst a (g i))) = false ∧ Below w.heap.size w wr) (fun _ i _ => n - (intOf i).toNat)
  case atStart => exact ⟨0, Nat.zero_le _, rfl, rfl, Below.refl _ _⟩
  case round =>
    obtain ⟨k, hk, rfl, hf, hbw⟩ := hrel
    have HF := Lib.hid hf
    clear hf
    have HW := Lib.hid hbw
    have hz := hbw.size
    by_cases hlt : k < n
    · obtain ⟨b, off, rfl, hb, c0⟩ := (hR.below (hbw.mono hB)).at_ hlt
      have HCW := Lib.hid (And.intro ((hbw.cell (p := ⟨L, 0, none⟩) hL).trans HC.out.1) ((hbw.cell (p := ⟨R, 1, none⟩) hRs).trans HC.out.2))
      clear hbw hR
      cases hok : decide (e < M.dst a (g k))
      all_goals
        have HO := Lib.hid hok
        clear hok
        go_wp2_with (go_at_call 35; refine (chkI _ a e L R _ HCW.out.1 HCW.out.2 (by omega) (by omega) (HS.out k hlt)).mono ?_; rw [HO.out]; rintro en w1 ⟨rfl, hb1⟩; have HB1 := Lib.hid hb1; clear hb1)
      · go_roundw
        case rel => exact ⟨k + 1, by omega, by go_num, by simp only [M.anyTo, HF.out]; rw [HO.out]; rfl, HW.out.trans (HB1.out.mono hz)⟩
        case measure => simp [intOf]; omega
      · go_ret
        refine ⟨_, rfl, ?_, HW.out.trans (HB1.out.mono hz)⟩
        rw [M.anyTo_iff.2 ⟨k, hlt, HO.out⟩]
        simp
    · obtain rfl : k = n := by omega
      clear hbw
      go_wp2_with fail
      go_ret
      exact ⟨_, rfl, by rw [HF.out]; rfl, HW.out⟩
theorem may_any {n : Nat} {g : Nat → ByteArray} {e : Int} {a : ByteArray} : M.anyTo n (fun i => decide (e < M.dst a (g i))) = !M.may n g e a := by
  unfold M.may
  rw [← M.any_all]
  refine M.anyTo_congr fun i _ => ?_
  by_cases h : e < M.dst a (g i)
  · rw [decide_eq_true h, decide_eq_false (by omega)]; rfl
  · rw [decide_eq_false h, decide_eq_true (by omega)]; rfl
theorem conI (A : Option Addr) (n c B : Nat) (g : Nat → ByteArray) (a : ByteArray) (e : Int) (L R : Nat) (w : World) (hn : n ≤ maxLen) (hR : RdS w B A n g) (hB : B ≤ w.heap.size) (hF : ∀ i, i < n → Fit a (g i)) (hc : w.cell? ⟨L, 0, none⟩ = some (.string a)) (hd : w.cell? ⟨R, 1, none⟩ = some (.int .i64 e)) (hL : L < w.heap.size) (hRs : R < w.heap.size) :
    Calls Tryd.prog 34 #[.slice A n c, .func (.func 35) #[] #[.pointer (some ⟨L, 0, none⟩), .pointer (some ⟨R, 0, none⟩)]] w fun en w' => en = .returned (.bool (!M.may n g e a)) ∧ Below w.heap.size w w' := by
  go_enter Tryd.func34, Tryd.ntmps34
  go_wp2_with (go_at_call 46; refine (idxI _ _ _ _ _ a e L R _ hn hR hB hF hc hd hL hRs).mono ?_; rintro en w1 ⟨r, rfl, hr, hb⟩; have HR := Lib.hid hr; clear hr)
  go_ret
  exact ⟨ret_bool (by rw [HR.out, may_any]), hb⟩
/-- what a vocabulary and a radio that fit each other give -/
theorem fit_of {wn gn : Nat} {f g : Nat → ByteArray} {e : Int} (hV : M.isV wn f = true) (hR : M.isR wn f gn g e = true) {i k : Nat} (hi : i < wn) (hk : k < gn) : Fit (f i) (g k) := by
  unfold M.isV at hV
  unfold M.isR at hR
  simp only [Bool.and_eq_true] at hV hR
  have h1 := M.allTo_iff.1 hV.2 i hi
  have h2 := M.allTo_iff.1 hR.2 k hk
  unfold M.vocAt at h1
  unfold M.radAt at h2
  simp only [Bool.and_eq_true, Bool.or_eq_true, decide_eq_true_eq] at h1 h2
  have h3 := h1.1.1
  unfold M.isW at h3
  simp only [Bool.and_eq_true, decide_eq_true_eq] at h3
  have h4 := h2.2
  exact ⟨h3.1.2, by omega, h3.2⟩
def idE (wn : Nat) (f : Nat → ByteArray) (gn : Nat) (g : Nat → ByteArray) (e : Int) : Int := if M.isV wn f then (if M.isR wn f gn g e then 0 else 1) else 102
def idL (wn : Nat) (f : Nat → ByteArray) (gn : Nat) (g : Nat → ByteArray) (e : Int) : List Nat := if M.isV wn f && M.isR wn f gn g e then M.elP wn (fun i => M.may gn g e (f i)) else []
def IdV (w : World) (wn : Nat) (f : Nat → ByteArray) (gn : Nat) (g : Nat → ByteArray) (e : Int) (en : Ending) (w' : World) : Prop :=
  ∃ v, en = .returned (.tuple #[v, .int .i64 (idE wn f gn g e)]) ∧ Own w' w.heap.size 3 1 v (idL wn f gn g e).length (ints (nats (idL wn f gn g e)))
section
variable (wA gA : Option Addr) (wn wc gn gc B : Nat) (f g : Nat → ByteArray) (e : Int) (w : World) (hwn : wn ≤ 1048576) (hgn : gn ≤ 1048576) (hW : RdS w B wA wn f) (hG : RdS w B gA gn g) (hB : B ≤ w.heap.size) (hSf : ∀ i, i < wn → (f i).size ≤ 1048576) (hSg : ∀ i, i < gn → (g i).size ≤ 1048576)
include hwn hgn hW hG hB hSf hSg
set_option maxRecDepth 100000 in
set_option maxHeartbeats 3200000 in
theorem pidentify_any (hwc : wn ≤ wc) (hwc2 : wc ≤ 9223372036854775807) :
    Calls Tryd.prog 26 #[.slice wA wn wc, .agg #[.slice gA gn gc, .int .i64 e]] w fun en w' => IdV w wn f gn g e en w' ∧ Below w.heap.size w w' := by
  have hbl := Lib.hid (belowAlloc w (.cells #[.slice gA gn gc, .int .i64 e] 75))
  have hBK := Lib.hid (Blk.new w 75 #[.slice gA gn gc, .int .i64 e])
  cases hV : M.isV wn f
  · have HE := Lib.hid (show idE wn f gn g e = 102 by unfold idE; rw [hV]; rfl)
    have HL := Lib.hid (show idL wn f gn g e = [] by unfold idL; rw [hV]; rfl)
    go_enter Tryd.func26, Tryd.ntmps26
    go_wp2_with fail
    refine (vocabulary_any wA wn wc B f _ hwn hwc hwc2 (hW.below (hbl.out.mono hB)) (by simp; omega) hSf).mono ?_
    rw [hV]
    rintro en w1 ⟨rfl, hb1⟩
    have HB1 := Lib.hid hb1
    clear hb1
    go_wp2_with fail
    go_ret2
    exact ⟨⟨.slice none 0 0, by rw [HE.out]; rfl, by rw [HL.out]; exact Own.nil_⟩, hbl.out.trans (HB1.out.mono (by simp))⟩
  · cases hR : M.isR wn f gn g e
    · have HE := Lib.hid (show idE wn f gn g e = 1 by unfold idE; rw [hV, hR]; rfl)
      have HL := Lib.hid (show idL wn f gn g e = [] by unfold idL; rw [hR]; simp)
      have HW := Lib.hid hW
      have HG := Lib.hid hG
      have HS := Lib.hid (And.intro hSf hSg)
      clear hW hG hSf hSg
      go_enter Tryd.func26, Tryd.ntmps26
      go_wp2_with fail
      refine (vocabulary_any wA wn wc B f _ hwn hwc hwc2 (HW.out.below (hbl.out.mono hB)) (by simp; omega) HS.out.1).mono ?_
      rw [hV]
      rintro en w1 ⟨rfl, hb1⟩
      have K1 := hBK.out.below hb1 (by simp)
      have q0 := K1.cell 0
      have q1 := K1.cell 1
      have HB1 := Lib.hid (hbl.out.trans (hb1.mono (by simp)))
      clear hb1 K1
      go_wp2_with fail
      refine (heard_any wA gA wn wc gn gc B f g e _ hwn hgn (HW.out.below (HB1.out.mono hB)) (HG.out.below (HB1.out.mono hB)) (by have := HB1.out.size; omega) HS.out.1 HS.out.2).mono ?_
      rw [hR]
      rintro en w2 ⟨rfl, hb2⟩
      have HB2 := Lib.hid (HB1.out.trans (hb2.mono HB1.out.size))
      clear hb2
      go_wp2_with fail
      go_ret2
      exact ⟨⟨.slice none 0 0, by rw [HE.out]; rfl, by rw [HL.out]; exact Own.nil_⟩, HB2.out⟩
    · have HE := Lib.hid (show idE wn f gn g e = 0 by unfold idE; rw [hV, hR]; rfl)
      have HL := Lib.hid (show idL wn f gn g e = M.elP wn (fun i => M.may gn g e (f i)) by unfold idL; rw [hV, hR]; rfl)
      have HFit := Lib.hid (fun i (hi : i < wn) k (hk : k < gn) => fit_of hV hR hi hk)
      have HW := Lib.hid hW
      have HG := Lib.hid hG
      have HS := Lib.hid (And.intro hSf hSg)
      clear hW hG hSf hSg
      obtain ⟨i0, hi, hz0, hz1, hz2⟩ := info_parts int_info
      have MI := Lib.hid (And.intro hi (And.intro hz0 (And.intro hz1 hz2)))
      clear hi hz0 hz1 hz2
      go_enter Tryd.func26, Tryd.ntmps26
      go_wp2_with fail
      refine (vocabulary_any wA wn wc B f _ hwn hwc hwc2 (HW.out.below (hbl.out.mono hB)) (by simp; omega) HS.out.1).mono ?_
      rw [hV]
      rintro en w1 ⟨rfl, hb1⟩
      have K1 := hBK.out.below hb1 (by simp)
      have q0 := K1.cell 0
      have q1 := K1.cell 1
      have HK1 := Lib.hid K1
      have HB1 := Lib.hid (hbl.out.trans (hb1.mono (by simp)))
      clear hb1 K1
      go_wp2_with fail
      refine (heard_any wA gA wn wc gn gc B f g e _ hwn hgn (HW.out.below (HB1.out.mono hB)) (HG.out.below (HB1.out.mono hB)) (by have := HB1.out.size; omega) HS.out.1 HS.out.2).mono ?_
      rw [hR]
      rintro en w2 ⟨rfl, hb2⟩
      have HK2 := Lib.hid (HK1.out.below hb2 HK1.out.lt)
      have HB2 := Lib.hid (HB1.out.trans (hb2.mono HB1.out.size))
      have hz2 := HK2.out.lt
      clear hb2 HK1 HB1 q0 q1
      go_wp2_with fail
      go_loopw [6, 7, 8, 18] (fun v _ _ i wr => ∃ n : Nat, n ≤ wn ∧ i = .int .i64 n ∧ Own wr w2.heap.size 3 1 v (M.elP n (fun i => M.may gn g e (f i))).length (ints (nats (M.elP n (fun i => M.may gn g e (f i))))) ∧ Below w2.heap.size w2 wr) (fun _ _ _ i _ => wn - (intOf i).toNat)
      case atStart => exact ⟨0, Nat.zero_le _, rfl, Own.nil_, Below.refl _ _⟩
      case round =>
        obtain ⟨n, hn, rfl, o0, hbw⟩ := hrel
        obtain ⟨vA, vc, rfl⟩ := o0.form
        have O0 := Lib.hid o0
        have HBw := Lib.hid hbw
        have hz := hbw.size
        have hl := M.elP_len n (fun i => M.may gn g e (f i))
        clear o0
        by_cases hlt : n < wn
        · have he := M.elP_succ n (fun i => M.may gn g e (f i))
          have HE2 := Lib.hid he
          obtain ⟨b, off, rfl, hb, c0⟩ := ((HW.out.below (HB2.out.mono hB)).below (HBw.out.mono (by have := HB2.out.size; omega))).at_ hlt
          have hbs : b < wr.heap.size := by omega
          have q0 := (hbw.cell (p := ⟨w.heap.size, 0, none⟩) hz2).trans (HK2.out.cell 0)
          have q1 := (hbw.cell (p := ⟨w.heap.size, 1, none⟩) hz2).trans (HK2.out.cell 1)
          have hSz : w.heap.size < wr.heap.size := by omega
          clear he hbw
          cases hm : M.may gn g e (f n)
          · have HM := Lib.hid hm
            rw [hm] at HE2
            clear hm
            go_wp2_with (go_at_call 34; refine (conI _ gn gc B g (f n) e wr.heap.size w.heap.size _ (by unfold maxLen; omega) ((((HG.out.below (HB2.out.mono hB)).below (HBw.out.mono (by have := HB2.out.size; omega)))).below ((belowAlloc wr _).mono (by omega))) (by simp; omega) (fun k hk => HFit.out n hlt k hk) ((Blk.new wr _ _).cell 0) (al_cell q1) (by simp) (by simp; omega)).mono ?_; rw [HM.out]; rintro en w3 ⟨rfl, hb3⟩; have HB3 := Lib.hid hb3; clear hb3)
            go_roundw
            case rel =>
              refine ⟨n + 1, by omega, by go_num, ?_, HBw.out.trans (((belowAlloc wr _).trans (HB3.out.mono (by simp))).mono hz)⟩
              rw [HE2.out]
              simp only [Bool.false_eq_true, if_false, List.append_nil]
              exact (O0.out.alloc _).below HB3.out
            case measure => simp [intOf]; omega
          · have HM := Lib.hid hm
            rw [hm] at HE2
            clear hm
            go_wp2_with (first | (go_at_call 34; refine (conI _ gn gc B g (f n) e wr.heap.size w.heap.size _ (by unfold maxLen; omega) ((((HG.out.below (HB2.out.mono hB)).below (HBw.out.mono (by have := HB2.out.size; omega)))).below ((belowAlloc wr _).mono (by omega))) (by simp; omega) (fun k hk => HFit.out n hlt k hk) ((Blk.new wr _ _).cell 0) (al_cell q1) (by simp) (by simp; omega)).mono ?_; rw [HM.out]; rintro en w3 ⟨rfl, hb3⟩; have HB3 := Lib.hid (HBw.out.trans (((belowAlloc wr _).trans (hb3.mono (by simp))).mono hz)); have O3 := Lib.hid ((O0.out.alloc _).below hb3); have hz3 := HB3.out.size; clear hb3) | (at_builtin; refine wpList_app rfl (.tmp 28) (.tmp 30) 44 rfl w2.heap.size 3 1 8 Tryd.underlying44 MI.out.1 MI.out.2.1 MI.out.2.2.1 MI.out.2.2.2 rfl (by decide) (by decide) (O3.out.alloc _) rfl (by omega) (by simp; omega) w3.heap.size 1 (fun _ => .int .i64 (n : Int)) rfl (cell_last rfl) (fun _ _ => rfl) ?_; intro v6 w6 o6 hg6 hat6; obtain ⟨A6, z6, rfl⟩ := o6.form; have HO6 := Lib.hid o6; have HG6 := Lib.hid hg6; clear o6 hg6 hat6))
            go_roundw
            case rel =>
              refine ⟨n + 1, by omega, by go_num, ?_, (HB3.out.alloc (by omega) _).grown HG6.out (by simp; omega) (fun q hq => (O3.out.block hq).1)⟩
              rw [HE2.out]
              simp only [if_true, List.length_append]
              exact HO6.out.congr fun i j hi _ => app_nats i j hi
            case measure => simp [intOf]; omega
        · obtain rfl : n = wn := by omega
          clear hbw
          go_wp2_with fail
          go_ret2
          exact ⟨⟨.slice vA _ vc, by rw [HE.out]; rfl, by rw [HL.out]; exact O0.out.less HB2.out.size⟩, HB2.out.trans (HBw.out.mono HB2.out.size)⟩
end
end Go.Proofs.YtfnfjmjejffjiaaDoor
/- The reference's identify and Identify. -/
namespace Go.Proofs.YtfnfjmjejffjiaaDoor
open Go.RowKit

end Go.Proofs.YtfnfjmjejffjiaaDoor
/- Decode, the program's and the reference's. -/
namespace Go.Proofs.YtfnfjmjejffjiaaDoor
open Go.RowKit

def dcL (wn : Nat) (f : Nat → ByteArray) (s : ByteArray) (e : Int) : List Nat := idL wn f 1 (fun _ => s) e
def dcI (wn : Nat) (f : Nat → ByteArray) (s : ByteArray) (e : Int) : Int := idE wn f 1 (fun _ => s) e
def dcN (wn : Nat) (f : Nat → ByteArray) (s : ByteArray) (e : Int) : Int := if dcI wn f s e = 0 ∧ (dcL wn f s e).length = 1 then ((dcL wn f s e).getD 0 0 : Nat) else 0
def dcE (wn : Nat) (f : Nat → ByteArray) (s : ByteArray) (e : Int) : Int := if dcI wn f s e = 0 then (if (dcL wn f s e).length = 1 then 0 else 3) else dcI wn f s e
theorem idE_cases (wn : Nat) (f : Nat → ByteArray) (gn : Nat) (g : Nat → ByteArray) (e : Int) : idE wn f gn g e = 0 ∨ idE wn f gn g e = 1 ∨ idE wn f gn g e = 102 := by
  unfold idE; split
  · split
    · exact .inl rfl
    · exact .inr (.inl rfl)
  · exact .inr (.inr rfl)
theorem Rd1.at0 {w : World} {B n : Nat} {A : Option Addr} {f1 : Nat → Int} (h : Rd1 w B A n f1) (hn : 0 < n) : ∃ b off, A = some ⟨b, off, none⟩ ∧ b < B ∧ w.cell? ⟨b, off, none⟩ = some (.int .i64 (f1 0)) := by
  rcases h with h | ⟨b, off, hA, hb, hc⟩
  · omega
  · exact ⟨b, off, hA, hb, hc 0 hn⟩
section
variable (wA : Option Addr) (wn wc B : Nat) (f : Nat → ByteArray) (s : ByteArray) (e : Int) (w : World) (hwn : wn ≤ 1048576) (hW : RdS w B wA wn f) (hB : B ≤ w.heap.size) (hSf : ∀ i, i < wn → (f i).size ≤ 1048576) (hs : s.size ≤ 1048576)
include hwn hW hB hSf hs
set_option maxRecDepth 100000 in
set_option maxHeartbeats 3200000 in
theorem pdecode_any (hwc : wn ≤ wc) (hwc2 : wc ≤ 9223372036854775807) :
    Calls Tryd.prog 13 #[.slice wA wn wc, .string s, .int .i64 e] w fun en w' => en = .returned (.tuple #[.int .i64 (dcN wn f s e), .int .i64 (dcE wn f s e)]) ∧ Below w.heap.size w w' := by
  have HN := Lib.hid (show dcN wn f s e = if dcI wn f s e = 0 ∧ (dcL wn f s e).length = 1 then (((dcL wn f s e).getD 0 0 : Nat) : Int) else 0 from rfl)
  have HE := Lib.hid (show dcE wn f s e = if dcI wn f s e = 0 then (if (dcL wn f s e).length = 1 then 0 else 3) else dcI wn f s e from rfl)
  have hb0 := belowAlloc w (.cells #[.string s] 9)
  have hG : RdS (w.alloc (.cells #[.string s] 9)) (w.heap.size + 1) (some ⟨w.heap.size, 0, none⟩) 1 (fun _ => s) := .inr ⟨w.heap.size, 0, rfl, by omega, fun i hi => by
    obtain rfl : i = 0 := by omega
    exact (Blk.new w _ _).cell 0⟩
  have HW := Lib.hid ((hW.below (hb0.mono hB)).more (show B ≤ w.heap.size + 1 by omega))
  have HG := Lib.hid hG
  have HB0 := Lib.hid hb0
  have hlen : (dcL wn f s e).length ≤ wn := by unfold dcL idL; split; exact M.elP_len _ _; simp
  have hI := idE_cases wn f 1 (fun _ => s) e
  clear hG hW hb0
  go_enter Tryd.func13, Tryd.ntmps13
  go_wp2_with fail
  refine (pidentify_any wA (some ⟨w.heap.size, 0, none⟩) wn wc 1 1 (w.heap.size + 1) f (fun _ => s) e _ hwn (by omega) HW.out HG.out (by simp) hSf (fun _ _ => hs) hwc hwc2).mono ?_
  rintro en w1 ⟨⟨v, rfl, ho⟩, hb1⟩
  obtain ⟨A1, c1, rfl, hl⟩ := ho.rd1
  have HB1 := Lib.hid (HB0.out.trans (hb1.mono (by simp)))
  have hl : Rd1 w1 w1.heap.size A1 (dcL wn f s e).length (nats (dcL wn f s e)) := hl
  obtain ⟨E0, hE0⟩ : ∃ E0, E0 = dcI wn f s e := ⟨_, rfl⟩
  rw [show idE wn f 1 (fun _ => s) e = E0 from hE0.symm] at hI ⊢
  rw [← hE0] at HN HE
  rw [show (idL wn f 1 (fun _ => s) e) = dcL wn f s e from rfl]
  obtain ⟨L, hL⟩ : ∃ L, L = dcL wn f s e := ⟨_, rfl⟩
  rw [← hL] at hl hlen HN HE ⊢
  clear ho hb1 hE0 hL
  by_cases h0 : E0 = 0
  · subst h0
    by_cases h1 : L.length = 1
    · have HN2 := Lib.hid (HN.out.trans (if_pos ⟨rfl, h1⟩))
      have HE2 := Lib.hid (HE.out.trans ((if_pos rfl).trans (if_pos h1)))
      have g1 : ((L.length : Int) != 1) = false := by rw [h1]; rfl
      obtain ⟨b, off, rfl, hb, c0⟩ := hl.at0 (by omega)
      clear HN HE hl hI
      go_wp2_with fail
      go_ret2
      exact ⟨by rw [HN2.out, HE2.out]; rfl, HB1.out⟩
    · have HN2 := Lib.hid (HN.out.trans (if_neg fun h => h1 h.2))
      have HE2 := Lib.hid (HE.out.trans ((if_pos rfl).trans (if_neg h1)))
      have g1 : ((L.length : Int) != 1) = true := by rw [bne_iff_ne]; omega
      clear HN HE hl hI
      go_wp2_with fail
      go_ret2
      exact ⟨by rw [HN2.out, HE2.out]; rfl, HB1.out⟩
  · have HN2 := Lib.hid (HN.out.trans (if_neg fun h => h0 h.1))
    have HE2 := Lib.hid (HE.out.trans (if_neg h0))
    have g1 : (E0 != 0) = true := by rw [bne_iff_ne]; exact h0
    clear HN HE hl
    go_wp2_with fail
    go_ret2
    exact ⟨by rw [HN2.out, HE2.out]; rfl, HB1.out⟩
end
end Go.Proofs.YtfnfjmjejffjiaaDoor
