/- RelayHears, walked. -/
import Derived.Test.YtjdkcfnipkdmgaaDoorC1
import Derived.Test.YtjdkcfnipkdmgaaDoorT11
import Derived.Deep.DeepCutAuto
namespace Go.Proofs.YtjdkcfnipkdmgaaDoor
open Go.RowKit

/-- what the region that copies keeps -/
def KeptH (w : World) (gA : Option Addr) (gn gc : Nat) (e : Int) (w' : World) : Prop := w'.cell? ⟨w.heap.size, 0, none⟩ = some (.slice gA gn gc) ∧ w'.cell? ⟨w.heap.size, 1, none⟩ = some (.int .i64 e) ∧ Below w.heap.size w w' ∧ w.heap.size + 1 ≤ w'.heap.size
section
variable {w W w1 : World} {gA : Option Addr} {gn gc : Nat} {e : Int}
theorem KeptH.keep (h : KeptH w gA gn gc e W) (hb : Below W.heap.size W w1) : KeptH w gA gn gc e w1 := by
  obtain ⟨h1, h2, h3, h4⟩ := h
  have hs := hb.size
  exact ⟨(hb.cell (p := ⟨w.heap.size, 0, none⟩) (by show w.heap.size < _; omega)).trans h1, (hb.cell (p := ⟨w.heap.size, 1, none⟩) (by show w.heap.size < _; omega)).trans h2, h3.trans (hb.mono (by omega)), by omega⟩
theorem KeptH.alloc (h : KeptH w gA gn gc e W) (o : Obj) : KeptH w gA gn gc e (W.alloc o) := h.keep (belowAlloc W o)
theorem KeptH.alloc_drew {o : Obj} (h : KeptH w gA gn gc e W.drew) : KeptH w gA gn gc e (W.alloc o).drew := (h.alloc o : KeptH w gA gn gc e (W.drew.alloc o))
theorem KeptH.start : KeptH w gA gn gc e ((w.alloc (.cells #[.slice gA gn gc, .int .i64 e] 24)).drew) := by
  have k := Blk.new w 24 #[.slice gA gn gc, .int .i64 e]
  exact ⟨k.cell 0, k.cell 1, (belowAlloc _ _).drew, by simp⟩
end
theorem blk_drew {W : World} {g : Nat} {t : TypeId} {cs : Array Value} (h : Blk W g t cs) : Blk W.drew g t cs := h
section
variable (wA gA : Option Addr) (wn wc gn gc B : Nat) (f g : Nat → ByteArray) (e : Int) (w : World) (hwn : wn ≤ maxLen) (hgn : gn ≤ maxLen) (hW : RdS w B wA wn f) (hG : RdS w B gA gn g) (hB : B ≤ w.heap.size)
include hwn hgn hW hG hB
set_option maxRecDepth 100000 in
set_option maxHeartbeats 3200000 in
theorem hears_far (h : farF wn f = true ∨ farF wn f = false ∧ farF gn g = true) :
    Calls Tryd.prog 3 #[.slice wA wn wc, .agg #[.slice gA gn gc, .int .i64 e]] w fun en w' => en = .returned (.bool true) ∧ Below w.heap.size w w' := by
  have hbl := Lib.hid (belowAlloc w (.cells #[.slice gA gn gc, .int .i64 e] 24))
  rcases h with h1 | ⟨h1, h2⟩
  · have H1 := Lib.hid h1
    clear h1
    go_enter Tryd.func3, Tryd.ntmps3
    go_wp2_with (first
      | (go_at_call 14; refine (farwords_any _ _ _ B f _ hwn (hW.below (hbl.out.mono hB))).mono ?_; rw [H1.out]; rintro en w1 ⟨rfl, rfl⟩)
      | (go_at_call 15; refine (works_any _).mono ?_; rintro en w9 ⟨rfl, hb9⟩; have HB9 := Lib.hid hb9; clear hb9))
    go_ret
    exact ⟨rfl, hbl.out.trans (HB9.out.mono (by simp))⟩
  · have H1 := Lib.hid h1
    have H2 := Lib.hid h2
    clear h1 h2
    go_enter Tryd.func3, Tryd.ntmps3
    go_wp2_with fail
    refine (farwords_any wA wn wc B f _ hwn (hW.below (hbl.out.mono hB))).mono ?_
    rw [H1.out]
    rintro en w1 ⟨rfl, rfl⟩
    go_wp2_with fail
    refine (farwords_any gA gn gc B g _ hgn (hG.below (hbl.out.mono hB))).mono ?_
    rw [H2.out]
    rintro en w1 ⟨rfl, rfl⟩
    go_wp2_with (go_at_call 15; refine (works_any _).mono ?_; rintro en w9 ⟨rfl, hb9⟩; have HB9 := Lib.hid hb9; clear hb9)
    go_ret
    exact ⟨rfl, hbl.out.trans (HB9.out.mono (by simp))⟩
set_option maxRecDepth 100000 in
set_option maxHeartbeats 6400000 in
theorem hears_near (h1 : farF wn f = false) (h2 : farF gn g = false) (hwc : wn ≤ wc) (hwc2 : wc ≤ 9223372036854775807) :
    Calls Tryd.prog 3 #[.slice wA wn wc, .agg #[.slice gA gn gc, .int .i64 e]] w fun en w' => en = .returned (.bool true) ∧ Below w.heap.size w w' := by
  have hbl := Lib.hid (belowAlloc w (.cells #[.slice gA gn gc, .int .i64 e] 24))
  have hw60 : wn ≤ 60 := by unfold farF at h1; simp at h1; omega
  have hg60 : gn ≤ 60 := by unfold farF at h2; simp at h2; omega
  have hSf : ∀ i, i < wn → (f i).size ≤ 1048576 := fun i hi => by
    unfold farF at h1
    simp only [Bool.or_eq_false_iff] at h1
    refine Classical.byContradiction fun hn => ?_
    rw [M.anyTo_iff.2 ⟨i, hi, decide_eq_true (by omega)⟩] at h1
    cases h1.1
  have hSg : ∀ i, i < gn → (g i).size ≤ 1048576 := fun i hi => by
    unfold farF at h2
    simp only [Bool.or_eq_false_iff] at h2
    refine Classical.byContradiction fun hn => ?_
    rw [M.anyTo_iff.2 ⟨i, hi, decide_eq_true (by omega)⟩] at h2
    cases h2.1
  have H1 := Lib.hid h1
  have H2 := Lib.hid h2
  have HW := Lib.hid hW
  have HG := Lib.hid hG
  have HS := Lib.hid (And.intro hSf hSg)
  obtain ⟨si, hi, hz0, hz1, hz2⟩ := info_parts str_info
  have SI := Lib.hid (And.intro hi (And.intro hz0 (And.intro hz1 hz2)))
  clear hi hz0 hz1 hz2 h1 h2 hW hG hSf hSg
  have h1F : ∀ (fx : Nat → ByteArray) i j, (strs fx i j).oneCell' = true := fun _ _ _ => rfl
  go_enter Tryd.func3, Tryd.ntmps3
  go_wp2_with fail
  refine (farwords_any wA wn wc B f _ hwn (HW.out.below (hbl.out.mono hB))).mono ?_
  rw [H1.out]
  rintro en w1 ⟨rfl, rfl⟩
  go_wp2_with fail
  refine (farwords_any gA gn gc B g _ hgn (HG.out.below (hbl.out.mono hB))).mono ?_
  rw [H2.out]
  rintro en w1 ⟨rfl, rfl⟩
  go_upto_region 3 with fail
  go_region_held3 (fun w' => w'.cell? ⟨w.heap.size, 0, none⟩ = some (.slice gA gn gc) ∧ w'.cell? ⟨w.heap.size, 1, none⟩ = some (.int .i64 e) ∧ Below w.heap.size w w' ∧ w.heap.size + 1 ≤ w'.heap.size)
    (first
      | assumption
      | exact KeptH.start
      | exact KeptH.alloc_drew (w := w) (by assumption)
      | exact KeptH.alloc (w := w) (by assumption) _
      | exact KeptH.keep (w := w) (by assumption) hbx
      | fail)
    (first
      | (refine step_copy (by rfl) (.tmp 23) (.tmp 24) 22 (by rfl) 9 si _ 1 16 Tryd.underlying22 SI.out.1 SI.out.2.1 SI.out.2.2.1 SI.out.2.2.2 rfl (by omega) (by omega) (by rfl) (by first | exact Blk.new _ _ _ | exact Blk.new1 _ _ _ _ | exact (Blk.new1 _ _ _ _).alloc _ | exact Blk.new2 _ _ _ _ _ | exact (blk_drew (Blk.new2 _ _ _ _ _)).below hbx (by simp) | exact (blk_drew ((Blk.new1 _ _ _ _).alloc _)).below hbx (by simp) | fail) (h1F f) (by rfl) (HW.out.below (Below.mono (by go_split_ands; assumption) hB)).v (by omega) ?_; intro A1 c1 w1 ho1 hbx)
      | (refine step_copy (by rfl) (.tmp 26) (.tmp 28) 22 (by rfl) 9 si _ 1 16 Tryd.underlying22 SI.out.1 SI.out.2.1 SI.out.2.2.1 SI.out.2.2.2 rfl (by omega) (by omega) (by rfl) (by first | exact Blk.new _ _ _ | exact Blk.new1 _ _ _ _ | exact (Blk.new1 _ _ _ _).alloc _ | exact Blk.new2 _ _ _ _ _ | exact (blk_drew (Blk.new2 _ _ _ _ _)).below hbx (by simp) | exact (blk_drew ((Blk.new1 _ _ _ _).alloc _)).below hbx (by simp) | fail) (h1F g) (by rfl) (HG.out.below (Below.mono (by go_split_ands; assumption) hB)).v (by omega) ?_; intro A2 c2 w2 ho2 hbx)
      | (go_at_call 16; refine (pidentify_any A1 A2 wn c1 gn c2 w2.heap.size f g e _ (by omega) (by omega) (by first | exact (ho1.below hbx).rdS.1 | exact ((ho1.alloc _).below hbx).rdS.1 | fail) ho2.rdS.1 (Nat.le_refl _) HS.out.1 HS.out.2 ho1.rdS.2.1 ho1.rdS.2.2).mono ?_; rintro en w3 ⟨⟨v, rfl, ho⟩, hbx⟩)
      | fail)
  all_goals
    go_split_ands
    rename_i q0 q1 qB qS
    have hdl : (idL wn f gn g e).length ≤ 60 := by unfold idL; split; exact Nat.le_trans (M.elP_len _ _) hw60; simp
    obtain ⟨E0, hE0⟩ : ∃ E0, E0 = idE wn f gn g e := ⟨_, rfl⟩
    obtain ⟨L, hL⟩ : ∃ L, L = idL wn f gn g e := ⟨_, rfl⟩
    rw [← hE0]
    rw [← hL] at ho hdl
    have HE0 := Lib.hid hE0
    have HLL := Lib.hid hL
    obtain ⟨lA, lc, rfl, hl⟩ := ho.rd1
    have HL := Lib.hid hl
    have HB3 := Lib.hid qB
    have hz3 : w.heap.size + 1 ≤ w3.heap.size := qS
    clear ho hl hE0 hL ho1 ho2 SI hbx qB qS
    go_wp2_with fail
    refine (ridentify_any wA gA wn wc gn gc B f g e _ (by omega) (by omega) (HW.out.below (HB3.out.mono hB)) (HG.out.below (HB3.out.mono hB)) (by omega) HS.out.1 HS.out.2).mono ?_
    rintro en w4 ⟨⟨v4, rfl, ho4⟩, hb4⟩
    rw [← HE0.out]
    rw [← HLL.out] at ho4
    obtain ⟨mA, mc, rfl, hl4⟩ := ho4.rd1
    have HL4 := Lib.hid hl4
    have HL3 := Lib.hid ((HL.out.below hb4).more hb4.size)
    have HB4 := Lib.hid (HB3.out.trans (hb4.mono (by omega)))
    have r0 := (hb4.cell (p := ⟨w.heap.size, 0, none⟩) (by show w.heap.size < w3.heap.size; omega)).trans q0
    have r1 := (hb4.cell (p := ⟨w.heap.size, 1, none⟩) (by show w.heap.size < w3.heap.size; omega)).trans q1
    have hz4 : w.heap.size + 1 ≤ w4.heap.size := Nat.le_trans hz3 hb4.size
    clear hb4 ho4 hl4 q0 q1
    have e0 : (E0 != E0) = false := by simp
    go_wp2_with fail
    refine (sameInts_any lA mA L.length L.length lc mc w4.heap.size (nats L) (nats L) _ (by unfold maxLen; omega) (by unfold maxLen; omega) HL3.out HL4.out).mono ?_
    rw [same_self]
    rintro en w5 ⟨rfl, hb5⟩
    have HB5 := Lib.hid (HB4.out.trans (hb5.mono (by omega)))
    have s0 := (hb5.cell (p := ⟨w.heap.size, 0, none⟩) (by show w.heap.size < w4.heap.size; omega)).trans r0
    have s1 := (hb5.cell (p := ⟨w.heap.size, 1, none⟩) (by show w.heap.size < w4.heap.size; omega)).trans r1
    have hz5 : w.heap.size + 1 ≤ w5.heap.size := Nat.le_trans hz4 hb5.size
    clear hb5 r0 r1
    by_cases hgz : 0 < gn
    · have g1 : decide ((0 : Int) < (gn : Int)) = true := decide_eq_true (by omega)
      have g1n : decide (0 < gn) = true := decide_eq_true hgz
      have g2 : decide (gn ≤ 0) = false := decide_eq_false (by omega)
      obtain ⟨gb, go, rfl, hgb, _, t0⟩ := (HG.out.below (HB5.out.mono hB)).at0 hgz
      have hgs : gb < w5.heap.size := by omega
      have hs0 := HS.out.2 0 hgz
      go_wp2_with fail
      refine (pdecode_any wA wn wc B f (g 0) e _ (by omega) (HW.out.below (HB5.out.mono hB)) (by omega) HS.out.1 hs0 hwc hwc2).mono ?_
      rintro en w6 ⟨rfl, hb6⟩
      obtain ⟨dn, hdn⟩ : ∃ dn, dn = dcN wn f (g 0) e := ⟨_, rfl⟩
      obtain ⟨de, hde⟩ : ∃ de, de = dcE wn f (g 0) e := ⟨_, rfl⟩
      rw [← hdn, ← hde]
      have HDN := Lib.hid hdn
      have HDE := Lib.hid hde
      have HB6 := Lib.hid (HB5.out.trans (hb6.mono (by omega)))
      have u1 := (hb6.cell (p := ⟨w.heap.size, 1, none⟩) (by show w.heap.size < w5.heap.size; omega)).trans s1
      have hz6 : w.heap.size + 1 ≤ w6.heap.size := Nat.le_trans hz5 hb6.size
      clear hb6 s0 s1 hdn hde
      go_wp2_with fail
      refine (rdecode_any wA wn wc B f (g 0) e _ (by omega) (HW.out.below (HB6.out.mono hB)) (by omega) HS.out.1 hs0).mono ?_
      rintro en w7 ⟨rfl, hb7⟩
      rw [← HDN.out, ← HDE.out]
      have HB7 := Lib.hid (HB6.out.trans (hb7.mono (by omega)))
      clear hb7 u1
      have e1 : (dn == dn) = true := by simp
      have e2 : (de == de) = true := by simp
      go_wp2_with (go_at_call 15; refine (works_any _).mono ?_; rintro en w9 ⟨rfl, hb9⟩; have HB9 := Lib.hid hb9; clear hb9)
      go_ret
      exact ⟨rfl, HB7.out.trans (HB9.out.mono HB7.out.size)⟩
    · have g1 : decide ((0 : Int) < (gn : Int)) = false := decide_eq_false (by omega)
      have g1n : decide (0 < gn) = false := decide_eq_false hgz
      go_wp2_with fail
      refine (pdecode_any wA wn wc B f ⟨#[]⟩ e _ (by omega) (HW.out.below (HB5.out.mono hB)) (by omega) HS.out.1 (by decide) hwc hwc2).mono ?_
      rintro en w6 ⟨rfl, hb6⟩
      obtain ⟨dn, hdn⟩ : ∃ dn, dn = dcN wn f ⟨#[]⟩ e := ⟨_, rfl⟩
      obtain ⟨de, hde⟩ : ∃ de, de = dcE wn f ⟨#[]⟩ e := ⟨_, rfl⟩
      rw [← hdn, ← hde]
      have HDN := Lib.hid hdn
      have HDE := Lib.hid hde
      have HB6 := Lib.hid (HB5.out.trans (hb6.mono (by omega)))
      have u1 := (hb6.cell (p := ⟨w.heap.size, 1, none⟩) (by show w.heap.size < w5.heap.size; omega)).trans s1
      have hz6 : w.heap.size + 1 ≤ w6.heap.size := Nat.le_trans hz5 hb6.size
      clear hb6 s0 s1 hdn hde
      go_wp2_with fail
      refine (rdecode_any wA wn wc B f ⟨#[]⟩ e _ (by omega) (HW.out.below (HB6.out.mono hB)) (by omega) HS.out.1 (by decide)).mono ?_
      rintro en w7 ⟨rfl, hb7⟩
      rw [← HDN.out, ← HDE.out]
      have HB7 := Lib.hid (HB6.out.trans (hb7.mono (by omega)))
      clear hb7 u1
      have e1 : (dn == dn) = true := by simp
      have e2 : (de == de) = true := by simp
      go_wp2_with (go_at_call 15; refine (works_any _).mono ?_; rintro en w9 ⟨rfl, hb9⟩; have HB9 := Lib.hid hb9; clear hb9)
      go_ret
      exact ⟨rfl, HB7.out.trans (HB9.out.mono HB7.out.size)⟩
theorem relayHears_any (hwc : wn ≤ wc) (hwc2 : wc ≤ 9223372036854775807) :
    Calls Tryd.prog 3 #[.slice wA wn wc, .agg #[.slice gA gn gc, .int .i64 e]] w fun en w' => en = .returned (.bool true) ∧ Below w.heap.size w w' := by
  cases h1 : farF wn f
  · cases h2 : farF gn g
    · exact hears_near wA gA wn wc gn gc B f g e w hwn hgn hW hG hB h1 h2 hwc hwc2
    · exact hears_far wA gA wn wc gn gc B f g e w hwn hgn hW hG hB (.inr ⟨h1, h2⟩)
  · exact hears_far wA gA wn wc gn gc B f g e w hwn hgn hW hG hB (.inl h1)
end
end Go.Proofs.YtjdkcfnipkdmgaaDoor
