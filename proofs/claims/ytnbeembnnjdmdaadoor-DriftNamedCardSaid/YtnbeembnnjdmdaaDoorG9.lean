/- coblelaw02.only: the sightings of some indexes, without one of them. -/
import Derived.Test.YtnbeembnnjdmdaaDoorG8
namespace Go.Proofs.YtnbeembnnjdmdaaDoor
open Go.RowKit

/-- the first k indexes of a list without one of them -/
def butL (l : List Nat) (but : Int) (k : Nat) : List Nat := ((List.range k).filter fun (i : Nat) => !decide ((i : Int) = but)).map fun i => l.getD i 0
theorem butL_succ (l : List Nat) (but : Int) (k : Nat) : butL l but (k + 1) = butL l but k ++ if (k : Int) = but then [] else [l.getD k 0] := by
  unfold butL
  rw [List.range_succ, List.filter_append, List.map_append]
  congr 1
  by_cases h : (k : Int) = but <;> simp [h]
theorem butL_len (l : List Nat) (but : Int) (k : Nat) : (butL l but k).length ≤ k := by
  unfold butL
  rw [List.length_map]
  exact Nat.le_trans (List.length_filter_le _ _) (by simp)
theorem butL_mem {l : List Nat} {but : Int} {x : Nat} : x ∈ butL l but l.length ↔ ∃ i, i < l.length ∧ (i : Int) ≠ but ∧ l.getD i 0 = x := by
  unfold butL
  simp only [List.mem_map, List.mem_filter, List.mem_range, Bool.not_eq_true', decide_eq_false_iff_not, and_assoc, ne_eq]
theorem butL_sub {l : List Nat} {but : Int} {x : Nat} (h : x ∈ butL l but l.length) : x ∈ l := by
  obtain ⟨i, hi, _, rfl⟩ := butL_mem.1 h
  rw [List.getD_eq_getElem?_getD, List.getElem?_eq_getElem hi, Option.getD_some]
  exact List.getElem_mem hi
theorem butL_all {l : List Nat} {but : Int} (hb : but < 0) {x : Nat} (h : x ∈ l) : x ∈ butL l but l.length := by
  obtain ⟨i, hi, rfl⟩ := List.getElem_of_mem h
  exact butL_mem.2 ⟨i, hi, by omega, by rw [List.getD_eq_getElem?_getD, List.getElem?_eq_getElem hi, Option.getD_some]⟩
theorem butL_ne {l : List Nat} (hs : l.Pairwise (· < ·)) {k : Nat} (hk : k < l.length) {x : Nat} (h : x ∈ butL l (k : Int) l.length) : x ≠ l[k] := by
  obtain ⟨i, hi, hne, rfl⟩ := butL_mem.1 h
  rw [List.getD_eq_getElem?_getD, List.getElem?_eq_getElem hi, Option.getD_some]
  rw [List.pairwise_iff_getElem] at hs
  rcases Nat.lt_or_ge i k with h | h
  · have := hs i k hi hk h; omega
  · have := hs k i hk hi (by omega); omega
theorem sgc_tmp (W : World) (x : SgV) : ∀ j, j < 3 → (W.alloc (.cells #[.int .i64 x.tk, .slice x.A x.L.length x.c, .bool x.seen] 75)).cell? ⟨W.heap.size, j, none⟩ = some (x.cs.getD j (.int .i64 0)) := by
  intro j hj
  refine ((Blk.new W 75 x.cs).cell j).trans ?_
  obtain rfl | rfl | rfl : j = 0 ∨ j = 1 ∨ j = 2 := by omega
  all_goals rfl
theorem sgc_one (x : SgV) (j : Nat) (hj : j < 3) : (x.cs.getD j (.int .i64 0)).oneCell' = true := by
  obtain rfl | rfl | rfl : j = 0 ∨ j = 1 ∨ j = 2 := by omega
  all_goals rfl
theorem sgF_app (Xs : Nat → SgV) (L : List Nat) (x : Nat) : ∀ i j, i < L.length + 1 → upd (sgF Xs L) L.length (fun j => (Xs x).cs.getD j (.int .i64 0)) i j = sgF Xs (L ++ [x]) i j := fun i j hi => by
  unfold upd sgF
  by_cases e : i = L.length
  · subst e; simp
  · rw [if_neg e]
    have h : i < L.length := by omega
    simp [List.getD_eq_getElem?_getD, List.getElem?_append_left h]
section
variable {lA hA : Option Addr} {lc hn hc B : Nat} {Xs : Nat → SgV} {l : List Nat} {w : World}
set_option maxRecDepth 100000 in
set_option maxHeartbeats 6400000 in
theorem only_any (hRS : RdS w B hA hn Xs) (hB : B ≤ w.heap.size) (hhn : hn ≤ 1000) (hl : Rd1 w B lA l.length (fun j => ((l.getD j 0 : Nat) : Int))) (hln : l.length ≤ 1000) (hs : l.Pairwise (· < ·)) (hl2 : ∀ x, x ∈ l → x < hn) (but : Int) :
    Calls Tryd.prog 12 #[.slice hA hn hc, .slice lA l.length lc, .int .i64 but] w fun e w' => (∃ v, e = .returned (.tuple #[v, .bool true]) ∧ Own w' w.heap.size 75 3 v (butL l but l.length).length (sgF Xs (butL l but l.length))) ∧ Below w.heap.size w w' := by
  have HRS := Lib.hid (fun V (hb : Below w.heap.size w V) => hRS.below (hb.mono hB))
  have HLR := Lib.hid (fun V (hb : Below w.heap.size w V) => hl.below (hb.mono hB))
  obtain ⟨j0, ki, kz0, kz1, kz2⟩ := info_parts sg_info
  have MJ := Lib.hid (And.intro ki (And.intro kz0 (And.intro kz1 kz2)))
  have HX := Lib.hid (show ∀ j, j < l.length → l.getD j 0 < hn from fun j hj => hl2 _ (by rw [List.getD_eq_getElem?_getD, List.getElem?_eq_getElem hj, Option.getD_some]; exact List.getElem_mem hj))
  have HAS := Lib.hid (show ∀ j, j + 1 < l.length → l.getD j 0 < l.getD (j + 1) 0 from fun j hj => by
    rw [List.getD_eq_getElem?_getD, List.getElem?_eq_getElem (show j < l.length by omega), Option.getD_some, List.getD_eq_getElem?_getD, List.getElem?_eq_getElem hj, Option.getD_some]
    rw [List.pairwise_iff_getElem] at hs
    exact hs j (j + 1) (by omega) hj (by omega))
  have HBB := Lib.hid hB
  have HBL := Lib.hid (fun k => butL_succ l but k)
  have HLN := Lib.hid (fun k => butL_len l but k)
  obtain ⟨bL, hbL⟩ : ∃ bL, bL = butL l but := ⟨_, rfl⟩
  have hb0 : bL 0 = [] := by rw [hbL]; rfl
  rw [← hbL] at HBL HLN ⊢
  have HB0 := Lib.hid hb0
  obtain ⟨f, hf⟩ : ∃ f : Nat → Nat, f = fun j => l.getD j 0 := ⟨_, rfl⟩
  have HFE := Lib.hid (fun j => congrFun hf j)
  have HLF := Lib.hid (fun V (hb : Below w.heap.size w V) => (show Rd1 V B lA l.length (fun j => (f j : Int)) from by rw [hf]; exact HLR.out V hb))
  clear ki kz0 kz1 kz2 hRS hl hs hl2 hB hbL hb0 hf HLR
  generalize l.length = n at hln HX HAS HLF ⊢
  go_enter Tryd.func12, Tryd.ntmps12
  go_wp2_with fail
  go_loopw [8, 9] (fun v i wr => ∃ k : Nat, k ≤ n ∧ i = .int .i64 (k : Int) ∧ Hid (Own wr w.heap.size 75 3 v (bL k).length (sgF Xs (bL k)) ∧ Below w.heap.size w wr)) (fun _ i _ => n - (intOf i).toNat)
  case atStart => exact ⟨0, Nat.zero_le _, rfl, Lib.hid ⟨by rw [HB0.out]; exact Own.nil_, Below.refl _ _⟩⟩
  case round =>
    obtain ⟨k, hk, rfl, HO⟩ := hrel
    by_cases hlt : k < n
    · have HOW := Lib.hid HO.out.1
      have HBW := Lib.hid HO.out.2
      have HLK := Lib.hid (HLN.out k)
      have HBS := Lib.hid (HBL.out k)
      rw [← HFE.out k] at HBS
      have HXK := Lib.hid (show f k < hn from by rw [HFE.out]; exact HX.out k hlt)
      obtain ⟨oA, oc, hu⟩ := Own.form HO.out.1
      subst hu
      obtain ⟨b, off, rfl, hb, c0⟩ := (HLF.out wr HO.out.2).at_ hlt
      obtain ⟨b2, off2, rfl, hb2, g0, g1_, g2_, _⟩ := (HRS.out wr HO.out.2).at_ HXK.out
      obtain ⟨x, hx⟩ : ∃ x, x = f k := ⟨_, rfl⟩
      have hxn : x < hn := by rw [hx]; exact HXK.out
      rw [← hx] at c0 g0 g1_ g2_ HBS
      have HXE := Lib.hid hx
      clear hx
      have kx : decide (n ≤ k) = false := decide_eq_false (by omega)
      have i0 : decide ((x : Int) < 0) = false := decide_eq_false (by omega)
      have i1 : decide (hn ≤ x) = false := decide_eq_false (by omega)
      have i2 : decide ((hn : Int) ≤ (x : Int)) = false := decide_eq_false (by omega)
      have hlk : (bL k).length ≤ 1000 := by have := HLK.out; omega
      by_cases hbt : (k : Int) = but
      · rcases Nat.eq_zero_or_pos k with h0 | h0
        · have g1 : decide (0 < k) = false := decide_eq_false (by omega)
          have g2 : decide ((0 : Int) < (k : Int)) = false := decide_eq_false (by omega)
          clear h0
          subst hbt
          have g4 : (((k : Nat) : Int) != ((k : Nat) : Int)) = false := by simp
          have HK := Lib.hid (show Own wr w.heap.size 75 3 (.slice oA (bL k).length oc) (bL (k + 1)).length (sgF Xs (bL (k + 1))) from by have h := HBS.out; rw [if_pos rfl, List.append_nil] at h; rw [h]; exact HOW.out)
          go_upto_region 5 with fail
          go_quiet (fail)
          go_wp2_with fail
          go_roundw
          case rel => exact ⟨k + 1, by omega, by go_num, Lib.hid ⟨HK.out, HBW.out.drewN nq⟩⟩
          case measure => simp [intOf]; omega
        · obtain ⟨j, rfl⟩ : ∃ j, k = j + 1 := ⟨k - 1, by omega⟩
          obtain ⟨b', off', e', _, c1⟩ := (HLF.out wr HO.out.2).at_ (show j < n by omega)
          cases e'
          have hlt2 : f j < x := by rw [HXE.out, HFE.out, HFE.out]; exact HAS.out j hlt
          have ej : ((j + 1 : Nat) : Int) - 1 = (j : Int) := by omega
          have g1 : decide (0 < j + 1) = true := decide_eq_true (by omega)
          have g2 : decide ((0 : Int) < ((j + 1 : Nat) : Int)) = true := decide_eq_true (by omega)
          have kj : decide (n ≤ j) = false := decide_eq_false (by omega)
          have g3 : decide (x ≤ f j) = false := decide_eq_false (by omega)
          have g5 : decide ((x : Int) ≤ (f j : Int)) = false := decide_eq_false (by omega)
          subst hbt
          have g4 : ((((j + 1) : Nat) : Int) != (((j + 1) : Nat) : Int)) = false := by simp
          have HK := Lib.hid (show Own wr w.heap.size 75 3 (.slice oA (bL (j + 1)).length oc) (bL ((j + 1) + 1)).length (sgF Xs (bL ((j + 1) + 1))) from by have h := HBS.out; rw [if_pos rfl, List.append_nil] at h; rw [h]; exact HOW.out)
          go_upto_region 5 with fail
          go_quiet (fail)
          go_wp2_with fail
          go_roundw
          case rel => exact ⟨(j + 1) + 1, by omega, by go_num, Lib.hid ⟨HK.out, HBW.out.drewN nq⟩⟩
          case measure => simp [intOf]; omega
      · rcases Nat.eq_zero_or_pos k with h0 | h0
        · have g1 : decide (0 < k) = false := decide_eq_false (by omega)
          have g2 : decide ((0 : Int) < (k : Int)) = false := decide_eq_false (by omega)
          clear h0
          have g4 : (((k : Nat) : Int) != but) = true := by simpa using hbt
          have HK := Lib.hid (show bL (k + 1) = bL k ++ [x] from by have h := HBS.out; rwa [if_neg hbt] at h)
          clear hbt
          go_upto_region 5 with fail
          go_quiet (fail)
          have HOY := Lib.hid (show Own (wr.drewN nq) w.heap.size 75 3 (.slice oA (bL k).length oc) (bL k).length (sgF Xs (bL k)) from HOW.out)
          have HBY := Lib.hid (HBW.out.drewN nq)
          have hz : w.heap.size ≤ (wr.drewN nq).heap.size := HBW.out.size
          have y0 : (wr.drewN nq).cell? ⟨b, off + k, none⟩ = some (.int .i64 (x : Int)) := c0
          have y1 : (wr.drewN nq).cell? ⟨b2, off2 + x * 3, none⟩ = _ := g0
          have y2 : (wr.drewN nq).cell? ⟨b2, off2 + x * 3 + 1, none⟩ = _ := g1_
          have y3 : (wr.drewN nq).cell? ⟨b2, off2 + x * 3 + 2, none⟩ = _ := g2_
          generalize wr.drewN nq = Y at y0 y1 y2 y3 HOY HBY hz ⊢
          go_wp2_with (at_builtin; go_must (refine wpList_app rfl (.tmp 49) (.tmp 57) 34 rfl w.heap.size 75 3 40 Tryd.underlying34 MJ.out.1 MJ.out.2.1 MJ.out.2.2.1 MJ.out.2.2.2 rfl (by decide) (by decide) (HOY.out.alloc _) rfl (by omega) (by simp; omega) Y.heap.size 1 (fun j => (Xs x).cs.getD j (.int .i64 0)) rfl (sgc_tmp Y (Xs x)) (fun j hj => sgc_one (Xs x) j hj) ?_); intro v8 w8 o8 hg8 hat8; have HO8 := Lib.hid o8; have HG8 := Lib.hid hg8; clear o8 hg8 hat8)
          go_roundw
          case rel => exact ⟨k + 1, by omega, by go_num, Lib.hid ⟨by rw [HK.out, List.length_append]; exact Own.congr HO8.out fun i q hi _ => sgF_app Xs (bL k) x i q hi, (HBY.out.alloc hz _).grown HG8.out (by simp; omega) fun q hq => (Own.block HOY.out hq).1⟩⟩
          case measure => simp [intOf]; omega
        · obtain ⟨j, rfl⟩ : ∃ j, k = j + 1 := ⟨k - 1, by omega⟩
          obtain ⟨b', off', e', _, c1⟩ := (HLF.out wr HO.out.2).at_ (show j < n by omega)
          cases e'
          have hlt2 : f j < x := by rw [HXE.out, HFE.out, HFE.out]; exact HAS.out j hlt
          have ej : ((j + 1 : Nat) : Int) - 1 = (j : Int) := by omega
          have g1 : decide (0 < j + 1) = true := decide_eq_true (by omega)
          have g2 : decide ((0 : Int) < ((j + 1 : Nat) : Int)) = true := decide_eq_true (by omega)
          have kj : decide (n ≤ j) = false := decide_eq_false (by omega)
          have g3 : decide (x ≤ f j) = false := decide_eq_false (by omega)
          have g5 : decide ((x : Int) ≤ (f j : Int)) = false := decide_eq_false (by omega)
          have g4 : ((((j + 1) : Nat) : Int) != but) = true := by simpa using hbt
          have HK := Lib.hid (show bL ((j + 1) + 1) = bL (j + 1) ++ [x] from by have h := HBS.out; rwa [if_neg hbt] at h)
          clear hbt
          go_upto_region 5 with fail
          go_quiet (fail)
          have HOY := Lib.hid (show Own (wr.drewN nq) w.heap.size 75 3 (.slice oA (bL (j + 1)).length oc) (bL (j + 1)).length (sgF Xs (bL (j + 1))) from HOW.out)
          have HBY := Lib.hid (HBW.out.drewN nq)
          have hz : w.heap.size ≤ (wr.drewN nq).heap.size := HBW.out.size
          have y0 : (wr.drewN nq).cell? ⟨b, off + (j + 1), none⟩ = some (.int .i64 (x : Int)) := c0
          have y1 : (wr.drewN nq).cell? ⟨b2, off2 + x * 3, none⟩ = _ := g0
          have y2 : (wr.drewN nq).cell? ⟨b2, off2 + x * 3 + 1, none⟩ = _ := g1_
          have y3 : (wr.drewN nq).cell? ⟨b2, off2 + x * 3 + 2, none⟩ = _ := g2_
          generalize wr.drewN nq = Y at y0 y1 y2 y3 HOY HBY hz ⊢
          go_wp2_with (at_builtin; go_must (refine wpList_app rfl (.tmp 49) (.tmp 57) 34 rfl w.heap.size 75 3 40 Tryd.underlying34 MJ.out.1 MJ.out.2.1 MJ.out.2.2.1 MJ.out.2.2.2 rfl (by decide) (by decide) (HOY.out.alloc _) rfl (by omega) (by simp; omega) Y.heap.size 1 (fun j => (Xs x).cs.getD j (.int .i64 0)) rfl (sgc_tmp Y (Xs x)) (fun j hj => sgc_one (Xs x) j hj) ?_); intro v8 w8 o8 hg8 hat8; have HO8 := Lib.hid o8; have HG8 := Lib.hid hg8; clear o8 hg8 hat8)
          go_roundw
          case rel => exact ⟨(j + 1) + 1, by omega, by go_num, Lib.hid ⟨by rw [HK.out, List.length_append]; exact Own.congr HO8.out fun i q hi _ => sgF_app Xs (bL (j + 1)) x i q hi, (HBY.out.alloc hz _).grown HG8.out (by simp; omega) fun q hq => (Own.block HOY.out hq).1⟩⟩
          case measure => simp [intOf]; omega
    · obtain rfl : k = n := by omega
      go_wp2_with fail
      go_ret2
      exact ⟨⟨_, rfl, HO.out.1⟩, HO.out.2⟩
end
end Go.Proofs.YtnbeembnnjdmdaaDoor
