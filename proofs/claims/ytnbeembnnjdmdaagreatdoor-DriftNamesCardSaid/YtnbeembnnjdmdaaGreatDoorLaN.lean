/- The reference's Conflict and Struck, plain: what is left out one by one; a place as a sighting. -/
import Derived.Test.YtnbeembnnjdmdaaGreatDoorD31
import Derived.Test.YtnbeembnnjdmdaaGreatDoorJ2
import Derived.Test.YtnbeembnnjdmdaaGreatDoorG8
namespace Go.Proofs.YtnbeembnnjdmdaaGreatDoor
open Go.RowKit

namespace M
section
variable {g : List Nat → Bool} {n : Nat}
theorem kp_len_le {i : Nat} (hi : i ≤ n) : (lf g n i).length = (kp g n i).length + (n - i) := by
  unfold lf
  rw [List.length_append, List.length_range']
/-- left[:at] and left[at+1:] -/
theorem lf_take {i : Nat} : (lf g n i).take (kp g n i).length = kp g n i := by
  unfold lf
  rw [List.take_append_of_le_length (Nat.le_refl _), List.take_length]
theorem lf_drop {i : Nat} (hi : i < n) : (lf g n i).drop ((kp g n i).length + 1) = List.range' (i + 1) (n - (i + 1)) := by
  unfold lf
  rw [show n - i = (n - (i + 1)) + 1 by omega, List.range'_succ, List.drop_append]
  simp
theorem kp_succ (i : Nat) : (kp g n (i + 1)).length = if g (kp g n i ++ List.range' (i + 1) (n - (i + 1))) then (kp g n i).length + 1 else (kp g n i).length := by
  simp only [kp]
  split
  · simp
  · rfl
theorem lf_zero : lf g n 0 = List.range n := by unfold lf; simp [kp, List.range_eq_range']
end
/-- the same cells, the same histories -/
theorem Hist.congr {d : Dr} {at_ n : Nat} {l : Int} {X : Int → Bool} {fit fit' : Nat → Int → Bool} {f : Nat → Int} (h : Hist d at_ l X fit n f) (hfit : ∀ i (c : Int), i ≤ n → (-1 ≤ c ∧ c < d.s.nd) → fit i c = true → fit' i c = true) : Hist d at_ l X fit' n f :=
  ⟨h.bd, h.x0, fun i hi => hfit i _ hi (h.bd i hi) (h.fit i hi), h.go⟩
theorem posB_congr {d : Dr} {at_ n : Nat} {l : Int} {X : Int → Bool} {fit fit' : Nat → Int → Bool} (hfit : ∀ i (c : Int), i ≤ n → (-1 ≤ c ∧ c < d.s.nd) → (fit i c = true ↔ fit' i c = true)) : posB d at_ l X fit n = posB d at_ l X fit' n := by
  rw [Bool.eq_iff_iff, posB_iff, posB_iff]
  exact ⟨fun ⟨f, h⟩ => ⟨f, h.congr fun i c hi hc => (hfit i c hi hc).1⟩, fun ⟨f, h⟩ => ⟨f, h.congr fun i c hi hc => (hfit i c hi hc).2⟩⟩
/-- a sighting with which just the histories in a cell in a tick agree -/
def AtS (nd : Nat) (c t : Int) (x : Sg) : Prop := x.tk = t ∧ ∀ y : Int, -1 ≤ y → y < nd → (x.has y == x.seen) = decide (y = c)
theorem AtS.agr {nd : Nat} {c t tick y : Int} {x : Sg} (h : AtS nd c t x) (h1 : -1 ≤ y) (h2 : y < nd) : M.agr x tick y = fixB t c tick y := by
  unfold M.agr fixB
  rw [h.1, h.2 y h1 h2]
  congr 2
  rw [decide_eq_decide]
  exact eq_comm
end M
section
variable {d : M.Dr} {ta n k : Nat} {xL : List Int} {Xs Ys : Nat → SgV} {lo hi c t : Int}
/-- with the place as one more sighting: the histories there -/
theorem leeP_at {l : Int} (h1 : ∀ i, i < k → (Ys i).sg = (Xs i).sg) (h2 : M.AtS d.s.nd c t (Ys k).sg) : leeP d ta n (k + 1) xL Ys (-1) 0 l = leeP d ta n k xL Xs t c l := by
  unfold leeP
  refine M.posB_congr fun i y _ hy => ?_
  unfold trFit
  rw [fitF_some, fitF_some]
  constructor
  · rintro ⟨h3, _⟩
    refine ⟨fun j hj => ?_, ?_⟩
    · have h4 : M.agr (Ys j).sg _ _ = true := h3 j (by omega)
      rw [h1 j hj] at h4
      exact h4
    · have h4 : M.agr (Ys k).sg _ _ = true := h3 k (by omega)
      rwa [h2.agr hy.1 hy.2] at h4
  · rintro ⟨h3, h4⟩
    refine ⟨fun j hj => ?_, ?_⟩
    · by_cases e : j = k
      · subst e
        show M.agr (Ys j).sg _ _ = true
        rw [h2.agr hy.1 hy.2]
        exact h4
      · show M.agr (Ys j).sg _ _ = true
        rw [h1 j (by omega)]
        exact h3 j (by omega)
    · unfold M.fixB
      rw [decide_eq_false (by omega)]
      rfl
/-- the same sightings -/
theorem leeP_same {l ft fc : Int} (h1 : ∀ i, i < k → (Ys i).sg = (Xs i).sg) : leeP d ta n k xL Ys ft fc l = leeP d ta n k xL Xs ft fc l := by
  unfold leeP
  refine M.posB_congr fun i y _ hy => ?_
  unfold trFit
  rw [fitF_some, fitF_some]
  refine and_congr_left fun _ => forall_congr' fun j => imp_congr_right fun hj => ?_
  show M.agr (Ys j).sg _ _ = true ↔ M.agr (Xs j).sg _ _ = true
  rw [h1 j hj]
end
end Go.Proofs.YtnbeembnnjdmdaaGreatDoor
/- The reference of layer 2: Some and At. -/
namespace Go.Proofs.YtnbeembnnjdmdaaGreatDoor
open Go.RowKit

section
variable {lA hA : Option Addr} {lc hn hc B : Nat} {Xs : Nat → SgV} {l : List Nat} {w : World}
set_option maxRecDepth 100000 in
set_option maxHeartbeats 6400000 in
theorem rSome_any (hRS : RdS w B hA hn Xs) (hB : B ≤ w.heap.size) (hhn : hn ≤ 1000) (hl : Rd1 w B lA l.length (fun j => ((l.getD j 0 : Nat) : Int))) (hln : l.length ≤ 1000) (hl2 : ∀ x, x ∈ l → x < hn) :
    Calls Tryz.prog 101 #[.slice hA hn hc, .slice lA l.length lc] w fun e w' => (∃ v, e = .returned v ∧ Own w' w.heap.size 68 3 v l.length (sgF Xs l)) ∧ Below w.heap.size w w' := by
  have HRS := Lib.hid (fun V (hb : Below w.heap.size w V) => hRS.below (hb.mono hB))
  obtain ⟨j0, ki, kz0, kz1, kz2⟩ := info_parts sg_info
  have MJ := Lib.hid (And.intro ki (And.intro kz0 (And.intro kz1 kz2)))
  obtain ⟨f, hf⟩ : ∃ f : Nat → Nat, f = fun j => l.getD j 0 := ⟨_, rfl⟩
  have HX := Lib.hid (show ∀ j, j < l.length → f j < hn from fun j hj => by rw [hf]; exact hl2 _ (by dsimp only; rw [List.getD_eq_getElem?_getD, List.getElem?_eq_getElem hj, Option.getD_some]; exact List.getElem_mem hj))
  have HLF := Lib.hid (fun V (hb : Below w.heap.size w V) => (show Rd1 V B lA l.length (fun j => (f j : Int)) from by rw [hf]; exact hl.below (hb.mono hB)))
  have HSF := Lib.hid (show ∀ i j, sgF Xs l i j = (Xs (f i)).cs.getD j (.int .i64 0) from fun i j => by rw [hf]; rfl)
  generalize sgF Xs l = F at HSF ⊢
  generalize l.length = n at hln HX HLF ⊢
  clear ki kz0 kz1 kz2 hRS hl hl2 hB hf
  go_enter Tryz.func101, Tryz.ntmps101
  go_wp2_with fail
  go_loopw [5, 6] (fun v i wr => ∃ k : Nat, k ≤ n ∧ i = .int .i64 (k : Int) ∧ Hid (Own wr w.heap.size 68 3 v k F ∧ Below w.heap.size w wr)) (fun _ i _ => n - (intOf i).toNat)
  case atStart => exact ⟨0, Nat.zero_le _, rfl, Lib.hid ⟨Own.nil_, Below.refl _ _⟩⟩
  case round =>
    obtain ⟨k, hk, rfl, HO⟩ := hrel
    obtain ⟨oA, oc, hu⟩ := Own.form HO.out.1
    subst hu
    by_cases hlt : k < n
    · have g1 : decide (k < n) = true := decide_eq_true hlt
      obtain ⟨b, off, rfl, hb, c0o⟩ := (HLF.out wr HO.out.2).at_ hlt
      obtain ⟨x, hx⟩ : ∃ x, x = f k := ⟨_, rfl⟩
      have hxn : x < hn := by rw [hx]; exact HX.out k hlt
      obtain ⟨b2, off2, rfl, hb2, g0, g1_, g2_, _⟩ := (HRS.out wr HO.out.2).at_ hxn
      have c0 : wr.cell? ⟨b, off + k, none⟩ = some (.int .i64 (x : Int)) := by rw [hx]; exact c0o
      have HXE := Lib.hid hx
      have gi : (x : Int) < (hn : Int) := by omega
      have hz := HO.out.2.size
      have HOW := Lib.hid HO.out.1
      have HBW := Lib.hid HO.out.2
      clear hx c0o
      go_wp2_with (at_builtin; go_must (refine wpList_app rfl (.tmp 13) (.tmp 21) 45 rfl w.heap.size 68 3 40 Tryz.underlying45 MJ.out.1 MJ.out.2.1 MJ.out.2.2.1 MJ.out.2.2.2 rfl (by decide) (by decide) (HOW.out.alloc _) rfl (by omega) (by simp; omega) wr.heap.size 1 (fun j => (Xs x).cs.getD j (.int .i64 0)) rfl (sgc_tmp wr (Xs x)) (fun j hj => sgc_one (Xs x) j hj) ?_); intro v8 w8 o8 hg8 hat8; have HO8 := Lib.hid o8; have HG8 := Lib.hid hg8; clear o8 hg8 hat8)
      go_roundw
      case rel =>
        refine ⟨k + 1, by omega, by go_num, Lib.hid ⟨Own.congr HO8.out fun i q hi _ => ?_, (HBW.out.alloc hz _).grown HG8.out (by simp; omega) fun q hq => (Own.block HOW.out hq).1⟩⟩
        unfold upd
        by_cases e : i = k
        · subst e
          rw [if_pos rfl, HSF.out, HXE.out]
        · rw [if_neg e]
      case measure => simp [intOf]; omega
    · obtain rfl : k = n := by omega
      have g1 : decide (k < k) = false := decide_eq_false (Nat.lt_irrefl _)
      go_wp2_with fail
      go_ret
      exact ⟨⟨_, rfl, HO.out.1⟩, HO.out.2⟩
end
theorem sg_size : (Tryz.prog.info? 68).map (·.size) = some 3 := by kernel_rfl
theorem ats_in {nd : Nat} {c t : Int} (hc : 0 ≤ c) : M.AtS nd c t ⟨t, fun x => [c].contains x, true⟩ := ⟨rfl, fun y _ _ => by simp⟩
theorem blk_nt {W : World} {g g' t t' : Nat} {cs cs' : Array Value} (h : Blk W g t cs) (h' : Blk W g' t' cs') (ht : t ≠ t') : g ≠ g' := by
  rintro rfl
  have e := Option.some.inj (h.symm.trans h')
  injection e with _ e2
  exact ht e2
/-- the numbers below k -/
def uptoL (k : Nat) : List Int := (List.range k).map fun (i : Nat) => (i : Int)
theorem uptoL_succ (k : Nat) : uptoL (k + 1) = uptoL k ++ [(k : Int)] := by unfold uptoL; rw [List.range_succ, List.map_append]; rfl
theorem uptoL_len (k : Nat) : (uptoL k).length = k := by simp [uptoL]
theorem ats_out {nd : Nat} {t : Int} : M.AtS nd (-1) t ⟨t, fun x => (uptoL nd).contains x, false⟩ := ⟨rfl, fun y h1 h2 => by
  have e : (uptoL nd).contains y = decide (0 ≤ y) := by
    rw [Bool.eq_iff_iff, List.contains_iff_mem, decide_eq_true_eq]
    unfold uptoL
    rw [List.mem_map]
    constructor
    · rintro ⟨i, _, rfl⟩; omega
    · intro h
      exact ⟨y.toNat, List.mem_range.2 (by omega), by omega⟩
  show ((uptoL nd).contains y == false) = decide (y = -1)
  rw [e, Bool.eq_iff_iff, beq_iff_eq, decide_eq_true_eq, decide_eq_false_iff_not]
  omega⟩
section
variable {W H : Int} {dA tA sA zA cA wA : Option Addr} {nd dc nt tc ns sc zn zc cn cc wn wc : Nat} {w : World}
set_option maxRecDepth 100000 in
set_option maxHeartbeats 6400000 in
theorem rAt_any (hnd : nd ≤ 1000) (c t : Int) (hc : -1 ≤ c) :
    Calls Tryz.prog 63 #[.agg #[.int .i64 W, .int .i64 H, .slice dA nd dc, .slice tA nt tc, .slice sA ns sc, .slice zA zn zc, .slice cA cn cc, .slice wA wn wc], .int .i64 c, .int .i64 t] w fun e w' => (∃ A cap L sn, e = .returned (.agg #[.int .i64 t, .slice A L.length cap, .bool sn]) ∧ IL w' w.heap.size (.slice A L.length cap) L ∧ M.AtS nd c t ⟨t, fun x => L.contains x, sn⟩ ∧ L.length ≤ 1000) ∧ Below w.heap.size w w' := by
  have HB0 := Lib.hid (belowAlloc2 w (.cells #[.int .i64 W, .int .i64 H, .slice dA nd dc, .slice tA nt tc, .slice sA ns sc, .slice zA zn zc, .slice cA cn cc, .slice wA wn wc] 29) (.cells #[.int .i64 0, .slice none 0 0, .bool false] 68))
  have K0 := Lib.hid ((Blk.new w 29 #[.int .i64 W, .int .i64 H, .slice dA nd dc, .slice tA nt tc, .slice sA ns sc, .slice zA zn zc, .slice cA cn cc, .slice wA wn wc]).alloc (.cells #[.int .i64 0, .slice none 0 0, .bool false] 68))
  have Z0 := Lib.hid (Blk.new1 w (.cells #[.int .i64 W, .int .i64 H, .slice dA nd dc, .slice tA nt tc, .slice sA ns sc, .slice zA zn zc, .slice cA cn cc, .slice wA wn wc] 29) 68 #[.int .i64 0, .slice none 0 0, .bool false])
  by_cases h0 : 0 ≤ c
  · have HAT := Lib.hid (ats_in (nd := nd) (t := t) h0)
    have g1 : decide (0 ≤ c) = true := decide_eq_true h0
    clear h0
    go_enter Tryz.func63, Tryz.ntmps63
    go_upto_region 1 with fail
    generalize (w.alloc (.cells #[.int .i64 W, .int .i64 H, .slice dA nd dc, .slice tA nt tc, .slice sA ns sc, .slice zA zn zc, .slice cA cn cc, .slice wA wn wc] 29)).alloc (.cells #[.int .i64 0, .slice none 0 0, .bool false] 68) = X at HB0 K0 Z0 ⊢
    have z0 := Z0.out.cell 0
    have z1 := Z0.out.cell 1
    have z2 := Z0.out.cell 2
    have f0 := Z0.out.frz 0
    have f1 := Z0.out.frz 1
    have f2 := Z0.out.frz 2
    have hl := Z0.out.lt
    go_wp2_with fail
    have Z1 := ((Z0.out.set_ 0 (.int .i64 t)).set_ 1 (.slice (some ⟨X.heap.size, 0, none⟩) 1 1)).set_ 2 (.bool true)
    have hgr : X.grownBy (((X.setCell ⟨w.heap.size + 1, 0, none⟩ (.int .i64 t)).setCell ⟨w.heap.size + 1, 1, none⟩ (.slice (some ⟨X.heap.size, 0, none⟩) 1 1)).setCell ⟨w.heap.size + 1, 2, none⟩ (.bool true)) (some (w.heap.size + 1)) := gset (gset (gset (World.grownBy.refl _ _)))
    have hsz : (((X.setCell ⟨w.heap.size + 1, 0, none⟩ (.int .i64 t)).setCell ⟨w.heap.size + 1, 1, none⟩ (.slice (some ⟨X.heap.size, 0, none⟩) 1 1)).setCell ⟨w.heap.size + 1, 2, none⟩ (.bool true)).heap.size = X.heap.size := by simp
    have hb1 : Below w.heap.size w (((X.setCell ⟨w.heap.size + 1, 0, none⟩ (.int .i64 t)).setCell ⟨w.heap.size + 1, 1, none⟩ (.slice (some ⟨X.heap.size, 0, none⟩) 1 1)).setCell ⟨w.heap.size + 1, 2, none⟩ (.bool true)) := HB0.out.grown hgr HB0.out.size fun r e => by cases e; omega
    generalize ((X.setCell ⟨w.heap.size + 1, 0, none⟩ (.int .i64 t)).setCell ⟨w.heap.size + 1, 1, none⟩ (.slice (some ⟨X.heap.size, 0, none⟩) 1 1)).setCell ⟨w.heap.size + 1, 2, none⟩ (.bool true) = V at Z1 hgr hsz hb1 ⊢
    have ho : IL (V.alloc (.cells #[.int .i64 c] 3)) w.heap.size (.slice (some ⟨X.heap.size, 0, none⟩) 1 1) [c] := by
      rw [← hsz]
      exact Own.less (own_one (Blk.new V 3 #[.int .i64 c]) _ rfl) hb1.size
    refine bodyPost_ret (results_cell_row rfl _ _ (w.heap.size + 1) 68 #[.int .i64 t, .slice (some ⟨X.heap.size, 0, none⟩) 1 1, .bool true] (0, 0) _ rfl (Z1.alloc _) Tryz.underlying68 rfl sg_size) rfl ⟨⟨_, _, [c], true, rfl, ho, HAT.out, by simp⟩, hb1.alloc hb1.size _⟩
  · have HAT := Lib.hid (show M.AtS nd c t ⟨t, fun x => (uptoL nd).contains x, false⟩ from by rw [show c = -1 by omega]; exact ats_out)
    have g1 : decide (0 ≤ c) = false := decide_eq_false h0
    clear h0 hc
    go_enter Tryz.func63, Tryz.ntmps63
    go_upto_region 1 with fail
    generalize (w.alloc (.cells #[.int .i64 W, .int .i64 H, .slice dA nd dc, .slice tA nt tc, .slice sA ns sc, .slice zA zn zc, .slice cA cn cc, .slice wA wn wc] 29)).alloc (.cells #[.int .i64 0, .slice none 0 0, .bool false] 68) = X at HB0 K0 Z0 ⊢
    have HZB := Lib.hid HB0.out.size
    have HNE := Lib.hid (show w.heap.size + 1 ≠ X.heap.size from fun e => by have := Z0.out.lt; omega)
    go_wp2_with fail
    go_loopw [8] (fun i wr => ∃ (k : Nat) (v : Value), k ≤ nd ∧ i = .int .i64 (k : Int) ∧ Hid (Blk wr X.heap.size 68 #[.int .i64 t, v, .bool false] ∧ IL wr w.heap.size v (uptoL k) ∧ Below w.heap.size w wr ∧ Blk wr w.heap.size 29 #[.int .i64 W, .int .i64 H, .slice dA nd dc, .slice tA nt tc, .slice sA ns sc, .slice zA zn zc, .slice cA cn cc, .slice wA wn wc] ∧ Blk wr (w.heap.size + 1) 68 #[.int .i64 0, .slice none 0 0, .bool false])) (fun i _ => nd - (intOf i).toNat)
    case atStart => exact ⟨0, _, Nat.zero_le _, rfl, Lib.hid ⟨Blk.new X 68 #[.int .i64 t, .slice none 0 0, .bool false], Own.nil_, HB0.out.alloc HB0.out.size _, K0.out.alloc _, Z0.out.alloc _⟩⟩
    case round =>
      obtain ⟨k, v, hk, rfl, HI⟩ := hrel
      have k2 := HI.out.2.2.2.1.cell 2
      by_cases hlt : k < nd
      · have g2 : decide (k < nd) = true := decide_eq_true hlt
        obtain ⟨lA, lc, e⟩ := Own.form HI.out.2.1
        subst e
        have HIL := Lib.hid HI.out.2.1
        have HG := Lib.hid HI.out.1
        have HBW := Lib.hid HI.out.2.2.1
        have HK := Lib.hid HI.out.2.2.2
        have hle : (uptoL k).length ≤ k := Nat.le_of_eq (uptoL_len k)
        have HUS := Lib.hid (uptoL_succ k)
        have hz := HBW.out.size
        clear HI
        have c1 := HG.out.cell 1
        obtain ⟨L, hL⟩ : ∃ L, L = uptoL k := ⟨_, rfl⟩
        rw [← hL] at HIL hle HUS
        rw [← hL] at c1
        rw [← hL] at HG
        clear hL
        go_upto_region 8 with (at_builtin; go_must (refine wpList_apI _ rfl (.tmp 26) (.tmp 28) rfl (B := w.heap.size) (L := L) rfl (Own.alloc HIL.out _) rfl ((Blk.new _ _ _).cell 0) (by omega) (by simp; omega) ?_); intro g6 c6 w6 hi6 hg6 hb6; have HI6 := Lib.hid hi6; have HG6 := Lib.hid hg6; have P6 := Lib.hid ((HG.out.alloc (.cells #[.int .i64 (k : Int)] 3)).grown_own (Own.alloc HIL.out _) (by decide) hg6); clear hi6 hg6 hb6 c1; have c1 := P6.out.cell 1; have f1 := P6.out.frz 1; have hl6 := P6.out.lt)
        have HS6 := Lib.hid (show Blk (w6.setCell ⟨X.heap.size, 1, none⟩ (.slice (some ⟨g6, 0, none⟩) (L.length + 1) c6)) X.heap.size 68 #[.int .i64 t, .slice (some ⟨g6, 0, none⟩) (L.length + 1) c6, .bool false] from P6.out.set_ 1 _)
        have HI7 := Lib.hid (show IL (w6.setCell ⟨X.heap.size, 1, none⟩ (.slice (some ⟨g6, 0, none⟩) (L.length + 1) c6)) w.heap.size (.slice (some ⟨g6, 0, none⟩) (L.length + 1) c6) (L ++ [(k : Int)]) from Own.setCell (p := ⟨X.heap.size, 1, none⟩) HI6.out (Own.ne_blk HI6.out P6.out (by decide)) _)
        have HB7 := Lib.hid (((HBW.out.alloc hz (.cells #[.int .i64 (k : Int)] 3)).grown HG6.out (by simp; omega) fun r e => (Own.block HIL.out e).1).setCell (p := ⟨X.heap.size, 1, none⟩) HZB.out (.slice (some ⟨g6, 0, none⟩) (L.length + 1) c6))
        have HK7 := Lib.hid (((HK.out.1.alloc (.cells #[.int .i64 (k : Int)] 3)).grown_own (Own.alloc HIL.out _) (by decide) HG6.out).far (p := ⟨X.heap.size, 1, none⟩) (blk_nt ((HK.out.1.alloc (.cells #[.int .i64 (k : Int)] 3)).grown_own (Own.alloc HIL.out _) (by decide) HG6.out) P6.out (by decide)) (.slice (some ⟨g6, 0, none⟩) (L.length + 1) c6))
        have HZ7 := Lib.hid (((HK.out.2.alloc (.cells #[.int .i64 (k : Int)] 3)).grown_own (Own.alloc HIL.out _) (by decide) HG6.out).far (p := ⟨X.heap.size, 1, none⟩) (show w.heap.size + 1 ≠ X.heap.size from HNE.out) (.slice (some ⟨g6, 0, none⟩) (L.length + 1) c6))
        generalize w6.setCell ⟨X.heap.size, 1, none⟩ (.slice (some ⟨g6, 0, none⟩) (L.length + 1) c6) = wf at HS6 HI7 HB7 HK7 HZ7 ⊢
        clear HG6 P6 HI6 HIL HG HBW HK c1 f1 hl6
        go_wp2_with fail
        go_roundw
        case rel => exact ⟨k + 1, _, by omega, by go_num, Lib.hid ⟨HS6.out, by rw [HUS.out]; simpa using HI7.out, HB7.out, HK7.out, HZ7.out⟩⟩
        case measure => simp [intOf]; omega
      · obtain rfl : k = nd := by omega
        have g2 : decide (k < k) = false := decide_eq_false (Nat.lt_irrefl _)
        obtain ⟨lA, lc, e⟩ := Own.form HI.out.2.1
        subst e
        have HG := Lib.hid HI.out.1
        have HZ := Lib.hid HI.out.2.2.2.2
        have HIL := Lib.hid HI.out.2.1
        have HBW := Lib.hid HI.out.2.2.1
        clear HI
        have c0 := HG.out.cell 0
        have c1 := HG.out.cell 1
        have c2 := HG.out.cell 2
        have z0 := HZ.out.cell 0
        have z1 := HZ.out.cell 1
        have z2 := HZ.out.cell 2
        have f0 := HZ.out.frz 0
        have f1 := HZ.out.frz 1
        have f2 := HZ.out.frz 2
        have hl := HZ.out.lt
        obtain ⟨L, hL⟩ : ∃ L, L = uptoL k := ⟨_, rfl⟩
        rw [← hL] at c1 HIL HAT
        have hll : L.length ≤ 1000 := by rw [hL, uptoL_len]; exact hnd
        clear hL
        go_wp2_with fail
        have hgr : wr.grownBy (((wr.setCell ⟨w.heap.size + 1, 0, none⟩ (.int .i64 t)).setCell ⟨w.heap.size + 1, 1, none⟩ (.slice lA L.length lc)).setCell ⟨w.heap.size + 1, 2, none⟩ (.bool false)) (some (w.heap.size + 1)) := gset (gset (gset (World.grownBy.refl _ _)))
        refine bodyPost_ret (results_cell_row rfl _ _ (w.heap.size + 1) 68 #[.int .i64 t, .slice lA L.length lc, .bool false] (0, 0) _ rfl (((HZ.out.set_ 0 _).set_ 1 _).set_ 2 _) Tryz.underlying68 rfl sg_size) rfl ⟨⟨lA, lc, L, false, rfl, Own.grown HIL.out hgr (.inr (Own.ne_blk HIL.out HZ.out (by decide))), HAT.out, hll⟩, HBW.out.grown hgr HBW.out.size fun r e => by cases e; omega⟩
end
end Go.Proofs.YtnbeembnnjdmdaaGreatDoor
