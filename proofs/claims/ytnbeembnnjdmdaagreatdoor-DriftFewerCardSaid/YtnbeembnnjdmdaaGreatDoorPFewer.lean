/- Proved: DriftFewer answers true at every drift, drifter, past and one more sighting, and its arguments read as they did: the row and its tied card. Conditions: none beyond the card. -/
import Derived.Test.YtnbeembnnjdmdaaGreatDoorP1
import Derived.SizedLaws
import Derived.Test.YtnbeembnnjdmdaaGreatDoorDT2
import Derived.Test.YtnbeembnnjdmdaaGreatDoorHF
import Derived.Test.YtnbeembnnjdmdaaGreatDoorCards
import Derived.SevenTiedAt
namespace Go.Proofs.YtnbeembnnjdmdaaGreatDoor
open Go.ChangeShapes Go.WideShapes Go.ChangeAt Go.RowKit Go.Deep Go.Joins

theorem weightsAll_mem {H : Type} {P : Program} {e : TypeId} : ∀ {l : List (DataW H)} {d : DataW H}, d ∈ l → ∀ n ∈ d.weights P e, n ∈ DataW.weightsAll P e l
  | d0 :: r, d, hd, n, hn => by
    simp only [DataW.weightsAll, List.mem_append]
    rcases List.mem_cons.1 hd with rfl | hd
    · exact .inl hn
    · exact .inr (weightsAll_mem hd n hn)
  | [], _, hd, _, _ => by cases hd
theorem bytes_int : Tryz.prog.bytesOf 3 = 8 := by kernel_rfl
theorem bytes_sg : Tryz.prog.bytesOf 68 = 40 := by kernel_rfl
section
variable {H : Type} {enc : TypeId × Value → H} {w : World} {base : Nat} {spare : Nat → Bool} {held : Bool}
/-- a slice's length, by the bytes it takes -/
theorem wt_slice {t e : TypeId} {fuel : Nat} {cs : List Value} {x : DataW H × List MemPlace} (ht : Tryz.prog.underlying t = some (.slice e)) (h : DataW.trod enc Tryz.prog w base spare held fuel t cs = some x) (hw : ∀ n ∈ x.1.weights Tryz.prog t, n ≤ reachBytes) {A : Option Addr} {n c : Nat} (hcs : cs = [.slice A n c]) : n * Tryz.prog.bytesOf e ≤ reachBytes := by
  rcases open_slice ht h with ⟨rfl, _⟩ | ⟨a, len, cap, k, n', D, Pl, rfl, _, hl, hmx, hk, rfl, hi⟩
  · simp at hcs
    obtain ⟨_, rfl, _⟩ := hcs
    simp
  · simp at hcs
    obtain ⟨rfl, rfl, rfl⟩ := hcs
    have h1 := hw ((len + (k - len)) * Tryz.prog.bytesOf e) (by simp [DataW.weights, ht])
    exact Nat.le_trans (Nat.mul_le_mul_right _ (by omega)) h1
set_option maxRecDepth 100000 in
/-- sightings, by the bytes that they take -/
theorem wt_seen {fuel : Nat} {cs : List Value} {x : DataW H × List MemPlace} (h : DataW.trod enc Tryz.prog w base spare held fuel 45 cs = some x) (hw : ∀ n ∈ x.1.weights Tryz.prog 45, n ≤ reachBytes) {A : Option Addr} {n c : Nat} {Xs : Nat → SgV} (hcs : cs = [.slice A n c]) (hr : RdS w w.heap.size A n Xs) :
    n * 40 ≤ reachBytes ∧ ∀ i, i < n → (Xs i).L.length * 8 ≤ reachBytes := by
  refine ⟨by have := wt_slice Tryz.underlying45 h hw hcs; rwa [bytes_sg] at this, fun i hi => ?_⟩
  rcases open_slice Tryz.underlying45 h with ⟨rfl, _⟩ | ⟨a, len, cap, k, n', D, Pl, rfl, _, hl, hmx, hk, rfl, hi'⟩
  · simp at hcs
    omega
  · simp at hcs
    obtain ⟨rfl, rfl, rfl⟩ := hcs
    have hlk : len ≤ k := by rw [hk]; split <;> omega
    obtain ⟨cs', hc, ht⟩ := hi' i (by omega)
    rw [cells_sg] at hc
    obtain ⟨_, _, hat⟩ := World.cells?_some hc
    obtain ⟨b, off, e, _, _, h1, _, _, _⟩ := hr.at_ hi
    cases e
    have h1' := hat 1 (by omega)
    rw [addr_add, addr_add, h1] at h1'
    obtain ⟨xs, n'', _, e, _, hlen, hf⟩ := DataW.trod_struct Tryz.underlying68 ht
    have hl3 : xs.length = 3 := hlen
    have hf1 := hf 1 _ rfl
    rw [List.getElem?_eq_getElem (show 1 < xs.length by omega)] at hf1
    have hcs' : ((cs'.drop 1).take (Tryz.prog.cellsOf 22)) = [.slice (Xs i).A (Xs i).L.length (Xs i).c] := by
      rw [cells_ints]
      match cs', h1' with
      | _ :: u :: _, hu => simp at hu; subst hu; rfl
    have h2 := wt_slice (t := 22) (e := 3) Tryz.underlying22 hf1 (fun m hm => hw m ?_) hcs'
    · rwa [bytes_int] at h2
    · simp only [DataW.weights, Tryz.underlying45, List.mem_cons, List.mem_append]
      refine .inr (.inl (weightsAll_mem (List.mem_map.2 ⟨i, List.mem_range.2 hi, rfl⟩) m ?_))
      have e1 : D i = .agg (xs.map (·.1)) := by have := congrArg Prod.fst e; exact this
      rw [e1]
      simp only [DataW.weights, Tryz.underlying68]
      exact DataW.weights_mem_each (j := 1) (t := 22) rfl (by simp [List.getElem?_map, List.getElem?_eq_getElem (show 1 < xs.length by omega)]) m hm
set_option maxRecDepth 100000 in
/-- a past and one more sighting, by value -/
theorem open_more {r : Reach} {b0 : Nat} {v : Value} {d : DataW H} {p : List MemPlace} (hv : Value.okWide Tryz.prog w r b0 70 v) (h : DataW.Trod enc Tryz.prog w base spare held 70 v d p) (hw : ∀ n ∈ d.weights Tryz.prog 70, n ≤ reachBytes) :
    ∃ (hA : Option Addr) (hn hc : Nat) (Xs : Nat → SgV) (l : Int) (pA : Option Addr) (pn pc : Nat) (pf : Nat → Int) (x : SgV), v = .agg #[.slice hA hn hc, .int .i64 l, .slice pA pn pc, .int .i64 x.tk, .slice x.A x.L.length x.c, .bool x.seen] ∧ hn ≤ 3518437208780 ∧ (∀ i, i < hn → (Xs i).L.length ≤ 17592186043904) ∧ RdS w w.heap.size hA hn Xs ∧ pn ≤ maxLen ∧ Rd1 w w.heap.size pA pn pf ∧ Rd1 w w.heap.size x.A x.L.length (fun k => x.L.getD k 0) ∧ x.L.length ≤ maxLen := by
  obtain ⟨cs, rfl, hsz⟩ := okWide_struct Tryz.underlying70 hv
  have hsz6 : cs.size = 6 := hsz.trans (by kernel_rfl)
  obtain ⟨fuel, hf⟩ := h
  obtain ⟨xs, n', _, e, _, hlen, hff⟩ := DataW.trod_struct Tryz.underlying70 hf
  have hl : xs.length = 2 := hlen
  have h0 := hff 0 _ rfl
  have h1 := hff 1 _ rfl
  rw [List.getElem?_eq_getElem (show 0 < xs.length by omega)] at h0
  rw [List.getElem?_eq_getElem (show 1 < xs.length by omega)] at h1
  obtain ⟨s, ⟨s0, s1, s2⟩, s3, s4⟩ := sg_cells h1
  obtain ⟨ys, n2, _, e2, _, hlen2, hf2⟩ := DataW.trod_struct Tryz.underlying61 h0
  have hl2 : ys.length = 3 := hlen2
  have g0 := hf2 0 _ rfl
  obtain ⟨A, m, c, Xs, e0, hm, hr⟩ := field_sgs (i := 0) g0 (by omega)
  obtain ⟨a, e1⟩ := field_int (i := 1) (hf2 1 _ rfl) (by omega)
  obtain ⟨A2, m2, c2, f2, e3, hm2, hr2⟩ := field_ints (i := 2) (hf2 2 _ rfl) (by omega)
  rw [List.getElem?_eq_getElem (show 0 < ys.length by omega)] at g0
  obtain ⟨l⟩ := cs
  match l, hsz6 with
  | [c0, c1, c2', c3, c4, c5], _ =>
    have hcp : Tryz.prog.cellsOf 61 = 3 := by kernel_rfl
    have hcg : Tryz.prog.cellsOf 68 = 3 := by kernel_rfl
    simp [Value.cells, hcp] at e0 e1 e3
    simp [Value.cells, hcg] at s0 s1 s2
    subst e0; subst e1; subst e3; subst s0; subst s1; subst s2
    have hb := wt_seen (cs := [.slice A m c]) (x := ys[0]) (by simpa [Value.cells, hcp, cells_sgs] using g0) (fun k hk => hw k ?_) rfl hr
    · unfold reachBytes at hb
      exact ⟨_, _, _, Xs, _, _, _, _, f2, s, rfl, by omega, fun i hi => by have := hb.2 i hi; omega, hr, hm2, hr2, s3, s4⟩
    · have ed : d = .agg (xs.map (·.1)) := congrArg Prod.fst e
      rw [ed]
      simp only [DataW.weights, Tryz.underlying70]
      refine DataW.weights_mem_each (j := 0) (t := 61) (d := xs[0].1) rfl (by simp [List.getElem?_map, List.getElem?_eq_getElem (show 0 < xs.length by omega)]) k ?_
      have ed2 : xs[0].1 = .agg (ys.map (·.1)) := congrArg Prod.fst e2
      rw [ed2]
      simp only [DataW.weights, Tryz.underlying61]
      exact DataW.weights_mem_each (j := 0) (t := 45) (d := ys[0].1) rfl (by simp [List.getElem?_map, List.getElem?_eq_getElem (show 0 < ys.length by omega)]) k hk
end
end Go.Proofs.YtnbeembnnjdmdaaGreatDoor
namespace Go.Proofs.YtnbeembnnjdmdaaGreatDoor
open Go.ChangeShapes Go.WideShapes Go.ChangeAt Go.RowKit Go.Deep Go.Joins

namespace driftFewer
set_option maxRecDepth 100000 in
theorem contract (H : Type) (enc : TypeId × Value → H) (W : World) (base : Nat) (args : Array Value) (ds gs : List (DataW H)) (before : List MemPlace)
    (hval : ∀ (j : Nat) t v, Tryz.f7.params[j]? = some t → args[j]? = some v → Value.okWide Tryz.prog W .any base t v)
    (hW : DataW.Whole enc Tryz.prog Tryz.f7.params.toList Rows.driftFewerSpec.vars false W args.toList ds gs before) (hL : laidMetH Tryz.prog laidL W) (hsz : (DataW.weightsEach Tryz.prog (Tryz.f7.params.toList ++ Rows.driftFewerSpec.plain.varTypes Tryz.prog) (ds ++ gs)).all (· ≤ reachBytes) = true) :
    Calls Tryz.prog 7 args W fun e W' => ∃ v, e = .returned v ∧ Rows.driftFewerSpec.post enc Tryz.prog Tryz.f7 false true false false W args v W' := by
  have hW' := hW
  obtain ⟨p, q, hA0, hV, rfl, hfz, hnd⟩ := hW
  have hA : DataW.TrodAll enc Tryz.prog W 0 (fun _ => true) true Tryz.f7.params.toList args.toList ds p := hA0
  rw [Tryz.params7] at hA hval
  obtain ⟨v0, v1, v2, d0, d1, d2, p0, p1, p2, rfl, rfl, rfl, h0, h1, h2⟩ := trodAll_three hA
  obtain ⟨rfl, rfl⟩ := trodVars_none hV
  have hWy := ways_of_laid hL
  have hFr := free_of_laid hL
  obtain ⟨cW, cH, dA, tA, sA, zA, cA, wA, nd, dc, nt, tc, ns, sc, zn, zc, cn, cc, wn, wc, dep, tide, sw, z, cl, cu, wd, rfl, hnd, hnt, hns, hzn, hcn, hwn, hRD⟩ := open_drift (hval 0 29 v0 rfl rfl) h0
  obtain ⟨at_, lo_, hi_, xA, xL, xc, rfl, hxL, hxR⟩ := open_drifter (hval 1 44 v1 rfl rfl) h1
  have hw2 : ∀ n ∈ d2.weights Tryz.prog 70, n ≤ reachBytes := fun n hn => of_decide_eq_true (List.all_eq_true.1 hsz n (DataW.weights_mem_each (j := 2) (t := 70) (d := d2) (by rw [Tryz.params7]; rfl) rfl n hn))
  obtain ⟨hA_, hn_, hc_, Xs_, lw_, pA_, pn_, pc_, pf_, x_, rfl, hhn, hhl, hRS, hpn, hPR, hxr, hxl⟩ := open_more (hval 2 70 v2 rfl rfl) h2 hw2
  refine (driftFewer_any hnd hnt hns hzn hcn hwn hRD (Nat.le_refl _) hWy hxR hxL hRS hhn hhl hPR hpn hxr hxl hFr).mono fun e W' ⟨he, hbl⟩ => ⟨_, he, ?_⟩
  exact post_true rfl rfl (by
    rw [Tryz.params7]
    intro t ht
    simp at ht
    rcases ht with rfl | rfl | rfl
    · exact ⟨by kernel_rfl, of_decide_eq_true (by kernel_rfl)⟩
    · exact ⟨by kernel_rfl, of_decide_eq_true (by kernel_rfl)⟩
    · exact ⟨by kernel_rfl, of_decide_eq_true (by kernel_rfl)⟩) hW' rfl rfl rfl hbl

set_option maxRecDepth 100000 in
theorem lifted (os : Os) (started : os.Started) (H : Type) (enc : TypeId × Value → H) :
    ReturnsInHanded {} Tryz.checked os 7 .any (fun w args => (Rows.driftFewerSpec.pre enc Tryz.prog Tryz.f7 [] false w args ∧ laidMetH Tryz.prog laidL w) ∧ sizedMet enc Tryz.prog Tryz.f7 (OpenSpec.ofChange Rows.driftFewerSpec) false w args)
      (Rows.driftFewerSpec.post enc Tryz.prog Tryz.f7 false true false false) := by
  refine returnsInHanded_of_change_and (C := Tryz.checked) (X := fun w _ => laidMetH Tryz.prog laidL w) (fun _ _ _ hh h => h.of_heap hh) own started (by kernel_rfl) Tryz.func7
    (ChangeSpec.witness_shaped (enc := enc) (C := Tryz.checked) (os := os) (X := fun w _ => laidMetH Tryz.prog laidL w) false (World.doorLaid Tryz.prog 400 os) #[.agg #[.int .i64 0, .int .i64 0, .slice none 0 0, .slice none 0 0, .slice none 0 0, .slice none 0 0, .slice none 0 0, .slice none 0 0], .agg #[.int .i64 0, .slice none 0 0, .int .i64 0, .int .i64 0], .agg #[.slice none 0 0, .int .i64 0, .slice none 0 0, .int .i64 0, .slice none 0 0, .bool false]] 8 rfl (World.shaped_of_RefB (by kernel_rfl) (by kernel_rfl)) (by kernel_rfl) (by kernel_rfl) (by kernel_rfl) (door_met os _)) ?_
  intro W base args ds gs before hval hW _ hsz hL _
  exact contract H enc W base args ds gs before hval hW hL hsz
end driftFewer

theorem driftFewer_holds : Rows.DriftFewerSaid :=
  OpenClaim.holds_of_wide 7 Tryz.f7 rfl rfl rfl rfl rfl rfl rfl ⟨rfl, rfl, rfl, rfl, rfl⟩ rfl rfl rfl rfl rfl (by kernel_rfl) Tryz.func7 (by kernel_rfl)
    (of_decide_eq_true (by kernel_rfl)) (by unfold Func.isWrapper; first | (rw [if_pos (by decide +kernel)]; kernel_rfl) | (rw [if_neg (by decide +kernel)]; exact ⟨rfl, rfl⟩))
    (fun os started H enc _ => driftFewer.lifted os started H enc)

theorem driftFewer_card : Rows.DriftFewerCardSaid :=
  Claim7.holds_tied_plain_at .later [] [.data, .data] true Rows.driftFewerCard.stood.harness false
    driftFewer_holds (fun _ h => by cases h) (by kernel_rfl) (fun _ h => by cases h) driftFewer_row_tie rfl ⟨rfl, rfl⟩ (by kernel_rfl) rfl
    (fun f fn hf hfn => by
      obtain rfl : f = 7 := Option.some.inj ((show Tryz.prog.funcNamed "coble/coblelaw02.DriftFewer" = some 7 by kernel_rfl).symm.trans hf) |>.symm
      obtain rfl : fn = Tryz.f7 := (Option.some.inj (Tryz.func7.symm.trans hfn)).symm
      exact ⟨by kernel_rfl, fun j t ht => by
        rw [Tryz.params7] at ht
        have hm : t ∈ [29, 44, 70] := by simpa using Array.mem_of_getElem? ht
        have hall : ([29, 44, 70].all fun u => !Tryz.prog.wantsStandIn u) = true := by kernel_rfl
        exact (show Tryz.prog.wantsStandIn t = false by simpa using List.all_eq_true.1 hall t hm)⟩)
    (by kernel_rfl)
end Go.Proofs.YtnbeembnnjdmdaaGreatDoor
