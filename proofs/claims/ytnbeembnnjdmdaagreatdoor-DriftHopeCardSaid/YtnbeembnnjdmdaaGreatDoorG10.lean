/- drift.History: what its body goes by. -/
import Derived.Test.YtnbeembnnjdmdaaGreatDoorG5
import Derived.Test.YtnbeembnnjdmdaaGreatDoorLaH
namespace Go.Proofs.YtnbeembnnjdmdaaGreatDoor
open Go.RowKit Go.Maps Go.Shelf

namespace M
section
variable {d : Dr} {at_ : Nat} {l : Int} {X : Int → Bool} {fit : Nat → Int → Bool}
/-- from a row's cell some step leads into the next row -/
theorem row_next (hd : d.Ok) {n i : Nat} {x : Int} (hi : i < n) (hx : x ∈ rwL d at_ l X fit n i) : (stepL d (at_ + i) l x).any (fun k => (rwL d at_ l X fit n (i + 1)).contains k) = true := by
  rw [← rwL_step hd hi, List.mem_filter] at hx
  exact hx.2
theorem row_fit {n i : Nat} {x : Int} (hi : i ≤ n) (hx : x ∈ rwL d at_ l X fit n i) : (-1 ≤ x ∧ x < d.s.nd) ∧ fw d at_ l X fit i x = true := by
  have h := mem_listB.1 hx
  refine ⟨h.1, ?_⟩
  have h2 := bw_fw _ h.2
  rwa [show n - (n - i) = i by omega] at h2
/-- cells, one of each row, each a step behind the one before it: a possible history -/
theorem hist_rows (hd : d.Ok) {n : Nat} {f : Nat → Int} (h1 : ∀ i, i ≤ n → f i ∈ rwL d at_ l X fit n i) (h2 : ∀ i, i < n → f (i + 1) ∈ stepL d (at_ + i) l (f i)) : Hist d at_ l X fit n f := by
  refine ⟨fun i hi => (row_fit hi (h1 i hi)).1, ?_, fun i hi => ?_, fun i hi => ?_⟩
  · have h := (row_fit (Nat.zero_le _) (h1 0 (Nat.zero_le _))).2
    simp only [fw, Bool.and_eq_true] at h
    exact h.1
  · have h := (row_fit hi (h1 i hi)).2
    cases i with
    | zero => simp only [fw, Bool.and_eq_true] at h; exact h.2
    | succ i => simp only [fw, Bool.and_eq_true] at h; exact h.2
  · exact (mem_stepL hd (row_fit (by omega) (h1 i (by omega))).1.2).1 (h2 i hi)
end
end M
/-- append in a fence, where its run is known; the condition settled apart -/
theorem step_appI {Fe : Fence} {n : Nat} {w : World} {o : Oper} {a : Act} {K : Act → World → Prop} {Q : Exit → Act → World → Prop} {E : Prop} {cnd : Bool} (hcnd : cnd = true) (s x : Operand) (t : TypeId)
    (ho : o.op = .call { callee := .builtin .append, args := #[s, x], argTypes := #[t, t] }) {v v2 v' : Value} {w' : World} (hs : a.eval s = v) (hx : a.eval x = v2) (hr : (Builtin.append_ #[t, t] o.type #[v, v2]).run Tryz.prog w = .ok v' w') (h : K (a.put o.dst v') w') :
    if cnd = true then Oper.wpIn Fe n Tryz.prog o a w K Q else E := by
  rw [if_pos hcnd]
  unfold Oper.wpIn
  refine ⟨by simp [Oper.about, ho, resolve, Target.leads, Sem.run_pure], ?_⟩
  rw [Oper.semAt_plain Fe _ _ (by rw [ho]; intro c hc'; cases hc')]
  simp only [execOp, ho, resolve, invoke, builtin, Sem.run_bind, Sem.run_pure, Result.andThen_ok, List.map_toArray, List.map_cons, List.map_nil, hs, hx, hr]
  exact h
theorem rd1_v {w : World} {B : Nat} {A : Option Addr} {L : List Int} (h : Rd1 w B A L.length (fun k => L.getD k 0)) : RdV w B A 1 L.length (ints fun k => L.getD k 0) := by
  rcases h with h | ⟨b, off, e, hb, hc⟩
  · exact .inl h
  · refine .inr ⟨b, off, e, hb, fun i j hi hj => ?_⟩
    obtain rfl : j = 0 := by omega
    rw [Nat.mul_one, Nat.add_zero]
    exact hc i hi
/-- the run of an append of ints to an own list -/
theorem run_catI (w : World) (ty : TypeId) {B B2 : Nat} {v : Value} {L L2 : List Int} (hown : IL w B v L) (hL : L.length ≤ 1000000) (hB : B ≤ w.heap.size) {A : Option Addr} {c : Nat} (hR : Rd1 w B2 A L2.length (fun j => L2.getD j 0)) (hL2 : L2.length ≤ 1000000) :
    ∃ v' w', (Builtin.append_ #[22, 22] ty #[v, .slice A L2.length c]).run Tryz.prog w = .ok v' w' ∧ IL w' B v' (L ++ L2) ∧ w.grownBy w' v.ownBlock ∧ (v'.ownBlock = v.ownBlock ∨ v'.ownBlock = some w.heap.size) := by
  obtain ⟨i0, h1, h2, h3, h4⟩ := info_parts int_info
  obtain ⟨v', w', hr, h5, h6, h7⟩ := run_cat (P := Tryz.prog) w 22 ty 3 i0 (.int .i64 0) 1 8 Tryz.underlying22 h1 h2 h3 h4 rfl (by decide) (by decide) hown (by omega) hB (c := c) (G := ints fun j => L2.getD j 0) (fun _ _ => rfl) (rd1_v hR) (by omega)
  exact ⟨v', w', hr, IL.cat h5, h6, h7⟩
/-- .. of one number that lies in a block of its own -/
theorem run_oneI (w : World) (ty : TypeId) {B : Nat} {v : Value} {L : List Int} {y : Int} (hown : IL w B v L) (hL : L.length ≤ 1000000) (hB : B ≤ w.heap.size) {g c : Nat} (hc : w.cell? ⟨g, 0, none⟩ = some (.int .i64 y)) (hg : g < w.heap.size) :
    ∃ g' c' w', (Builtin.append_ #[22, 22] ty #[v, .slice (some ⟨g, 0, none⟩) 1 c]).run Tryz.prog w = .ok (.slice (some ⟨g', 0, none⟩) (L.length + 1) c') w' ∧ IL w' B (.slice (some ⟨g', 0, none⟩) (L.length + 1) c') (L ++ [y]) ∧ w.grownBy w' v.ownBlock ∧ (some g' = v.ownBlock ∨ g' = w.heap.size) := by
  obtain ⟨v', w', h1, h2, h3, h4⟩ := run_catI w ty hown hL hB (B2 := w.heap.size) (L2 := [y]) (.inr ⟨g, 0, rfl, hg, fun i hi => by
    obtain rfl : i = 0 := by simpa using hi
    exact hc⟩) (by simp)
  obtain ⟨g', c', rfl⟩ := Own.nz h2 (by simp)
  rw [show (L ++ [y]).length = L.length + 1 by simp] at h1 h2 h4
  exact ⟨g', c', w', h1, h2, h3, h4.imp (fun e => e) fun e => by simpa [Value.ownBlock] using e⟩
attribute [local go_sem] Oper.semAt_some
set_option maxRecDepth 100000 in
set_option maxHeartbeats 3200000 in
theorem inH_any (rb ib rw n c' k : Nat) (c : Option Addr) (V : Nat → Value) (R : List Int) (y : Int) (X : World) (hrb : Blk X rb 62 #[.slice (some ⟨rw, 0, none⟩) n n]) (hib : Blk X ib 3 #[.int .i64 (k : Int)]) (hk : k < n) (_hn : n ≤ 60)
    (ho : X.cell? ⟨rw, k, none⟩ = some (V k)) (hv : V k = .slice c R.length c') (hr : Rd1 X X.heap.size c R.length (fun j => R.getD j 0)) (hRl : R.length ≤ 1000) :
    Calls Tryz.prog 66 #[.int .i64 y, .pointer (some ⟨rb, 0, none⟩), .pointer (some ⟨ib, 0, none⟩)] X fun e w' => e = .returned (.bool (R.contains y)) ∧ w' = X := by
  have x0 := hrb.cell 0
  have x1 := hib.cell 0
  have x2 : X.cell? ⟨rw, k, none⟩ = some (.slice c R.length c') := by rw [← hv]; exact ho
  have HC := Lib.hid (contains_any c R c' X.heap.size y X (by omega) hr)
  clear hrb hib ho hv hr
  go_enter Tryz.func66, Tryz.ntmps66
  go_wp2_with (go_at_call 67; refine HC.out.mono ?_; rintro e w1 ⟨rfl, rfl⟩)
  go_ret
  exact ⟨ret_bool (by simp), rfl⟩
theorem idxH (A : Option Addr) (n c B : Nat) (f : Nat → Int) (caps : Array Value) (p : Int → Bool) (w : World) (hn : n ≤ maxLen) (hR : Rd1 w B A n f) (hany : M.anyTo n (fun i => p (f i)) = true)
    (hf : ∀ x, Calls Tryz.prog 66 (#[.int .i64 x] ++ caps) w fun e w' => e = .returned (.bool (p x)) ∧ w' = w) :
    Calls Tryz.prog 65 #[.slice A n c, .func (.func 66) #[] caps] w fun e w' => ∃ k : Nat, k < n ∧ p (f k) = true ∧ e = .returned (.int .i64 (k : Int)) ∧ w' = w := by
  unfold maxLen at hn
  have HFN := Lib.hid hf
  have HR := Lib.hid hR
  have HANY := Lib.hid hany
  clear hf hR hany
  go_enter Tryz.func65, Tryz.ntmps65
  go_wp2_with fail
  go_loopw [5, 8] (fun _ i wr => ∃ k : Nat, k ≤ n ∧ i = .int .i64 k ∧ M.anyTo k (fun i => p (f i)) = false ∧ wr = w) (fun _ i _ => n - (intOf i).toNat)
  case atStart => exact ⟨0, Nat.zero_le _, rfl, rfl, rfl⟩
  case round =>
    obtain ⟨k, hk, rfl, hf, rfl⟩ := hrel
    have HF := Lib.hid hf
    clear hf
    by_cases hlt : k < n
    · obtain ⟨b, off, rfl, hb, c0⟩ := HR.out.at_ hlt
      cases hp : p (f k)
      · have HP := Lib.hid hp
        clear hp
        go_wp2_with (refine (HFN.out _).mono ?_; rw [HP.out]; rintro e w1 ⟨rfl, rfl⟩)
        go_roundw
        case rel => exact ⟨k + 1, by omega, by go_num, by simp [M.anyTo, HF.out, HP.out], by first | rfl | trivial⟩
        case measure => simp [intOf]; omega
      · have HP := Lib.hid hp
        clear hp
        go_wp2_with (refine (HFN.out _).mono ?_; rw [HP.out]; rintro e w1 ⟨rfl, rfl⟩)
        go_ret
        exact ⟨k, hlt, HP.out, rfl, rfl⟩
    · exfalso
      obtain rfl : k = n := by omega
      have h1 := HF.out.symm.trans HANY.out
      cases h1
end Go.Proofs.YtnbeembnnjdmdaaGreatDoor
