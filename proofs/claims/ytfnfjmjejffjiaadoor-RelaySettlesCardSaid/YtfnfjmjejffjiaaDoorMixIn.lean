/- Mix in a fence: a region that draws its order, with reads that may be taken first although one late operation may spoil what they read; its calls may be those of yield. -/
import Derived.Test.YtfnfjmjejffjiaaDoorMix
import Derived.RangeFuncCalls
import Derived.OwnWalkIn
import Derived.CallsIn
import Derived.OrdersIn
namespace Go.Proofs.YtfnfjmjejffjiaaDoor
open Go.RowKit

def noDefer : Oper → Bool
  | { op := .defer _, .. } => false
  | _ => true
theorem noDefer_spec {l : List Oper} (h : l.all noDefer = true) : ∀ (i : Nat) (o : Oper), l.toArray[i]? = some o → ∀ c, o.op ≠ .defer c := by
  intro i o ho c hc
  have hm : o ∈ l := by
    have : l[i]? = some o := by simpa using ho
    exact List.mem_of_getElem? this
  have := List.all_eq_true.1 h o hm
  obtain ⟨d, op, t, p, af, g⟩ := o
  simp only at hc
  subst hc
  simp [noDefer] at this


section
variable {F : Fence} {n : Nat} {P : Program} {ops : Array Oper} {Q : Exit → Act → World → Prop} {md : Region.Mode} {S : World → Prop} {e : Nat}
def wpAnyTI (F : Fence) (n : Nat) (P : Program) (md : Region.Mode) (ops : Array Oper) (Q : Exit → Act → World → Prop) (S : World → Prop) (e : Nat) : Nat → Array Bool → Act → World → Prop
  | 0, listed, a, w => Region.ready md ops listed = [] ∧ Q .normal a w
  | fuel + 1, listed, a, w =>
    (Region.ready md ops listed = [] → Q .normal a w) ∧
    ∀ i ∈ Region.ready md ops listed, wpOpIn F n P ops Q i (fun a' w' => ((listed.setIfInBounds i true).getD e false = true ∨ S w') ∧ wpAnyTI F n P md ops Q S e fuel (listed.setIfInBounds i true) a' w') a w
theorem wpAnyIn_of_TI : ∀ (fuel : Nat) (listed : Array Bool) (a : Act) (w : World), wpAnyTI F n P md ops Q S e fuel listed a w → wpAnyIn F n P md ops Q fuel listed a w
  | 0, _, _, _, h => h
  | fuel + 1, _, _, _, h => ⟨h.1, fun i hi => wpOpIn_mono (fun a' w' h' => wpAnyIn_of_TI fuel _ a' w' h'.2) (h.2 i hi)⟩
def YieldsIfF (P : Program) (ops : Array Oper) (S : World → Prop) (o : Oper) (v : Value) (a : Act) : Prop := YieldsIf P ops S o v a ∧ ∀ w, o.about P w a.eval = none
/-- no operation is a defer statement, or it is no round -/
def PlainOps (F : Fence) (ops : Array Oper) : Prop := ∀ (i : Nat) (o : Oper), ops[i]? = some o → ∀ ρ : Operand → Value, o.semAt F.round ρ = execOp ρ o
theorem PlainOps.none_ (h : F.round = none) : PlainOps F ops := fun _ _ _ _ => by rw [h, Oper.semAt_none]
theorem PlainOps.of_nd {l : List Oper} (h : l.all noDefer = true) : PlainOps F l.toArray := fun i o ho ρ => Oper.semAt_plain F ρ o (noDefer_spec h i o ho)
theorem YieldsIfF.wpOpIn {i : Nat} {o : Oper} {v : Value} {a : Act} (hro : PlainOps F ops) (hi : ops[i]? = some o) (hy : YieldsIfF P ops S o v a) {K : Act → World → Prop} {w : World} (hS : S w) (h : K (a.put o.dst v) w) : wpOpIn F n P ops Q i K a w := by
  unfold Go.wpOpIn
  simp only [hi]
  have hab : ∀ f, o.about P w a.eval = some f → F.fn f := fun f hf => by rw [hy.2 w] at hf; cases hf
  rcases hy.1 with ⟨hw, hv⟩ | ⟨hw, rfl⟩
  · simp only [hw, if_true, Oper.wpIn, hro i o hi, hv w hS, Oper.uponIn]; exact ⟨hab, h⟩
  · simp only [hw, Bool.false_eq_true, if_false]; exact ⟨hab, h⟩
theorem YieldsIfF.of_same {o : Oper} {v : Value} {a a' : Act} (hy : YieldsIfF P ops S o v a) (he : execOp a'.eval o = execOp a.eval o)
    (hw : Region.wanted o (yielded ops a'.tmps) = Region.wanted o (yielded ops a.tmps)) (hb : ∀ w, o.about P w a'.eval = o.about P w a.eval) : YieldsIfF P ops S o v a' :=
  ⟨hy.1.of_same he hw, fun w => by rw [hb w]; exact hy.2 w⟩
theorem wpOpIn_putS {j : Nat} {oi oj : Oper} {v : Value} (hro : PlainOps F ops) (hj : ops[j]? = some oj) (hap : oi.apart ops oj = true)
    (hsi : ∀ cs b, oi.op ≠ .select cs b) (hsj : ∀ cs b, oj.op ≠ .select cs b)
    (hQ : ∀ c a w, Q (.panic c) (a.put oi.dst v) w → Q (.panic c) a w) {K : Act → World → Prop} {a : Act} {w : World}
    (hy : YieldsIfF P ops S oi v a) (h : wpOpIn F n P ops Q j K (a.put oi.dst v) w) :
    wpOpIn F n P ops Q j (fun a' w' => YieldsIfF P ops S oi v a' ∧ K (a'.put oi.dst v) w') a w := by
  obtain ⟨h1, h2, h3⟩ := Oper.apart_spec hap
  have keep : ∀ (a : Act), YieldsIfF P ops S oi v a → ∀ u, YieldsIfF P ops S oi v (a.put oj.dst u) := fun a hy u =>
    hy.of_same (execOp_put oi hsi a oj.dst u h3) (wanted_put oi a oj.dst u h3) (fun w => about_put oi w a oj.dst u h3)
  have keepD : ∀ d, YieldsIfF P ops S oi v { a with defers := d :: a.defers } := fun d => hy.of_same rfl rfl (fun _ => rfl)
  have hs := hro j oj hj
  unfold wpOpIn at *
  simp only [hj] at *
  rw [wanted_put oj a oi.dst v h1, about_put oj w a oi.dst v h1] at h
  split
  · rename_i hw
    simp only [hw, if_true] at h
    unfold Oper.wpIn at *
    rw [about_put oj w a oi.dst v h1] at h
    refine ⟨h.1, ?_⟩
    have h := h.2
    rw [hs, execOp_put oj hsj a oi.dst v h1] at h
    rw [hs]
    generalize (execOp a.eval oj).run P w = r at *
    cases r with
    | ok x w' =>
      cases x <;> simp only [Oper.uponIn] at h ⊢
      case value u => exact ⟨keep a hy u, by rw [← Act.put_comm a v u h2]; exact h⟩
      case skip => exact ⟨keep a hy _, by rw [← Act.put_comm a v undef h2]; exact h⟩
      case defer d =>
        refine ⟨keep _ (keepD d) _, ?_⟩
        rw [← Act.put_comm _ v undef h2, ← Act.put_defers]
        exact h
      case enter f args =>
        refine ⟨h.1, CallsIn.mono h.2 fun e w'' he => ?_⟩
        cases e with
        | returned u => exact ⟨keep a hy u, by rw [← Act.put_comm a v u h2]; exact he⟩
        | panicked c => exact hQ _ _ _ he
        | outgrown => exact he
      case row row args => exact ⟨h.1, RowsIn.mono h.2 fun u w'' he => ⟨keep a hy u, by rw [← Act.put_comm a v u h2]; exact he⟩⟩
      case round l f tmps assign body =>
        refine ⟨h.1, RoundIn.mono h.2 fun e w'' he => ?_⟩
        cases e with
        | returned u => exact ⟨keep a hy u, by rw [← Act.put_comm a v u h2]; exact he⟩
        | panicked c => exact hQ _ _ _ he
        | outgrown => exact he
    | halt x w' =>
      cases x <;> simp only [Oper.uponIn] at h ⊢
      case panic u => exact hQ _ _ _ h
  · rename_i hw
    simp only [hw] at h
    exact ⟨h.1, keep a hy _, by rw [← Act.put_comm a v undef h2]; exact h.2⟩
theorem wpAnyTI_first {i : Nat} {oi : Oper} {v : Value} (hro : PlainOps F ops) (hi : ops[i]? = some oi) (hsel : ∀ (j : Nat) (o : Oper) cs b, ops[j]? = some o → o.op ≠ .select cs b)
    {f0 : Nat} (hwait : Region.needs md ops f0 e i = true)
    (hQ : ∀ c a w, Q (.panic c) (a.put oi.dst v) w → Q (.panic c) a w) :
    ∀ (fuel : Nat) (listed : Array Bool) (a : Act) (w : World),
      (∀ j oj, ops[j]? = some oj → j ≠ i → listed.getD j true = false → (∀ d ∈ oj.after, Region.binds md d = true → d.on ≠ i) → oi.apart ops oj = true) →
      i ∈ Region.ready md ops listed → Closed md ops listed → listed.getD e false = false → e ≠ i → YieldsIfF P ops S oi v a → S w →
      wpAnyTI F n P md ops Q S e fuel (listed.setIfInBounds i true) (a.put oi.dst v) w → wpAnyTI F n P md ops Q S e (fuel + 1) listed a w := by
  intro fuel
  induction fuel with
  | zero =>
    intro listed a w _ hr hcl hE hei hy hS H
    refine ⟨fun h => (by rw [h] at hr; cases hr), fun j hj => ?_⟩
    by_cases hji : j = i
    · subst hji; exact hy.wpOpIn hro hi hS ⟨.inr hS, H⟩
    · have := ready_mono hj hji
      rw [H.1] at this
      cases this
  | succ fuel ih =>
    intro listed a w hfree hr hcl hE hei hy hS H
    have hun := (mem_ready.1 hr).1
    refine ⟨fun h => (by rw [h] at hr; cases hr), fun j hj => ?_⟩
    by_cases hji : j = i
    · subst hji; exact hy.wpOpIn hro hi hS ⟨.inr hS, H⟩
    · have h1 := H.2 j (ready_mono hj hji)
      obtain ⟨hjun, oj, hoj, hall⟩ := mem_ready.1 hj
      have hnot : ∀ d ∈ oj.after, Region.binds md d = true → d.on ≠ i := fun d hd hb heq => by
        have h1 := hall d hd hb
        rw [heq, getD_both hun] at h1
        cases h1
      have hej : j ≠ e := fun h => by
        subst h
        have h1 := hcl.needs f0 j hwait fun oe hoe d hd hb => by
          have : oe = oj := Option.some.inj (hoe.symm.trans hoj)
          subst this
          exact hall d hd hb
        rw [getD_both hun] at h1
        cases h1
      have h2 := wpOpIn_putS hro hoj (hfree j oj hoj hji hjun hnot) (fun cs b => hsel i oi cs b hi) (fun cs b => hsel j oj cs b hoj) hQ hy h1
      have hfree' : ∀ k ok, ops[k]? = some ok → k ≠ i → (listed.setIfInBounds j true).getD k true = false →
          (∀ d ∈ ok.after, Region.binds md d = true → d.on ≠ i) → oi.apart ops ok = true := fun k ok hk hki hun hno => by
        refine hfree k ok hk hki ?_ hno
        by_cases hjk : j = k
        · subst hjk; exact hjun
        · rw [getD_set_ne true hjk] at hun; exact hun
      refine wpOpIn_mono (fun a' w' h3 => ?_) h2
      have hS' : S w' := by
        rcases h3.2.1 with h | h
        · rw [getD_set_ne false hej, getD_set_ne false (Ne.symm hei), hE] at h
          cases h
        · exact h
      refine ⟨.inr hS', ih (listed.setIfInBounds j true) a' w' hfree' (ready_mono hr (Ne.symm hji)) (hcl.set hj) (by rw [getD_set_ne false hej]; exact hE) hei h3.1 hS' ?_⟩
      rw [Array.setIfInBounds_comm _ _ hji]
      exact h3.2.2
theorem wpAnyTI_takeP {i : Nat} {oi : Oper} {v : Value} {fuel : Nat} {listed : Array Bool} {a : Act} {w : World} (hro : PlainOps F ops) (hi : ops[i]? = some oi)
    (hs : Region.noSelect ops = true) (hf : Region.free md ops listed i = true) (hr : (Region.ready md ops listed).contains i = true) (hw : Region.needs md ops ops.size e i = true) (hE : (!listed.getD e false && e != i && closedB md ops listed) = true)
    (hQ : ∀ c a w, Q (.panic c) (a.put oi.dst v) w → Q (.panic c) a w) (hy : YieldsIf P ops S oi v a) (hab : ∀ w, oi.about P w a.eval = none) (hS : S w)
    (h : wpAnyTI F n P md ops Q S e fuel (listed.setIfInBounds i true) (a.put oi.dst v) w) : wpAnyTI F n P md ops Q S e (fuel + 1) listed a w := by
  simp only [Bool.and_eq_true, Bool.not_eq_true', bne_iff_ne] at hE
  obtain ⟨⟨hE1, hE2⟩, hcl⟩ := hE
  exact wpAnyTI_first hro hi (Region.noSelect_spec hs) hw hQ fuel listed a w (Region.free_spec hi hf) (by simpa using hr) (Closed.of hcl) hE1 hE2 ⟨hy, hab⟩ hS h
theorem wpAnyTI_take {i : Nat} {oi : Oper} {v : Value} {fuel : Nat} {listed : Array Bool} {a : Act} {w : World} (hro : F.round = none) (hi : ops[i]? = some oi)
    (hs : Region.noSelect ops = true) (hf : Region.free md ops listed i = true) (hr : (Region.ready md ops listed).contains i = true) (hw : Region.needs md ops ops.size e i = true) (hE : (!listed.getD e false && e != i && closedB md ops listed) = true)
    (hQ : ∀ c a w, Q (.panic c) (a.put oi.dst v) w → Q (.panic c) a w) (hy : YieldsIf P ops S oi v a) (hab : ∀ w, oi.about P w a.eval = none) (hS : S w)
    (h : wpAnyTI F n P md ops Q S e fuel (listed.setIfInBounds i true) (a.put oi.dst v) w) : wpAnyTI F n P md ops Q S e (fuel + 1) listed a w :=
  wpAnyTI_takeP (PlainOps.none_ hro) hi hs hf hr hw hE hQ hy hab hS h
/-- one operation alone may come up -/
theorem wpAnyTI_one {i : Nat} {o : Oper} {fuel : Nat} {listed : Array Bool} {a : Act} {w : World} (hr : Region.ready md ops listed = [i]) (ho : ops[i]? = some o)
    (h : ∀ K' : Act → World → Prop, Hid (∀ a w, ((listed.setIfInBounds i true).getD e false = true ∨ S w) → wpAnyTI F n P md ops Q S e fuel (listed.setIfInBounds i true) a w → K' a w) → if Region.wanted o (yielded ops a.tmps) = true then Oper.wpIn F n P o a w K' Q else (∀ f, o.about P w a.eval = some f → F.fn f) ∧ K' (a.put o.dst undef) w) :
    wpAnyTI F n P md ops Q S e (fuel + 1) listed a w := by
  refine ⟨fun h0 => (by rw [hr] at h0; cases h0), fun j hj => ?_⟩
  rw [hr] at hj
  obtain rfl : j = i := by simpa using hj
  exact wpOpIn_step ho fun K' hK => h K' (Lib.hid fun a w h1 h2 => hK a w ⟨h1, h2⟩)
theorem wpAnyTI_done {listed : Array Bool} {a : Act} {w : World} (hr : Region.ready md ops listed = []) (h : Q .normal a w) : ∀ fuel, wpAnyTI F n P md ops Q S e fuel listed a w
  | 0 => ⟨hr, h⟩
  | _ + 1 => ⟨fun _ => h, by rw [hr]; simp⟩
theorem wpIn_region_TI {id : Nat} {a : Act} {w : World} (e : Nat) (S : World → Prop) (hm : P.follows .mixedOrders = true) (hS : S w.drew)
    (h : S w.drew → wpAnyTI F n P .any ops Q S e ops.size (Array.replicate ops.size false) a w.drew) : (Code.region id ops true).wpIn F n P Q a w :=
  wpIn_region_any hm (wpAnyIn_of_TI _ _ _ _ (h hS))
end
end Go.Proofs.YtfnfjmjejffjiaaDoor
/- A region that draws its order, in a fence, by one invariant over what has been carried out. -/
namespace Go.Proofs.YtfnfjmjejffjiaaDoor
open Go.RowKit

theorem filter_lt {α : Type} {p q : α → Bool} (h : ∀ x, p x = true → q x = true) : ∀ {l : List α} {y : α}, y ∈ l → p y = false → q y = true → (l.filter p).length < (l.filter q).length
  | x :: l, y, hy, hp, hq => by
    have hle : ∀ l : List α, (l.filter p).length ≤ (l.filter q).length := by
      intro l
      induction l with
      | nil => simp
      | cons x l ih =>
        cases hx : p x
        · cases hx2 : q x
          · simp [hx, hx2, ih]
          · simp [hx, hx2]; omega
        · simp [hx, h x hx, ih]
    rcases List.mem_cons.1 hy with e | hy
    · subst e
      simp only [List.filter_cons, hp, hq, if_true, List.length_cons]
      have := hle l
      simp; omega
    · have ih := filter_lt h hy hp hq
      cases hx : p x
      · cases hx2 : q x
        · simp [hx, hx2, ih]
        · simp [hx, hx2]; omega
      · simp [hx, h x hx, ih]
/-- how many operations are still to come -/
def unl (n : Nat) (listed : Array Bool) : Nat := ((List.range n).filter fun i => !listed.getD i true).length
theorem unl_set {n i : Nat} {listed : Array Bool} (hi : i < n) (h : listed.getD i true = false) : unl n (listed.setIfInBounds i true) < unl n listed := by
  unfold unl
  have hlt : i < listed.size := by
    rcases Nat.lt_or_ge i listed.size with h2 | h2
    · exact h2
    · rw [Array.getD_eq_getD_getElem?, Array.getElem?_eq_none h2] at h; simp at h
  refine filter_lt (fun x hx => ?_) (List.mem_range.2 hi) ?_ ?_
  · by_cases e : i = x
    · subst e
      rw [Array.getD_eq_getD_getElem?, Array.getElem?_setIfInBounds_self_of_lt hlt] at hx
      simp at hx
    · rw [getD_set_ne true e] at hx; exact hx
  · rw [Array.getD_eq_getD_getElem?, Array.getElem?_setIfInBounds_self_of_lt hlt]; rfl
  · rw [h]; rfl
section
variable {F : Fence} {n : Nat} {P : Program} {ops : Array Oper} {Q : Exit → Act → World → Prop} {md : Region.Mode} {S : World → Prop} {e : Nat}
theorem wpAnyTI_inv (Inv : Array Bool → Act → World → Prop) (hdone : ∀ listed a w, Region.ready md ops listed = [] → Inv listed a w → Q .normal a w)
    (hstep : ∀ (listed : Array Bool) (a : Act) (w : World) (i : Nat) (o : Oper), i < ops.size → listed.getD i true = false → (∀ d ∈ o.after, Region.binds md d = true → listed.getD d.on false = true) → ops[i]? = some o → Inv listed a w → ∀ K' : Act → World → Prop, Hid (∀ a' w', ((listed.setIfInBounds i true).getD e false = true ∨ S w') → Inv (listed.setIfInBounds i true) a' w' → K' a' w') →
      if Region.wanted o (yielded ops a.tmps) = true then Oper.wpIn F n P o a w K' Q else (∀ f, o.about P w a.eval = some f → F.fn f) ∧ K' (a.put o.dst undef) w) :
    ∀ (fuel : Nat) (listed : Array Bool) (a : Act) (w : World), unl ops.size listed ≤ fuel → Inv listed a w → wpAnyTI F n P md ops Q S e fuel listed a w := by
  intro fuel
  induction fuel with
  | zero =>
    intro listed a w hf hI
    have hr : Region.ready md ops listed = [] := by
      cases hh : Region.ready md ops listed with
      | nil => rfl
      | cons i l =>
        have hi : i ∈ Region.ready md ops listed := by rw [hh]; exact List.mem_cons_self ..
        obtain ⟨h1, o', ho', _⟩ := mem_ready.1 hi
        have := unl_set (n := ops.size) (Array.getElem?_eq_some_iff.1 ho').1 h1
        omega
    exact ⟨hr, hdone _ _ _ hr hI⟩
  | succ fuel ih =>
    intro listed a w hf hI
    refine ⟨fun hr => hdone _ _ _ hr hI, fun i hi => ?_⟩
    obtain ⟨h1, o, ho, hall⟩ := mem_ready.1 hi
    have hlt := (Array.getElem?_eq_some_iff.1 ho).1
    have hu := unl_set (n := ops.size) hlt h1
    exact wpOpIn_step ho fun K' hK => hstep listed a w i o hlt h1 hall ho hI K' (Lib.hid fun a' w' hs hI' => hK a' w' ⟨hs, ih _ _ _ (by omega) hI'⟩)
end
end Go.Proofs.YtfnfjmjejffjiaaDoor
