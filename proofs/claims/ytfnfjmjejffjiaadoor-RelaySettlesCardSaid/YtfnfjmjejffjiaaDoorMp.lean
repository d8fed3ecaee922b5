/- A map that a call keeps as a memory of what it has reckoned. -/
import Derived.Maps.OwnSet
import Derived.Maps.OwnIn
import Derived.RangeFuncNested
import Derived.RangeFuncCalls
import Derived.RangeFuncLeaves
import Derived.RangeFuncFrom
namespace Go.Proofs.YtfnfjmjejffjiaaDoor
open Go.RowKit Go.Maps

/-- how many are there -/
def cntS {α : Type} (v : Nat → Option α) : Nat → Nat
  | 0 => 0
  | n + 1 => cntS v n + (if (v n).isSome then 1 else 0)
theorem cntS_le {α : Type} (v : Nat → Option α) : ∀ n, cntS v n ≤ n
  | 0 => Nat.le_refl _
  | n + 1 => by have := cntS_le v n; unfold cntS; split <;> omega
theorem cntS_upd {α : Type} {v : Nat → Option α} {c : Nat} {x : α} (h : v c = none) : ∀ n, cntS (fun i => if i = c then some x else v i) n = cntS v n + if c < n then 1 else 0
  | 0 => rfl
  | n + 1 => by
    unfold cntS
    rw [cntS_upd h n]
    by_cases hc : n = c
    · subst hc
      rw [if_pos rfl, if_neg (by omega : ¬ n < n), if_pos (by omega : n < n + 1), h]
      simp
    · rw [if_neg hc]
      by_cases h2 : c < n
      · rw [if_pos h2, if_pos (by omega : c < n + 1)]; omega
      · rw [if_neg h2, if_neg (by omega : ¬ c < n + 1)]; omega
def keyL (P : Program) (k : TypeId) (kv : Nat → Value) (i : Nat) : Lit := (keyOf P k (kv i)).getD .nil
/-- block b is a map whose keys are among kv 0 .. kv (N - 1); where v i is there, it is the value at kv i -/
def MemoM {H : Type} (W : World) (P : Program) (k : TypeId) (R : Value → Option (DataW H × List MemPlace)) (b N : Nat) (kv : Nat → Value) (v : Nat → Option (DataW H)) : Prop :=
  ∃ n D, W.ownsMap P k R b n D ∧ n ≤ cntS v N ∧ ∀ i, i < N → Maps.has D (keyL P k kv i) = (v i).isSome ∧ ∀ y, v i = some y → ∀ zd, D.atKey (keyL P k kv i) zd = y
section
variable {H : Type} {W W' : World} {P : Program} {k t e : TypeId} {R : Value → Option (DataW H × List MemPlace)} {b N : Nat} {kv : Nat → Value} {v : Nat → Option (DataW H)}
theorem MemoM.made (W : World) (P : Program) (k : TypeId) (R : Value → Option (DataW H × List MemPlace)) (N : Nat) (kv : Nat → Value) : MemoM (W.alloc (.map #[] 0)) P k R W.heap.size N kv (fun _ => none) :=
  ⟨0, .map [], World.ownsMap_made W P k R, Nat.zero_le _, fun i _ => ⟨rfl, fun y h => by cases h⟩⟩
theorem MemoM.kept {row : Option Nat} (h : MemoM W P k R b N kv v) (hg : W.grownBy W' row) (hne : some b ≠ row) : MemoM W' P k R b N kv v := by
  obtain ⟨n, D, h1, h2, h3⟩ := h
  exact ⟨n, D, h1.kept hg hne, h2, h3⟩
theorem MemoM.lt (h : MemoM W P k R b N kv v) : b < W.heap.size := by
  obtain ⟨n, D, h1, h2, h3⟩ := h
  exact h1.lt
theorem MemoM.map (h : MemoM W P k R b N kv v) : ∃ es clock, W.heap[b]? = some (.map es clock) := by
  obtain ⟨n, D, ⟨es, clock, hb, _⟩, _⟩ := h
  exact ⟨es, clock, hb⟩
theorem keyL_eq {i : Nat} {l : Lit} (h : keyOf P k (kv i) = some l) : keyL P k kv i = l := by unfold keyL; rw [h]; rfl
/-- 'x, known := m[k]' -/
theorem MemoM.look (h : MemoM W P k R b N kv v) (K : Keyed P k) (ht : P.underlying t = some (.map k e)) {z : Value} (hz : (zeroValue e).run P W = .ok z W) {zd : DataW H} {zp : List MemPlace} (hzd : R z = some (zd, zp)) {i : Nat} (hi : i < N) (hk : ∃ l, keyOf P k (kv i) = some l) :
    ∃ x ps, (Instr.lookup t (.map (some b)) (kv i) true).run P W = .ok (.tuple #[x, .bool (v i).isSome]) W ∧ R x = some ((v i).getD zd, ps) := by
  obtain ⟨n, D, h1, h2, h3⟩ := h
  obtain ⟨l, hl⟩ := hk
  obtain ⟨x, ps, hrun, hx⟩ := h1.look_ok K ht hz hzd hl
  obtain ⟨h4, h5⟩ := h3 i hi
  rw [keyL_eq hl] at h4 h5
  rw [h4] at hrun
  refine ⟨x, ps, hrun, ?_⟩
  rw [hx]
  cases hv : v i with
  | some y => rw [h5 y hv]; rfl
  | none =>
    rw [hv] at h4
    rw [Maps.atKey_of_not_has h4]; rfl
/-- 'm[k]', where it is there -/
theorem MemoM.look1 (h : MemoM W P k R b N kv v) (K : Keyed P k) (ht : P.underlying t = some (.map k e)) {z : Value} (hz : (zeroValue e).run P W = .ok z W) {zd : DataW H} {zp : List MemPlace} (hzd : R z = some (zd, zp)) {i : Nat} (hi : i < N) (hk : ∃ l, keyOf P k (kv i) = some l) {y : DataW H} (hy : v i = some y) :
    ∃ x ps, (Instr.lookup t (.map (some b)) (kv i) false).run P W = .ok x W ∧ R x = some (y, ps) := by
  obtain ⟨n, D, h1, h2, h3⟩ := h
  obtain ⟨l, hl⟩ := hk
  obtain ⟨x, ps, hrun, hx⟩ := h1.lookup K ht hz hzd hl
  obtain ⟨_, h5⟩ := h3 i hi
  rw [keyL_eq hl] at h5
  rw [h5 y hy] at hx
  exact ⟨x, ps, hrun, hx⟩
/-- 'm[k] = x', where it was not there -/
theorem MemoM.store (h : MemoM W P k R b N kv v) (K : Keyed P k) (ht : P.underlying t = some (.map k e)) (hN : N < maxLen) {i : Nat} (hi : i < N) (hks : ∀ j, j < N → ∃ l, keyOf P k (kv j) = some l) (hinj : ∀ j, j < N → kv j = kv i → j = i) (hv : v i = none) {x : Value} {y : DataW H} {ps : List MemPlace} (hx : R x = some (y, ps)) :
    ∃ W', (Instr.mapUpdate t (.map (some b)) (kv i) x).run P W = .ok () W' ∧ MemoM W' P k R b N kv (fun j => if j = i then some y else v j) ∧ W.grownBy W' (some b) := by
  obtain ⟨n, D, h1, h2, h3⟩ := h
  obtain ⟨l, hl⟩ := hks i hi
  have hn : n < maxLen := Nat.lt_of_le_of_lt (Nat.le_trans h2 (cntS_le _ _)) hN
  obtain ⟨W', hrun, h4, h5⟩ := h1.update K ht hn hl hx
  refine ⟨W', hrun, ⟨n + 1, _, h4, ?_, fun j hj => ?_⟩, h5⟩
  · rw [cntS_upd hv, if_pos hi]; omega
  · by_cases e1 : j = i
    · subst e1
      rw [keyL_eq hl]
      simp only [if_true, Option.isSome_some]
      refine ⟨Maps.has_put_same h1.isMap (K.key hl) y, fun y' hy' zd => ?_⟩
      simp only [Option.some.injEq] at hy'
      subst hy'
      exact Maps.atKey_put_same h1.isMap (K.key hl) _ zd
    · simp only [if_neg e1]
      obtain ⟨lj, hlj⟩ := hks j hj
      have hne : lj ≠ l := fun e2 => e1 (hinj j hj (K.inj (by rw [hlj, e2]) hl))
      obtain ⟨h6, h7⟩ := h3 j hj
      rw [keyL_eq hlj] at h6 h7 ⊢
      refine ⟨by rw [Maps.has_put_other hne]; exact h6, fun y' hy' zd => ?_⟩
      rw [Maps.atKey_put_other hne]; exact h7 y' hy' zd
end
end Go.Proofs.YtfnfjmjejffjiaaDoor
/- A range over a function whose iterator writes too (it keeps a map of what it has reckoned). -/
namespace Go.Proofs.YtfnfjmjejffjiaaDoor
open Go.RowKit

/-- the contract of an iterator: Ab: what it may do between two rounds; Iv: what it wants of the world when it is called, and behind each round -/
def SeqB {α : Type} (F : Fence) (n : Nat) (P : Program) (g : Nat) (lb : Array Value) (encs : α → Array Value) (Ab : World → World → Prop) (Iv : World → Prop) (S Sp : List α → Prop) (N : Nat) : Prop :=
  ∀ (l : Nat) (J Jx : List α → World → Prop) (W : World), (∀ s A, J s A → Iv A) → (∀ s A B, J s A → Ab A B → J s B) → (∀ s A B, Jx s A → Ab A B → Jx s B) →
    (∀ pre x W1, J pre W1 → pre.length < N → YieldAt F (n - 1) P l (encs x) W1 fun e W' => (e = .returned (.bool true) ∧ J (pre ++ [x]) W') ∨ (e = .returned (.bool false) ∧ Jx (pre ++ [x]) W')) →
    J [] W →
    CallsIn F n P g (#[.func (.yield l) #[] #[]] ++ lb) W fun e W' => (∃ v, e = .returned v) ∧ ((∃ xs, S xs ∧ J xs W') ∨ ∃ pre, Sp pre ∧ Jx pre W')
/-- how a round may be left -/
def roundPostB {α : Type} (B : Nat) (I : List α → World → Prop) (Ix : Code → List α → World → Prop) (xs : List α) (W : World) : Exit → Act → World → Prop
  | .normal, _, W' => KeepsFrom B W W' ∧ I xs W'
  | .ret, _, W' => KeepsFrom B W W' ∧ Ix .ret xs W'
  | .exit id, _, W' => KeepsFrom B W W' ∧ Ix (.exit id) xs W'
  | .goto t, _, W' => KeepsFrom B W W' ∧ Ix (.goto t) xs W'
  | .panic _, _, _ => False
  | .outgrown, _, _ => False
section
variable {F : Fence} {n : Nat} {P : Program}
theorem wpIn_rangeFunc_B {α : Type} {g : Operand} {ps : Array Tmp} {assign body : Code} {Q : Exit → Act → World → Prop} {a : Act} {w : World}
    (hro : F.round = none) (h1 : 1 ≤ n) {gf : Nat} {lb : Array Value} (hg : a.eval g = .func (.func gf) #[] lb) (hFg : F.fn gf) (eg : ∀ args w, (callFunc gf args).run P w = .ok (.enter gf args) w)
    {encs : α → Array Value} {Ab : World → World → Prop} {Iv : World → Prop} {S Sp : List α → Prop} {N : Nat} (hseq : SeqB F (n - 1) P gf lb encs Ab Iv S Sp N) (hps : ∀ x, (encs x).size = ps.size)
    (I : List α → World → Prop) (Ix : Code → List α → World → Prop) (hI : OwnFrom w.heap.size I) (hIx : ∀ c, OwnFrom w.heap.size (Ix c)) (hAK : ∀ A B, Ab A B → KeepsFrom w.heap.size A B) (hAI : ∀ s A B, I s A → Ab A B → I s B) (hAIx : ∀ c s A B, Ix c s A → Ab A B → Ix c s B) (hIv : ∀ s A, I s A → Iv A)
    (h0 : I [] w) (Ax : α → Act → World → Prop) (hAx : ∀ x a', OwnFrom w.heap.size (fun (_ : Unit) W => Ax x a' W))
    (hassign : ∀ (l : Nat) (pre : List α) (x : α) (W : World) (K : Act → World → Prop), I pre W → (∀ a' W', KeepsFrom w.heap.size W W' → I pre W' → Ax x a' W' → K a' W') →
      assign.wpIn (F.inRound l) (n - 1 - 1) P (Exit.then K (fun _ _ _ => False)) { tmps := (ps.zip (encs x)).foldl (fun t (p, v) => t.setIfInBounds p v) a.tmps, defers := [] } W)
    (hbody : ∀ (l : Nat) (pre : List α) (x : α) (a' : Act) (W : World), w.heap.size ≤ l → (∃ r, W.heap[l]? = some (.loop r)) → I pre W → Ax x a' W → pre.length < N → body.wpIn (F.inRound l) (n - 1 - 1) P (roundPostB w.heap.size I Ix (pre ++ [x]) W) a' W)
    (hdone : ∀ (D : Nat) (xs : List α) (W : World), w.heap.size ≤ D → S xs → I xs W → W.heap[D]? = some (.deferred (some [])) → Q .normal { a with defers := { target := .collected D, args := #[] } :: a.defers } W)
    (hstop : ∀ (D : Nat) (c : Code) (pre : List α) (W : World), w.heap.size ≤ D → Sp pre → Ix c pre W → W.heap[D]? = some (.deferred (some [])) → c.wpIn F n P Q { a with defers := { target := .collected D, args := #[] } :: a.defers } W) :
    (Code.rangeFunc g ps assign body).wpIn F n P Q a w := by
  refine wpIn_rangeFunc ?_
  intro fn hfn
  rw [hro]
  obtain ⟨rec, hrec⟩ : ∃ rec : LoopState → Option Code → Loop, rec = fun st pe => { state := st, pending := pe, fn, tmps := a.tmps, params := ps, assign, body, defers := w.heap.size } := ⟨_, rfl⟩
  obtain ⟨M, hM⟩ : ∃ M, M = w.heap.size + 1 := ⟨_, rfl⟩
  obtain ⟨W1, hW1⟩ : ∃ W1, (w.alloc (.deferred (some []))).alloc (.loop (rec .ready none)) = W1 := ⟨_, rfl⟩
  have hL1 : W1.heap[M]? = some (.loop (rec .ready none)) := by
    have := World.alloc_heap_new (w.alloc (.deferred (some []))) (.loop (rec .ready none))
    rw [World.size_alloc] at this
    rw [← hW1, hM]; exact this
  have hK1 : W1.heap[w.heap.size]? = some (.deferred (some [])) := by
    rw [← hW1]; exact (Below.heap_alloc _ _ _ (by simp)).trans (World.alloc_heap_new w _)
  have hI1 : I [] W1 := by rw [← hW1]; exact hI.alloc _ (hI.alloc _ h0)
  -- the book-keeping: the loop's record in state st with pending jump pe, and the block for the rounds' deferred calls
  obtain ⟨Bk, hBk⟩ : ∃ Bk : LoopState → Option Code → World → Prop, Bk = fun st pe W => W.heap[M]? = some (.loop (rec st pe)) ∧ W.heap[w.heap.size]? = some (.deferred (some [])) := ⟨_, rfl⟩
  have keep : ∀ {st : LoopState} {pe : Option Code} {A B : World}, Bk st pe A → KeepsFrom w.heap.size A B → Bk st pe B := by
    intro st pe A B h hk
    rw [hBk] at h ⊢
    exact ⟨hk.same _ _ (by omega) h.1 rfl, hk.same _ _ (Nat.le_refl _) h.2 rfl⟩
  have turn : ∀ {st : LoopState} {pe : Option Code} (st' : LoopState) (pe' : Option Code) {A : World}, Bk st pe A → Bk st' pe' (A.putObj M (.loop (rec st' pe'))) := by
    intro st pe st' pe' A h
    rw [hBk] at h ⊢
    exact ⟨World.putObj_heap_same (Array.getElem?_eq_some_iff.1 h.1).1, (World.putObj_heap_other (by omega)).trans h.2⟩
  have bk1 : Bk .ready none W1 := by rw [hBk]; exact ⟨hL1, hK1⟩
  have lp : ∀ {st : LoopState} {pe : Option Code} {A : World}, Bk st pe A → A.heap[M]? = some (.loop (rec st pe)) := by intro st pe A h; rw [hBk] at h; exact h.1
  have df : ∀ {st : LoopState} {pe : Option Code} {A : World}, Bk st pe A → A.heap[w.heap.size]? = some (.deferred (some [])) := by intro st pe A h; rw [hBk] at h; exact h.2
  have hMw : w.heap.size ≤ M := by omega
  refine ⟨M, [{ target := .collected w.heap.size, args := #[] }], W1, { target := .fn (.func gf) lb, args := #[.func (.yield M) #[] #[]] }, W1, gf, #[.func (.yield M) #[] #[]] ++ lb, W1, ?_, ?_, ?_, ?_, fun _ => h1, ?_⟩
  · rw [← hW1, hrec, hM]; exact run_enterLoop_outer _ _ _ _ _
  · simp only [resolve, hg]
    simp [go_sem]
  · intro f' hf'; simp [Target.leads] at hf'; subst hf'; exact hFg
  · simp [invoke, go_sem, eg]
  · refine (hseq M (fun pre W => I pre W ∧ Bk .ready none W) (fun pre W => ∃ c, Ix c pre W ∧ Bk .done (some c) W) W1 (fun s A h => hIv s A h.1) (fun s A B h hab => ⟨hAI s A B h.1 hab, keep h.2 (hAK A B hab)⟩)
      (fun s A B h hab => by obtain ⟨c, h2, h3⟩ := h; exact ⟨c, hAIx c s A B h2 hab, keep h3 (hAK A B hab)⟩) ?_ ⟨hI1, bk1⟩).mono ?_
    · rintro pre x W ⟨hi, hb⟩ hlen
      have hy := run_yield (P := P) (args := encs x) (lp hb) (by rw [hrec]; exact hps x)
      rw [hrec] at hy
      refine ⟨fn, _, assign, body, hy, roundIn_of_wpIn hfn (hassign _ pre x W _ hi ?_)⟩
      clear hy
      intro a' V hkv hiv hax
      have hbv := keep hb hkv
      refine ⟨_, run_beginRound (lp hbv) (by rw [hrec]), ?_⟩
      have hb2 := turn .busy none hbv
      have hloop := lp hbv
      rw [hrec] at hb2 hloop
      rw [hrec]
      refine wpIn_mono (hbody _ pre x a' _ hMw ⟨_, by have := lp hb2; rw [hrec] at this; exact this⟩ (hI.putObj _ hiv hMw hloop rfl) ((hAx x a').putObj (s := ()) _ hax hMw hloop rfl) hlen) ?_
      have fin : ∀ (jump : Option Code) (W3 : World), Bk .busy none W3 → (Instr.endRound M jump).run P W3 = .ok (.bool jump.isNone) (W3.putObj M (.loop (rec (if jump.isNone then .ready else .done) jump))) ∧ Bk (if jump.isNone then .ready else .done) jump (W3.putObj M (.loop (rec (if jump.isNone then .ready else .done) jump))) := fun jump W3 h3 => by
        have h4 := run_endRound (P := P) jump (lp h3)
        refine ⟨?_, turn _ _ h3⟩
        rw [hrec] at h4 ⊢
        exact h4
      have back : ∀ {W3 : World}, KeepsFrom w.heap.size (V.putObj M (.loop (rec .busy none))) W3 → Bk .busy none W3 := fun h3 => keep (turn .busy none hbv) h3
      rw [hrec] at back
      rintro e a3 W3 hp
      cases e with
      | normal =>
        obtain ⟨hk3, hi3⟩ := hp
        have h3 := back hk3
        obtain ⟨hr, h4⟩ := fin none W3 h3
        exact ⟨_, _, hr, .inl ⟨rfl, hI.putObj _ hi3 hMw (lp h3) rfl, h4⟩⟩
      | ret =>
        obtain ⟨hk3, hi3⟩ := hp
        have h3 := back hk3
        obtain ⟨hr, h4⟩ := fin (some .ret) W3 h3
        exact ⟨_, _, hr, .inr ⟨rfl, .ret, (hIx _).putObj _ hi3 hMw (lp h3) rfl, h4⟩⟩
      | exit id =>
        obtain ⟨hk3, hi3⟩ := hp
        have h3 := back hk3
        obtain ⟨hr, h4⟩ := fin (some (.exit id)) W3 h3
        exact ⟨_, _, hr, .inr ⟨rfl, .exit id, (hIx _).putObj _ hi3 hMw (lp h3) rfl, h4⟩⟩
      | goto t =>
        obtain ⟨hk3, hi3⟩ := hp
        have h3 := back hk3
        obtain ⟨hr, h4⟩ := fin (some (.goto t)) W3 h3
        exact ⟨_, _, hr, .inr ⟨rfl, .goto t, (hIx _).putObj _ hi3 hMw (lp h3) rfl, h4⟩⟩
      | panic ch => exact hp.elim
      | outgrown => exact hp.elim
    · rintro e W2 ⟨⟨v, rfl⟩, (⟨xs, hS, hi, hb⟩ | ⟨pre, hSp, c, hi, hb⟩)⟩
      · have h5 := run_endLoop (P := P) (lp hb) (by rw [hrec]; simp)
        have h6 := turn .ready none hb
        rw [hrec] at h5
        exact ⟨none, _, h5, hdone _ xs _ (Nat.le_refl _) hS (hI.putObj _ hi hMw (lp hb) rfl) ((World.putObj_heap_other (by omega)).trans (df hb))⟩
      · have h5 := run_endLoop (P := P) (lp hb) (by rw [hrec]; simp)
        rw [hrec] at h5
        exact ⟨some c, _, h5, hstop _ c pre _ (Nat.le_refl _) hSp ((hIx c).putObj _ hi hMw (lp hb) rfl) ((World.putObj_heap_other (by omega)).trans (df hb))⟩
end
end Go.Proofs.YtfnfjmjejffjiaaDoor
/- As Rf, with what the iterator says of what it yields. -/
namespace Go.Proofs.YtfnfjmjejffjiaaDoor
open Go.RowKit

/-- the contract of an iterator: Ab: what it may do between two rounds; Iv: what it wants of the world; Yd W0 x W: what it says of x, which it yields at W, where W0 was the world before it reckoned x -/
def SeqY {α : Type} (F : Fence) (n : Nat) (P : Program) (g : Nat) (lb : Array Value) (encs : α → Array Value) (Ab : World → World → Prop) (Iv : World → Prop) (Yd : World → α → World → Prop) (S Sp : List α → Prop) (N : Nat) : Prop :=
  ∀ (l : Nat) (J Jx : List α → World → Prop) (W : World), (∀ s A, J s A → Iv A) → (∀ s A B, J s A → Ab A B → J s B) → (∀ s A B, Jx s A → Ab A B → Jx s B) →
    (∀ pre x W0 W1, J pre W0 → Ab W0 W1 → Yd W0 x W1 → pre.length < N → YieldAt F (n - 1) P l (encs x) W1 fun e W' => (e = .returned (.bool true) ∧ J (pre ++ [x]) W') ∨ (e = .returned (.bool false) ∧ Jx (pre ++ [x]) W')) →
    J [] W →
    CallsIn F n P g (#[.func (.yield l) #[] #[]] ++ lb) W fun e W' => (∃ v, e = .returned v) ∧ ((∃ xs, S xs ∧ J xs W') ∨ ∃ pre, Sp pre ∧ Jx pre W')
section
variable {F : Fence} {n : Nat} {P : Program}
theorem wpIn_rangeFunc_Y {α : Type} {g : Operand} {ps : Array Tmp} {assign body : Code} {Q : Exit → Act → World → Prop} {a : Act} {w : World}
    (hro : F.round = none) (h1 : 1 ≤ n) {gf : Nat} {lb : Array Value} (hg : a.eval g = .func (.func gf) #[] lb) (hFg : F.fn gf) (eg : ∀ args w, (callFunc gf args).run P w = .ok (.enter gf args) w)
    {encs : α → Array Value} {Ab : World → World → Prop} {Iv : World → Prop} {Yd : World → α → World → Prop} {S Sp : List α → Prop} {N : Nat} (hseq : SeqY F (n - 1) P gf lb encs Ab Iv Yd S Sp N) (hps : ∀ x, (encs x).size = ps.size)
    (I : List α → World → Prop) (Ix : Code → List α → World → Prop) (hI : OwnFrom w.heap.size I) (hIx : ∀ c, OwnFrom w.heap.size (Ix c)) (hAK : ∀ A B, Ab A B → KeepsFrom w.heap.size A B) (hAI : ∀ s A B, I s A → Ab A B → I s B) (hAIx : ∀ c s A B, Ix c s A → Ab A B → Ix c s B) (hIv : ∀ s A, I s A → Iv A)
    (h0 : I [] w) (Ax : World → α → Act → World → Prop) (hAx : ∀ W0 x a', OwnFrom w.heap.size (fun (_ : Unit) W => Ax W0 x a' W))
    (hassign : ∀ (l : Nat) (pre : List α) (x : α) (W0 W : World) (K : Act → World → Prop), I pre W0 → Ab W0 W → Yd W0 x W → I pre W → (∀ a' W', KeepsFrom w.heap.size W W' → I pre W' → Ax W0 x a' W' → K a' W') →
      assign.wpIn (F.inRound l) (n - 1 - 1) P (Exit.then K (fun _ _ _ => False)) { tmps := (ps.zip (encs x)).foldl (fun t (p, v) => t.setIfInBounds p v) a.tmps, defers := [] } W)
    (hbody : ∀ (l : Nat) (pre : List α) (x : α) (a' : Act) (W0 W : World), w.heap.size ≤ l → (∃ r, W.heap[l]? = some (.loop r)) → I pre W0 → I pre W → Ax W0 x a' W → pre.length < N → body.wpIn (F.inRound l) (n - 1 - 1) P (roundPostB w.heap.size I Ix (pre ++ [x]) W) a' W)
    (hdone : ∀ (D : Nat) (xs : List α) (W : World), w.heap.size ≤ D → S xs → I xs W → W.heap[D]? = some (.deferred (some [])) → Q .normal { a with defers := { target := .collected D, args := #[] } :: a.defers } W)
    (hstop : ∀ (D : Nat) (c : Code) (pre : List α) (W : World), w.heap.size ≤ D → Sp pre → Ix c pre W → W.heap[D]? = some (.deferred (some [])) → c.wpIn F n P Q { a with defers := { target := .collected D, args := #[] } :: a.defers } W) :
    (Code.rangeFunc g ps assign body).wpIn F n P Q a w := by
  refine wpIn_rangeFunc ?_
  intro fn hfn
  rw [hro]
  obtain ⟨rec, hrec⟩ : ∃ rec : LoopState → Option Code → Loop, rec = fun st pe => { state := st, pending := pe, fn, tmps := a.tmps, params := ps, assign, body, defers := w.heap.size } := ⟨_, rfl⟩
  obtain ⟨M, hM⟩ : ∃ M, M = w.heap.size + 1 := ⟨_, rfl⟩
  obtain ⟨W1, hW1⟩ : ∃ W1, (w.alloc (.deferred (some []))).alloc (.loop (rec .ready none)) = W1 := ⟨_, rfl⟩
  have hL1 : W1.heap[M]? = some (.loop (rec .ready none)) := by
    have := World.alloc_heap_new (w.alloc (.deferred (some []))) (.loop (rec .ready none))
    rw [World.size_alloc] at this
    rw [← hW1, hM]; exact this
  have hK1 : W1.heap[w.heap.size]? = some (.deferred (some [])) := by
    rw [← hW1]; exact (Below.heap_alloc _ _ _ (by simp)).trans (World.alloc_heap_new w _)
  have hI1 : I [] W1 := by rw [← hW1]; exact hI.alloc _ (hI.alloc _ h0)
  -- the book-keeping: the loop's record in state st with pending jump pe, and the block for the rounds' deferred calls
  obtain ⟨Bk, hBk⟩ : ∃ Bk : LoopState → Option Code → World → Prop, Bk = fun st pe W => W.heap[M]? = some (.loop (rec st pe)) ∧ W.heap[w.heap.size]? = some (.deferred (some [])) := ⟨_, rfl⟩
  have keep : ∀ {st : LoopState} {pe : Option Code} {A B : World}, Bk st pe A → KeepsFrom w.heap.size A B → Bk st pe B := by
    intro st pe A B h hk
    rw [hBk] at h ⊢
    exact ⟨hk.same _ _ (by omega) h.1 rfl, hk.same _ _ (Nat.le_refl _) h.2 rfl⟩
  have turn : ∀ {st : LoopState} {pe : Option Code} (st' : LoopState) (pe' : Option Code) {A : World}, Bk st pe A → Bk st' pe' (A.putObj M (.loop (rec st' pe'))) := by
    intro st pe st' pe' A h
    rw [hBk] at h ⊢
    exact ⟨World.putObj_heap_same (Array.getElem?_eq_some_iff.1 h.1).1, (World.putObj_heap_other (by omega)).trans h.2⟩
  have bk1 : Bk .ready none W1 := by rw [hBk]; exact ⟨hL1, hK1⟩
  have lp : ∀ {st : LoopState} {pe : Option Code} {A : World}, Bk st pe A → A.heap[M]? = some (.loop (rec st pe)) := by intro st pe A h; rw [hBk] at h; exact h.1
  have df : ∀ {st : LoopState} {pe : Option Code} {A : World}, Bk st pe A → A.heap[w.heap.size]? = some (.deferred (some [])) := by intro st pe A h; rw [hBk] at h; exact h.2
  have hMw : w.heap.size ≤ M := by omega
  refine ⟨M, [{ target := .collected w.heap.size, args := #[] }], W1, { target := .fn (.func gf) lb, args := #[.func (.yield M) #[] #[]] }, W1, gf, #[.func (.yield M) #[] #[]] ++ lb, W1, ?_, ?_, ?_, ?_, fun _ => h1, ?_⟩
  · rw [← hW1, hrec, hM]; exact run_enterLoop_outer _ _ _ _ _
  · simp only [resolve, hg]
    simp [go_sem]
  · intro f' hf'; simp [Target.leads] at hf'; subst hf'; exact hFg
  · simp [invoke, go_sem, eg]
  · refine (hseq M (fun pre W => I pre W ∧ Bk .ready none W) (fun pre W => ∃ c, Ix c pre W ∧ Bk .done (some c) W) W1 (fun s A h => hIv s A h.1) (fun s A B h hab => ⟨hAI s A B h.1 hab, keep h.2 (hAK A B hab)⟩)
      (fun s A B h hab => by obtain ⟨c, h2, h3⟩ := h; exact ⟨c, hAIx c s A B h2 hab, keep h3 (hAK A B hab)⟩) ?_ ⟨hI1, bk1⟩).mono ?_
    · rintro pre x W0 W ⟨hi0, hb0⟩ hab hyd hlen
      have hi := hAI _ _ _ hi0 hab
      have hb := keep hb0 (hAK _ _ hab)
      have hy := run_yield (P := P) (args := encs x) (lp hb) (by rw [hrec]; exact hps x)
      rw [hrec] at hy
      refine ⟨fn, _, assign, body, hy, roundIn_of_wpIn hfn (hassign _ pre x W0 W _ hi0 hab hyd hi ?_)⟩
      clear hy
      intro a' V hkv hiv hax
      have hbv := keep hb hkv
      refine ⟨_, run_beginRound (lp hbv) (by rw [hrec]), ?_⟩
      have hb2 := turn .busy none hbv
      have hloop := lp hbv
      rw [hrec] at hb2 hloop
      rw [hrec]
      refine wpIn_mono (hbody _ pre x a' W0 _ hMw ⟨_, by have := lp hb2; rw [hrec] at this; exact this⟩ hi0 (hI.putObj _ hiv hMw hloop rfl) ((hAx W0 x a').putObj (s := ()) _ hax hMw hloop rfl) hlen) ?_
      have fin : ∀ (jump : Option Code) (W3 : World), Bk .busy none W3 → (Instr.endRound M jump).run P W3 = .ok (.bool jump.isNone) (W3.putObj M (.loop (rec (if jump.isNone then .ready else .done) jump))) ∧ Bk (if jump.isNone then .ready else .done) jump (W3.putObj M (.loop (rec (if jump.isNone then .ready else .done) jump))) := fun jump W3 h3 => by
        have h4 := run_endRound (P := P) jump (lp h3)
        refine ⟨?_, turn _ _ h3⟩
        rw [hrec] at h4 ⊢
        exact h4
      have back : ∀ {W3 : World}, KeepsFrom w.heap.size (V.putObj M (.loop (rec .busy none))) W3 → Bk .busy none W3 := fun h3 => keep (turn .busy none hbv) h3
      rw [hrec] at back
      rintro e a3 W3 hp
      cases e with
      | normal =>
        obtain ⟨hk3, hi3⟩ := hp
        have h3 := back hk3
        obtain ⟨hr, h4⟩ := fin none W3 h3
        exact ⟨_, _, hr, .inl ⟨rfl, hI.putObj _ hi3 hMw (lp h3) rfl, h4⟩⟩
      | ret =>
        obtain ⟨hk3, hi3⟩ := hp
        have h3 := back hk3
        obtain ⟨hr, h4⟩ := fin (some .ret) W3 h3
        exact ⟨_, _, hr, .inr ⟨rfl, .ret, (hIx _).putObj _ hi3 hMw (lp h3) rfl, h4⟩⟩
      | exit id =>
        obtain ⟨hk3, hi3⟩ := hp
        have h3 := back hk3
        obtain ⟨hr, h4⟩ := fin (some (.exit id)) W3 h3
        exact ⟨_, _, hr, .inr ⟨rfl, .exit id, (hIx _).putObj _ hi3 hMw (lp h3) rfl, h4⟩⟩
      | goto t =>
        obtain ⟨hk3, hi3⟩ := hp
        have h3 := back hk3
        obtain ⟨hr, h4⟩ := fin (some (.goto t)) W3 h3
        exact ⟨_, _, hr, .inr ⟨rfl, .goto t, (hIx _).putObj _ hi3 hMw (lp h3) rfl, h4⟩⟩
      | panic ch => exact hp.elim
      | outgrown => exact hp.elim
    · rintro e W2 ⟨⟨v, rfl⟩, (⟨xs, hS, hi, hb⟩ | ⟨pre, hSp, c, hi, hb⟩)⟩
      · have h5 := run_endLoop (P := P) (lp hb) (by rw [hrec]; simp)
        have h6 := turn .ready none hb
        rw [hrec] at h5
        exact ⟨none, _, h5, hdone _ xs _ (Nat.le_refl _) hS (hI.putObj _ hi hMw (lp hb) rfl) ((World.putObj_heap_other (by omega)).trans (df hb))⟩
      · have h5 := run_endLoop (P := P) (lp hb) (by rw [hrec]; simp)
        rw [hrec] at h5
        exact ⟨some c, _, h5, hstop _ c pre _ (Nat.le_refl _) hSp ((hIx c).putObj _ hi hMw (lp hb) rfl) ((World.putObj_heap_other (by omega)).trans (df hb))⟩
end
end Go.Proofs.YtfnfjmjejffjiaaDoor
/- A range over a function inside a plain loop: each round leaves a mark on the frame. -/
namespace Go.Proofs.YtfnfjmjejffjiaaDoor
open Go.RowKit

def mark_ (D : Nat) : Deferred := { target := .collected D, args := #[] }
/-- the marks on a frame, the newest first: each names a block of its own, from lo on, still open -/
def Marks (lo : Nat) (w : World) : List Nat → Prop
  | [] => True
  | D :: ds => lo ≤ D ∧ w.heap[D]? = some (.deferred (some [])) ∧ (∀ x ∈ ds, x < D) ∧ Marks lo w ds
theorem Marks.lt {lo : Nat} {w : World} : ∀ {ds : List Nat}, Marks lo w ds → ∀ D ∈ ds, lo ≤ D ∧ D < w.heap.size ∧ w.heap[D]? = some (.deferred (some []))
  | [], _, _, h => by cases h
  | D :: ds, h, x, hx => by
    rcases List.mem_cons.1 hx with rfl | hx
    · exact ⟨h.1, (Array.getElem?_eq_some_iff.1 h.2.1).1, h.2.1⟩
    · exact Marks.lt h.2.2.2 x hx
theorem Marks.kept {lo : Nat} {w w' : World} : ∀ {ds : List Nat}, Marks lo w ds → (∀ D ∈ ds, w'.heap[D]? = w.heap[D]?) → Marks lo w' ds
  | [], _, _ => trivial
  | D :: _, h, hk => ⟨h.1, (hk D (List.mem_cons_self ..)).trans h.2.1, h.2.2.1, Marks.kept h.2.2.2 fun x hx => hk x (List.mem_cons_of_mem _ hx)⟩
theorem Marks.others {lo : Nat} {w w' : World} {ds : List Nat} (h : Marks lo w ds) (hk : KeepsOthers w w') : Marks lo w' ds :=
  h.kept fun D hD => (hk.same D _ (h.lt D hD).2.2 rfl).trans (h.lt D hD).2.2.symm
theorem Marks.below {lo : Nat} {w w' : World} {ds : List Nat} (h : Marks lo w ds) (hb : Below w.heap.size w w') : Marks lo w' ds := h.kept fun D hD => hb.block D (h.lt D hD).2.1
theorem Marks.own (lo B : Nat) (ds : List Nat) (hB : ∀ D ∈ ds, D < B) : OwnFrom B (fun (_ : Unit) W => Marks lo W ds) := fun _ X Y row hs hg hr =>
  hs.kept fun D hD => hg.block D (hs.lt D hD).2.1 fun e => by have := (hr D e.symm).1; have := hB D hD; omega
theorem Marks.push {lo : Nat} {w : World} {ds : List Nat} {D : Nat} (h : Marks lo w ds) (hD : w.heap[D]? = some (.deferred (some []))) (hlo : lo ≤ D) (hlt : ∀ x ∈ ds, x < D) : Marks lo w (D :: ds) := ⟨hlo, hD, hlt, h⟩
/-- the frame leaves: each mark's block is shut; what abides that is kept -/
theorem leaves_marks {F : Fence} {n : Nat} {P : Program} {fn : Func} {tmps : Array Value} {R : Ending → World → Prop} {lo : Nat} : ∀ (ds : List Nat) (w : World), Marks lo w ds →
    (∀ w', (∀ I : Unit → World → Prop, OwnFrom lo I → I () w → I () w') → ∃ v, (results fn tmps).run P w' = .ok v w' ∧ R (.returned v) w') → LeavesInM F n P fn tmps R (ds.map mark_) .returning w
  | [], w, _, h => h w fun _ _ hi => hi
  | D :: ds, w, hm, h => by
    refine ⟨by simp, .inl ⟨D, _, rfl, run_takeDeferred hm.2.1, leaves_marks ds _ (hm.2.2.2.kept fun x hx => World.putObj_heap_other (by have := hm.2.2.1 x hx; omega)) fun w' hw' => h w' fun I hI hi => hw' I hI (OwnFrom.putObj hI _ hi hm.1 hm.2.1 rfl)⟩⟩
end Go.Proofs.YtfnfjmjejffjiaaDoor
/- A range over a function whose iterator keeps blocks of its own over its yields. -/
namespace Go.Proofs.YtfnfjmjejffjiaaDoor
open Go.RowKit

/-- the contract of an iterator, with the set of the blocks that it has made for itself: a yield leaves these as they are -/
def SeqF {α : Type} (F : Fence) (n : Nat) (P : Program) (g : Nat) (lb : Array Value) (encs : α → Array Value) (Ab : World → World → Prop) (Iv : World → Prop) (S Sp : List α → Prop) (Yd : List α → α → Prop) : Prop :=
  ∀ (l : Nat) (J : (Nat → Prop) → List α → World → Prop) (Jx : List α → World → Prop) (W : World), (∀ T s A, J T s A → Iv A) → (∀ T s A B, J T s A → Ab A B → J T s B) → (∀ T s A o, J T s A → J (fun k => T k ∨ k = A.heap.size) s (A.alloc o)) → (∀ s A B, Jx s A → Ab A B → Jx s B) →
    (∀ T pre x W1, J T pre W1 → Yd pre x → YieldAt F (n - 1) P l (encs x) W1 fun e W' => (e = .returned (.bool true) ∧ J T (pre ++ [x]) W' ∧ ∀ k, T k → W'.heap[k]? = W1.heap[k]?) ∨ (e = .returned (.bool false) ∧ Jx (pre ++ [x]) W')) →
    J (fun _ => False) [] W →
    CallsIn F n P g (#[.func (.yield l) #[] #[]] ++ lb) W fun e W' => (∃ v, e = .returned v) ∧ ((∃ xs T, S xs ∧ J T xs W') ∨ ∃ pre, Sp pre ∧ Jx pre W')
section
variable {F : Fence} {n : Nat} {P : Program}
theorem wpIn_rangeFunc_F {α : Type} {g : Operand} {ps : Array Tmp} {assign body : Code} {Q : Exit → Act → World → Prop} {a : Act} {w : World}
    (hro : F.round = none) (h1 : 1 ≤ n) {gf : Nat} {lb : Array Value} (hg : a.eval g = .func (.func gf) #[] lb) (hFg : F.fn gf) (eg : ∀ args w, (callFunc gf args).run P w = .ok (.enter gf args) w)
    {encs : α → Array Value} {Ab : World → World → Prop} {Iv : World → Prop} {S Sp : List α → Prop} {Yd : List α → α → Prop} (hseq : SeqF F (n - 1) P gf lb encs Ab Iv S Sp Yd) (hps : ∀ x, (encs x).size = ps.size)
    (I : (Nat → Prop) → List α → World → Prop) (Ix : Code → List α → World → Prop) (hI : ∀ T, OwnFrom w.heap.size (I T)) (hIx : ∀ c, OwnFrom w.heap.size (Ix c)) (hIN : ∀ T s A o, I T s A → I (fun k => T k ∨ k = A.heap.size) s (A.alloc o)) (hAK : ∀ A B, Ab A B → KeepsFrom w.heap.size A B) (hAI : ∀ T s A B, I T s A → Ab A B → I T s B) (hAIx : ∀ c s A B, Ix c s A → Ab A B → Ix c s B) (hIv : ∀ T s A, I T s A → Iv A)
    (h0 : I (fun _ => False) [] w) (Ax : α → Act → World → Prop) (hAx : ∀ x a', OwnFrom w.heap.size (fun (_ : Unit) W => Ax x a' W))
    (hassign : ∀ (T : Nat → Prop) (l : Nat) (pre : List α) (x : α) (W : World) (K : Act → World → Prop), I T pre W → (∀ a' W', KeepsFrom w.heap.size W W' → (∀ k, T k → W'.heap[k]? = W.heap[k]?) → I T pre W' → Ax x a' W' → K a' W') →
      assign.wpIn (F.inRound l) (n - 1 - 1) P (Exit.then K (fun _ _ _ => False)) { tmps := (ps.zip (encs x)).foldl (fun t (p, v) => t.setIfInBounds p v) a.tmps, defers := [] } W)
    (hbody : ∀ (T : Nat → Prop) (l : Nat) (pre : List α) (x : α) (a' : Act) (W : World), w.heap.size ≤ l → (∃ r, W.heap[l]? = some (.loop r)) → I T pre W → Ax x a' W → Yd pre x → body.wpIn (F.inRound l) (n - 1 - 1) P (roundPostB w.heap.size (fun xs W' => I T xs W' ∧ ∀ k, T k → W'.heap[k]? = W.heap[k]?) Ix (pre ++ [x]) W) a' W)
    (hdone : ∀ (D : Nat) (xs : List α) (W : World), w.heap.size ≤ D → S xs → (∃ T, I T xs W) → W.heap[D]? = some (.deferred (some [])) → Q .normal { a with defers := { target := .collected D, args := #[] } :: a.defers } W)
    (hstop : ∀ (D : Nat) (c : Code) (pre : List α) (W : World), w.heap.size ≤ D → Sp pre → Ix c pre W → W.heap[D]? = some (.deferred (some [])) → c.wpIn F n P Q { a with defers := { target := .collected D, args := #[] } :: a.defers } W) :
    (Code.rangeFunc g ps assign body).wpIn F n P Q a w := by
  refine wpIn_rangeFunc ?_
  intro fn hfn
  rw [hro]
  obtain ⟨rec, hrec⟩ : ∃ rec : LoopState → Option Code → Loop, rec = fun st pe => { state := st, pending := pe, fn, tmps := a.tmps, params := ps, assign, body, defers := w.heap.size } := ⟨_, rfl⟩
  obtain ⟨M, hM⟩ : ∃ M, M = w.heap.size + 1 := ⟨_, rfl⟩
  obtain ⟨W1, hW1⟩ : ∃ W1, (w.alloc (.deferred (some []))).alloc (.loop (rec .ready none)) = W1 := ⟨_, rfl⟩
  have hL1 : W1.heap[M]? = some (.loop (rec .ready none)) := by
    have := World.alloc_heap_new (w.alloc (.deferred (some []))) (.loop (rec .ready none))
    rw [World.size_alloc] at this
    rw [← hW1, hM]; exact this
  have hK1 : W1.heap[w.heap.size]? = some (.deferred (some [])) := by
    rw [← hW1]; exact (Below.heap_alloc _ _ _ (by simp)).trans (World.alloc_heap_new w _)
  have hI1 : I (fun _ => False) [] W1 := by rw [← hW1]; exact (hI _).alloc _ ((hI _).alloc _ h0)
  -- the book-keeping: the loop's record in state st with pending jump pe, and the block for the rounds' deferred calls
  obtain ⟨Bk, hBk⟩ : ∃ Bk : LoopState → Option Code → World → Prop, Bk = fun st pe W => W.heap[M]? = some (.loop (rec st pe)) ∧ W.heap[w.heap.size]? = some (.deferred (some [])) := ⟨_, rfl⟩
  have keep : ∀ {st : LoopState} {pe : Option Code} {A B : World}, Bk st pe A → KeepsFrom w.heap.size A B → Bk st pe B := by
    intro st pe A B h hk
    rw [hBk] at h ⊢
    exact ⟨hk.same _ _ (by omega) h.1 rfl, hk.same _ _ (Nat.le_refl _) h.2 rfl⟩
  have turn : ∀ {st : LoopState} {pe : Option Code} (st' : LoopState) (pe' : Option Code) {A : World}, Bk st pe A → Bk st' pe' (A.putObj M (.loop (rec st' pe'))) := by
    intro st pe st' pe' A h
    rw [hBk] at h ⊢
    exact ⟨World.putObj_heap_same (Array.getElem?_eq_some_iff.1 h.1).1, (World.putObj_heap_other (by omega)).trans h.2⟩
  have bk1 : Bk .ready none W1 := by rw [hBk]; exact ⟨hL1, hK1⟩
  have lp : ∀ {st : LoopState} {pe : Option Code} {A : World}, Bk st pe A → A.heap[M]? = some (.loop (rec st pe)) := by intro st pe A h; rw [hBk] at h; exact h.1
  have df : ∀ {st : LoopState} {pe : Option Code} {A : World}, Bk st pe A → A.heap[w.heap.size]? = some (.deferred (some [])) := by intro st pe A h; rw [hBk] at h; exact h.2
  have hMw : w.heap.size ≤ M := by omega
  have keepA : ∀ {st : LoopState} {pe : Option Code} {A : World}, Bk st pe A → ∀ o, Bk st pe (A.alloc o) := fun h o => keep h ⟨by rw [World.size_alloc]; exact Nat.le_succ _, fun k o' _ hk _ => (Below.heap_alloc _ _ _ (Array.getElem?_eq_some_iff.1 hk).1).trans hk⟩
  refine ⟨M, [{ target := .collected w.heap.size, args := #[] }], W1, { target := .fn (.func gf) lb, args := #[.func (.yield M) #[] #[]] }, W1, gf, #[.func (.yield M) #[] #[]] ++ lb, W1, ?_, ?_, ?_, ?_, fun _ => h1, ?_⟩
  · rw [← hW1, hrec, hM]; exact run_enterLoop_outer _ _ _ _ _
  · simp only [resolve, hg]
    simp [go_sem]
  · intro f' hf'; simp [Target.leads] at hf'; subst hf'; exact hFg
  · simp [invoke, go_sem, eg]
  · refine (hseq M (fun T pre W => (I T pre W ∧ Bk .ready none W) ∧ ∀ k, T k → M < k ∧ k < W.heap.size) (fun pre W => ∃ c, Ix c pre W ∧ Bk .done (some c) W) W1 (fun T s A h => hIv T s A h.1.1) (fun T s A B h hab => ⟨⟨hAI T s A B h.1.1 hab, keep h.1.2 (hAK A B hab)⟩, fun k hk => ⟨(h.2 k hk).1, Nat.lt_of_lt_of_le (h.2 k hk).2 (hAK A B hab).size⟩⟩)
      (fun T s A o h => ⟨⟨hIN T s A o h.1.1, keepA h.1.2 o⟩, fun k hk => by
        have hM2 := (Array.getElem?_eq_some_iff.1 (lp h.1.2)).1
        rw [World.size_alloc]
        rcases hk with hk | hk
        · exact ⟨(h.2 k hk).1, Nat.lt_succ_of_lt (h.2 k hk).2⟩
        · rw [hk]; exact ⟨hM2, Nat.lt_succ_self _⟩⟩)
      (fun s A B h hab => by obtain ⟨c, h2, h3⟩ := h; exact ⟨c, hAIx c s A B h2 hab, keep h3 (hAK A B hab)⟩) ?_ ⟨⟨hI1, bk1⟩, fun k hk => hk.elim⟩).mono ?_
    · rintro T pre x W ⟨⟨hi, hb⟩, hT⟩ hlen
      have hy := run_yield (P := P) (args := encs x) (lp hb) (by rw [hrec]; exact hps x)
      rw [hrec] at hy
      refine ⟨fn, _, assign, body, hy, roundIn_of_wpIn hfn (hassign T _ pre x W _ hi ?_)⟩
      clear hy
      intro a' V hkv hsv hiv hax
      have hbv := keep hb hkv
      refine ⟨_, run_beginRound (lp hbv) (by rw [hrec]), ?_⟩
      have hb2 := turn .busy none hbv
      have hloop := lp hbv
      rw [hrec] at hb2 hloop
      rw [hrec]
      refine wpIn_mono (hbody T _ pre x a' _ hMw ⟨_, by have := lp hb2; rw [hrec] at this; exact this⟩ ((hI T).putObj _ hiv hMw hloop rfl) ((hAx x a').putObj (s := ()) _ hax hMw hloop rfl) hlen) ?_
      have fin : ∀ (jump : Option Code) (W3 : World), Bk .busy none W3 → (Instr.endRound M jump).run P W3 = .ok (.bool jump.isNone) (W3.putObj M (.loop (rec (if jump.isNone then .ready else .done) jump))) ∧ Bk (if jump.isNone then .ready else .done) jump (W3.putObj M (.loop (rec (if jump.isNone then .ready else .done) jump))) := fun jump W3 h3 => by
        have h4 := run_endRound (P := P) jump (lp h3)
        refine ⟨?_, turn _ _ h3⟩
        rw [hrec] at h4 ⊢
        exact h4
      have back : ∀ {W3 : World}, KeepsFrom w.heap.size (V.putObj M (.loop (rec .busy none))) W3 → Bk .busy none W3 := fun h3 => keep (turn .busy none hbv) h3
      rw [hrec] at back
      rintro e a3 W3 hp
      cases e with
      | normal =>
        obtain ⟨hk3, hi3, hs3⟩ := hp
        have h3 := back hk3
        obtain ⟨hr, h4⟩ := fin none W3 h3
        have hsz : V.heap.size ≤ W3.heap.size := by have := hk3.size; rwa [World.putObj_size] at this
        have hWV := hkv.size
        refine ⟨_, _, hr, .inl ⟨rfl, ⟨⟨(hI T).putObj _ hi3 hMw (lp h3) rfl, h4⟩, fun k hk => ⟨(hT k hk).1, by rw [World.putObj_size]; have := (hT k hk).2; omega⟩⟩, fun k hk => ?_⟩⟩
        have hne : k ≠ M := by have := (hT k hk).1; omega
        exact (World.putObj_heap_other hne).trans ((hs3 k hk).trans ((World.putObj_heap_other hne).trans (hsv k hk)))
      | ret =>
        obtain ⟨hk3, hi3⟩ := hp
        have h3 := back hk3
        obtain ⟨hr, h4⟩ := fin (some .ret) W3 h3
        exact ⟨_, _, hr, .inr ⟨rfl, .ret, (hIx _).putObj _ hi3 hMw (lp h3) rfl, h4⟩⟩
      | exit id =>
        obtain ⟨hk3, hi3⟩ := hp
        have h3 := back hk3
        obtain ⟨hr, h4⟩ := fin (some (.exit id)) W3 h3
        exact ⟨_, _, hr, .inr ⟨rfl, .exit id, (hIx _).putObj _ hi3 hMw (lp h3) rfl, h4⟩⟩
      | goto t =>
        obtain ⟨hk3, hi3⟩ := hp
        have h3 := back hk3
        obtain ⟨hr, h4⟩ := fin (some (.goto t)) W3 h3
        exact ⟨_, _, hr, .inr ⟨rfl, .goto t, (hIx _).putObj _ hi3 hMw (lp h3) rfl, h4⟩⟩
      | panic ch => exact hp.elim
      | outgrown => exact hp.elim
    · rintro e W2 ⟨⟨v, rfl⟩, (⟨xs, T, hS, ⟨hi, hb⟩, -⟩ | ⟨pre, hSp, c, hi, hb⟩)⟩
      · have h5 := run_endLoop (P := P) (lp hb) (by rw [hrec]; simp)
        have h6 := turn .ready none hb
        rw [hrec] at h5
        exact ⟨none, _, h5, hdone _ xs _ (Nat.le_refl _) hS ⟨T, (hI T).putObj _ hi hMw (lp hb) rfl⟩ ((World.putObj_heap_other (by omega)).trans (df hb))⟩
      · have h5 := run_endLoop (P := P) (lp hb) (by rw [hrec]; simp)
        rw [hrec] at h5
        exact ⟨some c, _, h5, hstop _ c pre _ (Nat.le_refl _) hSp ((hIx c).putObj _ hi hMw (lp hb) rfl) ((World.putObj_heap_other (by omega)).trans (df hb))⟩
end
end Go.Proofs.YtfnfjmjejffjiaaDoor
