/- Drift, plain: what Conflict, Struck, Places, Leeways and History answer. -/
import Derived.Test.YtnbeembnnjdmdaaDoorD31
namespace Go.Proofs.YtnbeembnnjdmdaaDoor
open Go.RowKit

section
variable {d : M.Dr} {ta n hn : Nat} {xL : List Int} {Xs : Nat → SgV} {lo hi ft fc : Int}
theorem spanTo_posB {fit : Nat → Int → Bool} : M.spanTo lo hi (fun l => M.posB d ta l (fun c => xL.contains c) fit (n - 1)) = true ↔ ∃ l f, (lo ≤ l ∧ l ≤ hi) ∧ M.Hist d ta l (fun c => xL.contains c) fit (n - 1) f := M.anyP_iff
theorem leeG_iff {l : List Nat} : leeG d ta n xL Xs lo hi ft fc l = true ↔ ∃ lw f, (lo ≤ lw ∧ lw ≤ hi) ∧ M.Hist d ta lw (fun c => xL.contains c) (trFit (fun i => Xs (l.getD i 0)) l.length ta ft fc) (n - 1) f := spanTo_posB
theorem leeG_mono {l l' : List Nat} (h : ∀ x, x ∈ l' → x ∈ l) (hg : leeG d ta n xL Xs lo hi ft fc l = true) : leeG d ta n xL Xs lo hi ft fc l' = true := by
  obtain ⟨lw, f, h1, h2⟩ := leeG_iff.1 hg
  refine leeG_iff.2 ⟨lw, f, h1, h2.mono rfl (fun _ hc => hc) (fun i c _ hc => ?_) (fun _ _ _ _ hc => hc)⟩
  have hc := fitF_some.1 hc
  refine fitF_some.2 ⟨fun k hk => ?_, hc.2⟩
  have hx : l'.getD k 0 ∈ l := h _ (by rw [List.getD_eq_getElem?_getD, List.getElem?_eq_getElem hk, Option.getD_some]; exact List.getElem_mem hk)
  obtain ⟨j, hj, e⟩ := List.getElem_of_mem hx
  have h3 : M.agr (Xs (l.getD j 0)).sg ((ta : Int) + i) c = true := hc.1 j hj
  rw [List.getD_eq_getElem?_getD, List.getElem?_eq_getElem hj, Option.getD_some, e] at h3
  exact h3
theorem leeG_range : leeG d ta n xL Xs lo hi ft fc (List.range hn) = M.spanTo lo hi (leeP d ta n hn xL Xs ft fc) := by
  rw [Bool.eq_iff_iff, leeG_iff]
  unfold leeP
  rw [spanTo_posB, List.length_range]
  have e : ∀ i c, trFit (fun i => Xs ((List.range hn).getD i 0)) hn ta ft fc i c = true ↔ trFit Xs hn ta ft fc i c = true := fun i c => by
    unfold trFit
    rw [fitF_some, fitF_some]
    refine and_congr_left fun _ => forall_congr' fun k => imp_congr_right fun hk => ?_
    show M.agr (Xs ((List.range hn).getD k 0)).sg _ c = true ↔ _
    rw [show (List.range hn).getD k 0 = k by rw [List.getD_eq_getElem?_getD, List.getElem?_range hk, Option.getD_some]]
  constructor
  · rintro ⟨lw, f, h1, h2⟩
    exact ⟨lw, f, h1, h2.mono rfl (fun _ hc => hc) (fun i c _ hc => (e i c).1 hc) (fun _ _ _ _ hc => hc)⟩
  · rintro ⟨lw, f, h1, h2⟩
    exact ⟨lw, f, h1, h2.mono rfl (fun _ hc => hc) (fun i c _ hc => (e i c).2 hc) (fun _ _ _ _ hc => hc)⟩
/-- with those that are needed nothing is possible -/
theorem needed_none (h : M.spanTo lo hi (leeP d ta n hn xL Xs ft fc) = false) : leeG d ta n xL Xs lo hi ft fc (M.kp (leeG d ta n xL Xs lo hi ft fc) hn hn) = false := by
  rw [← M.lf_end]
  refine M.lf_none ?_ (Nat.le_refl _)
  have e0 : M.lf (leeG d ta n xL Xs lo hi ft fc) hn 0 = List.range hn := by unfold M.lf; simp [M.kp, List.range_eq_range']
  rw [e0, leeG_range, h]
/-- .. without any one of them something is -/
theorem needed_each {k : Nat} (hk : k < (M.kp (leeG d ta n xL Xs lo hi ft fc) hn hn).length) {l : List Nat} (hl : ∀ x, x ∈ l → x ∈ M.kp (leeG d ta n xL Xs lo hi ft fc) hn hn ∧ x ≠ (M.kp (leeG d ta n xL Xs lo hi ft fc) hn hn)[k]) : leeG d ta n xL Xs lo hi ft fc l = true :=
  M.kp_each (fun _ _ h hg => leeG_mono h hg) (List.getElem_mem hk) hl
/-- .. with all of them, nothing -/
theorem needed_all (h : M.spanTo lo hi (leeP d ta n hn xL Xs ft fc) = false) {l : List Nat} (hl : ∀ x, x ∈ M.kp (leeG d ta n xL Xs lo hi ft fc) hn hn → x ∈ l) : leeG d ta n xL Xs lo hi ft fc l = false := by
  cases hg : leeG d ta n xL Xs lo hi ft fc l
  · rfl
  · have h1 := leeG_mono hl hg
    rw [needed_none h] at h1; cases h1
/-- where it can be i ticks behind At -/
def plcB (d : M.Dr) (ta n hn : Nat) (xL : List Int) (Xs : Nat → SgV) (lo hi : Int) (i : Nat) (c : Int) : Bool := M.spanTo lo hi fun l => M.rowB d ta l (fun c => xL.contains c) (trFit Xs hn ta (-1) 0) (n - 1) i c
theorem plcB_iff {i : Nat} {c : Int} (hi' : i < n) (hc : -1 ≤ c ∧ c < d.s.nd) : plcB d ta n hn xL Xs lo hi i c = true ↔ ∃ l f, (lo ≤ l ∧ l ≤ hi) ∧ M.Hist d ta l (fun c => xL.contains c) (trFit Xs hn ta (-1) 0) (n - 1) f ∧ f i = c := by
  unfold plcB
  rw [M.spanTo_iff]
  constructor
  · rintro ⟨l, h1, h2, h3⟩
    obtain ⟨f, hf, e⟩ := (M.rowB_iff (by omega) hc).1 h3
    exact ⟨l, f, ⟨h1, h2⟩, hf, e⟩
  · rintro ⟨l, f, h1, hf, e⟩
    exact ⟨l, h1.1, h1.2, (M.rowB_iff (by omega) hc).2 ⟨f, hf, e⟩⟩
/-- the row of Places -/
def plcL (d : M.Dr) (ta n hn : Nat) (xL : List Int) (Xs : Nat → SgV) (lo hi : Int) (i : Nat) : List Int := M.listB d.s.nd (plcB d ta n hn xL Xs lo hi i)
/-- the rows of the leeways that have been looked at, one behind the other -/
def plcC (d : M.Dr) (ta n hn : Nat) (xL : List Int) (Xs : Nat → SgV) (ls : List Int) (i : Nat) : List Int := ls.flatMap fun l => M.rwL d ta l (fun c => xL.contains c) (trFit Xs hn ta (-1) 0) (n - 1) i
theorem plcC_app {ls : List Int} {l : Int} {i : Nat} : plcC d ta n hn xL Xs (ls ++ [l]) i = plcC d ta n hn xL Xs ls i ++ M.rwL d ta l (fun c => xL.contains c) (trFit Xs hn ta (-1) 0) (n - 1) i := by
  unfold plcC
  rw [List.flatMap_append]
  simp
theorem plcC_len {ls : List Int} {i : Nat} : (plcC d ta n hn xL Xs ls i).length ≤ ls.length * (d.s.nd + 1) := by
  induction ls with
  | nil => simp [plcC]
  | cons a ls ih =>
    have e : plcC d ta n hn xL Xs (a :: ls) i = M.rwL d ta a (fun c => xL.contains c) (trFit Xs hn ta (-1) 0) (n - 1) i ++ plcC d ta n hn xL Xs ls i := rfl
    rw [e, List.length_append, List.length_cons, Nat.add_mul]
    have := M.listB_len d.s.nd (M.rowB d ta a (fun c => xL.contains c) (trFit Xs hn ta (-1) 0) (n - 1) i)
    unfold M.rwL
    omega
theorem plcC_mem {i : Nat} {x : Int} (hn1 : i < n) : x ∈ plcC d ta n hn xL Xs (M.spanL lo hi (leeP d ta n hn xL Xs (-1) 0)) i ↔ x ∈ plcL d ta n hn xL Xs lo hi i := by
  unfold plcC plcL M.rwL
  rw [List.mem_flatMap, M.mem_listB]
  unfold plcB
  rw [M.spanTo_iff]
  constructor
  · rintro ⟨l, h1, h2⟩
    have h1 := M.mem_spanL.1 h1
    have h2 := M.mem_listB.1 h2
    exact ⟨h2.1, l, h1.1.1, h1.1.2, h2.2⟩
  · rintro ⟨h1, l, h2, h3, h4⟩
    refine ⟨l, M.mem_spanL.2 ⟨⟨h2, h3⟩, ?_⟩, M.mem_listB.2 ⟨h1, h4⟩⟩
    unfold leeP M.posB
    exact M.rowB_some (i := i) (by omega) (Nat.zero_le _) (M.anyC_iff.2 ⟨x, h1.1, h1.2, h4⟩)
/-- sorted, and each but once -/
theorem plc_done {i : Nat} (hn1 : i < n) : Lib.compact ((plcC d ta n hn xL Xs (M.spanL lo hi (leeP d ta n hn xL Xs (-1) 0)) i).mergeSort M.leI) = plcL d ta n hn xL Xs lo hi i := compact_sort (M.listB_sorted _ _) fun _ => plcC_mem hn1
end
end Go.Proofs.YtnbeembnnjdmdaaDoor
