/- drift: tracks, from its rows on. -/
import Derived.Test.YtnbeembnnjdmdaaGreatDoorD19
namespace Go.Proofs.YtnbeembnnjdmdaaGreatDoor
open Go.RowKit Go.Maps

theorem flatMap_len {f : Int → List Int} {b : Nat} : ∀ {L : List Int}, (∀ x, x ∈ L → (f x).length ≤ b) → (L.flatMap f).length ≤ L.length * b
 | [], _ => by simp
 | x :: L, h => by
  have h1 := flatMap_len (f := f) (b := b) (L := L) fun y hy => h y (List.mem_cons_of_mem _ hy)
  have h2 := h x (List.mem_cons_self ..)
  rw [List.flatMap_cons, List.length_append, List.length_cons, Nat.add_mul]
  omega
def meDn (hv : Value) (w : World) : Nat := (intOf ((w.cell? (match hv with | .pointer (some a) => a | _ => ⟨0, 0, none⟩)).getD undef) + 1).toNat
theorem meDn_at {h : Int} {b t : Nat} {w : World} (hb : Blk w b t #[.int .i64 h]) : meDn (.pointer (some ⟨b, 0, none⟩)) w = (h + 1).toNat := by
 unfold meDn
 rw [show w.cell? (match Value.pointer (some ⟨b, 0, none⟩) with | .pointer (some a) => a | _ => ⟨0, 0, none⟩) = some (.int .i64 h) from hb.cell 0]
 rfl
def trFit (Xs : Nat → SgV) (hn ta : Nat) (ft fc : Int) : Nat → Int → Bool := M.fitF (fun i => (Xs i).sg) hn (ta : Int) ft fc
section
variable {d : M.Dr} {zA cA wA dA tA sA : Option Addr} {cl : Nat → Nat} {B P m1 m2 dc tc sc zc cc wc : Nat} {T : Nat → Prop} {W W' : World} {hn hc xc ta ln n rb rw : Nat} {at_ lw lo hi ft fc fl : Int} {xL : List Int} {xA hA : Option Addr} {Xs : Nat → SgV} {W0 X : World}
def TracksR (d : M.Dr) (zA cA wA dA tA sA : Option Addr) (cl : Nat → Nat) (B P m1 m2 dc tc sc zc cc wc : Nat) (T : Nat → Prop) (W0 : World) (ta n : Nat) (l : Int) (Xc : Int → Bool) (fit : Nat → Int → Bool) (e : Ending) (W' : World) : Prop :=
 ∃ T' : Nat → Prop, (∀ k, T k → T' k) ∧ (∀ k, T' k → T k ∨ W0.heap.size ≤ k) ∧ SeaM d zA cA wA dA tA sA cl B P m1 m2 #[.int .i64 (d.s.W : Int), .int .i64 (d.s.H : Int), .slice dA d.s.nd dc, .slice tA d.s.nt tc, .slice sA d.s.nt sc, .slice zA d.s.nd zc, .slice cA d.nz cc, .slice wA (d.s.nt - 1) wc, .map (some m1), .map (some m2)] T' W' ∧ Mv m1 m2 W0 W' ∧
  ((M.posB d ta l Xc fit (n - 1) = false ∧ e = .returned (.slice none 0 0)) ∨
   (M.posB d ta l Xc fit (n - 1) = true ∧ ∃ (rw : Nat) (V : Nat → Value), e = .returned (.slice (some ⟨rw, 0, none⟩) n n) ∧ Own W' W0.heap.size 22 1 (.slice (some ⟨rw, 0, none⟩) n n) n (fun i _ => V i) ∧ ¬ T' rw ∧ (∀ k, k < n → IL W' W0.heap.size (V k) (M.rwL d ta l Xc fit (n - 1) k)) ∧
    (∀ k, k < n → ∀ g, (V k).ownBlock = some g → ¬ T' g) ∧ ∀ k j, k < n → j < n → k ≠ j → ∀ g, (V k).ownBlock = some g → (V j).ownBlock ≠ some g))
set_option maxRecDepth 100000 in
set_option maxHeartbeats 16000000 in
theorem tracks_tail {v0 v1 v2 v9 v10 v11 v12 v13 v14 v15 v16 v17 v18 v19 v20 v21 v22 v23 v24 v25 v26 v27 v28 v29 v30 v31 v32 v33 v34 v35 v36 v37 v38 v39 v40 v41 v42 v43 v44 v45 v46 v47 v48 v49 v50 v51 v52 v53 v54 v55 v56 v57 v58 v59 v60 v61 v62 v63 v64 v65 v66 v67 v68 v69 v70 v71 v72 v73 v74 v75 v76 v77 v78 v79 v80 v81 v82 v83 v84 v85 v86 v87 v88 v89 v90 v91 v92 v93 v94 v95 : Value} (hd : d.Ok) (hM0 : SeaM d zA cA wA dA tA sA cl B P m1 m2 #[.int .i64 (d.s.W : Int), .int .i64 (d.s.H : Int), .slice dA d.s.nd dc, .slice tA d.s.nt tc, .slice sA d.s.nt sc, .slice zA d.s.nd zc, .slice cA d.nz cc, .slice wA (d.s.nt - 1) wc, .map (some m1), .map (some m2)] T W0) (hRS : RdS W0 W0.heap.size hA hn Xs) (hhn : hn ≤ maxLen) (hx1 : xL.Pairwise (· < ·)) (hx2 : ∀ x, x ∈ xL → 0 ≤ x ∧ x < d.s.nd) (hx3 : Rd1 W0 W0.heap.size xA xL.length (fun k => xL.getD k 0)) (hx4 : xL.length ≤ 1048576)
  (hl : ln ≤ 8) (htn : ta + n = d.s.nt) (hn1 : 1 ≤ n) (hrw4 : W0.heap.size + 4 ≤ rw) (hrw : rw < W0.heap.size + 6) (hrb : rb < W0.heap.size + 6) (hrbw : rb ≠ rw) (hat : at_ = (ta : Int)) (hlw : lw = (ln : Int)) {V0 : Nat → Value} {R0 : Nat → List Int} (hI : TrI (fun T' X => SeaM d zA cA wA dA tA sA cl B P m1 m2 #[.int .i64 (d.s.W : Int), .int .i64 (d.s.H : Int), .slice dA d.s.nd dc, .slice tA d.s.nt tc, .slice sA d.s.nt sc, .slice zA d.s.nd zc, .slice cA d.nz cc, .slice wA (d.s.nt - 1) wc, .map (some m1), .map (some m2)] T' X ∧ (∀ k, T k → T' k) ∧ ∀ k, T' k → T k ∨ W0.heap.size ≤ k) m1 m2 W0 #[.pointer (some ⟨P, 0, none⟩), .int .i64 at_, .slice xA xL.length xc, .int .i64 lo, .int .i64 hi, .slice hA hn hc] lw fc ft fl rb rw n T V0 (fun _ => False) R0 X) :
  Code.wp Tryz.prog (restAt Tryz.f103 3) (bodyPost Tryz.prog Tryz.f103 (TracksR d zA cA wA dA tA sA cl B P m1 m2 dc tc sc zc cc wc T W0 ta n (ln : Int) (fun c => xL.contains c) (trFit Xs hn ta ft fc))) { tmps := List.toArray (v0 :: v1 :: v2 :: .pointer (some ⟨W0.heap.size, 0, none⟩) :: .pointer (some ⟨W0.heap.size + 1, 0, none⟩) :: .pointer (some ⟨W0.heap.size + 2, 0, none⟩) :: .slice none 0 0 :: .pointer (some ⟨W0.heap.size + 3, 0, none⟩) :: .pointer (some ⟨rb, 0, none⟩) :: v9 :: v10 :: v11 :: v12 :: v13 :: v14 :: v15 :: v16 :: v17 :: v18 :: v19 :: v20 :: v21 :: v22 :: v23 :: v24 :: v25 :: v26 :: v27 :: v28 :: v29 :: v30 :: v31 :: v32 :: v33 :: v34 :: v35 :: v36 :: v37 :: v38 :: v39 :: v40 :: v41 :: v42 :: v43 :: v44 :: v45 :: v46 :: v47 :: v48 :: v49 :: v50 :: v51 :: v52 :: v53 :: v54 :: v55 :: v56 :: v57 :: v58 :: v59 :: v60 :: v61 :: v62 :: v63 :: v64 :: v65 :: v66 :: v67 :: v68 :: v69 :: v70 :: v71 :: v72 :: v73 :: v74 :: v75 :: v76 :: v77 :: v78 :: v79 :: v80 :: v81 :: v82 :: v83 :: v84 :: v85 :: v86 :: v87 :: v88 :: v89 :: v90 :: v91 :: v92 :: v93 :: v94 :: v95 :: []), defers := [] } X := by
 subst hat; subst hlw
 have h60 := hd.s.t2
 have hnd := hd.s.nd1
 have hB0 : B ≤ W0.heap.size := hM0.b.2.2.2.2
 have hm0 : IsMap' W0 m1 ∧ IsMap' W0 m2 := ⟨hM0.map1, hM0.map2⟩
 have HSM := Lib.hid (sm_grown (d := d) (zA := zA) (cA := cA) (wA := wA) (dA := dA) (tA := tA) (sA := sA) (cl := cl) (P := P) (m1 := m1) (m2 := m2) (dc := dc) (tc := tc) (sc := sc) (zc := zc) (cc := cc) (wc := wc) (T := T) hB0)
 have HD := Lib.hid hd
 have HRS := Lib.hid hRS
 have HX3 := Lib.hid hx3
 obtain ⟨Xc, hXc⟩ : ∃ Xc : Int → Bool, Xc = fun c => xL.contains c := ⟨_, rfl⟩
 rw [← hXc]
 obtain ⟨fit, hfit⟩ : ∃ fit, fit = trFit Xs hn ta ft fc := ⟨_, rfl⟩
 rw [← hfit]
 obtain ⟨RF, hRF⟩ : ∃ RF, RF = M.fwL d ta (ln : Int) Xc fit := ⟨_, rfl⟩
 obtain ⟨RR, hRR⟩ : ∃ RR, RR = M.rwL d ta (ln : Int) Xc fit (n - 1) := ⟨_, rfl⟩
 have HQ := Lib.hid (show ∀ k : Nat, (fun x => !(!(M.agAll (fun i => (Xs i).sg) hn ((ta : Int) + (k : Int)) x && M.fixB ft fc ((ta : Int) + (k : Int)) x))) = fun x => fit k x from fun k => by rw [hfit]; funext x; rw [Bool.not_not]; rfl)
 have HF0 := Lib.hid (show xL.filter (fun c => fit 0 c) = RF 0 by rw [hRF, hXc]; exact M.fwL_zero hx1 hx2)
 have HF1 := Lib.hid (show ∀ (k : Nat) (L : List Int), (∀ x, x ∈ L ↔ x ∈ (RF k).flatMap fun c => M.stepL d (ta + k) (ln : Int) c) → (Lib.compact (L.mergeSort M.leI)).filter (fun c => fit (k + 1) c) = RF (k + 1) from fun k L hL => by
  rw [compact_sort (M.listB_sorted _ _) (fun x => (hL x).trans (by rw [hRF]; exact M.gath_mem hd))]
  rw [hRF]; exact M.gath_filter)
 have HFB := Lib.hid (show ∀ k x, x ∈ RF k → -1 ≤ x ∧ x < d.s.nd from fun k x hx => by rw [hRF] at hx; exact (M.mem_listB.1 hx).1)
 have HFL := Lib.hid (show ∀ k, (RF k).length ≤ 145 from fun k => by
  have := M.listB_len d.s.nd (M.fw d ta (ln : Int) Xc fit k)
  rw [hRF]; unfold M.fwL; omega)
 have HRL := Lib.hid (show ∀ k, (RR k).length ≤ 145 from fun k => by
  have := M.listB_len d.s.nd (M.rowB d ta (ln : Int) Xc fit (n - 1) k)
  rw [hRR]; unfold M.rwL; omega)
 have HR1 := Lib.hid (show RR (n - 1) = RF (n - 1) by rw [hRR, hRF]; exact M.rwL_last)
 have HR2 := Lib.hid (show ∀ k, k + 1 < n → (RF k).filter (fun x => !(!((M.stepL d (ta + k) (ln : Int) x).any fun c => (RR (k + 1)).contains c))) = RR k from fun k hk => by
  rw [show (fun x => !(!((M.stepL d (ta + k) (ln : Int) x).any fun c => (RR (k + 1)).contains c))) = fun x => (M.stepL d (ta + k) (ln : Int) x).any fun c => (RR (k + 1)).contains c from funext fun x => Bool.not_not _]
  rw [hRR, hRF]; exact M.rwL_step hd (by omega))
 have HPO := Lib.hid (show (RR 0).length = 0 ↔ M.posB d ta (ln : Int) Xc fit (n - 1) = false by rw [hRR]; exact M.posB_len)
 have HRR := Lib.hid hRR
 have x8 := hI.k8.cell 0
 have HI0 := Lib.hid hI
 clear hM0 hRS hx1 hx2 hx3 hI hRF hRR hd
 clear hfit hXc
 conv in restAt _ _ => whnf
 go_wp2_with fail
 go_loopw [27] (fun i wr => ∃ (k : Nat) (T' : Nat → Prop) (V : Nat → Value), k ≤ n ∧ i = .int .i64 (k : Int) ∧ Hid (TrI (fun T' X => SeaM d zA cA wA dA tA sA cl B P m1 m2 #[.int .i64 (d.s.W : Int), .int .i64 (d.s.H : Int), .slice dA d.s.nd dc, .slice tA d.s.nt tc, .slice sA d.s.nt sc, .slice zA d.s.nd zc, .slice cA d.nz cc, .slice wA (d.s.nt - 1) wc, .map (some m1), .map (some m2)] T' X ∧ (∀ k, T k → T' k) ∧ ∀ k, T' k → T k ∨ W0.heap.size ≤ k) m1 m2 W0 #[.pointer (some ⟨P, 0, none⟩), .int .i64 (ta : Int), .slice xA xL.length xc, .int .i64 lo, .int .i64 hi, .slice hA hn hc] (ln : Int) fc ft fl rb rw n T' V (fun j => j < k) RF wr)) (fun i _ => n - (intOf i).toNat)
 case atStart => exact ⟨0, T, V0, Nat.zero_le _, rfl, Lib.hid (HI0.out.congr (fun _ _ h => absurd h (Nat.not_lt_zero _)) fun _ _ h => absurd h (Nat.not_lt_zero _))⟩
 case round =>
  obtain ⟨k, T', V, hk, rfl, HT⟩ := hrel
  clear x8 HI0
  by_cases hlt : k < n
  ·
   have x1 := HT.out.k3.cell 1
   go_upto_region 8 with fail
   obtain ⟨tb, htb⟩ : ∃ tb, tb = wr.heap.size := ⟨_, rfl⟩
   obtain ⟨tk, htk⟩ : ∃ tk : Int, tk = (ta : Int) + (k : Int) := ⟨_, rfl⟩
   rw [← htb, ← htk]
   have htb6 : W0.heap.size + 6 ≤ tb := by have := HT.out.sz; omega
   have HTK := Lib.hid htk
   have HVB := Lib.hid (show ∀ j, j < k → ∀ g, (V j).ownBlock = some g → g < tb from fun j hj g e => by rw [htb]; exact (Own.block (HT.out.ro j (by omega) hj) e).2)
   have HTZ := Lib.hid (HT.out.below (belowAlloc wr (.cells #[.int .i64 tk] 3)) hrb hrw HSM.out)
   have HTBZ := Lib.hid (show Blk (wr.alloc (.cells #[.int .i64 tk] 3)) tb 3 #[.int .i64 tk] by rw [htb]; exact Blk.new _ _ _)
   have hsz : (wr.alloc (.cells #[.int .i64 tk] 3)).heap.size = tb + 1 := by rw [htb]; simp
   clear x1 HT htb htk
   generalize wr.alloc (.cells #[.int .i64 tk] 3) = Z at HTZ HTBZ hsz ⊢
   by_cases hk0 : k = 0
   ·
    subst hk0
    have y2 := HTZ.out.k3.cell 2
    have HXZ := Lib.hid (show Rd1 Z W0.heap.size xA xL.length (fun k => xL.getD k 0) from HX3.out.mv HTZ.out.mv hm0.1 hm0.2)
    go_upto_region 17 with (go_at_call 47; refine (clone_any xA xL xc W0.heap.size Z hx4 HXZ.out (by omega)).mono ?_; rintro e Z5 ⟨v5, rfl, hi5, hb5⟩; have HIL5 := Lib.hid hi5; have HB5 := Lib.hid hb5; clear hi5 hb5)
    obtain ⟨T5, hT5⟩ : ∃ T5, T5 = T' := ⟨_, rfl⟩
    obtain ⟨Lr, hLre⟩ : ∃ Lr, Lr = xL := ⟨_, rfl⟩
    have HTI := Lib.hid (HTZ.out.below HB5.out hrb hrw HSM.out)
    have HTB := Lib.hid (HTBZ.out.below' HB5.out)
    have HIL := Lib.hid (Own.less HIL5.out (show tb + 1 ≤ Z.heap.size by omega))
    have HVT := Lib.hid (show ∀ g, v5.ownBlock = some g → ¬ T' g from fun g e h => by
     have h1 := (Own.block HIL5.out e).1
     have h2 := (HTZ.out.sm.1.t.2.2.2 g h).2
     omega)
    have HLR := HF0
    have hLr : Lr.length ≤ 1048576 := by rw [hLre]; exact hx4
    rw [← hT5] at HTI HVT
    rw [← hLre] at HLR HIL
    have HIL : Hid (IL Z5 (tb + 1) v5 Lr) := HIL
    clear hT5 hLre

    have HFE := Lib.hid (show Lr.filter (fun x => !(!(M.agAll (fun i => (Xs i).sg) hn tk x && M.fixB ft fc tk x))) = RF 0 by rw [HTK.out, HQ.out 0]; exact HLR.out)
    obtain ⟨A5, c5, rfl⟩ := Own.form HIL.out
    have HOW := Lib.hid (show ∀ r, (Value.slice A5 Lr.length c5).ownBlock = some r → W0.heap.size + 6 ≤ r ∧ r ≠ tb ∧ ∀ j, j < n → j < 0 → (V j).ownBlock ≠ some r from fun r e => by
     have h3 := (Own.block HIL.out e).1
     exact ⟨by omega, by omega, fun j _ hj e2 => by have := HVB.out j hj r e2; omega⟩)
    have HIN := Lib.hid (show DelI (fun T' X => SeaM d zA cA wA dA tA sA cl B P m1 m2 #[.int .i64 (d.s.W : Int), .int .i64 (d.s.H : Int), .slice dA d.s.nd dc, .slice tA d.s.nt tc, .slice sA d.s.nt sc, .slice zA d.s.nd zc, .slice cA d.nz cc, .slice wA (d.s.nt - 1) wc, .map (some m1), .map (some m2)] T' X ∧ (∀ k, T k → T' k) ∧ ∀ k, T' k → T k ∨ W0.heap.size ≤ k) m1 m2 W0 #[.pointer (some ⟨P, 0, none⟩), .int .i64 (ta : Int), .slice xA xL.length xc, .int .i64 lo, .int .i64 hi, .slice hA hn hc] (ln : Int) fc ft fl rb rw n V (fun j => j < 0) RF tb tk (Value.slice A5 Lr.length c5).ownBlock Z5.drew from ⟨T5, HTI.out.below ((Below.refl _ _).drew) hrb hrw HSM.out, HTB.out, fun r e => ⟨HVT.out r e, (Own.block HIL.out e).2⟩⟩)
    refine wp_nopanic ?_
    refine wp_region_T 5 (fun w' => Blk w' rb 62 #[.slice (some ⟨rw, 0, none⟩) n n]) (by kernel_rfl) HTI.out.k8 ?_
    intro hS
    refine tkA (i := 0) (v := ?_) rfl (by kernel_rfl) (.inl ⟨by kernel_rfl, ?_⟩) hS ?_
    rotate_left
    · (intro w' hw; have x8 := hw.cell 0; go_simp; try with_reducible rfl)
    try simp only [put_laws]
    refine tkA (i := 1) (v := ?_) rfl (by kernel_rfl) (.inl ⟨by kernel_rfl, ?_⟩) hS ?_
    rotate_left
    · (intro w' hw; have x8 := hw.cell 0; go_simp; try with_reducible rfl)
    try simp only [put_laws]
    refine tkA (i := 2) (v := ?_) rfl (by kernel_rfl) (.inl ⟨by kernel_rfl, ?_⟩) hS ?_
    rotate_left
    · (intro w' hw; have x8 := hw.cell 0; go_simp; try with_reducible rfl)
    try simp only [put_laws]
    refine tkA (i := 3) (v := ?_) rfl (by kernel_rfl) (.inl ⟨by kernel_rfl, ?_⟩) hS ?_
    rotate_left
    · (intro w' hw; have x8 := hw.cell 0; go_simp; try with_reducible rfl)
    try simp only [put_laws]
    refine wpAnyT_one (i := 4) (by kernel_rfl) rfl ?_
    intro K' hK'
    go_simp
    refine (delete_all 124 (.inl rfl) hLr (Own.drew HIL.out) HIN.out (fun _ h => ⟨h.choose_spec.1.sm.1.map1, h.choose_spec.1.sm.1.map2⟩) (fun _ _ h hg => h.grown hg hrb hrw HOW.out HSM.out) (dels2 hB0 hm0 HRS.out hhn hrb hrw)).mono ?_
    rintro e w6 ⟨v6, rfl, ho6, hil6, T6, ti6, tb6, hvt6⟩
    have HTI6 := Lib.hid ti6
    have HIL6 := Lib.hid (show IL w6 (tb + 1) v6 (RF 0) from by rw [← HFE.out]; exact hil6)
    have HVT6 := Lib.hid (show ∀ g, v6.ownBlock = some g → ¬ T6 g from fun g e => (hvt6 g (ho6 ▸ e)).1)
    have HO6 := Lib.hid ho6
    have hS' := ti6.k8
    clear hS ti6 hil6 ho6 tb6 hvt6
    have hS := hS'
    clear hS'
    refine hK'.out _ _ (.inr hS) ?_
    clear hK' K'
    try simp only [put_laws]
    obtain ⟨A6, c6, rfl⟩ := Own.form HIL6.out
    refine wpAnyT_one (i := 5) (by kernel_rfl) rfl ?_
    intro K' hK'
    go_simp
    refine hK'.out _ _ (.inl rfl) ?_
    clear hK' K'
    try simp only [put_laws]
    have x6 := Own.cell1 HTI6.out.rs hlt
    have f6 := Own.frz HTI6.out.rs 0
    refine wpAnyT_one (i := 6) (by kernel_rfl) rfl ?_
    intro K' hK'
    go_simp
    refine hK'.out _ _ (.inl rfl) ?_
    clear hK' K'
    try simp only [put_laws]
    refine wpAnyT_done (by kernel_rfl) ?_ _
    refine ⟨fun x e => (by cases e), ?_⟩
    have HIL7 := Lib.hid (Own.less HIL6.out (show W0.heap.size + 6 ≤ tb + 1 by omega))
    go_wp2_with fail
    go_roundw
    case rel =>
     have hst := HTI6.out.store hlt (by omega) HIL7.out HVT6.out (fun j h3 h4 g e e2 => (HOW.out g (HO6.out ▸ e)).2.2 j h3 h4 e2) hrw4 hrw hrbw HSM.out
     exact ⟨0 + 1, T6, _, by omega, by go_num, Lib.hid (hst.congr (fun j _ h => by omega) fun j _ _ => by
      by_cases e : j = 0
      · subst e; simp
      · simp [e])⟩
    case measure => simp [intOf]; omega
   ·
    obtain ⟨k1, hk1⟩ : ∃ k1, k = k1 + 1 := ⟨k - 1, by omega⟩
    have HK1 := Lib.hid hk1
    have hkz : (k : Int) - 1 = (k1 : Int) := by omega
    have hk1a : k1 < k := by omega
    have hkb : ((k : Int) == 0) = false := by rw [beq_eq_false_iff_ne]; omega
    have hkc : ¬ (k : Int) = 0 := by omega
    clear hk0
    have hk1n : k1 < n := by omega
    clear hk1
    have y8 := HTZ.out.k8.cell 0
    obtain ⟨A0, c0, hV0⟩ := Own.form (HTZ.out.ro k1 (by omega) (by omega))
    have y0 : Z.cell? ⟨rw, k1, none⟩ = some (.slice A0 (RF k1).length c0) := by rw [← hV0]; exact Own.cell1 HTZ.out.rs (by omega)
    have HV0 := Lib.hid hV0
    have HT1 := Lib.hid (show tk - 1 = ((ta + k1 : Nat) : Int) by have := HTK.out; have := HK1.out; omega)
    have htk2 : 0 ≤ tk ∧ tk ≤ 60 := by have := HTK.out; omega
    clear hV0
    go_upto_region 11 with fail
    go_loopw [11, 47] (fun v11 i wr => ∃ (j : Nat) (T2 : Nat → Prop), j ≤ (RF k1).length ∧ i = .int .i64 (j : Int) ∧ Hid (TrI (fun T' X => SeaM d zA cA wA dA tA sA cl B P m1 m2 #[.int .i64 (d.s.W : Int), .int .i64 (d.s.H : Int), .slice dA d.s.nd dc, .slice tA d.s.nt tc, .slice sA d.s.nt sc, .slice zA d.s.nd zc, .slice cA d.nz cc, .slice wA (d.s.nt - 1) wc, .map (some m1), .map (some m2)] T' X ∧ (∀ k, T k → T' k) ∧ ∀ k, T' k → T k ∨ W0.heap.size ≤ k) m1 m2 W0 #[.pointer (some ⟨P, 0, none⟩), .int .i64 (ta : Int), .slice xA xL.length xc, .int .i64 lo, .int .i64 hi, .slice hA hn hc] (ln : Int) fc ft fl rb rw n T2 V (fun q => q < k) RF wr ∧ Blk wr tb 3 #[.int .i64 tk] ∧ IL wr (tb + 1) v11 (((RF k1).take j).flatMap fun c => M.stepL d (ta + k1) (ln : Int) c) ∧ ∀ g, v11.ownBlock = some g → ¬ T2 g)) (fun _ i _ => (RF k1).length - (intOf i).toNat)
    case atStart => exact ⟨0, T', Nat.zero_le _, rfl, Lib.hid ⟨HTZ.out, HTBZ.out, (show IL Z (tb + 1) (.slice none 0 0) [] from Own.nil_), fun g e => by cases e⟩⟩
    case round =>
     obtain ⟨j, T2, hj, rfl, HS⟩ := hrel
     have hRFl := HFL.out k1
     obtain ⟨L1, hL1⟩ : ∃ L1, L1 = ((RF k1).take j).flatMap (fun c => M.stepL d (ta + k1) (ln : Int) c) := ⟨_, rfl⟩
     have hsl : ∀ x, (M.stepL d (ta + k1) (ln : Int) x).length ≤ 145 := fun x => by
      have := M.listB_len d.s.nd (M.stepB d (ta + k1) (ln : Int) x)
      unfold M.stepL; omega
     have hL1l : L1.length ≤ 21025 := by
      have h1 := flatMap_len (f := fun c => M.stepL d (ta + k1) (ln : Int) c) (L := (RF k1).take j) (fun x _ => hsl x)
      have h2 : ((RF k1).take j).length ≤ 145 := by rw [List.length_take]; have := HFL.out k1; omega
      rw [hL1]; omega
     have hil := HS.out.2.2.1
     rw [← hL1] at hil
     obtain ⟨A1, c1, rfl⟩ := Own.form hil
     have HIL1 := Lib.hid hil
     have HL1 := Lib.hid hL1
     have hsize := HS.out.2.1.lt
     have HOW1 := Lib.hid (show ∀ r, (Value.slice A1 L1.length c1).ownBlock = some r → W0.heap.size + 6 ≤ r ∧ r ≠ tb ∧ ∀ q, q < n → q < k → (V q).ownBlock ≠ some r from fun r e => by
      have h3 := (Own.block HIL1.out e).1
      exact ⟨by omega, by omega, fun q _ hq e2 => by have := HVB.out q hq r e2; omega⟩)
     clear hil hL1 y8 y0
     by_cases hjl : j < (RF k1).length
     ·
      obtain ⟨x, hx⟩ : ∃ x, x = (RF k1).getD j 0 := ⟨_, rfl⟩
      have hx2 : (RF k1)[j] = x := by rw [hx, List.getD_eq_getElem?_getD, List.getElem?_eq_getElem hjl, Option.getD_some]
      have hxb := HFB.out k1 x (hx2 ▸ List.getElem_mem hjl)
      have hro := HS.out.1.ro k1 (by omega) (by omega)
      rw [HV0.out] at hro
      obtain ⟨b, off, hA0, hb, cx⟩ := (IL.rd hro).at_ hjl
      subst hA0
      rw [← hx] at cx
      have x0 := HS.out.1.k3.cell 0
      have xtb := HS.out.2.1.cell 0
      have xlb := HS.out.1.k4.cell 0
      have hst := dstep_any HD.out HS.out.1.sm.1 x (ta + k1) ln hxb (by omega) hl
      rw [← HT1.out] at hst
      have HST := Lib.hid hst
      have HX2 := Lib.hid hx2
      have hs1 := hsl x
      clear hst hx hx2 hxb hro hsl
      go_wp2_with (first | (go_at_call 48; refine HST.out.mono ?_; rintro e w2 ⟨T3, g3, c3, hT1, hT2, hTg, rfl, hM2, hI2, hmv⟩; have HI3 := Lib.hid hI2; have K1 := Lib.hid (HS.out.1.mvs hmv ⟨HS.out.1.sm.1.map1, HS.out.1.sm.1.map2⟩ (sm_step HS.out.1.sm HS.out.1.mv.size hM2 hT1 hT2) hT2); have K2 := Lib.hid (HS.out.2.1.mv hmv HS.out.1.sm.1.map1 HS.out.1.sm.1.map2); have HIL2 := Lib.hid (show IL w2 (tb + 1) (.slice A1 L1.length c1) L1 from Own.mv HIL1.out hmv HS.out.1.sm.1.map1 HS.out.1.sm.1.map2); have K4 := Lib.hid (show ∀ g, (Value.slice A1 L1.length c1).ownBlock = some g → ¬ T3 g from fun g e h => (hT2 g h).elim (HS.out.2.2.2 g e) fun h4 => by have := (Own.block HIL1.out e).2; omega); have hsz2 := hmv.size; clear hM2 hI2 hmv hT1 hT2 hTg) | (at_builtin; go_must (refine wpList_catI _ rfl (.tmp 51) (.tmp 59) rfl (B := tb + 1) (L := L1) (L2 := M.stepL d (ta + k1) (ln : Int) x) rfl HIL2.out (by omega) (by omega) rfl HI3.out.rd (by omega) ?_); intro v6 w6 hi6 hg6 hb6; have HI6 := Lib.hid hi6; have HG6 := Lib.hid hg6; have HB6 := Lib.hid hb6; clear hi6 hg6 hb6))
      go_roundw
      case rel =>
       refine ⟨j + 1, T3, by omega, by go_num, Lib.hid ⟨K1.out.grown HG6.out hrb hrw (fun r e => ⟨(HOW1.out r e).1, K4.out r e, (HOW1.out r e).2.2⟩) HSM.out, K2.out.grown HG6.out (fun e => (HOW1.out tb e.symm).2.1 rfl), ?_, fun g e => ?_⟩⟩
       ·
        rw [List.take_succ_eq_append_getElem hjl, HX2.out, List.flatMap_append, ← HL1.out, List.flatMap_singleton]
        exact HI6.out
       ·
        rcases HB6.out with h1 | h1
        · exact K4.out g (h1 ▸ e)
        ·
         rw [h1] at e
         cases e
         exact fun h => Nat.lt_irrefl _ (K1.out.sm.1.t.2.2.2 _ h).2
      case measure => simp [intOf]; omega
     ·
      obtain rfl : j = (RF k1).length := by omega
      rw [List.take_length] at HL1
      go_upto_region 17 with (first | (go_at_call 68; refine (sort_all HIL1.out (by omega)).mono ?_; rintro e w2 ⟨rfl, hi2, hg2⟩; have HI2 := Lib.hid hi2; have K1 := Lib.hid (HS.out.1.grown hg2 hrb hrw (fun r e => ⟨(HOW1.out r e).1, HS.out.2.2.2 r e, (HOW1.out r e).2.2⟩) HSM.out); have K2 := Lib.hid (HS.out.2.1.grown hg2 fun e => (HOW1.out tb e.symm).2.1 rfl); clear hi2 hg2) | (go_at_call 69; refine (comp_all HI2.out (by rw [List.length_mergeSort]; omega)).mono ?_; rintro e Z5 ⟨v5, ho3, rfl, hi3, hg3⟩; have HIL5 := Lib.hid hi3; have HO5 := Lib.hid ho3; have K3 := Lib.hid (K1.out.grown hg3 hrb hrw (fun r e => ⟨(HOW1.out r e).1, HS.out.2.2.2 r e, (HOW1.out r e).2.2⟩) HSM.out); have K5 := Lib.hid (K2.out.grown hg3 fun e => (HOW1.out tb e.symm).2.1 rfl); clear hi3 hg3 ho3))
      obtain ⟨T5, hT5⟩ : ∃ T5, T5 = T2 := ⟨_, rfl⟩
      obtain ⟨Lr, hLre⟩ : ∃ Lr, Lr = Lib.compact (L1.mergeSort M.leI) := ⟨_, rfl⟩
      have HTI := K3
      have HTB := K5
      have HIL := HIL5
      have HVT := Lib.hid (show ∀ g, v5.ownBlock = some g → ¬ T2 g from fun g e => HS.out.2.2.2 g (HO5.out ▸ e))
      have HLR := Lib.hid (show (Lib.compact (L1.mergeSort M.leI)).filter (fun c => fit k c) = RF k from by rw [HK1.out]; exact HF1.out k1 L1 fun x => by rw [HL1.out])
      have hLr : Lr.length ≤ 1048576 := by
       have := Lib.compact_length_le (L1.mergeSort M.leI)
       rw [List.length_mergeSort] at this
       rw [hLre]; omega
      rw [← hT5] at HTI HVT
      rw [← hLre] at HLR HIL
      clear hT5 hLre

      have HFE := Lib.hid (show Lr.filter (fun x => !(!(M.agAll (fun i => (Xs i).sg) hn tk x && M.fixB ft fc tk x))) = RF k by rw [HTK.out, HQ.out k]; exact HLR.out)
      obtain ⟨A5, c5, rfl⟩ := Own.form HIL.out
      have HOW := Lib.hid (show ∀ r, (Value.slice A5 Lr.length c5).ownBlock = some r → W0.heap.size + 6 ≤ r ∧ r ≠ tb ∧ ∀ j, j < n → j < k → (V j).ownBlock ≠ some r from fun r e => by
       have h3 := (Own.block HIL.out e).1
       exact ⟨by omega, by omega, fun j _ hj e2 => by have := HVB.out j hj r e2; omega⟩)
      have HIN := Lib.hid (show DelI (fun T' X => SeaM d zA cA wA dA tA sA cl B P m1 m2 #[.int .i64 (d.s.W : Int), .int .i64 (d.s.H : Int), .slice dA d.s.nd dc, .slice tA d.s.nt tc, .slice sA d.s.nt sc, .slice zA d.s.nd zc, .slice cA d.nz cc, .slice wA (d.s.nt - 1) wc, .map (some m1), .map (some m2)] T' X ∧ (∀ k, T k → T' k) ∧ ∀ k, T' k → T k ∨ W0.heap.size ≤ k) m1 m2 W0 #[.pointer (some ⟨P, 0, none⟩), .int .i64 (ta : Int), .slice xA xL.length xc, .int .i64 lo, .int .i64 hi, .slice hA hn hc] (ln : Int) fc ft fl rb rw n V (fun j => j < k) RF tb tk (Value.slice A5 Lr.length c5).ownBlock Z5.drew from ⟨T5, HTI.out.below ((Below.refl _ _).drew) hrb hrw HSM.out, HTB.out, fun r e => ⟨HVT.out r e, (Own.block HIL.out e).2⟩⟩)
      refine wp_nopanic ?_
      refine wp_region_T 5 (fun w' => Blk w' rb 62 #[.slice (some ⟨rw, 0, none⟩) n n]) (by kernel_rfl) HTI.out.k8 ?_
      intro hS
      refine tkA (i := 0) (v := ?_) rfl (by kernel_rfl) (.inl ⟨by kernel_rfl, ?_⟩) hS ?_
      rotate_left
      · (intro w' hw; have x8 := hw.cell 0; go_simp; try with_reducible rfl)
      try simp only [put_laws]
      refine tkA (i := 1) (v := ?_) rfl (by kernel_rfl) (.inl ⟨by kernel_rfl, ?_⟩) hS ?_
      rotate_left
      · (intro w' hw; have x8 := hw.cell 0; go_simp; try with_reducible rfl)
      try simp only [put_laws]
      refine tkA (i := 2) (v := ?_) rfl (by kernel_rfl) (.inl ⟨by kernel_rfl, ?_⟩) hS ?_
      rotate_left
      · (intro w' hw; have x8 := hw.cell 0; go_simp; try with_reducible rfl)
      try simp only [put_laws]
      refine tkA (i := 3) (v := ?_) rfl (by kernel_rfl) (.inl ⟨by kernel_rfl, ?_⟩) hS ?_
      rotate_left
      · (intro w' hw; have x8 := hw.cell 0; go_simp; try with_reducible rfl)
      try simp only [put_laws]
      refine wpAnyT_one (i := 4) (by kernel_rfl) rfl ?_
      intro K' hK'
      go_simp
      refine (delete_all 124 (.inl rfl) hLr (Own.drew HIL.out) HIN.out (fun _ h => ⟨h.choose_spec.1.sm.1.map1, h.choose_spec.1.sm.1.map2⟩) (fun _ _ h hg => h.grown hg hrb hrw HOW.out HSM.out) (dels2 hB0 hm0 HRS.out hhn hrb hrw)).mono ?_
      rintro e w6 ⟨v6, rfl, ho6, hil6, T6, ti6, tb6, hvt6⟩
      have HTI6 := Lib.hid ti6
      have HIL6 := Lib.hid (show IL w6 (tb + 1) v6 (RF k) from by rw [← HFE.out]; exact hil6)
      have HVT6 := Lib.hid (show ∀ g, v6.ownBlock = some g → ¬ T6 g from fun g e => (hvt6 g (ho6 ▸ e)).1)
      have HO6 := Lib.hid ho6
      have hS' := ti6.k8
      clear hS ti6 hil6 ho6 tb6 hvt6
      have hS := hS'
      clear hS'
      refine hK'.out _ _ (.inr hS) ?_
      clear hK' K'
      try simp only [put_laws]
      obtain ⟨A6, c6, rfl⟩ := Own.form HIL6.out
      refine wpAnyT_one (i := 5) (by kernel_rfl) rfl ?_
      intro K' hK'
      go_simp
      refine hK'.out _ _ (.inl rfl) ?_
      clear hK' K'
      try simp only [put_laws]
      have x6 := Own.cell1 HTI6.out.rs hlt
      have f6 := Own.frz HTI6.out.rs k
      refine wpAnyT_one (i := 6) (by kernel_rfl) rfl ?_
      intro K' hK'
      go_simp
      refine hK'.out _ _ (.inl rfl) ?_
      clear hK' K'
      try simp only [put_laws]
      refine wpAnyT_done (by kernel_rfl) ?_ _
      refine ⟨fun x e => (by cases e), ?_⟩
      have HIL7 := Lib.hid (Own.less HIL6.out (show W0.heap.size + 6 ≤ tb + 1 by omega))
      go_wp2_with fail
      go_roundw
      case rel =>
       have hst := HTI6.out.store hlt (by omega) HIL7.out HVT6.out (fun j h3 h4 g e e2 => (HOW.out g (HO6.out ▸ e)).2.2 j h3 h4 e2) hrw4 hrw hrbw HSM.out
       exact ⟨k + 1, T6, _, by omega, by go_num, Lib.hid (hst.congr (fun j _ h => by omega) fun j _ _ => by
        by_cases e : j = k
        · subst e; simp
        · simp [e])⟩
      case measure => simp [intOf]; omega
  ·
   have hkn : n = k := by omega
   subst hkn
   have x8 := HT.out.k8.cell 0
   have hn60 : n ≤ 60 := by omega
   go_wp2_with fail
   go_loopw [14] (fun v wr2 => ∃ (i : Int) (ib : Nat) (T2 : Nat → Prop) (V2 : Nat → Value), v = .pointer (some ⟨ib, 0, none⟩) ∧ -1 ≤ i ∧ i ≤ (n : Int) - 2 ∧ W0.heap.size + 6 ≤ ib ∧ Hid (Blk wr2 ib 3 #[.int .i64 i] ∧ TrI (fun T' X => SeaM d zA cA wA dA tA sA cl B P m1 m2 #[.int .i64 (d.s.W : Int), .int .i64 (d.s.H : Int), .slice dA d.s.nd dc, .slice tA d.s.nt tc, .slice sA d.s.nt sc, .slice zA d.s.nd zc, .slice cA d.nz cc, .slice wA (d.s.nt - 1) wc, .map (some m1), .map (some m2)] T' X ∧ (∀ k, T k → T' k) ∧ ∀ k, T' k → T k ∨ W0.heap.size ≤ k) m1 m2 W0 #[.pointer (some ⟨P, 0, none⟩), .int .i64 (ta : Int), .slice xA xL.length xc, .int .i64 lo, .int .i64 hi, .slice hA hn hc] (ln : Int) fc ft fl rb rw n T2 V2 (fun _ => True) (fun j : Nat => if i < (j : Int) then RR j else RF j) wr2 ∧ ∀ j, j < n → ∀ g, (V2 j).ownBlock = some g → g < ib)) (fun v wr2 => meDn v wr2)
   case atStart =>
    refine ⟨(n : Int) - 2, wr.heap.size, T', V, rfl, by omega, by omega, HT.out.sz, Lib.hid ⟨Blk.new _ _ _, (HT.out.below (belowAlloc wr _) hrb hrw HSM.out).congr (fun _ hj _ => hj) fun j hj _ => ?_, fun j hj g e => (Own.block (HT.out.ro j hj hj) e).2⟩⟩
    split
    ·
     obtain rfl : j = n - 1 := by omega
     exact HR1.out.symm
    · rfl
   case round =>
    obtain ⟨i, ib, T2, V2, rfl, hi1, hi2, hib6, HS⟩ := hrel
    clear x8 HT
    have HME := Lib.hid (meDn_at HS.out.1)
    have xi := HS.out.1.cell 0
    by_cases hge : 0 ≤ i
    ·
     obtain ⟨k, hki⟩ : ∃ k : Nat, i = (k : Int) := ⟨i.toNat, by omega⟩
     subst hki
     have hkn : k < n := by omega
     have hkn1 : k + 1 < n := by omega
     obtain ⟨R1, hR1⟩ : ∃ R1 : Nat → List Int, R1 = fun (j : Nat) => if (k : Int) < (j : Int) then RR j else RF j := ⟨_, rfl⟩
     rw [← hR1] at HS
     have e1 : R1 (k + 1) = RR (k + 1) := by rw [hR1]; exact if_pos (by omega)
     have e2 : R1 k = RF k := by rw [hR1]; exact if_neg (by omega)
     have hro := HS.out.2.1.ro k hkn trivial
     rw [e2] at hro
     obtain ⟨A1, c1, hV1⟩ := Own.form hro
     have HR1' := Lib.hid hR1
     have E1 := Lib.hid e1
     have HRO := Lib.hid hro
     have HV1 := Lib.hid hV1
     have hRFl := HFL.out k
     have HOW := Lib.hid (show ∀ r, (V2 k).ownBlock = some r → W0.heap.size + 6 ≤ r ∧ r ≠ ib ∧ ∀ j, j < n → j ≠ k → (V2 j).ownBlock ≠ some r from fun r e => ⟨(Own.block HRO.out e).1, by have := HS.out.2.2 k hkn r e; omega, fun j hj hne => HS.out.2.1.rd k j hkn hj trivial trivial (Ne.symm hne) r e⟩)
     have HIN := Lib.hid (show DelI (fun T' X => SeaM d zA cA wA dA tA sA cl B P m1 m2 #[.int .i64 (d.s.W : Int), .int .i64 (d.s.H : Int), .slice dA d.s.nd dc, .slice tA d.s.nt tc, .slice sA d.s.nt sc, .slice zA d.s.nd zc, .slice cA d.nz cc, .slice wA (d.s.nt - 1) wc, .map (some m1), .map (some m2)] T' X ∧ (∀ k, T k → T' k) ∧ ∀ k, T' k → T k ∨ W0.heap.size ≤ k) m1 m2 W0 #[.pointer (some ⟨P, 0, none⟩), .int .i64 (ta : Int), .slice xA xL.length xc, .int .i64 lo, .int .i64 hi, .slice hA hn hc] (ln : Int) fc ft fl rb rw n V2 (fun j => j ≠ k) R1 ib (k : Int) (V2 k).ownBlock wr.drew from ⟨T2, (HS.out.2.1.weak fun _ _ => trivial).below ((Below.refl _ _).drew) hrb hrw HSM.out, HS.out.1, fun r e => ⟨HS.out.2.1.rt k hkn trivial r e, (Own.block HRO.out e).2⟩⟩)
     have HCE := Lib.hid (show wr.cell? ⟨rw, k, none⟩ = some (.slice A1 (RF k).length c1) by rw [← HV1.out]; exact Own.cell1 HS.out.2.1.rs hkn)
     clear hR1 e1 e2 hro hV1
     go_upto_region 22 with fail
     refine wp_nopanic ?_
     refine wp_region_T 8 (fun w' => Blk w' rb 62 #[.slice (some ⟨rw, 0, none⟩) n n] ∧ Blk w' ib 3 #[.int .i64 (k : Int)] ∧ w'.cell? ⟨rw, k, none⟩ = some (.slice A1 (RF k).length c1)) (by kernel_rfl) ⟨HS.out.2.1.k8, HS.out.1, HCE.out⟩ ?_
     clear xi
     intro hS

     refine tkA (i := 0) (v := ?_) rfl (by kernel_rfl) (.inl ⟨by kernel_rfl, ?_⟩) hS ?_
     rotate_left
     · (intro w' hw; obtain ⟨h1, h2, h3⟩ := hw; have x8 := h1.cell 0; have xi := h2.cell 0; go_simp; try with_reducible rfl)
     try simp only [put_laws]
     refine tkA (i := 1) (v := ?_) rfl (by kernel_rfl) (.inl ⟨by kernel_rfl, ?_⟩) hS ?_
     rotate_left
     · (intro w' hw; obtain ⟨h1, h2, h3⟩ := hw; have x8 := h1.cell 0; have xi := h2.cell 0; go_simp; try with_reducible rfl)
     try simp only [put_laws]
     refine tkA (i := 2) (v := ?_) rfl (by kernel_rfl) (.inl ⟨by kernel_rfl, ?_⟩) hS ?_
     rotate_left
     · (intro w' hw; obtain ⟨h1, h2, h3⟩ := hw; have x8 := h1.cell 0; have xi := h2.cell 0; go_simp; try with_reducible rfl)
     try simp only [put_laws]
     refine tkA (i := 3) (v := ?_) rfl (by kernel_rfl) (.inl ⟨by kernel_rfl, ?_⟩) hS ?_
     rotate_left
     · (intro w' hw; obtain ⟨h1, h2, h3⟩ := hw; have x8 := h1.cell 0; have xi := h2.cell 0; go_simp; try with_reducible rfl)
     try simp only [put_laws]
     refine tkA (i := 4) (v := ?_) rfl (by kernel_rfl) (.inl ⟨by kernel_rfl, ?_⟩) hS ?_
     rotate_left
     · (intro w' hw; obtain ⟨h1, h2, h3⟩ := hw; have x8 := h1.cell 0; have xi := h2.cell 0; go_simp; try with_reducible rfl)
     try simp only [put_laws]
     refine tkA (i := 5) (v := ?_) rfl (by kernel_rfl) (.inl ⟨by kernel_rfl, ?_⟩) hS ?_
     rotate_left
     · (intro w' hw; obtain ⟨h1, h2, h3⟩ := hw; have x8 := h1.cell 0; have xi := h2.cell 0; go_simp; try with_reducible rfl)
     try simp only [put_laws]
     refine tkA (i := 6) (v := ?_) rfl (by kernel_rfl) (.inl ⟨by kernel_rfl, ?_⟩) hS ?_
     rotate_left
     · (intro w' hw; obtain ⟨h1, h2, h3⟩ := hw; have x8 := h1.cell 0; have xi := h2.cell 0; go_simp; try with_reducible rfl)
     try simp only [put_laws]
     refine wpAnyT_one (i := 7) (by kernel_rfl) rfl ?_
     intro K' hK'
     go_simp
     rw [show Value.slice A1 (RF k).length c1 = V2 k from HV1.out.symm]
     refine (delete_all 125 (.inr rfl) (by omega) (Own.drew HRO.out) HIN.out (fun _ h => ⟨h.choose_spec.1.sm.1.map1, h.choose_spec.1.sm.1.map2⟩) (fun _ _ h hg => h.grown hg hrb hrw HOW.out HSM.out) (dels3 HD.out hl htn hkn1 (by omega) (by rw [E1.out]; have := HRL.out (k + 1); omega) (HFB.out k) rfl rfl)).mono ?_
     rintro e w6 ⟨v6, rfl, ho6, hil6, T6, ti6, ib6, hvt6⟩
     have hil7 := hil6
     rw [E1.out] at hil7
     have HIL6 := Lib.hid (show IL w6 (W0.heap.size + 6) v6 (RR k) from by rw [← HR2.out k hkn1]; exact hil7)
     have HTI6 := Lib.hid ti6
     have HIB6 := Lib.hid ib6
     have HVT6 := Lib.hid (show ∀ g, v6.ownBlock = some g → ¬ T6 g from fun g e => (hvt6 g (ho6 ▸ e)).1)
     have HO6 := Lib.hid ho6
     have hS' := (show Blk w6 rb 62 #[.slice (some ⟨rw, 0, none⟩) n n] ∧ Blk w6 ib 3 #[.int .i64 (k : Int)] ∧ w6.cell? ⟨rw, k, none⟩ = some (.slice A1 (RF k).length c1) from ⟨ti6.k8, ib6, by rw [← HV1.out]; exact Own.cell1 ti6.rs hkn⟩)
     clear hS ti6 hil6 hil7 ho6 ib6 hvt6
     have hS := hS'
     clear hS'
     refine hK'.out _ _ (.inr hS) ?_
     clear hK' K'
     try simp only [put_laws]
     obtain ⟨A6, c6, rfl⟩ := Own.form HIL6.out
     refine wpAnyT_one (i := 8) (by kernel_rfl) rfl ?_
     intro K' hK'
     go_simp
     refine hK'.out _ _ (.inl rfl) ?_
     clear hK' K'
     try simp only [put_laws]
     have x6 := Own.cell1 HTI6.out.rs hkn
     have f6 := Own.frz HTI6.out.rs k
     refine wpAnyT_one (i := 9) (by kernel_rfl) rfl ?_
     intro K' hK'
     go_simp
     refine hK'.out _ _ (.inl rfl) ?_
     clear hK' K'
     try simp only [put_laws]
     refine wpAnyT_done (by kernel_rfl) ?_ _
     refine ⟨fun x e => (by cases e), ?_⟩
     have HST := Lib.hid (HTI6.out.store hkn (fun h => h rfl) HIL6.out HVT6.out (fun j h3 h4 g e e2 => (HOW.out g (HO6.out ▸ e)).2.2 j h3 h4 e2) hrw4 hrw hrbw HSM.out)
     have HIB7 := Lib.hid (HIB6.out.far (p := ⟨rw, k, none⟩) (show ib ≠ rw by omega) (.slice A6 (RR k).length c6))
     clear hS x6 f6 HCE HIN
     generalize w6.setCell ⟨rw, k, none⟩ (.slice A6 (RR k).length c6) = w7 at HST HIB7 ⊢
     have xi := HIB7.out.cell 0
     go_wp2_with fail
     go_roundw
     case rel =>
      refine ⟨(k : Int) - 1, w7.heap.size, T6, _, rfl, by omega, by omega, HST.out.sz, Lib.hid ⟨Blk.new _ _ _, (HST.out.below (belowAlloc w7 _) hrb hrw HSM.out).congr (fun j _ _ => by by_cases e : j = k; exact .inr e; exact .inl e) fun j _ _ => ?_, fun j hj g e => (Own.block (HST.out.ro j hj (by by_cases e : j = k; exact .inr e; exact .inl e)) e).2⟩⟩
      rw [HR1'.out]
      show (if j = k then RR k else if (k : Int) < (j : Int) then RR j else RF j) = (if (k : Int) - 1 < (j : Int) then RR j else RF j)
      by_cases e : j = k
      ·
       subst e
       rw [if_pos rfl, if_pos (by omega)]
      ·
       rw [if_neg e]
       by_cases h : (k : Int) < (j : Int)
       · rw [if_pos h, if_pos (by omega)]
       · rw [if_neg h, if_neg (by omega)]
     case measure =>
      rw [HME.out]
      refine Nat.lt_of_le_of_lt (Nat.le_of_eq (meDn_at (Blk.new _ _ _))) ?_
      omega
    ·
     have hi0 : i = -1 := by omega
     subst hi0
     have HTF := Lib.hid (HS.out.2.1.congr (D' := fun _ => True) (R' := RR) (fun _ _ h => h) fun j _ _ => if_pos (by omega))
     have hro := HTF.out.ro 0 (by omega) trivial
     obtain ⟨A1, c1, hV1⟩ := Own.form hro
     have x8 := HTF.out.k8.cell 0
     have x0 : wr.cell? ⟨rw, 0, none⟩ = some (.slice A1 (RR 0).length c1) := by rw [← hV1]; exact Own.cell1 HTF.out.rs (by omega)
     have hl0 := HRL.out 0
     clear hro hV1
     by_cases h0 : (RR 0).length = 0
     ·
      have HP := Lib.hid (HPO.out.1 h0)
      have hz : ((RR 0).length : Int) = 0 := by omega
      go_wp2_with fail
      go_ret
      exact ⟨T2, HTF.out.sm.2.1, HTF.out.sm.2.2, HTF.out.sm.1, HTF.out.mv, .inl ⟨HP.out, rfl⟩⟩
     ·
      have HP := Lib.hid (show M.posB d ta (ln : Int) Xc fit (n - 1) = true by
       cases h : M.posB d ta (ln : Int) Xc fit (n - 1)
       · exact absurd (HPO.out.2 h) h0
       · rfl)
      have hz : ¬ ((RR 0).length : Int) = 0 := by omega
      go_wp2_with fail
      go_ret
      refine ⟨T2, HTF.out.sm.2.1, HTF.out.sm.2.2, HTF.out.sm.1, HTF.out.mv, .inr ⟨HP.out, rw, V2, rfl, HTF.out.rs, fun h => by have := HTF.out.tt rw h; omega, fun j hj => ?_, fun j hj => HTF.out.rt j hj trivial, fun a b ha hb hab => HTF.out.rd a b ha hb trivial trivial hab⟩⟩
      rw [← HRR.out]
      exact Own.less (HTF.out.ro j hj trivial) (by omega)
end
end Go.Proofs.YtnbeembnnjdmdaaGreatDoor
