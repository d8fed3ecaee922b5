/- Run, where its arguments are valid. -/
import Derived.Test.YtbjggnecfppjgaaDoorT12
namespace Go.Proofs.YtbjggnecfppjgaaDoor
open Go.RowKit

/-- what Run leaves where its arguments are valid -/
def RunT (n o : Nat) (E : Nat → Nat → Int) (en : Nat) (w : World) (e : Ending) (w' : World) : Prop :=
  ∃ v bv, e = .returned (.tuple #[v, bv, .int .i64 0]) ∧ CallV n (M.runF n o E en) w.heap.size v w' ∧ Own w' w.heap.size 4 1 bv en (bools (M.done n o E))
set_option maxRecDepth 100000 in
set_option maxHeartbeats 6400000 in
theorem Run_ok (n o : Nat) (A : Option Addr) (en ec B : Nat) (E : Nat → Nat → Int) (w : World) (hn : 2 ≤ n ∧ n ≤ 4) (ho : o < n) (hen : en ≤ 200) (hR : Rd w B A 3 en E) (hB : B ≤ w.heap.size) :
    Calls Tryd.prog 16 #[.int .i64 (n : Int), .int .i64 (o : Int), .slice A en ec] w fun e w' => RunT n o E en w e w' ∧ Below w.heap.size w w' := by
  have hwf := M.Wf.run (n := n) (first := (o : Int)) (by omega) E en
  have hk6 := hwf.k6
  have hn4 := hn.2
  obtain ⟨s, hs⟩ : ∃ s, s = M.runF n o E en := ⟨_, rfl⟩
  rw [← hs] at hk6
  have HSE := Lib.hid hs
  have HRun := Lib.hid (run_ok n o A en ec B E (w.alloc (.cells #[.slice none 0 0, .slice none 0 0] 42)) hn ho hen (hR.below ((belowAlloc w _).mono hB)) (by simp; omega))
  have D0 := Lib.hid (Blk.new w 42 #[.slice none 0 0, .slice none 0 0])
  have hb0 := Lib.hid (belowAlloc w (.cells #[.slice none 0 0, .slice none 0 0] 42))
  clear hs hR hn ho hen hwf
  go_enter Tryd.func16, Tryd.ntmps16
  go_upto_region 2 with (first
    | (go_at_call 36; refine HRun.out.mono ?_; rintro e w1 ⟨⟨cs, bv, rfl, sv, ob⟩, hb1⟩; rw [← HSE.out] at sv; have SV := Lib.hid sv; have OB := Lib.hid ob; have HB1 := Lib.hid hb1; clear sv hb1 ob)
    | (refine wpList_stS rfl (.tmp 9) (.tmp 17) rfl rfl rfl (Blk.new w1 _ litZ) rfl SV.out.1 SV.out.one ?_; intro w2 b2 g2; have B2 := Lib.hid b2; have G2 := Lib.hid g2; clear b2 g2))
  have hz1 : w.heap.size + 1 ≤ w1.heap.size := by have := HB1.out.size; simpa using this
  obtain ⟨S, hS⟩ : ∃ S, S = w1.heap.size := ⟨_, rfl⟩
  rw [← hS] at B2 G2 hz1
  have S2 := Lib.hid (Sf.of B2.out SV.out)
  have D2 := Lib.hid (((D0.out.below HB1.out (by simp)).alloc (.cells litZ 75)).grown G2.out (fun e => by injection e with e; omega))
  have L2 := Lib.hid (show Below w.heap.size w w2 from ((hb0.out.trans (HB1.out.mono (by simp))).alloc (by omega) (.cells litZ 75)).grown G2.out (by simp; omega) (fun q hq => by injection hq with hq; omega))
  have O2 := Lib.hid ((OB.out.alloc (.cells litZ 75)).grown G2.out (.inr fun e => by have := OB.out.block e; omega))
  have hSw : S < w2.heap.size := B2.out.lt
  rw [← hS]
  clear hS B2 G2 HB1 SV OB HRun hb0 D0
  go_wp2_with (go_at_call 37; go_must (refine (call_any n S s w2 hn4 S2.out hk6).mono ?_); rintro e w3 ⟨⟨v, rfl, A1, c1, A2, c2, rfl, o1, o2⟩, hb3⟩; have O1 := Lib.hid o1; have OM := Lib.hid o2; have HB3 := Lib.hid hb3; have D3 := Lib.hid (D2.out.below hb3 (by omega)); have d0 := D3.out.cell 0; have d1 := D3.out.cell 1; have f0 := D3.out.frz 0; have f1 := D3.out.frz 1; clear o1 o2 hb3)
  have hz3 := HB3.out.size
  refine bodyPost_ret (results_cell_row2 rfl _ _ w.heap.size 42 #[.slice A1 n c1, .slice A2 s.k c2] (0, 0) _ rfl ((D3.out.set_ 0 _).set_ 1 _) Tryd.underlying42 rfl (by kernel_rfl)) rfl ⟨⟨.agg #[.slice A1 n c1, .slice A2 s.k c2], bv, rfl, ?_, ?_⟩, ?_⟩
  · rw [← HSE.out]
    refine ⟨A1, c1, A2, c2, rfl, ?_, ?_⟩
    · refine ((O1.out.less (by omega)).setCell (p := ⟨w.heap.size, 0, none⟩) ?_ _).setCell (p := ⟨w.heap.size, 1, none⟩) ?_ _
      · intro e; have h := (O1.out.block e).1; dsimp only at h; omega
      · intro e; have h := (O1.out.block e).1; dsimp only at h; omega
    · refine ((OM.out.less (by omega)).setCell (p := ⟨w.heap.size, 0, none⟩) ?_ _).setCell (p := ⟨w.heap.size, 1, none⟩) ?_ _
      · intro e; have h := (OM.out.block e).1; dsimp only at h; omega
      · intro e; have h := (OM.out.block e).1; dsimp only at h; omega
  · have o4 := O2.out.below HB3.out
    refine ((o4.less (by simp)).setCell (p := ⟨w.heap.size, 0, none⟩) ?_ _).setCell (p := ⟨w.heap.size, 1, none⟩) ?_ _
    · intro e; have h := (o4.block e).1; simp at h; omega
    · intro e; have h := (o4.block e).1; simp at h; omega
  · exact ((L2.out.trans (HB3.out.mono (by omega))).setCell (by show w.heap.size ≤ w.heap.size; omega) _).setCell (by show w.heap.size ≤ w.heap.size; omega) _
end Go.Proofs.YtbjggnecfppjgaaDoor
