/- The reference of layer 2: list, IsCell, Step. -/
import Derived.Test.YtnbeembnnjdmdaaGreatDoorE7
import Derived.Test.YtnbeembnnjdmdaaGreatDoorE4
import Derived.Test.YtnbeembnnjdmdaaGreatDoorD10
namespace Go.Proofs.YtnbeembnnjdmdaaGreatDoor
open Go.RowKit

namespace M
def listK (k : Nat) (q : Int → Bool) : List Int := ((List.range k).map fun (i : Nat) => (i : Int) - 1).filter q
theorem listK_succ (k : Nat) (q : Int → Bool) : listK (k + 1) q = listK k q ++ if q ((k : Int) - 1) then [(k : Int) - 1] else [] := by
 unfold listK
 rw [List.range_succ, List.map_append, List.filter_append]
 congr 1
 simp only [List.map_cons, List.map_nil]
 cases h : q ((k : Int) - 1) <;> simp [h]
theorem listK_len (k : Nat) (q : Int → Bool) : (listK k q).length ≤ k := by
 unfold listK
 exact Nat.le_trans (List.length_filter_le _ _) (by simp)
theorem listK_all (nd : Nat) (q : Int → Bool) : listK (nd + 1) q = listB nd q := rfl
end M
section
variable {w : World} {base g nd : Nat} {q : Int → Bool}
set_option maxRecDepth 100000 in
set_option maxHeartbeats 6400000 in
theorem rlist_any (hM : Mks w base g nd (fun i => q ((i : Int) - 1))) (hnd : nd ≤ 900000) :
  Calls Tryz.prog 51 #[.slice (some ⟨g, 0, none⟩) (nd + 1) (nd + 1)] w fun e w' => ∃ v, e = .returned v ∧ IL w' w.heap.size v (M.listB nd q) ∧ Below w.heap.size w w' := by
 have HM := Lib.hid hM
 have HB0 := Lib.hid (Below.refl w.heap.size w)
 obtain ⟨lL, hlL⟩ : ∃ f : Nat → List Int, f = fun k => M.listK k q := ⟨_, rfl⟩
 have HL := Lib.hid hlL
 have HLE := Lib.hid (show ∀ k, (lL k).length ≤ k from fun k => by rw [hlL]; exact M.listK_len k q)
 have HLS := Lib.hid (show ∀ k, lL (k + 1) = lL k ++ if q ((k : Int) - 1) then [(k : Int) - 1] else [] from fun k => by rw [hlL]; exact M.listK_succ k q)
 have HLZ := Lib.hid (show lL 0 = [] from by rw [hlL]; rfl)
 rw [← M.listK_all nd q, show M.listK (nd + 1) q = lL (nd + 1) by rw [hlL]]
 clear hM hlL
 go_enter Tryz.func51, Tryz.ntmps51
 go_wp2_with fail
 go_loopw [3, 4] (fun v i wr => ∃ k : Nat, k ≤ nd + 1 ∧ i = .int .i64 (k : Int) ∧ Hid (IL wr w.heap.size v (lL k)) ∧ Hid (Below w.heap.size w wr)) (fun _ i _ => nd + 1 - (intOf i).toNat)
 case atStart => exact ⟨0, Nat.zero_le _, rfl, Lib.hid (by rw [HLZ.out]; exact Own.nil_), HB0⟩
 case round =>
  obtain ⟨k, hk, rfl, HI, HB⟩ := hrel
  clear HB0
  have hsz := HB.out.size
  by_cases hlt : k < nd + 1
  ·
   have kx : decide (nd + 1 ≤ k) = false := decide_eq_false (by omega)
   have m0 := (HM.out.below HB.out).cell (i := k) hlt
   have hil := HI.out
   obtain ⟨A5, c5, rfl⟩ := Own.form hil
   have HIL := Lib.hid hil
   have hle := HLE.out k
   clear hil HI
   have HS := Lib.hid (HLS.out k)
   generalize lL k = L at HIL hle HS
   obtain ⟨b, hb⟩ : ∃ b, q ((k : Int) - 1) = b := ⟨_, rfl⟩
   rw [hb] at m0 HS
   clear hb
   cases b
   ·
    go_wp2_with fail
    go_roundw
    case rel => exact ⟨k + 1, by omega, by go_num, Lib.hid (by rw [HS.out]; simpa using HIL.out), HB⟩
    case measure => simp [intOf]; omega
   ·
    go_wp2_with (at_builtin; go_must (refine wpList_apI _ rfl (.tmp 15) (.tmp 18) rfl (B := w.heap.size) (L := L) rfl (Own.alloc HIL.out _) rfl ((Blk.new _ _ _).cell 0) (by omega) (by simp; omega) ?_); intro g6 c6 w6 hi6 hg6 hb6; have HI6 := Lib.hid hi6; have HG6 := Lib.hid hg6; clear hi6 hg6 hb6)
    go_roundw
    case rel =>
     refine ⟨k + 1, by omega, by go_num, Lib.hid (by rw [HS.out, if_pos rfl]; simpa using HI6.out), Lib.hid ?_⟩
     exact (HB.out.trans ((belowAlloc _ _).mono (by omega))).grown HG6.out (by simp; omega) fun r e => (Own.block HIL.out e).1
    case measure => simp [intOf]; omega
  ·
   obtain rfl : k = nd + 1 := by omega
   go_wp2_with fail
   go_ret
   exact ⟨_, rfl, HI.out, HB.out⟩
end
section
variable {W H : Int} {dA tA sA zA cA wA : Option Addr} {nd dc nt tc ns sc zn zc cn cc wn wc B : Nat} {dep : Nat → Int} {tide : Nat → Nat → Int} {sw z : Nat → Int} {cl : Nat → Nat} {cu : Nat → Nat → Nat → Int} {wd : Nat → Nat → Int} {w : World}
end
section
variable {d : M.Dr} {zA cA wA dA tA sA : Option Addr} {cl : Nat → Nat} {B dc tc sc zc cc wc : Nat} {w : World}
theorem rstep_any (hd : d.Ok) (hcl : ∀ i, i < d.nz → cl i + 1 = d.s.nt) (hR : RdD w B dA tA sA zA cA wA d.s.nd d.s.nt d.s.nt d.s.nd d.nz (d.s.nt - 1) d.s.dep d.s.tide d.s.sw d.z cl d.cu d.wd) (hB : B ≤ w.heap.size) (c : Int) (t l : Nat) (hc : -1 ≤ c ∧ c < d.s.nd) (ht : t + 1 < d.s.nt) (hl : l ≤ 8) :
  Calls Tryz.prog 52 #[.agg #[.int .i64 (d.s.W : Int), .int .i64 (d.s.H : Int), .slice dA d.s.nd dc, .slice tA d.s.nt tc, .slice sA d.s.nt sc, .slice zA d.s.nd zc, .slice cA d.nz cc, .slice wA (d.s.nt - 1) wc], .int .i64 c, .int .i64 (t : Int), .int .i64 (l : Int)] w (StpR d t (l : Int) c w) := by
 by_cases h : c = -1
 · subst h; exact rstep_out t l t l (by have := hd.s.nd1; omega)
 ·
  obtain ⟨n, rfl⟩ : ∃ n : Nat, c = (n : Int) := ⟨c.toNat, by omega⟩
  exact rstep_in hd hcl hR hB n t l (by omega) ht hl
end
end Go.Proofs.YtnbeembnnjdmdaaGreatDoor
