/- The reference of layer 2: has, agrees, CheckAt. -/
import Derived.Test.YtnbeembnnjdmdaaGreatDoorG3
import Derived.Test.YtnbeembnnjdmdaaGreatDoorE8
namespace Go.Proofs.YtnbeembnnjdmdaaGreatDoor
open Go.RowKit

set_option maxRecDepth 100000 in
set_option maxHeartbeats 3200000 in
theorem rhas_any (A : Option Addr) (n c B : Nat) (f : Nat → Int) (x : Int) (w : World) (hn : n ≤ maxLen) (hR : Rd1 w B A n f) :
  Calls Tryz.prog 106 #[.slice A n c, .int .i64 x] w fun e w' => e = .returned (.bool (M.anyTo n fun i => decide (f i = x))) ∧ w' = w := by
 unfold maxLen at hn
 have HR := Lib.hid hR
 clear hR
 go_enter Tryz.func106, Tryz.ntmps106
 go_wp2_with fail
 go_loopw [5] (fun i wr => ∃ k : Nat, k ≤ n ∧ i = .int .i64 (k : Int) ∧ Hid (M.anyTo k (fun i => decide (f i = x)) = false) ∧ wr = w) (fun i _ => n - (intOf i).toNat)
 case atStart => exact ⟨0, Nat.zero_le _, rfl, Lib.hid rfl, rfl⟩
 case round =>
  obtain ⟨k, hk, rfl, HF, hwr⟩ := hrel
  obtain rfl := hwr
  by_cases hlt : k < n
  ·
   obtain ⟨b, off, rfl, hb, c0⟩ := HR.out.at_ hlt
   have HS := Lib.hid (show M.anyTo (k + 1) (fun i => decide (f i = x)) = (M.anyTo k (fun i => decide (f i = x)) || decide (f k = x)) from rfl)
   have HY := Lib.hid (fun h : f k = x => (show M.anyTo n (fun i => decide (f i = x)) = true from M.anyTo_iff.2 ⟨k, hlt, decide_eq_true h⟩))
   generalize f k = y at c0 HS HY
   by_cases he : y = x
   ·
    have HV := Lib.hid (HY.out he)
    have g1 : (y == x) = true := by simpa using he
    clear he
    go_wp2_with fail
    go_ret
    exact ⟨ret_bool HV.out.symm, rfl⟩
   ·
    have HK := Lib.hid (show M.anyTo (k + 1) (fun i => decide (f i = x)) = false from by rw [HS.out, HF.out, decide_eq_false he]; rfl)
    have g1 : (y == x) = false := by simpa using he
    clear he
    go_wp2_with fail
    go_roundw
    case rel => exact ⟨k + 1, by omega, by go_num, HK, by first | rfl | trivial⟩
    case measure => simp [intOf]; omega
  ·
   obtain rfl : k = n := by omega
   go_wp2_with fail
   go_ret
   exact ⟨ret_bool HF.out.symm, rfl⟩
section
variable {at_ lo hi : Int} {xL : List Int} {hA : Option Addr} {hn hc B : Nat} {Xs : Nat → SgV} {w : World}
set_option maxRecDepth 100000 in
set_option maxHeartbeats 3200000 in
theorem ragrees_any (hR : RdS w B hA hn Xs) (_hB : B ≤ w.heap.size) (hm : hn ≤ maxLen) (cell tick : Int) :
  Calls Tryz.prog 107 #[.slice hA hn hc, .int .i64 cell, .int .i64 tick] w fun e w' => e = .returned (.bool (M.agAll (fun i => (Xs i).sg) hn tick cell)) ∧ ∃ n, w' = w.drewN n := by
 have HR := Lib.hid hR
 have HHA := Lib.hid (fun (n : Nat) (x : SgV) (hx : Rd1 w B x.A x.L.length (fun k => x.L.getD k 0)) (hl : x.L.length ≤ maxLen) => rhas_any x.A x.L.length x.c B (fun k => x.L.getD k 0) cell (w.drewN n) hl hx)
 unfold maxLen at hm
 clear hR
 unfold M.agAll
 obtain ⟨p, hp⟩ : ∃ p : Nat → Bool, p = fun i => M.agr (Xs i).sg tick cell := ⟨_, rfl⟩
 rw [← hp]
 have HP := Lib.hid (fun i => congrFun hp i)
 clear hp
 go_enter Tryz.func107, Tryz.ntmps107
 go_wp2_with fail
 go_loopw [7] (fun i wr => ∃ k : Nat, k ≤ hn ∧ i = .int .i64 (k : Int) ∧ Hid (M.allTo k p = true) ∧ ∃ m, wr = w.drewN m) (fun i _ => hn - (intOf i).toNat)
 case atStart => exact ⟨0, Nat.zero_le _, rfl, Lib.hid rfl, 0, rfl⟩
 case round =>
  obtain ⟨k, hk, rfl, HF, m, rfl⟩ := hrel
  by_cases hlt : k < hn
  ·
   obtain ⟨b, off, rfl, hb, c0, c1, c2, hrd, hl⟩ := HR.out.at_ hlt
   have d0 : (w.drewN m).cell? ⟨b, off + k * 3, none⟩ = _ := c0
   have d1 : (w.drewN m).cell? ⟨b, off + k * 3 + 1, none⟩ = _ := c1
   have d2 : (w.drewN m).cell? ⟨b, off + k * 3 + 2, none⟩ = _ := c2
   have HHX := Lib.hid (fun n => HHA.out n (Xs k) hrd hl)
   have HMO := Lib.hid (show ∀ q, ∃ n', (w.drewN m).drewN q = w.drewN n' from fun q => ⟨m + q, by rw [World.drewN_drewN]⟩)
   have HHN := Lib.hid (fun (W' : World) (h : ∃ n, W' = w.drewN n) => h)
   have HPK := Lib.hid (HP.out k)
   have HS := Lib.hid (show M.allTo (k + 1) p = (M.allTo k p && p k) from rfl)
   have HN := Lib.hid (fun h : p k = false => (show M.allTo hn p = false from M.allTo_no hlt h))
   generalize p k = q at HPK HS HN
   generalize Xs k = x at d0 d1 d2 HHX HPK
   clear c0 c1 c2 hrd hl
   obtain ⟨tk, A, c, L, seen⟩ := x
   unfold M.agr SgV.sg at HPK
   dsimp only at d0 d1 d2 HHX HPK
   by_cases ht : tk = tick
   ·
    have g1 : (tk == tick) = true := by simpa using ht
    have HHY := fun n => HHX.out n
    simp only [M.anyTo_any (L := L) (p := fun y => decide (y = cell))] at HHY
    have ec : (L.any fun y => decide (y = cell)) = L.contains cell := by
     rw [Bool.eq_iff_iff, List.any_eq_true, List.contains_iff_mem]
     exact ⟨fun ⟨x, h1, h2⟩ => by rw [← of_decide_eq_true h2]; exact h1, fun h => ⟨cell, h, by simp⟩⟩
    simp only [ec] at HHY
    have HHZ := Lib.hid (fun q => (show Calls Tryz.prog 106 #[.slice A L.length c, .int .i64 cell] ((w.drewN m).drewN q) fun e w' => e = .returned (.bool (L.contains cell)) ∧ w' = (w.drewN m).drewN q from by rw [World.drewN_drewN]; exact HHY (m + q)))
    have HDN := Lib.hid (show ∀ q, ∃ n', (w.drewN m).drewN q = w.drewN n' from fun q => ⟨m + q, by rw [World.drewN_drewN]⟩)
    have HPZ := Lib.hid (show q = (L.contains cell == seen) from by rw [HPK.out, decide_eq_true ht]; rfl)
    clear HHY HHX HPK ec ht
    generalize L.contains cell = hs at HHZ HPZ
    generalize w.drewN m = Y at d0 d1 d2 HHZ HDN ⊢
    cases hs <;> cases seen
    ·
     have HK := Lib.hid (show M.allTo (k + 1) p = true from by rw [HS.out, HF.out, HPZ.out]; rfl)
     go_upto_region 4 with fail
     go_quiet (first | (go_at_call 106; exact Calls.quiet_of_same (HHZ.out _)) | fail)
     go_wp2_with fail
     go_roundw
     case rel => exact ⟨k + 1, by omega, by go_num, HK, HDN.out _⟩
     case measure => simp [intOf]; omega
    ·
     have HK := Lib.hid (HN.out HPZ.out)
     go_upto_region 4 with fail
     go_quiet (first | (go_at_call 106; exact Calls.quiet_of_same (HHZ.out _)) | fail)
     go_wp2_with fail
     go_ret
     exact ⟨ret_bool HK.out.symm, HDN.out _⟩
    ·
     have HK := Lib.hid (HN.out HPZ.out)
     go_upto_region 4 with fail
     go_quiet (first | (go_at_call 106; exact Calls.quiet_of_same (HHZ.out _)) | fail)
     go_wp2_with fail
     go_ret
     exact ⟨ret_bool HK.out.symm, HDN.out _⟩
    ·
     have HK := Lib.hid (show M.allTo (k + 1) p = true from by rw [HS.out, HF.out, HPZ.out]; rfl)
     go_upto_region 4 with fail
     go_quiet (first | (go_at_call 106; exact Calls.quiet_of_same (HHZ.out _)) | fail)
     go_wp2_with fail
     go_roundw
     case rel => exact ⟨k + 1, by omega, by go_num, HK, HDN.out _⟩
     case measure => simp [intOf]; omega
   ·
    have g1 : (tk == tick) = false := by simpa using ht
    have HK := Lib.hid (show M.allTo (k + 1) p = true from by rw [HS.out, HF.out, HPK.out, decide_eq_false ht]; rfl)
    clear ht HHX HPK
    generalize w.drewN m = Y at d0 d1 d2 HMO ⊢
    go_upto_region 4 with fail
    go_quiet (fail)
    go_wp2_with fail
    go_roundw
    case rel => exact ⟨k + 1, by omega, by go_num, HK, HMO.out _⟩
    case measure => simp [intOf]; omega
  ·
   obtain rfl : k = hn := by omega
   go_wp2_with fail
   go_ret
   exact ⟨ret_bool HF.out.symm, m, rfl⟩
end
section
variable {W H : Int} {dA tA sA zA cA wA xA hA : Option Addr} {nd dc nt tc ns sc zn zc cn cc wn wc xc hn hc B : Nat} {at_ lo hi : Int} {dep : Nat → Int} {tide : Nat → Nat → Int} {sw z : Nat → Int} {cl : Nat → Nat} {cu : Nat → Nat → Nat → Int} {wd : Nat → Nat → Int} {xL : List Int} {Xs : Nat → SgV} {w : World}
end
end Go.Proofs.YtnbeembnnjdmdaaGreatDoor
