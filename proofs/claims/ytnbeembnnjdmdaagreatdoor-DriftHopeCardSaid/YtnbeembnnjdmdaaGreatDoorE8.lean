/- The reference of layer 2: list, IsCell, Step. -/
import Derived.Test.YtnbeembnnjdmdaaGreatDoorE7
import Derived.Test.YtnbeembnnjdmdaaGreatDoorE4
import Derived.Test.YtnbeembnnjdmdaaGreatDoorD10
namespace Go.Proofs.YtnbeembnnjdmdaaGreatDoor
open Go.RowKit

namespace M
end M
section
variable {w : World} {base g nd : Nat} {q : Int → Bool}
end
section
variable {W H : Int} {dA tA sA zA cA wA : Option Addr} {nd dc nt tc ns sc zn zc cn cc wn wc B : Nat} {dep : Nat → Int} {tide : Nat → Nat → Int} {sw z : Nat → Int} {cl : Nat → Nat} {cu : Nat → Nat → Nat → Int} {wd : Nat → Nat → Int} {w : World}
set_option maxRecDepth 100000 in
set_option maxHeartbeats 3200000 in
theorem riscell_any (c : Int) (hnd : nd ≤ maxLen) :
    Calls Tryz.prog 49 #[.agg #[.int .i64 W, .int .i64 H, .slice dA nd dc, .slice tA nt tc, .slice sA ns sc, .slice zA zn zc, .slice cA cn cc, .slice wA wn wc], .int .i64 c] w fun e w' => e = .returned (.bool (M.inB (-1) ((nd : Int) - 1) c)) ∧ Below w.heap.size w w' := by
  unfold maxLen at hnd
  have HB0 := Lib.hid (belowAlloc w (.cells #[.int .i64 W, .int .i64 H, .slice dA nd dc, .slice tA nt tc, .slice sA ns sc, .slice zA zn zc, .slice cA cn cc, .slice wA wn wc] 29))
  go_enter Tryz.func49, Tryz.ntmps49
  go_wp2_with (go_at_call 50; refine (rin_any _ _ _ _).mono ?_; rintro e w1 ⟨rfl, rfl⟩)
  go_ret
  exact ⟨rfl, HB0.out⟩
end
section
variable {d : M.Dr} {zA cA wA dA tA sA : Option Addr} {cl : Nat → Nat} {B dc tc sc zc cc wc : Nat} {w : World}
theorem rstep_any (hd : d.Ok) (hcl : ∀ i, i < d.nz → cl i + 1 = d.s.nt) (hR : RdD w B dA tA sA zA cA wA d.s.nd d.s.nt d.s.nt d.s.nd d.nz (d.s.nt - 1) d.s.dep d.s.tide d.s.sw d.z cl d.cu d.wd) (hB : B ≤ w.heap.size) (c : Int) (t l : Nat) (hc : -1 ≤ c ∧ c < d.s.nd) (ht : t + 1 < d.s.nt) (hl : l ≤ 8) :
    Calls Tryz.prog 52 #[.agg #[.int .i64 (d.s.W : Int), .int .i64 (d.s.H : Int), .slice dA d.s.nd dc, .slice tA d.s.nt tc, .slice sA d.s.nt sc, .slice zA d.s.nd zc, .slice cA d.nz cc, .slice wA (d.s.nt - 1) wc], .int .i64 c, .int .i64 (t : Int), .int .i64 (l : Int)] w (StpR d t (l : Int) c w) := by
  by_cases h : c = -1
  · subst h; exact rstep_out t l t l (by have := hd.s.nd1; omega)
  · obtain ⟨n, rfl⟩ : ∃ n : Nat, c = (n : Int) := ⟨c.toNat, by omega⟩
    exact rstep_in hd hcl hR hB n t l (by omega) ht hl
end
end Go.Proofs.YtnbeembnnjdmdaaGreatDoor
