/- The reference of layer 2: Copy. -/
import Derived.Test.YtnbeembnnjdmdaaGreatDoorE4
import Derived.Test.YtnbeembnnjdmdaaGreatDoorBase
import Derived.Test.YtnbeembnnjdmdaaGreatDoorD13
namespace Go.Proofs.YtnbeembnnjdmdaaGreatDoor
open Go.RowKit

theorem push_info : (Tryz.prog.info? 142).map (fun i => (i.zero, i.size, i.bytes)) = some (some (.agg #[.int .i64 0, .int .i64 0, .int .i64 0]), 3, 24) := by kernel_rfl
theorem gset {W V : World} {g i : Nat} {u : Value} (h : W.grownBy V (some g)) : W.grownBy (V.setCell ⟨g, i, none⟩ u) (some g) :=
  ⟨h.os, h.tape, h.output, Nat.le_trans h.size (KeepsWalks.setCell _ _ _).size, fun k hk hne => (Below.heap_setCell _ _ _ k (fun e => hne (by rw [e]))).trans (h.block k hk hne)⟩
abbrev zero8 : Array Value := #[.int .i64 0, .int .i64 0, .slice none 0 0, .slice none 0 0, .slice none 0 0, .slice none 0 0, .slice none 0 0, .slice none 0 0]
theorem Own.rd1' {w : World} {b t n c : Nat} {A : Option Addr} {f : Nat → Int} (h : Own w b t 1 (.slice A n c) n fun i _ => .int .i64 (f i)) : Rd1 w w.heap.size A n f := by
  obtain ⟨A', c', e, hr⟩ := h.rd1
  injection e with e1 _ _
  subst e1
  exact hr
theorem drift_size : (Tryz.prog.info? 29).map (·.size) = some 8 := by kernel_rfl
section
variable {X V V' : World} {W H : Int} {dA tA sA : Option Addr} {nd dc nt tc ns sc zn wn : Nat} {z : Nat → Int} {wd : Nat → Nat → Int} {b2 b5 b6 b9 b10 b11 b12 : Bool} {x7 x10 x11 x14 x15 x3 : Value}
end
section
variable {W H : Int} {dA tA sA zA cA wA : Option Addr} {nd dc nt tc ns sc zn zc cn cc wn wc B : Nat} {dep : Nat → Int} {tide : Nat → Nat → Int} {sw z : Nat → Int} {cl : Nat → Nat} {cu : Nat → Nat → Nat → Int} {wd : Nat → Nat → Int} {w : World}
end
end Go.Proofs.YtnbeembnnjdmdaaGreatDoor
