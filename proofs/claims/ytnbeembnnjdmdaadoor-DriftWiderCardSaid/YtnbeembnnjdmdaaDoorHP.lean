/- Places of a valid drift, drifter and sightings: the rows as they lie. -/
import Derived.Test.YtnbeembnnjdmdaaDoorLaH
import Derived.Test.YtnbeembnnjdmdaaDoorG12
import Derived.Test.YtnbeembnnjdmdaaDoorD31
namespace Go.Proofs.YtnbeembnnjdmdaaDoor
open Go.RowKit Go.Maps

theorem leeL_nil {d : M.Dr} {at_ lo hi : Int} {xL : List Int} {hn : Nat} {Xs : Nat → SgV} : leeL d at_ lo hi xL hn Xs = [] ↔ strP d at_ lo hi xL hn Xs 0 (-1) = false := by
  unfold leeL strP
  constructor
  · intro h
    cases hs : M.spanTo lo hi (leeP d at_.toNat (d.s.nt - at_.toNat) hn xL Xs (-1) 0)
    · rfl
    · obtain ⟨x, h1, h2, h3⟩ := M.spanTo_iff.1 hs
      have h4 := M.mem_spanL.2 ⟨⟨h1, h2⟩, h3⟩
      rw [h] at h4
      cases h4
  · intro h
    refine List.eq_nil_iff_forall_not_mem.2 fun x hx => ?_
    obtain ⟨⟨h1, h2⟩, h3⟩ := M.mem_spanL.1 hx
    rw [M.spanTo_iff.2 ⟨x, h1, h2, h3⟩] at h
    cases h
/-- rows of ints that can be read -/
structure Rws (W : World) (ow m : Nat) (U : Nat → Value) (pl : Nat → List Int) : Prop where
  lt : ow < W.heap.size
  c : ∀ k, k < m → W.cell? ⟨ow, k, none⟩ = some (U k)
  r : ∀ k, k < m → ∃ A c, U k = .slice A (pl k).length c ∧ Rd1 W W.heap.size A (pl k).length (fun j => (pl k).getD j 0)
theorem Rws.below {W W' : World} {ow m : Nat} {U : Nat → Value} {pl : Nat → List Int} (h : Rws W ow m U pl) (hb : Below W.heap.size W W') : Rws W' ow m U pl :=
  ⟨Nat.lt_of_lt_of_le h.lt hb.size, fun k hk => (hb.cell (p := ⟨ow, k, none⟩) h.lt).trans (h.c k hk), fun k hk => by
    obtain ⟨A, c, e, hr⟩ := h.r k hk
    exact ⟨A, c, e, (hr.below hb).more hb.size⟩⟩
section
variable {d : M.Dr} {zA cA wA dA tA sA xA hA : Option Addr} {cl : Nat → Nat} {B dc tc sc zc cc wc xc hn hc ta : Nat} {lo hi : Int} {xL : List Int} {Xs : Nat → SgV} {w : World}
theorem plcs_rows (hd : d.Ok) (hcl : ∀ i, i < d.nz → cl i + 1 = d.s.nt) (hR : RdD w B dA tA sA zA cA wA d.s.nd d.s.nt d.s.nt d.s.nd d.nz (d.s.nt - 1) d.s.dep d.s.tide d.s.sw d.z cl d.cu d.wd) (hB : B ≤ w.heap.size) (hW : Ways w)
    (hx3 : Rd1 w B xA xL.length (fun k => xL.getD k 0)) (hx4 : xL.length ≤ maxLen) (hRS : RdS w B hA hn Xs) (hhn : hn ≤ maxLen) (hF : Fre w) (hX : chkX d.s.nd d.s.nt (ta : Int) lo hi xL = true) (hS : chkS d.s.nd d.s.nt (ta : Int) hn Xs = true) :
    Calls Tryd.prog 10 #[.agg #[.int .i64 (d.s.W : Int), .int .i64 (d.s.H : Int), .slice dA d.s.nd dc, .slice tA d.s.nt tc, .slice sA d.s.nt sc, .slice zA d.s.nd zc, .slice cA d.nz cc, .slice wA (d.s.nt - 1) wc], .agg #[.int .i64 (ta : Int), .slice xA xL.length xc, .int .i64 lo, .int .i64 hi], .slice hA hn hc] w fun e w' => Below w.heap.size w w' ∧ ((strP d (ta : Int) lo hi xL hn Xs 0 (-1) = false ∧ e = .returned (.tuple #[.slice none 0 0, .int .i64 3])) ∨
      (strP d (ta : Int) lo hi xL hn Xs 0 (-1) = true ∧ ∃ ow U, e = .returned (.tuple #[.slice (some ⟨ow, 0, none⟩) (d.s.nt - ta) (d.s.nt - ta), .int .i64 0]) ∧ Rws w' ow (d.s.nt - ta) U (plcL d ta (d.s.nt - ta) hn xL Xs lo hi))) :=
  (places_ok (dc := dc) (tc := tc) (sc := sc) (zc := zc) (cc := cc) (wc := wc) (xc := xc) (hc := hc) hd hcl hR hB hW hx3 hx4 hRS hhn hF hX hS).mono fun e w' h => ⟨h.1, h.2.imp (fun ⟨h1, h2⟩ => ⟨leeL_nil.1 h1, h2⟩) fun ⟨h1, ow, U, h2, h3, h4⟩ => ⟨by
    cases hq : strP d (ta : Int) lo hi xL hn Xs 0 (-1)
    · exact absurd (leeL_nil.2 hq) h1
    · rfl, ow, U, h2, (Own.block (g := ow) h3 rfl).2, fun k hk => Own.cell1 h3 hk, fun k hk => by
      have h5 := h4 k hk
      obtain ⟨A, c, e⟩ := Own.form h5
      refine ⟨A, c, e, ?_⟩
      rw [e] at h5
      exact IL.rd h5⟩⟩
end
end Go.Proofs.YtnbeembnnjdmdaaDoor
