/-
  No cell of these rows narrows 'for every input' (looked for: loops, veiled, ifaces, maps, wideKeys, modest, calm, conditions, laid).
  DERIVED. THE GIVEN ROWS OF THIS SEAT. 7 by the template 'for every input the law returns true; each argument reads behind the call as it read before'; 0 by the template 'total and deterministic' (their statements: YtaljmlkapbojeaaTotals.lean).
  GIVEN WITH THE SEED: the statements are not yours to turn. If you find one false, say at which input.
  Laid BY PROGRAM, IN A SANDBOX (cutbox-rows.mjs): the forced cells as the released guide's own fill.sh prints them over the translation 94df44af71d81031… (all of the seat's roots in one cut). By AI agents, Wed Nov 11 2026. No macro, syntax, notation, axiom, sorry.
-/
import Derived.Test.YtaljmlkapbojeaaChecked
import GoSem.Claim
import GoSem.ClaimJoined
import GoSem.ClaimMapViews
import Derived.JoinedTies
import Derived.KernelRfl
namespace Go.Proofs.Ytaljmlkapbojeaa
/- THE CELL 'sum', in the pinned program and in every row, IS THE sha256 OF THE DUMP (.gsa) THAT YtaljmlkapbojeaaProg.lean LOADS. Nothing in Lean hashes anything: it is a label: what it is worth is what the hold of that sum in a sandbox is worth. -/
noncomputable def Try.pinned : Pinned := { name := "ytaljmlkapbojeaa", sum := "94df44af71d81031825ef6e5119cfa06d109068d551996c00e74b73802d87952", checked := Try.checked }
namespace Rows
def none {H : Type} : Left H := { results := [], args := [] }

/-- 'coblelaw11.GiftsMore': WHATEVER THE INPUT: true; the input reads as it did. -/
def giftsMoreSpec : ChangeSpec := { name := "giftsMore", fn := fun _ => fun
  | [d1, d2] => { results := [.lit (.bool true)], args := [d1, d2] }
  | _ => none }
def giftsMoreRow : OpenClaim := { program := "ytaljmlkapbojeaa", sum := "94df44af71d81031825ef6e5119cfa06d109068d551996c00e74b73802d87952", func := "coble/coblelaw11.GiftsMore", spec := "giftsMore", unfollowed := true, recurses := true, apart := false }
def GiftsMoreSaid : Prop := giftsMoreRow.holds Try.pinned (OpenSpec.ofChange giftsMoreSpec)

/-- ITS FALSE NEIGHBOUR: 'it returns false'. Refute it at one input. -/
def giftsMoreWrong : ChangeSpec := { name := "giftsMore", fn := fun _ => fun
  | [d1, d2] => { results := [.lit (.bool false)], args := [d1, d2] }
  | _ => none }
def GiftsMoreWrongFalsely : Prop := giftsMoreRow.holds Try.pinned (OpenSpec.ofChange giftsMoreWrong)

/-- 'coblelaw11.GiftsLasts': WHATEVER THE INPUT: true; the input reads as it did. -/
def giftsLastsSpec : ChangeSpec := { name := "giftsLasts", fn := fun _ => fun
  | [d] => { results := [.lit (.bool true)], args := [d] }
  | _ => none }
def giftsLastsRow : OpenClaim := { program := "ytaljmlkapbojeaa", sum := "94df44af71d81031825ef6e5119cfa06d109068d551996c00e74b73802d87952", func := "coble/coblelaw11.GiftsLasts", spec := "giftsLasts", unfollowed := true, recurses := true, apart := false }
def GiftsLastsSaid : Prop := giftsLastsRow.holds Try.pinned (OpenSpec.ofChange giftsLastsSpec)

/-- ITS FALSE NEIGHBOUR: 'it returns false'. Refute it at one input. -/
def giftsLastsWrong : ChangeSpec := { name := "giftsLasts", fn := fun _ => fun
  | [d] => { results := [.lit (.bool false)], args := [d] }
  | _ => none }
def GiftsLastsWrongFalsely : Prop := giftsLastsRow.holds Try.pinned (OpenSpec.ofChange giftsLastsWrong)

/-- 'coblelaw11.GiftsReserve': WHATEVER THE INPUT: true; the input reads as it did. -/
def giftsReserveSpec : ChangeSpec := { name := "giftsReserve", fn := fun _ => fun
  | [d1, d2] => { results := [.lit (.bool true)], args := [d1, d2] }
  | _ => none }
def giftsReserveRow : OpenClaim := { program := "ytaljmlkapbojeaa", sum := "94df44af71d81031825ef6e5119cfa06d109068d551996c00e74b73802d87952", func := "coble/coblelaw11.GiftsReserve", spec := "giftsReserve", unfollowed := true, recurses := true, apart := false }
def GiftsReserveSaid : Prop := giftsReserveRow.holds Try.pinned (OpenSpec.ofChange giftsReserveSpec)

/-- ITS FALSE NEIGHBOUR: 'it returns false'. Refute it at one input. -/
def giftsReserveWrong : ChangeSpec := { name := "giftsReserve", fn := fun _ => fun
  | [d1, d2] => { results := [.lit (.bool false)], args := [d1, d2] }
  | _ => none }
def GiftsReserveWrongFalsely : Prop := giftsReserveRow.holds Try.pinned (OpenSpec.ofChange giftsReserveWrong)

/-- 'coblelaw11.GiftsLeaves': WHATEVER THE INPUT: true; the input reads as it did. -/
def giftsLeavesSpec : ChangeSpec := { name := "giftsLeaves", fn := fun _ => fun
  | [d] => { results := [.lit (.bool true)], args := [d] }
  | _ => none }
def giftsLeavesRow : OpenClaim := { program := "ytaljmlkapbojeaa", sum := "94df44af71d81031825ef6e5119cfa06d109068d551996c00e74b73802d87952", func := "coble/coblelaw11.GiftsLeaves", spec := "giftsLeaves", unfollowed := true, recurses := true, apart := false }
def GiftsLeavesSaid : Prop := giftsLeavesRow.holds Try.pinned (OpenSpec.ofChange giftsLeavesSpec)

/-- ITS FALSE NEIGHBOUR: 'it returns false'. Refute it at one input. -/
def giftsLeavesWrong : ChangeSpec := { name := "giftsLeaves", fn := fun _ => fun
  | [d] => { results := [.lit (.bool false)], args := [d] }
  | _ => none }
def GiftsLeavesWrongFalsely : Prop := giftsLeavesRow.holds Try.pinned (OpenSpec.ofChange giftsLeavesWrong)

/-- 'coblelaw11.GiftsKept': WHATEVER THE INPUT: true; the input reads as it did. -/
def giftsKeptSpec : ChangeSpec := { name := "giftsKept", fn := fun _ => fun
  | [d1, d2, d3] => { results := [.lit (.bool true)], args := [d1, d2, d3] }
  | _ => none }
def giftsKeptRow : OpenClaim := { program := "ytaljmlkapbojeaa", sum := "94df44af71d81031825ef6e5119cfa06d109068d551996c00e74b73802d87952", func := "coble/coblelaw11.GiftsKept", spec := "giftsKept", unfollowed := true, recurses := true, apart := false }
def GiftsKeptSaid : Prop := giftsKeptRow.holds Try.pinned (OpenSpec.ofChange giftsKeptSpec)

/-- ITS FALSE NEIGHBOUR: 'it returns false'. Refute it at one input. -/
def giftsKeptWrong : ChangeSpec := { name := "giftsKept", fn := fun _ => fun
  | [d1, d2, d3] => { results := [.lit (.bool false)], args := [d1, d2, d3] }
  | _ => none }
def GiftsKeptWrongFalsely : Prop := giftsKeptRow.holds Try.pinned (OpenSpec.ofChange giftsKeptWrong)

/-- 'coblelaw11.GiftsAudits': WHATEVER THE INPUT: true; the input reads as it did. -/
def giftsAuditsSpec : ChangeSpec := { name := "giftsAudits", fn := fun _ => fun
  | [d1, d2] => { results := [.lit (.bool true)], args := [d1, d2] }
  | _ => none }
def giftsAuditsRow : OpenClaim := { program := "ytaljmlkapbojeaa", sum := "94df44af71d81031825ef6e5119cfa06d109068d551996c00e74b73802d87952", func := "coble/coblelaw11.GiftsAudits", spec := "giftsAudits", unfollowed := true, recurses := true, apart := false }
def GiftsAuditsSaid : Prop := giftsAuditsRow.holds Try.pinned (OpenSpec.ofChange giftsAuditsSpec)

/-- ITS FALSE NEIGHBOUR: 'it returns false'. Refute it at one input. -/
def giftsAuditsWrong : ChangeSpec := { name := "giftsAudits", fn := fun _ => fun
  | [d1, d2] => { results := [.lit (.bool false)], args := [d1, d2] }
  | _ => none }
def GiftsAuditsWrongFalsely : Prop := giftsAuditsRow.holds Try.pinned (OpenSpec.ofChange giftsAuditsWrong)

/-- 'coblelaw11.GiftsUsed': WHATEVER THE INPUT: true; the input reads as it did. -/
def giftsUsedSpec : ChangeSpec := { name := "giftsUsed", fn := fun _ => fun
  | [d1, d2] => { results := [.lit (.bool true)], args := [d1, d2] }
  | _ => none }
def giftsUsedRow : OpenClaim := { program := "ytaljmlkapbojeaa", sum := "94df44af71d81031825ef6e5119cfa06d109068d551996c00e74b73802d87952", func := "coble/coblelaw11.GiftsUsed", spec := "giftsUsed", unfollowed := true, recurses := true, apart := false }
def GiftsUsedSaid : Prop := giftsUsedRow.holds Try.pinned (OpenSpec.ofChange giftsUsedSpec)

/-- ITS FALSE NEIGHBOUR: 'it returns false'. Refute it at one input. -/
def giftsUsedWrong : ChangeSpec := { name := "giftsUsed", fn := fun _ => fun
  | [d1, d2] => { results := [.lit (.bool false)], args := [d1, d2] }
  | _ => none }
def GiftsUsedWrongFalsely : Prop := giftsUsedRow.holds Try.pinned (OpenSpec.ofChange giftsUsedWrong)

/- THE SECOND FORM. 'bulk': how many values and letters a reading holds, each counted each time it is reached (what is shared counts as often as it is met; a slice's spare places count too). A statement '..UptoSaid' is the law's where the arguments, and the package variables that the reading takes, are together of bulk at most 1048576: NARROWER than '..Said'. Prove '..Said' where nothing that the law and all that it calls make is longer than what came in: it says more and counts as full. Else prove '..UptoSaid'. A law counts once. -/
mutual
def uptoBulk {H : Type} : DataW H → Nat
  | .lit (.string bytes) => bytes.length + 1
  | .lit _ => 1
  | .nil => 1
  | .ptr d => uptoBulk d + 1
  | .slice elems spare => uptoBulkAll elems + uptoBulkAll spare + 1
  | .agg parts => uptoBulkAll parts + 1
  | .iface _ d => uptoBulk d + 1
  | .map entries => uptoBulkEntries entries + 1
  | .held _ => 1
def uptoBulkAll {H : Type} : List (DataW H) → Nat
  | [] => 0
  | d :: r => uptoBulk d + uptoBulkAll r
def uptoBulkEntries {H : Type} : List (Lit × DataW H) → Nat
  | [] => 0
  | x :: r => uptoBulkEntry x + uptoBulkEntries r
def uptoBulkEntry {H : Type} : Lit × DataW H → Nat
  | (.string bytes, d) => bytes.length + uptoBulk d + 1
  | (_, d) => uptoBulk d + 1
 end
def uptoSmall : (H : Type) → List (DataW H) → Bool := fun _ ds => decide (uptoBulkAll ds ≤ 1048576)
def OpenSpec.upto (s : _root_.Go.ChangeSpec) : _root_.Go.OpenSpec := { _root_.Go.OpenSpec.ofChange s with cond := some uptoSmall }

/-- 'coblelaw11.GiftsMore', WHERE WHAT IT READS IS OF BULK AT MOST 1048576: true; the input reads as it did. -/
def giftsMoreUptoRow : OpenClaim := { program := "ytaljmlkapbojeaa", sum := "94df44af71d81031825ef6e5119cfa06d109068d551996c00e74b73802d87952", func := "coble/coblelaw11.GiftsMore", spec := "giftsMore", unfollowed := true, recurses := true, apart := false, narrowed := true }
def GiftsMoreUptoSaid : Prop := giftsMoreUptoRow.holds Try.pinned (OpenSpec.upto giftsMoreSpec)

/-- 'coblelaw11.GiftsLasts', WHERE WHAT IT READS IS OF BULK AT MOST 1048576: true; the input reads as it did. -/
def giftsLastsUptoRow : OpenClaim := { program := "ytaljmlkapbojeaa", sum := "94df44af71d81031825ef6e5119cfa06d109068d551996c00e74b73802d87952", func := "coble/coblelaw11.GiftsLasts", spec := "giftsLasts", unfollowed := true, recurses := true, apart := false, narrowed := true }
def GiftsLastsUptoSaid : Prop := giftsLastsUptoRow.holds Try.pinned (OpenSpec.upto giftsLastsSpec)

/-- 'coblelaw11.GiftsReserve', WHERE WHAT IT READS IS OF BULK AT MOST 1048576: true; the input reads as it did. -/
def giftsReserveUptoRow : OpenClaim := { program := "ytaljmlkapbojeaa", sum := "94df44af71d81031825ef6e5119cfa06d109068d551996c00e74b73802d87952", func := "coble/coblelaw11.GiftsReserve", spec := "giftsReserve", unfollowed := true, recurses := true, apart := false, narrowed := true }
def GiftsReserveUptoSaid : Prop := giftsReserveUptoRow.holds Try.pinned (OpenSpec.upto giftsReserveSpec)

/-- 'coblelaw11.GiftsLeaves', WHERE WHAT IT READS IS OF BULK AT MOST 1048576: true; the input reads as it did. -/
def giftsLeavesUptoRow : OpenClaim := { program := "ytaljmlkapbojeaa", sum := "94df44af71d81031825ef6e5119cfa06d109068d551996c00e74b73802d87952", func := "coble/coblelaw11.GiftsLeaves", spec := "giftsLeaves", unfollowed := true, recurses := true, apart := false, narrowed := true }
def GiftsLeavesUptoSaid : Prop := giftsLeavesUptoRow.holds Try.pinned (OpenSpec.upto giftsLeavesSpec)

/-- 'coblelaw11.GiftsKept', WHERE WHAT IT READS IS OF BULK AT MOST 1048576: true; the input reads as it did. -/
def giftsKeptUptoRow : OpenClaim := { program := "ytaljmlkapbojeaa", sum := "94df44af71d81031825ef6e5119cfa06d109068d551996c00e74b73802d87952", func := "coble/coblelaw11.GiftsKept", spec := "giftsKept", unfollowed := true, recurses := true, apart := false, narrowed := true }
def GiftsKeptUptoSaid : Prop := giftsKeptUptoRow.holds Try.pinned (OpenSpec.upto giftsKeptSpec)

/-- 'coblelaw11.GiftsAudits', WHERE WHAT IT READS IS OF BULK AT MOST 1048576: true; the input reads as it did. -/
def giftsAuditsUptoRow : OpenClaim := { program := "ytaljmlkapbojeaa", sum := "94df44af71d81031825ef6e5119cfa06d109068d551996c00e74b73802d87952", func := "coble/coblelaw11.GiftsAudits", spec := "giftsAudits", unfollowed := true, recurses := true, apart := false, narrowed := true }
def GiftsAuditsUptoSaid : Prop := giftsAuditsUptoRow.holds Try.pinned (OpenSpec.upto giftsAuditsSpec)

/-- 'coblelaw11.GiftsUsed', WHERE WHAT IT READS IS OF BULK AT MOST 1048576: true; the input reads as it did. -/
def giftsUsedUptoRow : OpenClaim := { program := "ytaljmlkapbojeaa", sum := "94df44af71d81031825ef6e5119cfa06d109068d551996c00e74b73802d87952", func := "coble/coblelaw11.GiftsUsed", spec := "giftsUsed", unfollowed := true, recurses := true, apart := false, narrowed := true }
def GiftsUsedUptoSaid : Prop := giftsUsedUptoRow.holds Try.pinned (OpenSpec.upto giftsUsedSpec)

end Rows
end Go.Proofs.Ytaljmlkapbojeaa
