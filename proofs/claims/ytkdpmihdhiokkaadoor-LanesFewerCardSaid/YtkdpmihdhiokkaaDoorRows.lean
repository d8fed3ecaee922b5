/-
  NARROWER THAN 'FOR EVERY INPUT', by the rows' own cells (each row's printed sentence says how): LanesApart: laid · LanesEither: laid · LanesOpen: laid · LanesClashes: laid · LanesFewer: laid · LanesPlanned: laid · LanesFirst: laid · LanesBlocked: laid.
  DERIVED. THE GIVEN ROWS OF THIS SEAT. 8 by the template 'for every input the law returns true; each argument reads behind the call as it read before'; 0 by the template 'total and deterministic' (their statements: YtkdpmihdhiokkaaDoorTotals.lean).
  GIVEN WITH THE SEED: the statements are not yours to turn. If you find one false, say at which input.
  Laid BY PROGRAM, IN A SANDBOX (cutbox-rows.mjs): the forced cells as the released guide's own fill.sh prints them over the translation 3b88881f1ba729b0… (all of the seat's roots in one cut). By AI agents, Wed Nov 11 2026. No macro, syntax, notation, axiom, sorry.
-/
import Derived.Test.YtkdpmihdhiokkaaDoorChecked
import GoSem.Claim
import GoSem.ClaimJoined
import GoSem.ClaimMapViews
import Derived.JoinedTies
import Derived.KernelRfl
namespace Go.Proofs.YtkdpmihdhiokkaaDoor
/- THE CELL 'sum', in the pinned program and in every row, IS THE sha256 OF THE DUMP (.gsa) THAT YtkdpmihdhiokkaaDoorProg.lean LOADS. Nothing in Lean hashes anything: it is a label: what it is worth is what the hold of that sum in a sandbox is worth. -/
noncomputable def Tryd.pinned : Pinned := { name := "ytkdpmihdhiokkaadoor", sum := "3b88881f1ba729b0e45fa69b9e6f45951b5f8b939b5163b1024fc636745768c6", checked := Tryd.checked }
namespace Rows
def none {H : Type} : Left H := { results := [], args := [] }

/- WHAT THE LISTED PACKAGE-LEVEL VARIABLES READ AS WHEN THE CALL BEGINS. Each datum BY PROGRAM (the guide's laid-datum.mjs) off the statement by which the dump's own 'gosem.cut.vars' lays the variable. In a bare row this is a premise. The card (YtkdpmihdhiokkaaDoorCards.lean) ties it to the program's text. -/
def laid_coble_chart_ways {H : Type} : DataW H := .agg [.agg [.lit (.int .i64 1), .lit (.int .i64 1), .lit (.int .i64 0)], .agg [.lit (.int .i64 0), .lit (.int .i64 1), .lit (.int .i64 1)], .agg [.lit (.int .i64 (-1)), .lit (.int .i64 0), .lit (.int .i64 1)], .agg [.lit (.int .i64 (-1)), .lit (.int .i64 (-1)), .lit (.int .i64 0)], .agg [.lit (.int .i64 (-1)), .lit (.int .i64 0), .lit (.int .i64 (-1))], .agg [.lit (.int .i64 0), .lit (.int .i64 1), .lit (.int .i64 (-1))]]

/-- 'coblelaw06.LanesApart': WHATEVER THE INPUT: true; the input reads as it did. -/
def lanesApartSpec : ChangeSpec := { name := "lanesApart", fn := fun _ => fun
  | [d1, d2, d3] => { results := [.lit (.bool true)], args := [d1, d2, d3] }
  | _ => none }
def lanesApartRow : OpenClaim := { program := "ytkdpmihdhiokkaadoor", sum := "3b88881f1ba729b0e45fa69b9e6f45951b5f8b939b5163b1024fc636745768c6", func := "coble/coblelaw06.LanesApart", spec := "lanesApart", unfollowed := true, recurses := true, named := ["coble/chart.ways"], apart := false, laid := [("coble/chart.ways", laid_coble_chart_ways)] }
def LanesApartSaid : Prop := lanesApartRow.holds Tryd.pinned (OpenSpec.ofChange lanesApartSpec)

/-- ITS FALSE NEIGHBOUR: 'it returns false'. Refute it at one input. -/
def lanesApartWrong : ChangeSpec := { name := "lanesApart", fn := fun _ => fun
  | [d1, d2, d3] => { results := [.lit (.bool false)], args := [d1, d2, d3] }
  | _ => none }
def LanesApartWrongFalsely : Prop := lanesApartRow.holds Tryd.pinned (OpenSpec.ofChange lanesApartWrong)

/-- 'coblelaw06.LanesEither': WHATEVER THE INPUT: true; the input reads as it did. -/
def lanesEitherSpec : ChangeSpec := { name := "lanesEither", fn := fun _ => fun
  | [d1, d2, d3] => { results := [.lit (.bool true)], args := [d1, d2, d3] }
  | _ => none }
def lanesEitherRow : OpenClaim := { program := "ytkdpmihdhiokkaadoor", sum := "3b88881f1ba729b0e45fa69b9e6f45951b5f8b939b5163b1024fc636745768c6", func := "coble/coblelaw06.LanesEither", spec := "lanesEither", unfollowed := true, recurses := true, named := ["coble/chart.ways"], apart := false, laid := [("coble/chart.ways", laid_coble_chart_ways)] }
def LanesEitherSaid : Prop := lanesEitherRow.holds Tryd.pinned (OpenSpec.ofChange lanesEitherSpec)

/-- ITS FALSE NEIGHBOUR: 'it returns false'. Refute it at one input. -/
def lanesEitherWrong : ChangeSpec := { name := "lanesEither", fn := fun _ => fun
  | [d1, d2, d3] => { results := [.lit (.bool false)], args := [d1, d2, d3] }
  | _ => none }
def LanesEitherWrongFalsely : Prop := lanesEitherRow.holds Tryd.pinned (OpenSpec.ofChange lanesEitherWrong)

/-- 'coblelaw06.LanesOpen': WHATEVER THE INPUT: true; the input reads as it did. -/
def lanesOpenSpec : ChangeSpec := { name := "lanesOpen", fn := fun _ => fun
  | [d1, d2, d3] => { results := [.lit (.bool true)], args := [d1, d2, d3] }
  | _ => none }
def lanesOpenRow : OpenClaim := { program := "ytkdpmihdhiokkaadoor", sum := "3b88881f1ba729b0e45fa69b9e6f45951b5f8b939b5163b1024fc636745768c6", func := "coble/coblelaw06.LanesOpen", spec := "lanesOpen", unfollowed := true, recurses := true, named := ["coble/chart.ways"], apart := false, laid := [("coble/chart.ways", laid_coble_chart_ways)] }
def LanesOpenSaid : Prop := lanesOpenRow.holds Tryd.pinned (OpenSpec.ofChange lanesOpenSpec)

/-- ITS FALSE NEIGHBOUR: 'it returns false'. Refute it at one input. -/
def lanesOpenWrong : ChangeSpec := { name := "lanesOpen", fn := fun _ => fun
  | [d1, d2, d3] => { results := [.lit (.bool false)], args := [d1, d2, d3] }
  | _ => none }
def LanesOpenWrongFalsely : Prop := lanesOpenRow.holds Tryd.pinned (OpenSpec.ofChange lanesOpenWrong)

/-- 'coblelaw06.LanesClashes': WHATEVER THE INPUT: true; the input reads as it did. -/
def lanesClashesSpec : ChangeSpec := { name := "lanesClashes", fn := fun _ => fun
  | [d1, d2, d3] => { results := [.lit (.bool true)], args := [d1, d2, d3] }
  | _ => none }
def lanesClashesRow : OpenClaim := { program := "ytkdpmihdhiokkaadoor", sum := "3b88881f1ba729b0e45fa69b9e6f45951b5f8b939b5163b1024fc636745768c6", func := "coble/coblelaw06.LanesClashes", spec := "lanesClashes", unfollowed := true, recurses := true, named := ["coble/chart.ways"], apart := false, laid := [("coble/chart.ways", laid_coble_chart_ways)] }
def LanesClashesSaid : Prop := lanesClashesRow.holds Tryd.pinned (OpenSpec.ofChange lanesClashesSpec)

/-- ITS FALSE NEIGHBOUR: 'it returns false'. Refute it at one input. -/
def lanesClashesWrong : ChangeSpec := { name := "lanesClashes", fn := fun _ => fun
  | [d1, d2, d3] => { results := [.lit (.bool false)], args := [d1, d2, d3] }
  | _ => none }
def LanesClashesWrongFalsely : Prop := lanesClashesRow.holds Tryd.pinned (OpenSpec.ofChange lanesClashesWrong)

/-- 'coblelaw06.LanesFewer': WHATEVER THE INPUT: true; the input reads as it did. -/
def lanesFewerSpec : ChangeSpec := { name := "lanesFewer", fn := fun _ => fun
  | [d1, d2, d3] => { results := [.lit (.bool true)], args := [d1, d2, d3] }
  | _ => none }
def lanesFewerRow : OpenClaim := { program := "ytkdpmihdhiokkaadoor", sum := "3b88881f1ba729b0e45fa69b9e6f45951b5f8b939b5163b1024fc636745768c6", func := "coble/coblelaw06.LanesFewer", spec := "lanesFewer", unfollowed := true, recurses := true, named := ["coble/chart.ways"], apart := false, laid := [("coble/chart.ways", laid_coble_chart_ways)] }
def LanesFewerSaid : Prop := lanesFewerRow.holds Tryd.pinned (OpenSpec.ofChange lanesFewerSpec)

/-- ITS FALSE NEIGHBOUR: 'it returns false'. Refute it at one input. -/
def lanesFewerWrong : ChangeSpec := { name := "lanesFewer", fn := fun _ => fun
  | [d1, d2, d3] => { results := [.lit (.bool false)], args := [d1, d2, d3] }
  | _ => none }
def LanesFewerWrongFalsely : Prop := lanesFewerRow.holds Tryd.pinned (OpenSpec.ofChange lanesFewerWrong)

/-- 'coblelaw06.LanesPlanned': WHATEVER THE INPUT: true; the input reads as it did. -/
def lanesPlannedSpec : ChangeSpec := { name := "lanesPlanned", fn := fun _ => fun
  | [d1, d2, d3] => { results := [.lit (.bool true)], args := [d1, d2, d3] }
  | _ => none }
def lanesPlannedRow : OpenClaim := { program := "ytkdpmihdhiokkaadoor", sum := "3b88881f1ba729b0e45fa69b9e6f45951b5f8b939b5163b1024fc636745768c6", func := "coble/coblelaw06.LanesPlanned", spec := "lanesPlanned", unfollowed := true, recurses := true, named := ["coble/chart.ways"], apart := false, laid := [("coble/chart.ways", laid_coble_chart_ways)] }
def LanesPlannedSaid : Prop := lanesPlannedRow.holds Tryd.pinned (OpenSpec.ofChange lanesPlannedSpec)

/-- ITS FALSE NEIGHBOUR: 'it returns false'. Refute it at one input. -/
def lanesPlannedWrong : ChangeSpec := { name := "lanesPlanned", fn := fun _ => fun
  | [d1, d2, d3] => { results := [.lit (.bool false)], args := [d1, d2, d3] }
  | _ => none }
def LanesPlannedWrongFalsely : Prop := lanesPlannedRow.holds Tryd.pinned (OpenSpec.ofChange lanesPlannedWrong)

/-- 'coblelaw06.LanesFirst': WHATEVER THE INPUT: true; the input reads as it did. -/
def lanesFirstSpec : ChangeSpec := { name := "lanesFirst", fn := fun _ => fun
  | [d1, d2, d3] => { results := [.lit (.bool true)], args := [d1, d2, d3] }
  | _ => none }
def lanesFirstRow : OpenClaim := { program := "ytkdpmihdhiokkaadoor", sum := "3b88881f1ba729b0e45fa69b9e6f45951b5f8b939b5163b1024fc636745768c6", func := "coble/coblelaw06.LanesFirst", spec := "lanesFirst", unfollowed := true, recurses := true, named := ["coble/chart.ways"], apart := false, laid := [("coble/chart.ways", laid_coble_chart_ways)] }
def LanesFirstSaid : Prop := lanesFirstRow.holds Tryd.pinned (OpenSpec.ofChange lanesFirstSpec)

/-- ITS FALSE NEIGHBOUR: 'it returns false'. Refute it at one input. -/
def lanesFirstWrong : ChangeSpec := { name := "lanesFirst", fn := fun _ => fun
  | [d1, d2, d3] => { results := [.lit (.bool false)], args := [d1, d2, d3] }
  | _ => none }
def LanesFirstWrongFalsely : Prop := lanesFirstRow.holds Tryd.pinned (OpenSpec.ofChange lanesFirstWrong)

/-- 'coblelaw06.LanesBlocked': WHATEVER THE INPUT: true; the input reads as it did. -/
def lanesBlockedSpec : ChangeSpec := { name := "lanesBlocked", fn := fun _ => fun
  | [d1, d2, d3] => { results := [.lit (.bool true)], args := [d1, d2, d3] }
  | _ => none }
def lanesBlockedRow : OpenClaim := { program := "ytkdpmihdhiokkaadoor", sum := "3b88881f1ba729b0e45fa69b9e6f45951b5f8b939b5163b1024fc636745768c6", func := "coble/coblelaw06.LanesBlocked", spec := "lanesBlocked", unfollowed := true, recurses := true, named := ["coble/chart.ways"], apart := false, laid := [("coble/chart.ways", laid_coble_chart_ways)] }
def LanesBlockedSaid : Prop := lanesBlockedRow.holds Tryd.pinned (OpenSpec.ofChange lanesBlockedSpec)

/-- ITS FALSE NEIGHBOUR: 'it returns false'. Refute it at one input. -/
def lanesBlockedWrong : ChangeSpec := { name := "lanesBlocked", fn := fun _ => fun
  | [d1, d2, d3] => { results := [.lit (.bool false)], args := [d1, d2, d3] }
  | _ => none }
def LanesBlockedWrongFalsely : Prop := lanesBlockedRow.holds Tryd.pinned (OpenSpec.ofChange lanesBlockedWrong)

/- THE SECOND FORM. 'bulk': how many values and letters a reading holds, each counted each time it is reached (what is shared counts as often as it is met; a slice's spare places count too). A statement '..UptoSaid' is the law's where the arguments, and the package variables that the reading takes, are together of bulk at most 1048576: NARROWER than '..Said'. Prove '..Said' where nothing that the law and all that it calls make is longer than what came in: it says more and counts as full. Else prove '..UptoSaid'. A law counts once. -/
mutual
def uptoBulk {H : Type} : DataW H → Nat
  | .lit (.string bytes) => bytes.length + 1
  | .lit _ => 1
  | .nil => 1
  | .ptr d => uptoBulk d + 1
  | .slice elems spare => uptoBulkAll elems + uptoBulkAll spare + 1
  | .agg parts => uptoBulkAll parts + 1
  | .iface _ d => uptoBulk d + 1
  | .map entries => uptoBulkEntries entries + 1
  | .held _ => 1
def uptoBulkAll {H : Type} : List (DataW H) → Nat
  | [] => 0
  | d :: r => uptoBulk d + uptoBulkAll r
def uptoBulkEntries {H : Type} : List (Lit × DataW H) → Nat
  | [] => 0
  | x :: r => uptoBulkEntry x + uptoBulkEntries r
def uptoBulkEntry {H : Type} : Lit × DataW H → Nat
  | (.string bytes, d) => bytes.length + uptoBulk d + 1
  | (_, d) => uptoBulk d + 1
 end
def uptoSmall : (H : Type) → List (DataW H) → Bool := fun _ ds => decide (uptoBulkAll ds ≤ 1048576)
def OpenSpec.upto (s : _root_.Go.ChangeSpec) : _root_.Go.OpenSpec := { _root_.Go.OpenSpec.ofChange s with cond := some uptoSmall }

/-- 'coblelaw06.LanesApart', WHERE WHAT IT READS IS OF BULK AT MOST 1048576: true; the input reads as it did. -/
def lanesApartUptoRow : OpenClaim := { program := "ytkdpmihdhiokkaadoor", sum := "3b88881f1ba729b0e45fa69b9e6f45951b5f8b939b5163b1024fc636745768c6", func := "coble/coblelaw06.LanesApart", spec := "lanesApart", unfollowed := true, recurses := true, named := ["coble/chart.ways"], apart := false, laid := [("coble/chart.ways", laid_coble_chart_ways)], narrowed := true }
def LanesApartUptoSaid : Prop := lanesApartUptoRow.holds Tryd.pinned (OpenSpec.upto lanesApartSpec)

/-- 'coblelaw06.LanesEither', WHERE WHAT IT READS IS OF BULK AT MOST 1048576: true; the input reads as it did. -/
def lanesEitherUptoRow : OpenClaim := { program := "ytkdpmihdhiokkaadoor", sum := "3b88881f1ba729b0e45fa69b9e6f45951b5f8b939b5163b1024fc636745768c6", func := "coble/coblelaw06.LanesEither", spec := "lanesEither", unfollowed := true, recurses := true, named := ["coble/chart.ways"], apart := false, laid := [("coble/chart.ways", laid_coble_chart_ways)], narrowed := true }
def LanesEitherUptoSaid : Prop := lanesEitherUptoRow.holds Tryd.pinned (OpenSpec.upto lanesEitherSpec)

/-- 'coblelaw06.LanesOpen', WHERE WHAT IT READS IS OF BULK AT MOST 1048576: true; the input reads as it did. -/
def lanesOpenUptoRow : OpenClaim := { program := "ytkdpmihdhiokkaadoor", sum := "3b88881f1ba729b0e45fa69b9e6f45951b5f8b939b5163b1024fc636745768c6", func := "coble/coblelaw06.LanesOpen", spec := "lanesOpen", unfollowed := true, recurses := true, named := ["coble/chart.ways"], apart := false, laid := [("coble/chart.ways", laid_coble_chart_ways)], narrowed := true }
def LanesOpenUptoSaid : Prop := lanesOpenUptoRow.holds Tryd.pinned (OpenSpec.upto lanesOpenSpec)

/-- 'coblelaw06.LanesClashes', WHERE WHAT IT READS IS OF BULK AT MOST 1048576: true; the input reads as it did. -/
def lanesClashesUptoRow : OpenClaim := { program := "ytkdpmihdhiokkaadoor", sum := "3b88881f1ba729b0e45fa69b9e6f45951b5f8b939b5163b1024fc636745768c6", func := "coble/coblelaw06.LanesClashes", spec := "lanesClashes", unfollowed := true, recurses := true, named := ["coble/chart.ways"], apart := false, laid := [("coble/chart.ways", laid_coble_chart_ways)], narrowed := true }
def LanesClashesUptoSaid : Prop := lanesClashesUptoRow.holds Tryd.pinned (OpenSpec.upto lanesClashesSpec)

/-- 'coblelaw06.LanesFewer', WHERE WHAT IT READS IS OF BULK AT MOST 1048576: true; the input reads as it did. -/
def lanesFewerUptoRow : OpenClaim := { program := "ytkdpmihdhiokkaadoor", sum := "3b88881f1ba729b0e45fa69b9e6f45951b5f8b939b5163b1024fc636745768c6", func := "coble/coblelaw06.LanesFewer", spec := "lanesFewer", unfollowed := true, recurses := true, named := ["coble/chart.ways"], apart := false, laid := [("coble/chart.ways", laid_coble_chart_ways)], narrowed := true }
def LanesFewerUptoSaid : Prop := lanesFewerUptoRow.holds Tryd.pinned (OpenSpec.upto lanesFewerSpec)

/-- 'coblelaw06.LanesPlanned', WHERE WHAT IT READS IS OF BULK AT MOST 1048576: true; the input reads as it did. -/
def lanesPlannedUptoRow : OpenClaim := { program := "ytkdpmihdhiokkaadoor", sum := "3b88881f1ba729b0e45fa69b9e6f45951b5f8b939b5163b1024fc636745768c6", func := "coble/coblelaw06.LanesPlanned", spec := "lanesPlanned", unfollowed := true, recurses := true, named := ["coble/chart.ways"], apart := false, laid := [("coble/chart.ways", laid_coble_chart_ways)], narrowed := true }
def LanesPlannedUptoSaid : Prop := lanesPlannedUptoRow.holds Tryd.pinned (OpenSpec.upto lanesPlannedSpec)

/-- 'coblelaw06.LanesFirst', WHERE WHAT IT READS IS OF BULK AT MOST 1048576: true; the input reads as it did. -/
def lanesFirstUptoRow : OpenClaim := { program := "ytkdpmihdhiokkaadoor", sum := "3b88881f1ba729b0e45fa69b9e6f45951b5f8b939b5163b1024fc636745768c6", func := "coble/coblelaw06.LanesFirst", spec := "lanesFirst", unfollowed := true, recurses := true, named := ["coble/chart.ways"], apart := false, laid := [("coble/chart.ways", laid_coble_chart_ways)], narrowed := true }
def LanesFirstUptoSaid : Prop := lanesFirstUptoRow.holds Tryd.pinned (OpenSpec.upto lanesFirstSpec)

/-- 'coblelaw06.LanesBlocked', WHERE WHAT IT READS IS OF BULK AT MOST 1048576: true; the input reads as it did. -/
def lanesBlockedUptoRow : OpenClaim := { program := "ytkdpmihdhiokkaadoor", sum := "3b88881f1ba729b0e45fa69b9e6f45951b5f8b939b5163b1024fc636745768c6", func := "coble/coblelaw06.LanesBlocked", spec := "lanesBlocked", unfollowed := true, recurses := true, named := ["coble/chart.ways"], apart := false, laid := [("coble/chart.ways", laid_coble_chart_ways)], narrowed := true }
def LanesBlockedUptoSaid : Prop := lanesBlockedUptoRow.holds Tryd.pinned (OpenSpec.upto lanesBlockedSpec)

end Rows
end Go.Proofs.YtkdpmihdhiokkaaDoor
