/-
  NARROWER THAN 'FOR EVERY INPUT', by the rows' own cells (each row's printed sentence says how): DriftSteps: laid · DriftNames: laid · DriftStruck: laid · DriftWithin: laid · DriftFewer: laid · DriftPlaces: laid · DriftReal: laid · DriftHope: laid · DriftLives: laid.
  DERIVED. THE GIVEN ROWS OF THIS SEAT. 9 by the template 'for every input the law returns true; each argument reads behind the call as it read before'; 0 by the template 'total and deterministic' (their statements: YtnbeembnnjdmdaaGreatDoorTotals.lean).
  GIVEN WITH THE SEED: the statements are not yours to turn. If you find one false, say at which input.
  Laid BY PROGRAM, IN A SANDBOX (cutbox-rows.mjs): the forced cells as the released guide's own fill.sh prints them over the translation dc2251113baf746f… (all of the seat's roots in one cut). By AI agents, Wed Nov 11 2026. No macro, syntax, notation, axiom, sorry.
-/
import Derived.Test.YtnbeembnnjdmdaaGreatDoorChecked
import GoSem.Claim
import GoSem.ClaimJoined
import GoSem.ClaimMapViews
import Derived.JoinedTies
import Derived.KernelRfl
namespace Go.Proofs.YtnbeembnnjdmdaaGreatDoor
/- THE CELL 'sum', in the pinned program and in every row, IS THE sha256 OF THE DUMP (.gsa) THAT YtnbeembnnjdmdaaGreatDoorProg.lean LOADS. Nothing in Lean hashes anything: it is a label: what it is worth is what the hold of that sum in a sandbox is worth. -/
noncomputable def Tryz.pinned : Pinned := { name := "ytnbeembnnjdmdaagreatdoor", sum := "dc2251113baf746f9af7dfd4cdf4be8c7cc70a7ac6e664ef734c4b7385b5956f", checked := Tryz.checked }
namespace Rows
def none {H : Type} : Left H := { results := [], args := [] }

/- WHAT THE LISTED PACKAGE-LEVEL VARIABLES READ AS WHEN THE CALL BEGINS. Each datum BY PROGRAM (the guide's laid-datum.mjs) off the statement by which the dump's own 'gosem.cut.vars' lays the variable. In a bare row this is a premise. The card (YtnbeembnnjdmdaaGreatDoorCards.lean) ties it to the program's text. -/
def laid_coble_chart_ways {H : Type} : DataW H := .agg [.agg [.lit (.int .i64 1), .lit (.int .i64 1), .lit (.int .i64 0)], .agg [.lit (.int .i64 0), .lit (.int .i64 1), .lit (.int .i64 1)], .agg [.lit (.int .i64 (-1)), .lit (.int .i64 0), .lit (.int .i64 1)], .agg [.lit (.int .i64 (-1)), .lit (.int .i64 (-1)), .lit (.int .i64 0)], .agg [.lit (.int .i64 (-1)), .lit (.int .i64 0), .lit (.int .i64 (-1))], .agg [.lit (.int .i64 0), .lit (.int .i64 1), .lit (.int .i64 (-1))]]
def laid_coble_drift_free {H : Type} : DataW H := .agg [.lit (.int .i64 0), .lit (.int .i64 (-1)), .lit (.int .i64 0)]

/-- 'coblelaw02.DriftSteps': WHATEVER THE INPUT: true; the input reads as it did. -/
def driftStepsSpec : ChangeSpec := { name := "driftSteps", fn := fun _ => fun
  | [d1, d2] => { results := [.lit (.bool true)], args := [d1, d2] }
  | _ => none }
def driftStepsRow : OpenClaim := { program := "ytnbeembnnjdmdaagreatdoor", sum := "dc2251113baf746f9af7dfd4cdf4be8c7cc70a7ac6e664ef734c4b7385b5956f", func := "coble/coblelaw02.DriftSteps", spec := "driftSteps", unfollowed := true, recurses := true, named := ["coble/chart.ways"], plainKeys := false, apart := false, laid := [("coble/chart.ways", laid_coble_chart_ways)] }
def DriftStepsSaid : Prop := driftStepsRow.holds Tryz.pinned (OpenSpec.ofChange driftStepsSpec)

/-- ITS FALSE NEIGHBOUR: 'it returns false'. Refute it at one input. -/
def driftStepsWrong : ChangeSpec := { name := "driftSteps", fn := fun _ => fun
  | [d1, d2] => { results := [.lit (.bool false)], args := [d1, d2] }
  | _ => none }
def DriftStepsWrongFalsely : Prop := driftStepsRow.holds Tryz.pinned (OpenSpec.ofChange driftStepsWrong)

/-- 'coblelaw02.DriftNames': WHATEVER THE INPUT: true; the input reads as it did. -/
def driftNamesSpec : ChangeSpec := { name := "driftNames", fn := fun _ => fun
  | [d1, d2, d3] => { results := [.lit (.bool true)], args := [d1, d2, d3] }
  | _ => none }
def driftNamesRow : OpenClaim := { program := "ytnbeembnnjdmdaagreatdoor", sum := "dc2251113baf746f9af7dfd4cdf4be8c7cc70a7ac6e664ef734c4b7385b5956f", func := "coble/coblelaw02.DriftNames", spec := "driftNames", unfollowed := true, recurses := true, named := ["coble/chart.ways", "coble/drift.free"], plainKeys := false, apart := false, laid := [("coble/chart.ways", laid_coble_chart_ways), ("coble/drift.free", laid_coble_drift_free)] }
def DriftNamesSaid : Prop := driftNamesRow.holds Tryz.pinned (OpenSpec.ofChange driftNamesSpec)

/-- ITS FALSE NEIGHBOUR: 'it returns false'. Refute it at one input. -/
def driftNamesWrong : ChangeSpec := { name := "driftNames", fn := fun _ => fun
  | [d1, d2, d3] => { results := [.lit (.bool false)], args := [d1, d2, d3] }
  | _ => none }
def DriftNamesWrongFalsely : Prop := driftNamesRow.holds Tryz.pinned (OpenSpec.ofChange driftNamesWrong)

/-- 'coblelaw02.DriftStruck': WHATEVER THE INPUT: true; the input reads as it did. -/
def driftStruckSpec : ChangeSpec := { name := "driftStruck", fn := fun _ => fun
  | [d1, d2, d3] => { results := [.lit (.bool true)], args := [d1, d2, d3] }
  | _ => none }
def driftStruckRow : OpenClaim := { program := "ytnbeembnnjdmdaagreatdoor", sum := "dc2251113baf746f9af7dfd4cdf4be8c7cc70a7ac6e664ef734c4b7385b5956f", func := "coble/coblelaw02.DriftStruck", spec := "driftStruck", unfollowed := true, recurses := true, named := ["coble/chart.ways"], plainKeys := false, apart := false, laid := [("coble/chart.ways", laid_coble_chart_ways)] }
def DriftStruckSaid : Prop := driftStruckRow.holds Tryz.pinned (OpenSpec.ofChange driftStruckSpec)

/-- ITS FALSE NEIGHBOUR: 'it returns false'. Refute it at one input. -/
def driftStruckWrong : ChangeSpec := { name := "driftStruck", fn := fun _ => fun
  | [d1, d2, d3] => { results := [.lit (.bool false)], args := [d1, d2, d3] }
  | _ => none }
def DriftStruckWrongFalsely : Prop := driftStruckRow.holds Tryz.pinned (OpenSpec.ofChange driftStruckWrong)

/-- 'coblelaw02.DriftWithin': WHATEVER THE INPUT: true; the input reads as it did. -/
def driftWithinSpec : ChangeSpec := { name := "driftWithin", fn := fun _ => fun
  | [d1, d2, d3] => { results := [.lit (.bool true)], args := [d1, d2, d3] }
  | _ => none }
def driftWithinRow : OpenClaim := { program := "ytnbeembnnjdmdaagreatdoor", sum := "dc2251113baf746f9af7dfd4cdf4be8c7cc70a7ac6e664ef734c4b7385b5956f", func := "coble/coblelaw02.DriftWithin", spec := "driftWithin", unfollowed := true, recurses := true, named := ["coble/chart.ways", "coble/drift.free"], plainKeys := false, apart := false, laid := [("coble/chart.ways", laid_coble_chart_ways), ("coble/drift.free", laid_coble_drift_free)] }
def DriftWithinSaid : Prop := driftWithinRow.holds Tryz.pinned (OpenSpec.ofChange driftWithinSpec)

/-- ITS FALSE NEIGHBOUR: 'it returns false'. Refute it at one input. -/
def driftWithinWrong : ChangeSpec := { name := "driftWithin", fn := fun _ => fun
  | [d1, d2, d3] => { results := [.lit (.bool false)], args := [d1, d2, d3] }
  | _ => none }
def DriftWithinWrongFalsely : Prop := driftWithinRow.holds Tryz.pinned (OpenSpec.ofChange driftWithinWrong)

/-- 'coblelaw02.DriftFewer': WHATEVER THE INPUT: true; the input reads as it did. -/
def driftFewerSpec : ChangeSpec := { name := "driftFewer", fn := fun _ => fun
  | [d1, d2, d3] => { results := [.lit (.bool true)], args := [d1, d2, d3] }
  | _ => none }
def driftFewerRow : OpenClaim := { program := "ytnbeembnnjdmdaagreatdoor", sum := "dc2251113baf746f9af7dfd4cdf4be8c7cc70a7ac6e664ef734c4b7385b5956f", func := "coble/coblelaw02.DriftFewer", spec := "driftFewer", unfollowed := true, recurses := true, named := ["coble/chart.ways", "coble/drift.free"], plainKeys := false, apart := false, laid := [("coble/chart.ways", laid_coble_chart_ways), ("coble/drift.free", laid_coble_drift_free)] }
def DriftFewerSaid : Prop := driftFewerRow.holds Tryz.pinned (OpenSpec.ofChange driftFewerSpec)

/-- ITS FALSE NEIGHBOUR: 'it returns false'. Refute it at one input. -/
def driftFewerWrong : ChangeSpec := { name := "driftFewer", fn := fun _ => fun
  | [d1, d2, d3] => { results := [.lit (.bool false)], args := [d1, d2, d3] }
  | _ => none }
def DriftFewerWrongFalsely : Prop := driftFewerRow.holds Tryz.pinned (OpenSpec.ofChange driftFewerWrong)

/-- 'coblelaw02.DriftPlaces': WHATEVER THE INPUT: true; the input reads as it did. -/
def driftPlacesSpec : ChangeSpec := { name := "driftPlaces", fn := fun _ => fun
  | [d1, d2, d3] => { results := [.lit (.bool true)], args := [d1, d2, d3] }
  | _ => none }
def driftPlacesRow : OpenClaim := { program := "ytnbeembnnjdmdaagreatdoor", sum := "dc2251113baf746f9af7dfd4cdf4be8c7cc70a7ac6e664ef734c4b7385b5956f", func := "coble/coblelaw02.DriftPlaces", spec := "driftPlaces", unfollowed := true, recurses := true, named := ["coble/chart.ways", "coble/drift.free"], plainKeys := false, apart := false, laid := [("coble/chart.ways", laid_coble_chart_ways), ("coble/drift.free", laid_coble_drift_free)] }
def DriftPlacesSaid : Prop := driftPlacesRow.holds Tryz.pinned (OpenSpec.ofChange driftPlacesSpec)

/-- ITS FALSE NEIGHBOUR: 'it returns false'. Refute it at one input. -/
def driftPlacesWrong : ChangeSpec := { name := "driftPlaces", fn := fun _ => fun
  | [d1, d2, d3] => { results := [.lit (.bool false)], args := [d1, d2, d3] }
  | _ => none }
def DriftPlacesWrongFalsely : Prop := driftPlacesRow.holds Tryz.pinned (OpenSpec.ofChange driftPlacesWrong)

/-- 'coblelaw02.DriftReal': WHATEVER THE INPUT: true; the input reads as it did. -/
def driftRealSpec : ChangeSpec := { name := "driftReal", fn := fun _ => fun
  | [d1, d2, d3] => { results := [.lit (.bool true)], args := [d1, d2, d3] }
  | _ => none }
def driftRealRow : OpenClaim := { program := "ytnbeembnnjdmdaagreatdoor", sum := "dc2251113baf746f9af7dfd4cdf4be8c7cc70a7ac6e664ef734c4b7385b5956f", func := "coble/coblelaw02.DriftReal", spec := "driftReal", unfollowed := true, recurses := true, named := ["coble/chart.ways", "coble/drift.free"], plainKeys := false, apart := false, laid := [("coble/chart.ways", laid_coble_chart_ways), ("coble/drift.free", laid_coble_drift_free)] }
def DriftRealSaid : Prop := driftRealRow.holds Tryz.pinned (OpenSpec.ofChange driftRealSpec)

/-- ITS FALSE NEIGHBOUR: 'it returns false'. Refute it at one input. -/
def driftRealWrong : ChangeSpec := { name := "driftReal", fn := fun _ => fun
  | [d1, d2, d3] => { results := [.lit (.bool false)], args := [d1, d2, d3] }
  | _ => none }
def DriftRealWrongFalsely : Prop := driftRealRow.holds Tryz.pinned (OpenSpec.ofChange driftRealWrong)

/-- 'coblelaw02.DriftHope': WHATEVER THE INPUT: true; the input reads as it did. -/
def driftHopeSpec : ChangeSpec := { name := "driftHope", fn := fun _ => fun
  | [d1, d2, d3] => { results := [.lit (.bool true)], args := [d1, d2, d3] }
  | _ => none }
def driftHopeRow : OpenClaim := { program := "ytnbeembnnjdmdaagreatdoor", sum := "dc2251113baf746f9af7dfd4cdf4be8c7cc70a7ac6e664ef734c4b7385b5956f", func := "coble/coblelaw02.DriftHope", spec := "driftHope", unfollowed := true, recurses := true, named := ["coble/chart.ways", "coble/drift.free"], plainKeys := false, apart := false, laid := [("coble/chart.ways", laid_coble_chart_ways), ("coble/drift.free", laid_coble_drift_free)] }
def DriftHopeSaid : Prop := driftHopeRow.holds Tryz.pinned (OpenSpec.ofChange driftHopeSpec)

/-- ITS FALSE NEIGHBOUR: 'it returns false'. Refute it at one input. -/
def driftHopeWrong : ChangeSpec := { name := "driftHope", fn := fun _ => fun
  | [d1, d2, d3] => { results := [.lit (.bool false)], args := [d1, d2, d3] }
  | _ => none }
def DriftHopeWrongFalsely : Prop := driftHopeRow.holds Tryz.pinned (OpenSpec.ofChange driftHopeWrong)

/-- 'coblelaw02.DriftLives': WHATEVER THE INPUT: true; the input reads as it did. -/
def driftLivesSpec : ChangeSpec := { name := "driftLives", fn := fun _ => fun
  | [d1, d2, d3] => { results := [.lit (.bool true)], args := [d1, d2, d3] }
  | _ => none }
def driftLivesRow : OpenClaim := { program := "ytnbeembnnjdmdaagreatdoor", sum := "dc2251113baf746f9af7dfd4cdf4be8c7cc70a7ac6e664ef734c4b7385b5956f", func := "coble/coblelaw02.DriftLives", spec := "driftLives", unfollowed := true, recurses := true, named := ["coble/chart.ways", "coble/drift.free"], plainKeys := false, apart := false, laid := [("coble/chart.ways", laid_coble_chart_ways), ("coble/drift.free", laid_coble_drift_free)] }
def DriftLivesSaid : Prop := driftLivesRow.holds Tryz.pinned (OpenSpec.ofChange driftLivesSpec)

/-- ITS FALSE NEIGHBOUR: 'it returns false'. Refute it at one input. -/
def driftLivesWrong : ChangeSpec := { name := "driftLives", fn := fun _ => fun
  | [d1, d2, d3] => { results := [.lit (.bool false)], args := [d1, d2, d3] }
  | _ => none }
def DriftLivesWrongFalsely : Prop := driftLivesRow.holds Tryz.pinned (OpenSpec.ofChange driftLivesWrong)

/- THE SECOND FORM. 'bulk': how many values and letters a reading holds, each counted each time it is reached (what is shared counts as often as it is met; a slice's spare places count too). A statement '..UptoSaid' is the law's where the arguments, and the package variables that the reading takes, are together of bulk at most 1048576: NARROWER than '..Said'. Prove '..Said' where nothing that the law and all that it calls make is longer than what came in: it says more and counts as full. Else prove '..UptoSaid'. A law counts once. -/
mutual
def uptoBulk {H : Type} : DataW H → Nat
  | .lit (.string bytes) => bytes.length + 1
  | .lit _ => 1
  | .nil => 1
  | .ptr d => uptoBulk d + 1
  | .slice elems spare => uptoBulkAll elems + uptoBulkAll spare + 1
  | .agg parts => uptoBulkAll parts + 1
  | .iface _ d => uptoBulk d + 1
  | .map entries => uptoBulkEntries entries + 1
  | .held _ => 1
def uptoBulkAll {H : Type} : List (DataW H) → Nat
  | [] => 0
  | d :: r => uptoBulk d + uptoBulkAll r
def uptoBulkEntries {H : Type} : List (Lit × DataW H) → Nat
  | [] => 0
  | x :: r => uptoBulkEntry x + uptoBulkEntries r
def uptoBulkEntry {H : Type} : Lit × DataW H → Nat
  | (.string bytes, d) => bytes.length + uptoBulk d + 1
  | (_, d) => uptoBulk d + 1
 end
def uptoSmall : (H : Type) → List (DataW H) → Bool := fun _ ds => decide (uptoBulkAll ds ≤ 1048576)
def OpenSpec.upto (s : _root_.Go.ChangeSpec) : _root_.Go.OpenSpec := { _root_.Go.OpenSpec.ofChange s with cond := some uptoSmall }

/-- 'coblelaw02.DriftSteps', WHERE WHAT IT READS IS OF BULK AT MOST 1048576: true; the input reads as it did. -/
def driftStepsUptoRow : OpenClaim := { program := "ytnbeembnnjdmdaagreatdoor", sum := "dc2251113baf746f9af7dfd4cdf4be8c7cc70a7ac6e664ef734c4b7385b5956f", func := "coble/coblelaw02.DriftSteps", spec := "driftSteps", unfollowed := true, recurses := true, named := ["coble/chart.ways"], plainKeys := false, apart := false, laid := [("coble/chart.ways", laid_coble_chart_ways)], narrowed := true }
def DriftStepsUptoSaid : Prop := driftStepsUptoRow.holds Tryz.pinned (OpenSpec.upto driftStepsSpec)

/-- 'coblelaw02.DriftNames', WHERE WHAT IT READS IS OF BULK AT MOST 1048576: true; the input reads as it did. -/
def driftNamesUptoRow : OpenClaim := { program := "ytnbeembnnjdmdaagreatdoor", sum := "dc2251113baf746f9af7dfd4cdf4be8c7cc70a7ac6e664ef734c4b7385b5956f", func := "coble/coblelaw02.DriftNames", spec := "driftNames", unfollowed := true, recurses := true, named := ["coble/chart.ways", "coble/drift.free"], plainKeys := false, apart := false, laid := [("coble/chart.ways", laid_coble_chart_ways), ("coble/drift.free", laid_coble_drift_free)], narrowed := true }
def DriftNamesUptoSaid : Prop := driftNamesUptoRow.holds Tryz.pinned (OpenSpec.upto driftNamesSpec)

/-- 'coblelaw02.DriftStruck', WHERE WHAT IT READS IS OF BULK AT MOST 1048576: true; the input reads as it did. -/
def driftStruckUptoRow : OpenClaim := { program := "ytnbeembnnjdmdaagreatdoor", sum := "dc2251113baf746f9af7dfd4cdf4be8c7cc70a7ac6e664ef734c4b7385b5956f", func := "coble/coblelaw02.DriftStruck", spec := "driftStruck", unfollowed := true, recurses := true, named := ["coble/chart.ways"], plainKeys := false, apart := false, laid := [("coble/chart.ways", laid_coble_chart_ways)], narrowed := true }
def DriftStruckUptoSaid : Prop := driftStruckUptoRow.holds Tryz.pinned (OpenSpec.upto driftStruckSpec)

/-- 'coblelaw02.DriftWithin', WHERE WHAT IT READS IS OF BULK AT MOST 1048576: true; the input reads as it did. -/
def driftWithinUptoRow : OpenClaim := { program := "ytnbeembnnjdmdaagreatdoor", sum := "dc2251113baf746f9af7dfd4cdf4be8c7cc70a7ac6e664ef734c4b7385b5956f", func := "coble/coblelaw02.DriftWithin", spec := "driftWithin", unfollowed := true, recurses := true, named := ["coble/chart.ways", "coble/drift.free"], plainKeys := false, apart := false, laid := [("coble/chart.ways", laid_coble_chart_ways), ("coble/drift.free", laid_coble_drift_free)], narrowed := true }
def DriftWithinUptoSaid : Prop := driftWithinUptoRow.holds Tryz.pinned (OpenSpec.upto driftWithinSpec)

/-- 'coblelaw02.DriftFewer', WHERE WHAT IT READS IS OF BULK AT MOST 1048576: true; the input reads as it did. -/
def driftFewerUptoRow : OpenClaim := { program := "ytnbeembnnjdmdaagreatdoor", sum := "dc2251113baf746f9af7dfd4cdf4be8c7cc70a7ac6e664ef734c4b7385b5956f", func := "coble/coblelaw02.DriftFewer", spec := "driftFewer", unfollowed := true, recurses := true, named := ["coble/chart.ways", "coble/drift.free"], plainKeys := false, apart := false, laid := [("coble/chart.ways", laid_coble_chart_ways), ("coble/drift.free", laid_coble_drift_free)], narrowed := true }
def DriftFewerUptoSaid : Prop := driftFewerUptoRow.holds Tryz.pinned (OpenSpec.upto driftFewerSpec)

/-- 'coblelaw02.DriftPlaces', WHERE WHAT IT READS IS OF BULK AT MOST 1048576: true; the input reads as it did. -/
def driftPlacesUptoRow : OpenClaim := { program := "ytnbeembnnjdmdaagreatdoor", sum := "dc2251113baf746f9af7dfd4cdf4be8c7cc70a7ac6e664ef734c4b7385b5956f", func := "coble/coblelaw02.DriftPlaces", spec := "driftPlaces", unfollowed := true, recurses := true, named := ["coble/chart.ways", "coble/drift.free"], plainKeys := false, apart := false, laid := [("coble/chart.ways", laid_coble_chart_ways), ("coble/drift.free", laid_coble_drift_free)], narrowed := true }
def DriftPlacesUptoSaid : Prop := driftPlacesUptoRow.holds Tryz.pinned (OpenSpec.upto driftPlacesSpec)

/-- 'coblelaw02.DriftReal', WHERE WHAT IT READS IS OF BULK AT MOST 1048576: true; the input reads as it did. -/
def driftRealUptoRow : OpenClaim := { program := "ytnbeembnnjdmdaagreatdoor", sum := "dc2251113baf746f9af7dfd4cdf4be8c7cc70a7ac6e664ef734c4b7385b5956f", func := "coble/coblelaw02.DriftReal", spec := "driftReal", unfollowed := true, recurses := true, named := ["coble/chart.ways", "coble/drift.free"], plainKeys := false, apart := false, laid := [("coble/chart.ways", laid_coble_chart_ways), ("coble/drift.free", laid_coble_drift_free)], narrowed := true }
def DriftRealUptoSaid : Prop := driftRealUptoRow.holds Tryz.pinned (OpenSpec.upto driftRealSpec)

/-- 'coblelaw02.DriftHope', WHERE WHAT IT READS IS OF BULK AT MOST 1048576: true; the input reads as it did. -/
def driftHopeUptoRow : OpenClaim := { program := "ytnbeembnnjdmdaagreatdoor", sum := "dc2251113baf746f9af7dfd4cdf4be8c7cc70a7ac6e664ef734c4b7385b5956f", func := "coble/coblelaw02.DriftHope", spec := "driftHope", unfollowed := true, recurses := true, named := ["coble/chart.ways", "coble/drift.free"], plainKeys := false, apart := false, laid := [("coble/chart.ways", laid_coble_chart_ways), ("coble/drift.free", laid_coble_drift_free)], narrowed := true }
def DriftHopeUptoSaid : Prop := driftHopeUptoRow.holds Tryz.pinned (OpenSpec.upto driftHopeSpec)

/-- 'coblelaw02.DriftLives', WHERE WHAT IT READS IS OF BULK AT MOST 1048576: true; the input reads as it did. -/
def driftLivesUptoRow : OpenClaim := { program := "ytnbeembnnjdmdaagreatdoor", sum := "dc2251113baf746f9af7dfd4cdf4be8c7cc70a7ac6e664ef734c4b7385b5956f", func := "coble/coblelaw02.DriftLives", spec := "driftLives", unfollowed := true, recurses := true, named := ["coble/chart.ways", "coble/drift.free"], plainKeys := false, apart := false, laid := [("coble/chart.ways", laid_coble_chart_ways), ("coble/drift.free", laid_coble_drift_free)], narrowed := true }
def DriftLivesUptoSaid : Prop := driftLivesUptoRow.holds Tryz.pinned (OpenSpec.upto driftLivesSpec)

end Rows
end Go.Proofs.YtnbeembnnjdmdaaGreatDoor
