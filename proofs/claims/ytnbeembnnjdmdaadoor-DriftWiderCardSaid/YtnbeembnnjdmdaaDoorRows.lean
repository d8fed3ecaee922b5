/-
  NARROWER THAN 'FOR EVERY INPUT', by the rows' own cells (each row's printed sentence says how): DriftWider: laid · DriftNamed: laid.
  DERIVED. THE GIVEN ROWS OF THIS SEAT. 2 by the template 'for every input the law returns true; each argument reads behind the call as it read before'; 0 by the template 'total and deterministic' (their statements: YtnbeembnnjdmdaaDoorTotals.lean).
  GIVEN WITH THE SEED: the statements are not yours to turn. If you find one false, say at which input.
  Laid BY PROGRAM, IN A SANDBOX (cutbox-rows.mjs): the forced cells as the released guide's own fill.sh prints them over the translation ace00f959808b69d… (all of the seat's roots in one cut). By AI agents, Wed Nov 11 2026. No macro, syntax, notation, axiom, sorry.
-/
import Derived.Test.YtnbeembnnjdmdaaDoorChecked
import GoSem.Claim
import GoSem.ClaimJoined
import GoSem.ClaimMapViews
import Derived.JoinedTies
import Derived.KernelRfl
namespace Go.Proofs.YtnbeembnnjdmdaaDoor
/- THE CELL 'sum', in the pinned program and in every row, IS THE sha256 OF THE DUMP (.gsa) THAT YtnbeembnnjdmdaaDoorProg.lean LOADS. Nothing in Lean hashes anything: it is a label: what it is worth is what the hold of that sum in a sandbox is worth. -/
noncomputable def Tryd.pinned : Pinned := { name := "ytnbeembnnjdmdaadoor", sum := "ace00f959808b69d6d30819bdf8ca2d1091931a6f1144b9574407f7d9345ab5a", checked := Tryd.checked }
namespace Rows
def none {H : Type} : Left H := { results := [], args := [] }

/- WHAT THE LISTED PACKAGE-LEVEL VARIABLES READ AS WHEN THE CALL BEGINS. Each datum BY PROGRAM (the guide's laid-datum.mjs) off the statement by which the dump's own 'gosem.cut.vars' lays the variable. In a bare row this is a premise. The card (YtnbeembnnjdmdaaDoorCards.lean) ties it to the program's text. -/
def laid_coble_chart_ways {H : Type} : DataW H := .agg [.agg [.lit (.int .i64 1), .lit (.int .i64 1), .lit (.int .i64 0)], .agg [.lit (.int .i64 0), .lit (.int .i64 1), .lit (.int .i64 1)], .agg [.lit (.int .i64 (-1)), .lit (.int .i64 0), .lit (.int .i64 1)], .agg [.lit (.int .i64 (-1)), .lit (.int .i64 (-1)), .lit (.int .i64 0)], .agg [.lit (.int .i64 (-1)), .lit (.int .i64 0), .lit (.int .i64 (-1))], .agg [.lit (.int .i64 0), .lit (.int .i64 1), .lit (.int .i64 (-1))]]
def laid_coble_drift_free {H : Type} : DataW H := .agg [.lit (.int .i64 0), .lit (.int .i64 (-1)), .lit (.int .i64 0)]

/-- 'coblelaw02.DriftWider': WHATEVER THE INPUT: true; the input reads as it did. -/
def driftWiderSpec : ChangeSpec := { name := "driftWider", fn := fun _ => fun
  | [d1, d2, d3] => { results := [.lit (.bool true)], args := [d1, d2, d3] }
  | _ => none }
def driftWiderRow : OpenClaim := { program := "ytnbeembnnjdmdaadoor", sum := "ace00f959808b69d6d30819bdf8ca2d1091931a6f1144b9574407f7d9345ab5a", func := "coble/coblelaw02.DriftWider", spec := "driftWider", unfollowed := true, recurses := true, named := ["coble/chart.ways", "coble/drift.free"], plainKeys := false, apart := false, laid := [("coble/chart.ways", laid_coble_chart_ways), ("coble/drift.free", laid_coble_drift_free)] }
def DriftWiderSaid : Prop := driftWiderRow.holds Tryd.pinned (OpenSpec.ofChange driftWiderSpec)

/-- ITS FALSE NEIGHBOUR: 'it returns false'. Refute it at one input. -/
def driftWiderWrong : ChangeSpec := { name := "driftWider", fn := fun _ => fun
  | [d1, d2, d3] => { results := [.lit (.bool false)], args := [d1, d2, d3] }
  | _ => none }
def DriftWiderWrongFalsely : Prop := driftWiderRow.holds Tryd.pinned (OpenSpec.ofChange driftWiderWrong)

/-- 'coblelaw02.DriftNamed': WHATEVER THE INPUT: true; the input reads as it did. -/
def driftNamedSpec : ChangeSpec := { name := "driftNamed", fn := fun _ => fun
  | [d1, d2, d3] => { results := [.lit (.bool true)], args := [d1, d2, d3] }
  | _ => none }
def driftNamedRow : OpenClaim := { program := "ytnbeembnnjdmdaadoor", sum := "ace00f959808b69d6d30819bdf8ca2d1091931a6f1144b9574407f7d9345ab5a", func := "coble/coblelaw02.DriftNamed", spec := "driftNamed", unfollowed := true, recurses := true, named := ["coble/chart.ways", "coble/drift.free"], plainKeys := false, apart := false, laid := [("coble/chart.ways", laid_coble_chart_ways), ("coble/drift.free", laid_coble_drift_free)] }
def DriftNamedSaid : Prop := driftNamedRow.holds Tryd.pinned (OpenSpec.ofChange driftNamedSpec)

/-- ITS FALSE NEIGHBOUR: 'it returns false'. Refute it at one input. -/
def driftNamedWrong : ChangeSpec := { name := "driftNamed", fn := fun _ => fun
  | [d1, d2, d3] => { results := [.lit (.bool false)], args := [d1, d2, d3] }
  | _ => none }
def DriftNamedWrongFalsely : Prop := driftNamedRow.holds Tryd.pinned (OpenSpec.ofChange driftNamedWrong)

/- THE SECOND FORM. 'bulk': how many values and letters a reading holds, each counted each time it is reached (what is shared counts as often as it is met; a slice's spare places count too). A statement '..UptoSaid' is the law's where the arguments, and the package variables that the reading takes, are together of bulk at most 1048576: NARROWER than '..Said'. Prove '..Said' where nothing that the law and all that it calls make is longer than what came in: it says more and counts as full. Else prove '..UptoSaid'. A law counts once. -/
mutual
def uptoBulk {H : Type} : DataW H → Nat
  | .lit (.string bytes) => bytes.length + 1
  | .lit _ => 1
  | .nil => 1
  | .ptr d => uptoBulk d + 1
  | .slice elems spare => uptoBulkAll elems + uptoBulkAll spare + 1
  | .agg parts => uptoBulkAll parts + 1
  | .iface _ d => uptoBulk d + 1
  | .map entries => uptoBulkEntries entries + 1
  | .held _ => 1
def uptoBulkAll {H : Type} : List (DataW H) → Nat
  | [] => 0
  | d :: r => uptoBulk d + uptoBulkAll r
def uptoBulkEntries {H : Type} : List (Lit × DataW H) → Nat
  | [] => 0
  | x :: r => uptoBulkEntry x + uptoBulkEntries r
def uptoBulkEntry {H : Type} : Lit × DataW H → Nat
  | (.string bytes, d) => bytes.length + uptoBulk d + 1
  | (_, d) => uptoBulk d + 1
 end
def uptoSmall : (H : Type) → List (DataW H) → Bool := fun _ ds => decide (uptoBulkAll ds ≤ 1048576)
def OpenSpec.upto (s : _root_.Go.ChangeSpec) : _root_.Go.OpenSpec := { _root_.Go.OpenSpec.ofChange s with cond := some uptoSmall }

/-- 'coblelaw02.DriftWider', WHERE WHAT IT READS IS OF BULK AT MOST 1048576: true; the input reads as it did. -/
def driftWiderUptoRow : OpenClaim := { program := "ytnbeembnnjdmdaadoor", sum := "ace00f959808b69d6d30819bdf8ca2d1091931a6f1144b9574407f7d9345ab5a", func := "coble/coblelaw02.DriftWider", spec := "driftWider", unfollowed := true, recurses := true, named := ["coble/chart.ways", "coble/drift.free"], plainKeys := false, apart := false, laid := [("coble/chart.ways", laid_coble_chart_ways), ("coble/drift.free", laid_coble_drift_free)], narrowed := true }
def DriftWiderUptoSaid : Prop := driftWiderUptoRow.holds Tryd.pinned (OpenSpec.upto driftWiderSpec)

/-- 'coblelaw02.DriftNamed', WHERE WHAT IT READS IS OF BULK AT MOST 1048576: true; the input reads as it did. -/
def driftNamedUptoRow : OpenClaim := { program := "ytnbeembnnjdmdaadoor", sum := "ace00f959808b69d6d30819bdf8ca2d1091931a6f1144b9574407f7d9345ab5a", func := "coble/coblelaw02.DriftNamed", spec := "driftNamed", unfollowed := true, recurses := true, named := ["coble/chart.ways", "coble/drift.free"], plainKeys := false, apart := false, laid := [("coble/chart.ways", laid_coble_chart_ways), ("coble/drift.free", laid_coble_drift_free)], narrowed := true }
def DriftNamedUptoSaid : Prop := driftNamedUptoRow.holds Tryd.pinned (OpenSpec.upto driftNamedSpec)

end Rows
end Go.Proofs.YtnbeembnnjdmdaaDoor
