/-
  NARROWER THAN 'FOR EVERY INPUT', by the rows' own cells (each row's printed sentence says how): RelaySent: laid · RelayRuns: laid · RelayLosses: laid · RelayTwice: laid · RelaySettles: laid.
  DERIVED. THE GIVEN ROWS OF THIS SEAT. 5 by the template 'for every input the law returns true; each argument reads behind the call as it read before'; 0 by the template 'total and deterministic' (their statements: YtbjggnecfppjgaaDoorTotals.lean).
  GIVEN WITH THE SEED: the statements are not yours to turn. If you find one false, say at which input.
  Laid BY PROGRAM, IN A SANDBOX (cutbox-rows.mjs): the forced cells as the released guide's own fill.sh prints them over the translation 53109b30f0083096… (all of the seat's roots in one cut). By AI agents, Wed Nov 11 2026. No macro, syntax, notation, axiom, sorry.
-/
import Derived.Test.YtbjggnecfppjgaaDoorChecked
import GoSem.PinnedTables
import GoSem.Claim
import GoSem.ClaimJoined
import GoSem.ClaimMapViews
import Derived.JoinedTies
import Derived.KernelRfl
namespace Go.Proofs.YtbjggnecfppjgaaDoor
/- THE CELL 'sum', in the pinned program and in every row, IS THE sha256 OF THE DUMP (.gsa) THAT YtbjggnecfppjgaaDoorProg.lean LOADS. Nothing in Lean hashes anything: it is a label: what it is worth is what the hold of that sum in a sandbox is worth. -/
noncomputable def Tryd.pinned : Pinned := { name := "ytbjggnecfppjgaadoor", sum := "53109b30f00830963064a5f09e0f725c161bcb04b07359090d6d79c3d7cdc4e5", checked := Tryd.checked }
namespace Rows
def none {H : Type} : Left H := { results := [], args := [] }

/- WHAT THE LISTED PACKAGE-LEVEL VARIABLES READ AS WHEN THE CALL BEGINS. Each datum BY PROGRAM (the guide's laid-datum.mjs) off the statement by which the dump's own 'gosem.cut.vars' lays the variable. In a bare row this is a premise. The card (YtbjggnecfppjgaaDoorCards.lean) ties it to the program's text. -/
def laid_unicode_utf8_acceptRanges {H : Type} : DataW H := .agg [.agg [.lit (.int .u8 128), .lit (.int .u8 191)], .agg [.lit (.int .u8 160), .lit (.int .u8 191)], .agg [.lit (.int .u8 128), .lit (.int .u8 159)], .agg [.lit (.int .u8 144), .lit (.int .u8 191)], .agg [.lit (.int .u8 128), .lit (.int .u8 143)], .agg [.lit (.int .u8 0), .lit (.int .u8 0)], .agg [.lit (.int .u8 0), .lit (.int .u8 0)], .agg [.lit (.int .u8 0), .lit (.int .u8 0)], .agg [.lit (.int .u8 0), .lit (.int .u8 0)], .agg [.lit (.int .u8 0), .lit (.int .u8 0)], .agg [.lit (.int .u8 0), .lit (.int .u8 0)], .agg [.lit (.int .u8 0), .lit (.int .u8 0)], .agg [.lit (.int .u8 0), .lit (.int .u8 0)], .agg [.lit (.int .u8 0), .lit (.int .u8 0)], .agg [.lit (.int .u8 0), .lit (.int .u8 0)], .agg [.lit (.int .u8 0), .lit (.int .u8 0)]]
/-- One of Go's own tables, pinned by name: the form's constant. -/
def laid_unicode_utf8_first : DataW Unit := Go.Pinned.utf8First

/-- 'coblelaw10.RelaySent': WHATEVER THE INPUT: true; the input reads as it did. -/
def relaySentSpec : ChangeSpec := { name := "relaySent", fn := fun _ => fun
  | [d1, d2, d3] => { results := [.lit (.bool true)], args := [d1, d2, d3] }
  | _ => none }
def relaySentRow : OpenClaim := { program := "ytbjggnecfppjgaadoor", sum := "53109b30f00830963064a5f09e0f725c161bcb04b07359090d6d79c3d7cdc4e5", func := "coble/coblelaw10.RelaySent", spec := "relaySent", inPlace := ["internal/bytealg.IndexByteString", "internal/bytealg.IndexString"], unfollowed := true, recurses := true, named := ["unicode/utf8.first", "unicode/utf8.acceptRanges", "internal/bytealg.MaxLen"], plainKeys := false, apart := false, laid := [("unicode/utf8.acceptRanges", laid_unicode_utf8_acceptRanges), ("unicode/utf8.first", laid_unicode_utf8_first)] }
def RelaySentSaid : Prop := relaySentRow.holds Tryd.pinned (OpenSpec.ofChange relaySentSpec)

/-- ITS FALSE NEIGHBOUR: 'it returns false'. Refute it at one input. -/
def relaySentWrong : ChangeSpec := { name := "relaySent", fn := fun _ => fun
  | [d1, d2, d3] => { results := [.lit (.bool false)], args := [d1, d2, d3] }
  | _ => none }
def RelaySentWrongFalsely : Prop := relaySentRow.holds Tryd.pinned (OpenSpec.ofChange relaySentWrong)

/-- 'coblelaw10.RelayRuns': WHATEVER THE INPUT: true; the input reads as it did. -/
def relayRunsSpec : ChangeSpec := { name := "relayRuns", fn := fun _ => fun
  | [d1, d2, d3] => { results := [.lit (.bool true)], args := [d1, d2, d3] }
  | _ => none }
def relayRunsRow : OpenClaim := { program := "ytbjggnecfppjgaadoor", sum := "53109b30f00830963064a5f09e0f725c161bcb04b07359090d6d79c3d7cdc4e5", func := "coble/coblelaw10.RelayRuns", spec := "relayRuns", inPlace := ["internal/bytealg.IndexByteString", "internal/bytealg.IndexString"], unfollowed := true, recurses := true, named := ["unicode/utf8.first", "unicode/utf8.acceptRanges", "internal/bytealg.MaxLen"], plainKeys := false, apart := false, laid := [("unicode/utf8.acceptRanges", laid_unicode_utf8_acceptRanges), ("unicode/utf8.first", laid_unicode_utf8_first)] }
def RelayRunsSaid : Prop := relayRunsRow.holds Tryd.pinned (OpenSpec.ofChange relayRunsSpec)

/-- ITS FALSE NEIGHBOUR: 'it returns false'. Refute it at one input. -/
def relayRunsWrong : ChangeSpec := { name := "relayRuns", fn := fun _ => fun
  | [d1, d2, d3] => { results := [.lit (.bool false)], args := [d1, d2, d3] }
  | _ => none }
def RelayRunsWrongFalsely : Prop := relayRunsRow.holds Tryd.pinned (OpenSpec.ofChange relayRunsWrong)

/-- 'coblelaw10.RelayLosses': WHATEVER THE INPUT: true; the input reads as it did. -/
def relayLossesSpec : ChangeSpec := { name := "relayLosses", fn := fun _ => fun
  | [d1, d2, d3] => { results := [.lit (.bool true)], args := [d1, d2, d3] }
  | _ => none }
def relayLossesRow : OpenClaim := { program := "ytbjggnecfppjgaadoor", sum := "53109b30f00830963064a5f09e0f725c161bcb04b07359090d6d79c3d7cdc4e5", func := "coble/coblelaw10.RelayLosses", spec := "relayLosses", inPlace := ["internal/bytealg.IndexByteString", "internal/bytealg.IndexString"], unfollowed := true, recurses := true, named := ["unicode/utf8.first", "unicode/utf8.acceptRanges", "internal/bytealg.MaxLen"], plainKeys := false, apart := false, laid := [("unicode/utf8.acceptRanges", laid_unicode_utf8_acceptRanges), ("unicode/utf8.first", laid_unicode_utf8_first)] }
def RelayLossesSaid : Prop := relayLossesRow.holds Tryd.pinned (OpenSpec.ofChange relayLossesSpec)

/-- ITS FALSE NEIGHBOUR: 'it returns false'. Refute it at one input. -/
def relayLossesWrong : ChangeSpec := { name := "relayLosses", fn := fun _ => fun
  | [d1, d2, d3] => { results := [.lit (.bool false)], args := [d1, d2, d3] }
  | _ => none }
def RelayLossesWrongFalsely : Prop := relayLossesRow.holds Tryd.pinned (OpenSpec.ofChange relayLossesWrong)

/-- 'coblelaw10.RelayTwice': WHATEVER THE INPUT: true; the input reads as it did. -/
def relayTwiceSpec : ChangeSpec := { name := "relayTwice", fn := fun _ => fun
  | [d1, d2, d3] => { results := [.lit (.bool true)], args := [d1, d2, d3] }
  | _ => none }
def relayTwiceRow : OpenClaim := { program := "ytbjggnecfppjgaadoor", sum := "53109b30f00830963064a5f09e0f725c161bcb04b07359090d6d79c3d7cdc4e5", func := "coble/coblelaw10.RelayTwice", spec := "relayTwice", inPlace := ["internal/bytealg.IndexByteString", "internal/bytealg.IndexString"], unfollowed := true, recurses := true, named := ["unicode/utf8.first", "unicode/utf8.acceptRanges", "internal/bytealg.MaxLen"], plainKeys := false, apart := false, laid := [("unicode/utf8.acceptRanges", laid_unicode_utf8_acceptRanges), ("unicode/utf8.first", laid_unicode_utf8_first)] }
def RelayTwiceSaid : Prop := relayTwiceRow.holds Tryd.pinned (OpenSpec.ofChange relayTwiceSpec)

/-- ITS FALSE NEIGHBOUR: 'it returns false'. Refute it at one input. -/
def relayTwiceWrong : ChangeSpec := { name := "relayTwice", fn := fun _ => fun
  | [d1, d2, d3] => { results := [.lit (.bool false)], args := [d1, d2, d3] }
  | _ => none }
def RelayTwiceWrongFalsely : Prop := relayTwiceRow.holds Tryd.pinned (OpenSpec.ofChange relayTwiceWrong)

/-- 'coblelaw10.RelaySettles': WHATEVER THE INPUT: true; the input reads as it did. -/
def relaySettlesSpec : ChangeSpec := { name := "relaySettles", fn := fun _ => fun
  | [d1, d2, d3] => { results := [.lit (.bool true)], args := [d1, d2, d3] }
  | _ => none }
def relaySettlesRow : OpenClaim := { program := "ytbjggnecfppjgaadoor", sum := "53109b30f00830963064a5f09e0f725c161bcb04b07359090d6d79c3d7cdc4e5", func := "coble/coblelaw10.RelaySettles", spec := "relaySettles", inPlace := ["internal/bytealg.IndexByteString", "internal/bytealg.IndexString"], unfollowed := true, recurses := true, named := ["unicode/utf8.first", "unicode/utf8.acceptRanges", "internal/bytealg.MaxLen"], plainKeys := false, apart := false, laid := [("unicode/utf8.acceptRanges", laid_unicode_utf8_acceptRanges), ("unicode/utf8.first", laid_unicode_utf8_first)] }
def RelaySettlesSaid : Prop := relaySettlesRow.holds Tryd.pinned (OpenSpec.ofChange relaySettlesSpec)

/-- ITS FALSE NEIGHBOUR: 'it returns false'. Refute it at one input. -/
def relaySettlesWrong : ChangeSpec := { name := "relaySettles", fn := fun _ => fun
  | [d1, d2, d3] => { results := [.lit (.bool false)], args := [d1, d2, d3] }
  | _ => none }
def RelaySettlesWrongFalsely : Prop := relaySettlesRow.holds Tryd.pinned (OpenSpec.ofChange relaySettlesWrong)

/- THE SECOND FORM. 'bulk': how many values and letters a reading holds, each counted each time it is reached (what is shared counts as often as it is met; a slice's spare places count too). A statement '..UptoSaid' is the law's where the arguments, and the package variables that the reading takes, are together of bulk at most 1048576: NARROWER than '..Said'. Prove '..Said' where nothing that the law and all that it calls make is longer than what came in: it says more and counts as full. Else prove '..UptoSaid'. A law counts once. -/
mutual
def uptoBulk {H : Type} : DataW H → Nat
  | .lit (.string bytes) => bytes.length + 1
  | .lit _ => 1
  | .nil => 1
  | .ptr d => uptoBulk d + 1
  | .slice elems spare => uptoBulkAll elems + uptoBulkAll spare + 1
  | .agg parts => uptoBulkAll parts + 1
  | .iface _ d => uptoBulk d + 1
  | .map entries => uptoBulkEntries entries + 1
  | .held _ => 1
def uptoBulkAll {H : Type} : List (DataW H) → Nat
  | [] => 0
  | d :: r => uptoBulk d + uptoBulkAll r
def uptoBulkEntries {H : Type} : List (Lit × DataW H) → Nat
  | [] => 0
  | x :: r => uptoBulkEntry x + uptoBulkEntries r
def uptoBulkEntry {H : Type} : Lit × DataW H → Nat
  | (.string bytes, d) => bytes.length + uptoBulk d + 1
  | (_, d) => uptoBulk d + 1
 end
def uptoSmall : (H : Type) → List (DataW H) → Bool := fun _ ds => decide (uptoBulkAll ds ≤ 1048576)
def OpenSpec.upto (s : _root_.Go.ChangeSpec) : _root_.Go.OpenSpec := { _root_.Go.OpenSpec.ofChange s with cond := some uptoSmall }

/-- 'coblelaw10.RelaySent', WHERE WHAT IT READS IS OF BULK AT MOST 1048576: true; the input reads as it did. -/
def relaySentUptoRow : OpenClaim := { program := "ytbjggnecfppjgaadoor", sum := "53109b30f00830963064a5f09e0f725c161bcb04b07359090d6d79c3d7cdc4e5", func := "coble/coblelaw10.RelaySent", spec := "relaySent", inPlace := ["internal/bytealg.IndexByteString", "internal/bytealg.IndexString"], unfollowed := true, recurses := true, named := ["unicode/utf8.first", "unicode/utf8.acceptRanges", "internal/bytealg.MaxLen"], plainKeys := false, apart := false, laid := [("unicode/utf8.acceptRanges", laid_unicode_utf8_acceptRanges), ("unicode/utf8.first", laid_unicode_utf8_first)], narrowed := true }
def RelaySentUptoSaid : Prop := relaySentUptoRow.holds Tryd.pinned (OpenSpec.upto relaySentSpec)

/-- 'coblelaw10.RelayRuns', WHERE WHAT IT READS IS OF BULK AT MOST 1048576: true; the input reads as it did. -/
def relayRunsUptoRow : OpenClaim := { program := "ytbjggnecfppjgaadoor", sum := "53109b30f00830963064a5f09e0f725c161bcb04b07359090d6d79c3d7cdc4e5", func := "coble/coblelaw10.RelayRuns", spec := "relayRuns", inPlace := ["internal/bytealg.IndexByteString", "internal/bytealg.IndexString"], unfollowed := true, recurses := true, named := ["unicode/utf8.first", "unicode/utf8.acceptRanges", "internal/bytealg.MaxLen"], plainKeys := false, apart := false, laid := [("unicode/utf8.acceptRanges", laid_unicode_utf8_acceptRanges), ("unicode/utf8.first", laid_unicode_utf8_first)], narrowed := true }
def RelayRunsUptoSaid : Prop := relayRunsUptoRow.holds Tryd.pinned (OpenSpec.upto relayRunsSpec)

/-- 'coblelaw10.RelayLosses', WHERE WHAT IT READS IS OF BULK AT MOST 1048576: true; the input reads as it did. -/
def relayLossesUptoRow : OpenClaim := { program := "ytbjggnecfppjgaadoor", sum := "53109b30f00830963064a5f09e0f725c161bcb04b07359090d6d79c3d7cdc4e5", func := "coble/coblelaw10.RelayLosses", spec := "relayLosses", inPlace := ["internal/bytealg.IndexByteString", "internal/bytealg.IndexString"], unfollowed := true, recurses := true, named := ["unicode/utf8.first", "unicode/utf8.acceptRanges", "internal/bytealg.MaxLen"], plainKeys := false, apart := false, laid := [("unicode/utf8.acceptRanges", laid_unicode_utf8_acceptRanges), ("unicode/utf8.first", laid_unicode_utf8_first)], narrowed := true }
def RelayLossesUptoSaid : Prop := relayLossesUptoRow.holds Tryd.pinned (OpenSpec.upto relayLossesSpec)

/-- 'coblelaw10.RelayTwice', WHERE WHAT IT READS IS OF BULK AT MOST 1048576: true; the input reads as it did. -/
def relayTwiceUptoRow : OpenClaim := { program := "ytbjggnecfppjgaadoor", sum := "53109b30f00830963064a5f09e0f725c161bcb04b07359090d6d79c3d7cdc4e5", func := "coble/coblelaw10.RelayTwice", spec := "relayTwice", inPlace := ["internal/bytealg.IndexByteString", "internal/bytealg.IndexString"], unfollowed := true, recurses := true, named := ["unicode/utf8.first", "unicode/utf8.acceptRanges", "internal/bytealg.MaxLen"], plainKeys := false, apart := false, laid := [("unicode/utf8.acceptRanges", laid_unicode_utf8_acceptRanges), ("unicode/utf8.first", laid_unicode_utf8_first)], narrowed := true }
def RelayTwiceUptoSaid : Prop := relayTwiceUptoRow.holds Tryd.pinned (OpenSpec.upto relayTwiceSpec)

/-- 'coblelaw10.RelaySettles', WHERE WHAT IT READS IS OF BULK AT MOST 1048576: true; the input reads as it did. -/
def relaySettlesUptoRow : OpenClaim := { program := "ytbjggnecfppjgaadoor", sum := "53109b30f00830963064a5f09e0f725c161bcb04b07359090d6d79c3d7cdc4e5", func := "coble/coblelaw10.RelaySettles", spec := "relaySettles", inPlace := ["internal/bytealg.IndexByteString", "internal/bytealg.IndexString"], unfollowed := true, recurses := true, named := ["unicode/utf8.first", "unicode/utf8.acceptRanges", "internal/bytealg.MaxLen"], plainKeys := false, apart := false, laid := [("unicode/utf8.acceptRanges", laid_unicode_utf8_acceptRanges), ("unicode/utf8.first", laid_unicode_utf8_first)], narrowed := true }
def RelaySettlesUptoSaid : Prop := relaySettlesUptoRow.holds Tryd.pinned (OpenSpec.upto relaySettlesSpec)

end Rows
end Go.Proofs.YtbjggnecfppjgaaDoor
