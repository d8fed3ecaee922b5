/-
  NARROWER THAN 'FOR EVERY INPUT', by the rows' own cells (each row's printed sentence says how): RelayHears: laid · RelaySent: laid · RelaySpreads: laid · RelaySure: laid · RelayRuns: laid · RelayNever: laid · RelayLosses: laid · RelayTwice: laid · RelayTurns: laid · RelaySettles: laid · RelayEnds: laid.
  DERIVED. THE GIVEN ROWS OF THIS SEAT. 11 by the template 'for every input the law returns true; each argument reads behind the call as it read before'; 0 by the template 'total and deterministic' (their statements: YtjdkcfnipkdmgaaDoorTotals.lean).
  GIVEN WITH THE SEED: the statements are not yours to turn. If you find one false, say at which input.
  Laid BY PROGRAM, IN A SANDBOX (cutbox-rows.mjs): the forced cells as the released guide's own fill.sh prints them over the translation f6f3401b9ba27307… (all of the seat's roots in one cut). By AI agents, Wed Nov 11 2026. No macro, syntax, notation, axiom, sorry.
-/
import Derived.Test.YtjdkcfnipkdmgaaDoorChecked
import GoSem.PinnedTables
import GoSem.Claim
import GoSem.ClaimJoined
import GoSem.ClaimMapViews
import Derived.JoinedTies
import Derived.KernelRfl
namespace Go.Proofs.YtjdkcfnipkdmgaaDoor
/- THE CELL 'sum', in the pinned program and in every row, IS THE sha256 OF THE DUMP (.gsa) THAT YtjdkcfnipkdmgaaDoorProg.lean LOADS. Nothing in Lean hashes anything: it is a label: what it is worth is what the hold of that sum in a sandbox is worth. -/
noncomputable def Tryd.pinned : Pinned := { name := "ytjdkcfnipkdmgaadoor", sum := "f6f3401b9ba273076034087cc4527d106e761600e365e823dce9562866524e48", checked := Tryd.checked }
namespace Rows
def none {H : Type} : Left H := { results := [], args := [] }

/- WHAT THE LISTED PACKAGE-LEVEL VARIABLES READ AS WHEN THE CALL BEGINS. Each datum BY PROGRAM (the guide's laid-datum.mjs) off the statement by which the dump's own 'gosem.cut.vars' lays the variable. In a bare row this is a premise. The card (YtjdkcfnipkdmgaaDoorCards.lean) ties it to the program's text. -/
def laid_unicode_utf8_acceptRanges {H : Type} : DataW H := .agg [.agg [.lit (.int .u8 128), .lit (.int .u8 191)], .agg [.lit (.int .u8 160), .lit (.int .u8 191)], .agg [.lit (.int .u8 128), .lit (.int .u8 159)], .agg [.lit (.int .u8 144), .lit (.int .u8 191)], .agg [.lit (.int .u8 128), .lit (.int .u8 143)], .agg [.lit (.int .u8 0), .lit (.int .u8 0)], .agg [.lit (.int .u8 0), .lit (.int .u8 0)], .agg [.lit (.int .u8 0), .lit (.int .u8 0)], .agg [.lit (.int .u8 0), .lit (.int .u8 0)], .agg [.lit (.int .u8 0), .lit (.int .u8 0)], .agg [.lit (.int .u8 0), .lit (.int .u8 0)], .agg [.lit (.int .u8 0), .lit (.int .u8 0)], .agg [.lit (.int .u8 0), .lit (.int .u8 0)], .agg [.lit (.int .u8 0), .lit (.int .u8 0)], .agg [.lit (.int .u8 0), .lit (.int .u8 0)], .agg [.lit (.int .u8 0), .lit (.int .u8 0)]]
/-- One of Go's own tables, pinned by name: the form's constant. -/
def laid_unicode_utf8_first : DataW Unit := Go.Pinned.utf8First

/-- 'coblelaw10.RelayHears': WHATEVER THE INPUT: true; the input reads as it did. -/
def relayHearsSpec : ChangeSpec := { name := "relayHears", fn := fun _ => fun
  | [d1, d2] => { results := [.lit (.bool true)], args := [d1, d2] }
  | _ => none }
def relayHearsRow : OpenClaim := { program := "ytjdkcfnipkdmgaadoor", sum := "f6f3401b9ba273076034087cc4527d106e761600e365e823dce9562866524e48", func := "coble/coblelaw10.RelayHears", spec := "relayHears", inPlace := ["internal/bytealg.IndexByteString", "internal/bytealg.IndexString"], unfollowed := true, recurses := true, named := ["unicode/utf8.first", "unicode/utf8.acceptRanges", "internal/bytealg.MaxLen"], plainKeys := false, apart := false, laid := [("unicode/utf8.acceptRanges", laid_unicode_utf8_acceptRanges), ("unicode/utf8.first", laid_unicode_utf8_first)] }
def RelayHearsSaid : Prop := relayHearsRow.holds Tryd.pinned (OpenSpec.ofChange relayHearsSpec)

/-- ITS FALSE NEIGHBOUR: 'it returns false'. Refute it at one input. -/
def relayHearsWrong : ChangeSpec := { name := "relayHears", fn := fun _ => fun
  | [d1, d2] => { results := [.lit (.bool false)], args := [d1, d2] }
  | _ => none }
def RelayHearsWrongFalsely : Prop := relayHearsRow.holds Tryd.pinned (OpenSpec.ofChange relayHearsWrong)

/-- 'coblelaw10.RelaySent': WHATEVER THE INPUT: true; the input reads as it did. -/
def relaySentSpec : ChangeSpec := { name := "relaySent", fn := fun _ => fun
  | [d1, d2, d3] => { results := [.lit (.bool true)], args := [d1, d2, d3] }
  | _ => none }
def relaySentRow : OpenClaim := { program := "ytjdkcfnipkdmgaadoor", sum := "f6f3401b9ba273076034087cc4527d106e761600e365e823dce9562866524e48", func := "coble/coblelaw10.RelaySent", spec := "relaySent", inPlace := ["internal/bytealg.IndexByteString", "internal/bytealg.IndexString"], unfollowed := true, recurses := true, named := ["unicode/utf8.first", "unicode/utf8.acceptRanges", "internal/bytealg.MaxLen"], plainKeys := false, apart := false, laid := [("unicode/utf8.acceptRanges", laid_unicode_utf8_acceptRanges), ("unicode/utf8.first", laid_unicode_utf8_first)] }
def RelaySentSaid : Prop := relaySentRow.holds Tryd.pinned (OpenSpec.ofChange relaySentSpec)

/-- ITS FALSE NEIGHBOUR: 'it returns false'. Refute it at one input. -/
def relaySentWrong : ChangeSpec := { name := "relaySent", fn := fun _ => fun
  | [d1, d2, d3] => { results := [.lit (.bool false)], args := [d1, d2, d3] }
  | _ => none }
def RelaySentWrongFalsely : Prop := relaySentRow.holds Tryd.pinned (OpenSpec.ofChange relaySentWrong)

/-- 'coblelaw10.RelaySpreads': WHATEVER THE INPUT: true; the input reads as it did. -/
def relaySpreadsSpec : ChangeSpec := { name := "relaySpreads", fn := fun _ => fun
  | [d] => { results := [.lit (.bool true)], args := [d] }
  | _ => none }
def relaySpreadsRow : OpenClaim := { program := "ytjdkcfnipkdmgaadoor", sum := "f6f3401b9ba273076034087cc4527d106e761600e365e823dce9562866524e48", func := "coble/coblelaw10.RelaySpreads", spec := "relaySpreads", inPlace := ["internal/bytealg.IndexByteString", "internal/bytealg.IndexString"], unfollowed := true, recurses := true, named := ["unicode/utf8.first", "unicode/utf8.acceptRanges", "internal/bytealg.MaxLen"], plainKeys := false, apart := false, laid := [("unicode/utf8.acceptRanges", laid_unicode_utf8_acceptRanges), ("unicode/utf8.first", laid_unicode_utf8_first)] }
def RelaySpreadsSaid : Prop := relaySpreadsRow.holds Tryd.pinned (OpenSpec.ofChange relaySpreadsSpec)

/-- ITS FALSE NEIGHBOUR: 'it returns false'. Refute it at one input. -/
def relaySpreadsWrong : ChangeSpec := { name := "relaySpreads", fn := fun _ => fun
  | [d] => { results := [.lit (.bool false)], args := [d] }
  | _ => none }
def RelaySpreadsWrongFalsely : Prop := relaySpreadsRow.holds Tryd.pinned (OpenSpec.ofChange relaySpreadsWrong)

/-- 'coblelaw10.RelaySure': WHATEVER THE INPUT: true; the input reads as it did. -/
def relaySureSpec : ChangeSpec := { name := "relaySure", fn := fun _ => fun
  | [d1, d2] => { results := [.lit (.bool true)], args := [d1, d2] }
  | _ => none }
def relaySureRow : OpenClaim := { program := "ytjdkcfnipkdmgaadoor", sum := "f6f3401b9ba273076034087cc4527d106e761600e365e823dce9562866524e48", func := "coble/coblelaw10.RelaySure", spec := "relaySure", inPlace := ["internal/bytealg.IndexByteString", "internal/bytealg.IndexString"], unfollowed := true, recurses := true, named := ["unicode/utf8.first", "unicode/utf8.acceptRanges", "internal/bytealg.MaxLen"], plainKeys := false, apart := false, laid := [("unicode/utf8.acceptRanges", laid_unicode_utf8_acceptRanges), ("unicode/utf8.first", laid_unicode_utf8_first)] }
def RelaySureSaid : Prop := relaySureRow.holds Tryd.pinned (OpenSpec.ofChange relaySureSpec)

/-- ITS FALSE NEIGHBOUR: 'it returns false'. Refute it at one input. -/
def relaySureWrong : ChangeSpec := { name := "relaySure", fn := fun _ => fun
  | [d1, d2] => { results := [.lit (.bool false)], args := [d1, d2] }
  | _ => none }
def RelaySureWrongFalsely : Prop := relaySureRow.holds Tryd.pinned (OpenSpec.ofChange relaySureWrong)

/-- 'coblelaw10.RelayRuns': WHATEVER THE INPUT: true; the input reads as it did. -/
def relayRunsSpec : ChangeSpec := { name := "relayRuns", fn := fun _ => fun
  | [d1, d2, d3] => { results := [.lit (.bool true)], args := [d1, d2, d3] }
  | _ => none }
def relayRunsRow : OpenClaim := { program := "ytjdkcfnipkdmgaadoor", sum := "f6f3401b9ba273076034087cc4527d106e761600e365e823dce9562866524e48", func := "coble/coblelaw10.RelayRuns", spec := "relayRuns", inPlace := ["internal/bytealg.IndexByteString", "internal/bytealg.IndexString"], unfollowed := true, recurses := true, named := ["unicode/utf8.first", "unicode/utf8.acceptRanges", "internal/bytealg.MaxLen"], plainKeys := false, apart := false, laid := [("unicode/utf8.acceptRanges", laid_unicode_utf8_acceptRanges), ("unicode/utf8.first", laid_unicode_utf8_first)] }
def RelayRunsSaid : Prop := relayRunsRow.holds Tryd.pinned (OpenSpec.ofChange relayRunsSpec)

/-- ITS FALSE NEIGHBOUR: 'it returns false'. Refute it at one input. -/
def relayRunsWrong : ChangeSpec := { name := "relayRuns", fn := fun _ => fun
  | [d1, d2, d3] => { results := [.lit (.bool false)], args := [d1, d2, d3] }
  | _ => none }
def RelayRunsWrongFalsely : Prop := relayRunsRow.holds Tryd.pinned (OpenSpec.ofChange relayRunsWrong)

/-- 'coblelaw10.RelayNever': WHATEVER THE INPUT: true; the input reads as it did. -/
def relayNeverSpec : ChangeSpec := { name := "relayNever", fn := fun _ => fun
  | [d1, d2, d3] => { results := [.lit (.bool true)], args := [d1, d2, d3] }
  | _ => none }
def relayNeverRow : OpenClaim := { program := "ytjdkcfnipkdmgaadoor", sum := "f6f3401b9ba273076034087cc4527d106e761600e365e823dce9562866524e48", func := "coble/coblelaw10.RelayNever", spec := "relayNever", inPlace := ["internal/bytealg.IndexByteString", "internal/bytealg.IndexString"], unfollowed := true, recurses := true, named := ["unicode/utf8.first", "unicode/utf8.acceptRanges", "internal/bytealg.MaxLen"], plainKeys := false, apart := false, laid := [("unicode/utf8.acceptRanges", laid_unicode_utf8_acceptRanges), ("unicode/utf8.first", laid_unicode_utf8_first)] }
def RelayNeverSaid : Prop := relayNeverRow.holds Tryd.pinned (OpenSpec.ofChange relayNeverSpec)

/-- ITS FALSE NEIGHBOUR: 'it returns false'. Refute it at one input. -/
def relayNeverWrong : ChangeSpec := { name := "relayNever", fn := fun _ => fun
  | [d1, d2, d3] => { results := [.lit (.bool false)], args := [d1, d2, d3] }
  | _ => none }
def RelayNeverWrongFalsely : Prop := relayNeverRow.holds Tryd.pinned (OpenSpec.ofChange relayNeverWrong)

/-- 'coblelaw10.RelayLosses': WHATEVER THE INPUT: true; the input reads as it did. -/
def relayLossesSpec : ChangeSpec := { name := "relayLosses", fn := fun _ => fun
  | [d1, d2, d3] => { results := [.lit (.bool true)], args := [d1, d2, d3] }
  | _ => none }
def relayLossesRow : OpenClaim := { program := "ytjdkcfnipkdmgaadoor", sum := "f6f3401b9ba273076034087cc4527d106e761600e365e823dce9562866524e48", func := "coble/coblelaw10.RelayLosses", spec := "relayLosses", inPlace := ["internal/bytealg.IndexByteString", "internal/bytealg.IndexString"], unfollowed := true, recurses := true, named := ["unicode/utf8.first", "unicode/utf8.acceptRanges", "internal/bytealg.MaxLen"], plainKeys := false, apart := false, laid := [("unicode/utf8.acceptRanges", laid_unicode_utf8_acceptRanges), ("unicode/utf8.first", laid_unicode_utf8_first)] }
def RelayLossesSaid : Prop := relayLossesRow.holds Tryd.pinned (OpenSpec.ofChange relayLossesSpec)

/-- ITS FALSE NEIGHBOUR: 'it returns false'. Refute it at one input. -/
def relayLossesWrong : ChangeSpec := { name := "relayLosses", fn := fun _ => fun
  | [d1, d2, d3] => { results := [.lit (.bool false)], args := [d1, d2, d3] }
  | _ => none }
def RelayLossesWrongFalsely : Prop := relayLossesRow.holds Tryd.pinned (OpenSpec.ofChange relayLossesWrong)

/-- 'coblelaw10.RelayTwice': WHATEVER THE INPUT: true; the input reads as it did. -/
def relayTwiceSpec : ChangeSpec := { name := "relayTwice", fn := fun _ => fun
  | [d1, d2, d3] => { results := [.lit (.bool true)], args := [d1, d2, d3] }
  | _ => none }
def relayTwiceRow : OpenClaim := { program := "ytjdkcfnipkdmgaadoor", sum := "f6f3401b9ba273076034087cc4527d106e761600e365e823dce9562866524e48", func := "coble/coblelaw10.RelayTwice", spec := "relayTwice", inPlace := ["internal/bytealg.IndexByteString", "internal/bytealg.IndexString"], unfollowed := true, recurses := true, named := ["unicode/utf8.first", "unicode/utf8.acceptRanges", "internal/bytealg.MaxLen"], plainKeys := false, apart := false, laid := [("unicode/utf8.acceptRanges", laid_unicode_utf8_acceptRanges), ("unicode/utf8.first", laid_unicode_utf8_first)] }
def RelayTwiceSaid : Prop := relayTwiceRow.holds Tryd.pinned (OpenSpec.ofChange relayTwiceSpec)

/-- ITS FALSE NEIGHBOUR: 'it returns false'. Refute it at one input. -/
def relayTwiceWrong : ChangeSpec := { name := "relayTwice", fn := fun _ => fun
  | [d1, d2, d3] => { results := [.lit (.bool false)], args := [d1, d2, d3] }
  | _ => none }
def RelayTwiceWrongFalsely : Prop := relayTwiceRow.holds Tryd.pinned (OpenSpec.ofChange relayTwiceWrong)

/-- 'coblelaw10.RelayTurns': WHATEVER THE INPUT: true; the input reads as it did. -/
def relayTurnsSpec : ChangeSpec := { name := "relayTurns", fn := fun _ => fun
  | [d1, d2, d3] => { results := [.lit (.bool true)], args := [d1, d2, d3] }
  | _ => none }
def relayTurnsRow : OpenClaim := { program := "ytjdkcfnipkdmgaadoor", sum := "f6f3401b9ba273076034087cc4527d106e761600e365e823dce9562866524e48", func := "coble/coblelaw10.RelayTurns", spec := "relayTurns", inPlace := ["internal/bytealg.IndexByteString", "internal/bytealg.IndexString"], unfollowed := true, recurses := true, named := ["unicode/utf8.first", "unicode/utf8.acceptRanges", "internal/bytealg.MaxLen"], plainKeys := false, apart := false, laid := [("unicode/utf8.acceptRanges", laid_unicode_utf8_acceptRanges), ("unicode/utf8.first", laid_unicode_utf8_first)] }
def RelayTurnsSaid : Prop := relayTurnsRow.holds Tryd.pinned (OpenSpec.ofChange relayTurnsSpec)

/-- ITS FALSE NEIGHBOUR: 'it returns false'. Refute it at one input. -/
def relayTurnsWrong : ChangeSpec := { name := "relayTurns", fn := fun _ => fun
  | [d1, d2, d3] => { results := [.lit (.bool false)], args := [d1, d2, d3] }
  | _ => none }
def RelayTurnsWrongFalsely : Prop := relayTurnsRow.holds Tryd.pinned (OpenSpec.ofChange relayTurnsWrong)

/-- 'coblelaw10.RelaySettles': WHATEVER THE INPUT: true; the input reads as it did. -/
def relaySettlesSpec : ChangeSpec := { name := "relaySettles", fn := fun _ => fun
  | [d1, d2, d3] => { results := [.lit (.bool true)], args := [d1, d2, d3] }
  | _ => none }
def relaySettlesRow : OpenClaim := { program := "ytjdkcfnipkdmgaadoor", sum := "f6f3401b9ba273076034087cc4527d106e761600e365e823dce9562866524e48", func := "coble/coblelaw10.RelaySettles", spec := "relaySettles", inPlace := ["internal/bytealg.IndexByteString", "internal/bytealg.IndexString"], unfollowed := true, recurses := true, named := ["unicode/utf8.first", "unicode/utf8.acceptRanges", "internal/bytealg.MaxLen"], plainKeys := false, apart := false, laid := [("unicode/utf8.acceptRanges", laid_unicode_utf8_acceptRanges), ("unicode/utf8.first", laid_unicode_utf8_first)] }
def RelaySettlesSaid : Prop := relaySettlesRow.holds Tryd.pinned (OpenSpec.ofChange relaySettlesSpec)

/-- ITS FALSE NEIGHBOUR: 'it returns false'. Refute it at one input. -/
def relaySettlesWrong : ChangeSpec := { name := "relaySettles", fn := fun _ => fun
  | [d1, d2, d3] => { results := [.lit (.bool false)], args := [d1, d2, d3] }
  | _ => none }
def RelaySettlesWrongFalsely : Prop := relaySettlesRow.holds Tryd.pinned (OpenSpec.ofChange relaySettlesWrong)

/-- 'coblelaw10.RelayEnds': WHATEVER THE INPUT: true; the input reads as it did. -/
def relayEndsSpec : ChangeSpec := { name := "relayEnds", fn := fun _ => fun
  | [d1, d2, d3] => { results := [.lit (.bool true)], args := [d1, d2, d3] }
  | _ => none }
def relayEndsRow : OpenClaim := { program := "ytjdkcfnipkdmgaadoor", sum := "f6f3401b9ba273076034087cc4527d106e761600e365e823dce9562866524e48", func := "coble/coblelaw10.RelayEnds", spec := "relayEnds", inPlace := ["internal/bytealg.IndexByteString", "internal/bytealg.IndexString"], unfollowed := true, recurses := true, named := ["unicode/utf8.first", "unicode/utf8.acceptRanges", "internal/bytealg.MaxLen"], plainKeys := false, apart := false, laid := [("unicode/utf8.acceptRanges", laid_unicode_utf8_acceptRanges), ("unicode/utf8.first", laid_unicode_utf8_first)] }
def RelayEndsSaid : Prop := relayEndsRow.holds Tryd.pinned (OpenSpec.ofChange relayEndsSpec)

/-- ITS FALSE NEIGHBOUR: 'it returns false'. Refute it at one input. -/
def relayEndsWrong : ChangeSpec := { name := "relayEnds", fn := fun _ => fun
  | [d1, d2, d3] => { results := [.lit (.bool false)], args := [d1, d2, d3] }
  | _ => none }
def RelayEndsWrongFalsely : Prop := relayEndsRow.holds Tryd.pinned (OpenSpec.ofChange relayEndsWrong)

/- THE SECOND FORM. 'bulk': how many values and letters a reading holds, each counted each time it is reached (what is shared counts as often as it is met; a slice's spare places count too). A statement '..UptoSaid' is the law's where the arguments, and the package variables that the reading takes, are together of bulk at most 1048576: NARROWER than '..Said'. Prove '..Said' where nothing that the law and all that it calls make is longer than what came in: it says more and counts as full. Else prove '..UptoSaid'. A law counts once. -/
mutual
def uptoBulk {H : Type} : DataW H → Nat
  | .lit (.string bytes) => bytes.length + 1
  | .lit _ => 1
  | .nil => 1
  | .ptr d => uptoBulk d + 1
  | .slice elems spare => uptoBulkAll elems + uptoBulkAll spare + 1
  | .agg parts => uptoBulkAll parts + 1
  | .iface _ d => uptoBulk d + 1
  | .map entries => uptoBulkEntries entries + 1
  | .held _ => 1
def uptoBulkAll {H : Type} : List (DataW H) → Nat
  | [] => 0
  | d :: r => uptoBulk d + uptoBulkAll r
def uptoBulkEntries {H : Type} : List (Lit × DataW H) → Nat
  | [] => 0
  | x :: r => uptoBulkEntry x + uptoBulkEntries r
def uptoBulkEntry {H : Type} : Lit × DataW H → Nat
  | (.string bytes, d) => bytes.length + uptoBulk d + 1
  | (_, d) => uptoBulk d + 1
 end
def uptoSmall : (H : Type) → List (DataW H) → Bool := fun _ ds => decide (uptoBulkAll ds ≤ 1048576)
def OpenSpec.upto (s : _root_.Go.ChangeSpec) : _root_.Go.OpenSpec := { _root_.Go.OpenSpec.ofChange s with cond := some uptoSmall }

/-- 'coblelaw10.RelayHears', WHERE WHAT IT READS IS OF BULK AT MOST 1048576: true; the input reads as it did. -/
def relayHearsUptoRow : OpenClaim := { program := "ytjdkcfnipkdmgaadoor", sum := "f6f3401b9ba273076034087cc4527d106e761600e365e823dce9562866524e48", func := "coble/coblelaw10.RelayHears", spec := "relayHears", inPlace := ["internal/bytealg.IndexByteString", "internal/bytealg.IndexString"], unfollowed := true, recurses := true, named := ["unicode/utf8.first", "unicode/utf8.acceptRanges", "internal/bytealg.MaxLen"], plainKeys := false, apart := false, laid := [("unicode/utf8.acceptRanges", laid_unicode_utf8_acceptRanges), ("unicode/utf8.first", laid_unicode_utf8_first)], narrowed := true }
def RelayHearsUptoSaid : Prop := relayHearsUptoRow.holds Tryd.pinned (OpenSpec.upto relayHearsSpec)

/-- 'coblelaw10.RelaySent', WHERE WHAT IT READS IS OF BULK AT MOST 1048576: true; the input reads as it did. -/
def relaySentUptoRow : OpenClaim := { program := "ytjdkcfnipkdmgaadoor", sum := "f6f3401b9ba273076034087cc4527d106e761600e365e823dce9562866524e48", func := "coble/coblelaw10.RelaySent", spec := "relaySent", inPlace := ["internal/bytealg.IndexByteString", "internal/bytealg.IndexString"], unfollowed := true, recurses := true, named := ["unicode/utf8.first", "unicode/utf8.acceptRanges", "internal/bytealg.MaxLen"], plainKeys := false, apart := false, laid := [("unicode/utf8.acceptRanges", laid_unicode_utf8_acceptRanges), ("unicode/utf8.first", laid_unicode_utf8_first)], narrowed := true }
def RelaySentUptoSaid : Prop := relaySentUptoRow.holds Tryd.pinned (OpenSpec.upto relaySentSpec)

/-- 'coblelaw10.RelaySpreads', WHERE WHAT IT READS IS OF BULK AT MOST 1048576: true; the input reads as it did. -/
def relaySpreadsUptoRow : OpenClaim := { program := "ytjdkcfnipkdmgaadoor", sum := "f6f3401b9ba273076034087cc4527d106e761600e365e823dce9562866524e48", func := "coble/coblelaw10.RelaySpreads", spec := "relaySpreads", inPlace := ["internal/bytealg.IndexByteString", "internal/bytealg.IndexString"], unfollowed := true, recurses := true, named := ["unicode/utf8.first", "unicode/utf8.acceptRanges", "internal/bytealg.MaxLen"], plainKeys := false, apart := false, laid := [("unicode/utf8.acceptRanges", laid_unicode_utf8_acceptRanges), ("unicode/utf8.first", laid_unicode_utf8_first)], narrowed := true }
def RelaySpreadsUptoSaid : Prop := relaySpreadsUptoRow.holds Tryd.pinned (OpenSpec.upto relaySpreadsSpec)

/-- 'coblelaw10.RelaySure', WHERE WHAT IT READS IS OF BULK AT MOST 1048576: true; the input reads as it did. -/
def relaySureUptoRow : OpenClaim := { program := "ytjdkcfnipkdmgaadoor", sum := "f6f3401b9ba273076034087cc4527d106e761600e365e823dce9562866524e48", func := "coble/coblelaw10.RelaySure", spec := "relaySure", inPlace := ["internal/bytealg.IndexByteString", "internal/bytealg.IndexString"], unfollowed := true, recurses := true, named := ["unicode/utf8.first", "unicode/utf8.acceptRanges", "internal/bytealg.MaxLen"], plainKeys := false, apart := false, laid := [("unicode/utf8.acceptRanges", laid_unicode_utf8_acceptRanges), ("unicode/utf8.first", laid_unicode_utf8_first)], narrowed := true }
def RelaySureUptoSaid : Prop := relaySureUptoRow.holds Tryd.pinned (OpenSpec.upto relaySureSpec)

/-- 'coblelaw10.RelayRuns', WHERE WHAT IT READS IS OF BULK AT MOST 1048576: true; the input reads as it did. -/
def relayRunsUptoRow : OpenClaim := { program := "ytjdkcfnipkdmgaadoor", sum := "f6f3401b9ba273076034087cc4527d106e761600e365e823dce9562866524e48", func := "coble/coblelaw10.RelayRuns", spec := "relayRuns", inPlace := ["internal/bytealg.IndexByteString", "internal/bytealg.IndexString"], unfollowed := true, recurses := true, named := ["unicode/utf8.first", "unicode/utf8.acceptRanges", "internal/bytealg.MaxLen"], plainKeys := false, apart := false, laid := [("unicode/utf8.acceptRanges", laid_unicode_utf8_acceptRanges), ("unicode/utf8.first", laid_unicode_utf8_first)], narrowed := true }
def RelayRunsUptoSaid : Prop := relayRunsUptoRow.holds Tryd.pinned (OpenSpec.upto relayRunsSpec)

/-- 'coblelaw10.RelayNever', WHERE WHAT IT READS IS OF BULK AT MOST 1048576: true; the input reads as it did. -/
def relayNeverUptoRow : OpenClaim := { program := "ytjdkcfnipkdmgaadoor", sum := "f6f3401b9ba273076034087cc4527d106e761600e365e823dce9562866524e48", func := "coble/coblelaw10.RelayNever", spec := "relayNever", inPlace := ["internal/bytealg.IndexByteString", "internal/bytealg.IndexString"], unfollowed := true, recurses := true, named := ["unicode/utf8.first", "unicode/utf8.acceptRanges", "internal/bytealg.MaxLen"], plainKeys := false, apart := false, laid := [("unicode/utf8.acceptRanges", laid_unicode_utf8_acceptRanges), ("unicode/utf8.first", laid_unicode_utf8_first)], narrowed := true }
def RelayNeverUptoSaid : Prop := relayNeverUptoRow.holds Tryd.pinned (OpenSpec.upto relayNeverSpec)

/-- 'coblelaw10.RelayLosses', WHERE WHAT IT READS IS OF BULK AT MOST 1048576: true; the input reads as it did. -/
def relayLossesUptoRow : OpenClaim := { program := "ytjdkcfnipkdmgaadoor", sum := "f6f3401b9ba273076034087cc4527d106e761600e365e823dce9562866524e48", func := "coble/coblelaw10.RelayLosses", spec := "relayLosses", inPlace := ["internal/bytealg.IndexByteString", "internal/bytealg.IndexString"], unfollowed := true, recurses := true, named := ["unicode/utf8.first", "unicode/utf8.acceptRanges", "internal/bytealg.MaxLen"], plainKeys := false, apart := false, laid := [("unicode/utf8.acceptRanges", laid_unicode_utf8_acceptRanges), ("unicode/utf8.first", laid_unicode_utf8_first)], narrowed := true }
def RelayLossesUptoSaid : Prop := relayLossesUptoRow.holds Tryd.pinned (OpenSpec.upto relayLossesSpec)

/-- 'coblelaw10.RelayTwice', WHERE WHAT IT READS IS OF BULK AT MOST 1048576: true; the input reads as it did. -/
def relayTwiceUptoRow : OpenClaim := { program := "ytjdkcfnipkdmgaadoor", sum := "f6f3401b9ba273076034087cc4527d106e761600e365e823dce9562866524e48", func := "coble/coblelaw10.RelayTwice", spec := "relayTwice", inPlace := ["internal/bytealg.IndexByteString", "internal/bytealg.IndexString"], unfollowed := true, recurses := true, named := ["unicode/utf8.first", "unicode/utf8.acceptRanges", "internal/bytealg.MaxLen"], plainKeys := false, apart := false, laid := [("unicode/utf8.acceptRanges", laid_unicode_utf8_acceptRanges), ("unicode/utf8.first", laid_unicode_utf8_first)], narrowed := true }
def RelayTwiceUptoSaid : Prop := relayTwiceUptoRow.holds Tryd.pinned (OpenSpec.upto relayTwiceSpec)

/-- 'coblelaw10.RelayTurns', WHERE WHAT IT READS IS OF BULK AT MOST 1048576: true; the input reads as it did. -/
def relayTurnsUptoRow : OpenClaim := { program := "ytjdkcfnipkdmgaadoor", sum := "f6f3401b9ba273076034087cc4527d106e761600e365e823dce9562866524e48", func := "coble/coblelaw10.RelayTurns", spec := "relayTurns", inPlace := ["internal/bytealg.IndexByteString", "internal/bytealg.IndexString"], unfollowed := true, recurses := true, named := ["unicode/utf8.first", "unicode/utf8.acceptRanges", "internal/bytealg.MaxLen"], plainKeys := false, apart := false, laid := [("unicode/utf8.acceptRanges", laid_unicode_utf8_acceptRanges), ("unicode/utf8.first", laid_unicode_utf8_first)], narrowed := true }
def RelayTurnsUptoSaid : Prop := relayTurnsUptoRow.holds Tryd.pinned (OpenSpec.upto relayTurnsSpec)

/-- 'coblelaw10.RelaySettles', WHERE WHAT IT READS IS OF BULK AT MOST 1048576: true; the input reads as it did. -/
def relaySettlesUptoRow : OpenClaim := { program := "ytjdkcfnipkdmgaadoor", sum := "f6f3401b9ba273076034087cc4527d106e761600e365e823dce9562866524e48", func := "coble/coblelaw10.RelaySettles", spec := "relaySettles", inPlace := ["internal/bytealg.IndexByteString", "internal/bytealg.IndexString"], unfollowed := true, recurses := true, named := ["unicode/utf8.first", "unicode/utf8.acceptRanges", "internal/bytealg.MaxLen"], plainKeys := false, apart := false, laid := [("unicode/utf8.acceptRanges", laid_unicode_utf8_acceptRanges), ("unicode/utf8.first", laid_unicode_utf8_first)], narrowed := true }
def RelaySettlesUptoSaid : Prop := relaySettlesUptoRow.holds Tryd.pinned (OpenSpec.upto relaySettlesSpec)

/-- 'coblelaw10.RelayEnds', WHERE WHAT IT READS IS OF BULK AT MOST 1048576: true; the input reads as it did. -/
def relayEndsUptoRow : OpenClaim := { program := "ytjdkcfnipkdmgaadoor", sum := "f6f3401b9ba273076034087cc4527d106e761600e365e823dce9562866524e48", func := "coble/coblelaw10.RelayEnds", spec := "relayEnds", inPlace := ["internal/bytealg.IndexByteString", "internal/bytealg.IndexString"], unfollowed := true, recurses := true, named := ["unicode/utf8.first", "unicode/utf8.acceptRanges", "internal/bytealg.MaxLen"], plainKeys := false, apart := false, laid := [("unicode/utf8.acceptRanges", laid_unicode_utf8_acceptRanges), ("unicode/utf8.first", laid_unicode_utf8_first)], narrowed := true }
def RelayEndsUptoSaid : Prop := relayEndsUptoRow.holds Tryd.pinned (OpenSpec.upto relayEndsSpec)

end Rows
end Go.Proofs.YtjdkcfnipkdmgaaDoor
