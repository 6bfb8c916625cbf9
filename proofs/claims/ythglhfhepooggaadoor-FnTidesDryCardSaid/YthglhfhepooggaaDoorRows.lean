/-
  NARROWER THAN 'FOR EVERY INPUT', by the rows' own cells (each row's printed sentence says how): FnExactIsShore: laid · FnExactIsTide: laid · FnExactTurnTide: laid · FnExactMirrorShore: laid · FnExactRaiseStone: laid · FnExactHighestHour: laid · FnExactDryAt: laid · FnExactDryHours: laid · FnExactAlwaysDry: laid · FnExactNeverDry: laid · FnTidesDry: laid · FnExactIsTideWay: laid.
  DERIVED. THE GIVEN ROWS OF THIS SEAT. 12 by the template 'for every input the law returns true; each argument reads behind the call as it read before'; 0 by the template 'total and deterministic' (their statements: YthglhfhepooggaaDoorTotals.lean).
  GIVEN WITH THE SEED: the statements are not yours to turn. If you find one false, say at which input.
  Laid BY PROGRAM, IN A SANDBOX (cutbox-rows.mjs): the forced cells as the released guide's own fill.sh prints them over the translation b433f3b3b0043bee… (all of the seat's roots in one cut). By AI agents, Wed Nov 11 2026. No macro, syntax, notation, axiom, sorry.
-/
import Derived.Test.YthglhfhepooggaaDoorChecked
import GoSem.PinnedTables
import GoSem.Claim
import GoSem.ClaimJoined
import GoSem.ClaimMapViews
import Derived.JoinedTies
import Derived.KernelRfl
namespace Go.Proofs.YthglhfhepooggaaDoor
/- THE CELL 'sum', in the pinned program and in every row, IS THE sha256 OF THE DUMP (.gsa) THAT YthglhfhepooggaaDoorProg.lean LOADS. Nothing in Lean hashes anything: it is a label: what it is worth is what the hold of that sum in a sandbox is worth. -/
noncomputable def Tryd.pinned : Pinned := { name := "ythglhfhepooggaadoor", sum := "b433f3b3b0043beea9343fe4cc0c50dedca13f48d4fbaa4d2db216cf063bd42a", checked := Tryd.checked }
namespace Rows
def none {H : Type} : Left H := { results := [], args := [] }

/- WHAT THE LISTED PACKAGE-LEVEL VARIABLES READ AS WHEN THE CALL BEGINS. Each datum BY PROGRAM (the guide's laid-datum.mjs) off the statement by which the dump's own 'gosem.cut.vars' lays the variable. In a bare row this is a premise. The card (YthglhfhepooggaaDoorCards.lean) ties it to the program's text. -/
def laid_unicode_utf8_acceptRanges {H : Type} : DataW H := .agg [.agg [.lit (.int .u8 128), .lit (.int .u8 191)], .agg [.lit (.int .u8 160), .lit (.int .u8 191)], .agg [.lit (.int .u8 128), .lit (.int .u8 159)], .agg [.lit (.int .u8 144), .lit (.int .u8 191)], .agg [.lit (.int .u8 128), .lit (.int .u8 143)], .agg [.lit (.int .u8 0), .lit (.int .u8 0)], .agg [.lit (.int .u8 0), .lit (.int .u8 0)], .agg [.lit (.int .u8 0), .lit (.int .u8 0)], .agg [.lit (.int .u8 0), .lit (.int .u8 0)], .agg [.lit (.int .u8 0), .lit (.int .u8 0)], .agg [.lit (.int .u8 0), .lit (.int .u8 0)], .agg [.lit (.int .u8 0), .lit (.int .u8 0)], .agg [.lit (.int .u8 0), .lit (.int .u8 0)], .agg [.lit (.int .u8 0), .lit (.int .u8 0)], .agg [.lit (.int .u8 0), .lit (.int .u8 0)], .agg [.lit (.int .u8 0), .lit (.int .u8 0)]]
/-- One of Go's own tables, pinned by name: the form's constant. -/
def laid_unicode_utf8_first : DataW Unit := Go.Pinned.utf8First

/-- 'laws.FnExactIsShore': WHATEVER THE INPUT: true; the input reads as it did. -/
def fnExactIsShoreSpec : ChangeSpec := { name := "fnExactIsShore", fn := fun _ => fun
  | [d] => { results := [.lit (.bool true)], args := [d] }
  | _ => none }
def fnExactIsShoreRow : OpenClaim := { program := "ythglhfhepooggaadoor", sum := "b433f3b3b0043beea9343fe4cc0c50dedca13f48d4fbaa4d2db216cf063bd42a", func := "loop.example/g01352/laws.FnExactIsShore", spec := "fnExactIsShore", inPlace := ["internal/bytealg.IndexByteString", "internal/bytealg.IndexString"], named := ["unicode/utf8.first", "unicode/utf8.acceptRanges", "internal/bytealg.MaxLen"], apart := false, laid := [("unicode/utf8.acceptRanges", laid_unicode_utf8_acceptRanges), ("unicode/utf8.first", laid_unicode_utf8_first)] }
def FnExactIsShoreSaid : Prop := fnExactIsShoreRow.holds Tryd.pinned (OpenSpec.ofChange fnExactIsShoreSpec)

/-- ITS FALSE NEIGHBOUR: 'it returns false'. Refute it at one input. -/
def fnExactIsShoreWrong : ChangeSpec := { name := "fnExactIsShore", fn := fun _ => fun
  | [d] => { results := [.lit (.bool false)], args := [d] }
  | _ => none }
def FnExactIsShoreWrongFalsely : Prop := fnExactIsShoreRow.holds Tryd.pinned (OpenSpec.ofChange fnExactIsShoreWrong)

/-- 'laws.FnExactIsTide': WHATEVER THE INPUT: true; the input reads as it did. -/
def fnExactIsTideSpec : ChangeSpec := { name := "fnExactIsTide", fn := fun _ => fun
  | [d] => { results := [.lit (.bool true)], args := [d] }
  | _ => none }
def fnExactIsTideRow : OpenClaim := { program := "ythglhfhepooggaadoor", sum := "b433f3b3b0043beea9343fe4cc0c50dedca13f48d4fbaa4d2db216cf063bd42a", func := "loop.example/g01352/laws.FnExactIsTide", spec := "fnExactIsTide", inPlace := ["internal/bytealg.IndexByteString", "internal/bytealg.IndexString"], named := ["unicode/utf8.first", "unicode/utf8.acceptRanges", "internal/bytealg.MaxLen"], apart := false, laid := [("unicode/utf8.acceptRanges", laid_unicode_utf8_acceptRanges), ("unicode/utf8.first", laid_unicode_utf8_first)] }
def FnExactIsTideSaid : Prop := fnExactIsTideRow.holds Tryd.pinned (OpenSpec.ofChange fnExactIsTideSpec)

/-- ITS FALSE NEIGHBOUR: 'it returns false'. Refute it at one input. -/
def fnExactIsTideWrong : ChangeSpec := { name := "fnExactIsTide", fn := fun _ => fun
  | [d] => { results := [.lit (.bool false)], args := [d] }
  | _ => none }
def FnExactIsTideWrongFalsely : Prop := fnExactIsTideRow.holds Tryd.pinned (OpenSpec.ofChange fnExactIsTideWrong)

/-- 'laws.FnExactTurnTide': WHATEVER THE INPUT: true; the input reads as it did. -/
def fnExactTurnTideSpec : ChangeSpec := { name := "fnExactTurnTide", fn := fun _ => fun
  | [d1, d2] => { results := [.lit (.bool true)], args := [d1, d2] }
  | _ => none }
def fnExactTurnTideRow : OpenClaim := { program := "ythglhfhepooggaadoor", sum := "b433f3b3b0043beea9343fe4cc0c50dedca13f48d4fbaa4d2db216cf063bd42a", func := "loop.example/g01352/laws.FnExactTurnTide", spec := "fnExactTurnTide", inPlace := ["internal/bytealg.IndexByteString", "internal/bytealg.IndexString"], named := ["unicode/utf8.first", "unicode/utf8.acceptRanges", "internal/bytealg.MaxLen"], apart := false, laid := [("unicode/utf8.acceptRanges", laid_unicode_utf8_acceptRanges), ("unicode/utf8.first", laid_unicode_utf8_first)] }
def FnExactTurnTideSaid : Prop := fnExactTurnTideRow.holds Tryd.pinned (OpenSpec.ofChange fnExactTurnTideSpec)

/-- ITS FALSE NEIGHBOUR: 'it returns false'. Refute it at one input. -/
def fnExactTurnTideWrong : ChangeSpec := { name := "fnExactTurnTide", fn := fun _ => fun
  | [d1, d2] => { results := [.lit (.bool false)], args := [d1, d2] }
  | _ => none }
def FnExactTurnTideWrongFalsely : Prop := fnExactTurnTideRow.holds Tryd.pinned (OpenSpec.ofChange fnExactTurnTideWrong)

/-- 'laws.FnExactMirrorShore': WHATEVER THE INPUT: true; the input reads as it did. -/
def fnExactMirrorShoreSpec : ChangeSpec := { name := "fnExactMirrorShore", fn := fun _ => fun
  | [d] => { results := [.lit (.bool true)], args := [d] }
  | _ => none }
def fnExactMirrorShoreRow : OpenClaim := { program := "ythglhfhepooggaadoor", sum := "b433f3b3b0043beea9343fe4cc0c50dedca13f48d4fbaa4d2db216cf063bd42a", func := "loop.example/g01352/laws.FnExactMirrorShore", spec := "fnExactMirrorShore", inPlace := ["internal/bytealg.IndexByteString", "internal/bytealg.IndexString"], named := ["unicode/utf8.first", "unicode/utf8.acceptRanges", "internal/bytealg.MaxLen"], apart := false, laid := [("unicode/utf8.acceptRanges", laid_unicode_utf8_acceptRanges), ("unicode/utf8.first", laid_unicode_utf8_first)] }
def FnExactMirrorShoreSaid : Prop := fnExactMirrorShoreRow.holds Tryd.pinned (OpenSpec.ofChange fnExactMirrorShoreSpec)

/-- ITS FALSE NEIGHBOUR: 'it returns false'. Refute it at one input. -/
def fnExactMirrorShoreWrong : ChangeSpec := { name := "fnExactMirrorShore", fn := fun _ => fun
  | [d] => { results := [.lit (.bool false)], args := [d] }
  | _ => none }
def FnExactMirrorShoreWrongFalsely : Prop := fnExactMirrorShoreRow.holds Tryd.pinned (OpenSpec.ofChange fnExactMirrorShoreWrong)

/-- 'laws.FnExactRaiseStone': WHATEVER THE INPUT: true; the input reads as it did. -/
def fnExactRaiseStoneSpec : ChangeSpec := { name := "fnExactRaiseStone", fn := fun _ => fun
  | [d1, d2, d3] => { results := [.lit (.bool true)], args := [d1, d2, d3] }
  | _ => none }
def fnExactRaiseStoneRow : OpenClaim := { program := "ythglhfhepooggaadoor", sum := "b433f3b3b0043beea9343fe4cc0c50dedca13f48d4fbaa4d2db216cf063bd42a", func := "loop.example/g01352/laws.FnExactRaiseStone", spec := "fnExactRaiseStone", inPlace := ["internal/bytealg.IndexByteString", "internal/bytealg.IndexString"], recurses := true, named := ["unicode/utf8.first", "unicode/utf8.acceptRanges", "internal/bytealg.MaxLen"], apart := false, laid := [("unicode/utf8.acceptRanges", laid_unicode_utf8_acceptRanges), ("unicode/utf8.first", laid_unicode_utf8_first)] }
def FnExactRaiseStoneSaid : Prop := fnExactRaiseStoneRow.holds Tryd.pinned (OpenSpec.ofChange fnExactRaiseStoneSpec)

/-- ITS FALSE NEIGHBOUR: 'it returns false'. Refute it at one input. -/
def fnExactRaiseStoneWrong : ChangeSpec := { name := "fnExactRaiseStone", fn := fun _ => fun
  | [d1, d2, d3] => { results := [.lit (.bool false)], args := [d1, d2, d3] }
  | _ => none }
def FnExactRaiseStoneWrongFalsely : Prop := fnExactRaiseStoneRow.holds Tryd.pinned (OpenSpec.ofChange fnExactRaiseStoneWrong)

/-- 'laws.FnExactHighestHour': WHATEVER THE INPUT: true; the input reads as it did. -/
def fnExactHighestHourSpec : ChangeSpec := { name := "fnExactHighestHour", fn := fun _ => fun
  | [d] => { results := [.lit (.bool true)], args := [d] }
  | _ => none }
def fnExactHighestHourRow : OpenClaim := { program := "ythglhfhepooggaadoor", sum := "b433f3b3b0043beea9343fe4cc0c50dedca13f48d4fbaa4d2db216cf063bd42a", func := "loop.example/g01352/laws.FnExactHighestHour", spec := "fnExactHighestHour", inPlace := ["internal/bytealg.IndexByteString", "internal/bytealg.IndexString"], named := ["unicode/utf8.first", "unicode/utf8.acceptRanges", "internal/bytealg.MaxLen"], apart := false, laid := [("unicode/utf8.acceptRanges", laid_unicode_utf8_acceptRanges), ("unicode/utf8.first", laid_unicode_utf8_first)] }
def FnExactHighestHourSaid : Prop := fnExactHighestHourRow.holds Tryd.pinned (OpenSpec.ofChange fnExactHighestHourSpec)

/-- ITS FALSE NEIGHBOUR: 'it returns false'. Refute it at one input. -/
def fnExactHighestHourWrong : ChangeSpec := { name := "fnExactHighestHour", fn := fun _ => fun
  | [d] => { results := [.lit (.bool false)], args := [d] }
  | _ => none }
def FnExactHighestHourWrongFalsely : Prop := fnExactHighestHourRow.holds Tryd.pinned (OpenSpec.ofChange fnExactHighestHourWrong)

/-- 'laws.FnExactDryAt': WHATEVER THE INPUT: true; the input reads as it did. -/
def fnExactDryAtSpec : ChangeSpec := { name := "fnExactDryAt", fn := fun _ => fun
  | [d1, d2, d3] => { results := [.lit (.bool true)], args := [d1, d2, d3] }
  | _ => none }
def fnExactDryAtRow : OpenClaim := { program := "ythglhfhepooggaadoor", sum := "b433f3b3b0043beea9343fe4cc0c50dedca13f48d4fbaa4d2db216cf063bd42a", func := "loop.example/g01352/laws.FnExactDryAt", spec := "fnExactDryAt", inPlace := ["internal/bytealg.IndexByteString", "internal/bytealg.IndexString"], named := ["unicode/utf8.first", "unicode/utf8.acceptRanges", "internal/bytealg.MaxLen"], apart := false, laid := [("unicode/utf8.acceptRanges", laid_unicode_utf8_acceptRanges), ("unicode/utf8.first", laid_unicode_utf8_first)] }
def FnExactDryAtSaid : Prop := fnExactDryAtRow.holds Tryd.pinned (OpenSpec.ofChange fnExactDryAtSpec)

/-- ITS FALSE NEIGHBOUR: 'it returns false'. Refute it at one input. -/
def fnExactDryAtWrong : ChangeSpec := { name := "fnExactDryAt", fn := fun _ => fun
  | [d1, d2, d3] => { results := [.lit (.bool false)], args := [d1, d2, d3] }
  | _ => none }
def FnExactDryAtWrongFalsely : Prop := fnExactDryAtRow.holds Tryd.pinned (OpenSpec.ofChange fnExactDryAtWrong)

/-- 'laws.FnExactDryHours': WHATEVER THE INPUT: true; the input reads as it did. -/
def fnExactDryHoursSpec : ChangeSpec := { name := "fnExactDryHours", fn := fun _ => fun
  | [d1, d2, d3] => { results := [.lit (.bool true)], args := [d1, d2, d3] }
  | _ => none }
def fnExactDryHoursRow : OpenClaim := { program := "ythglhfhepooggaadoor", sum := "b433f3b3b0043beea9343fe4cc0c50dedca13f48d4fbaa4d2db216cf063bd42a", func := "loop.example/g01352/laws.FnExactDryHours", spec := "fnExactDryHours", inPlace := ["internal/bytealg.IndexByteString", "internal/bytealg.IndexString"], named := ["unicode/utf8.first", "unicode/utf8.acceptRanges", "internal/bytealg.MaxLen"], apart := false, laid := [("unicode/utf8.acceptRanges", laid_unicode_utf8_acceptRanges), ("unicode/utf8.first", laid_unicode_utf8_first)] }
def FnExactDryHoursSaid : Prop := fnExactDryHoursRow.holds Tryd.pinned (OpenSpec.ofChange fnExactDryHoursSpec)

/-- ITS FALSE NEIGHBOUR: 'it returns false'. Refute it at one input. -/
def fnExactDryHoursWrong : ChangeSpec := { name := "fnExactDryHours", fn := fun _ => fun
  | [d1, d2, d3] => { results := [.lit (.bool false)], args := [d1, d2, d3] }
  | _ => none }
def FnExactDryHoursWrongFalsely : Prop := fnExactDryHoursRow.holds Tryd.pinned (OpenSpec.ofChange fnExactDryHoursWrong)

/-- 'laws.FnExactAlwaysDry': WHATEVER THE INPUT: true; the input reads as it did. -/
def fnExactAlwaysDrySpec : ChangeSpec := { name := "fnExactAlwaysDry", fn := fun _ => fun
  | [d1, d2] => { results := [.lit (.bool true)], args := [d1, d2] }
  | _ => none }
def fnExactAlwaysDryRow : OpenClaim := { program := "ythglhfhepooggaadoor", sum := "b433f3b3b0043beea9343fe4cc0c50dedca13f48d4fbaa4d2db216cf063bd42a", func := "loop.example/g01352/laws.FnExactAlwaysDry", spec := "fnExactAlwaysDry", inPlace := ["internal/bytealg.IndexByteString", "internal/bytealg.IndexString"], named := ["unicode/utf8.first", "unicode/utf8.acceptRanges", "internal/bytealg.MaxLen"], apart := false, laid := [("unicode/utf8.acceptRanges", laid_unicode_utf8_acceptRanges), ("unicode/utf8.first", laid_unicode_utf8_first)] }
def FnExactAlwaysDrySaid : Prop := fnExactAlwaysDryRow.holds Tryd.pinned (OpenSpec.ofChange fnExactAlwaysDrySpec)

/-- ITS FALSE NEIGHBOUR: 'it returns false'. Refute it at one input. -/
def fnExactAlwaysDryWrong : ChangeSpec := { name := "fnExactAlwaysDry", fn := fun _ => fun
  | [d1, d2] => { results := [.lit (.bool false)], args := [d1, d2] }
  | _ => none }
def FnExactAlwaysDryWrongFalsely : Prop := fnExactAlwaysDryRow.holds Tryd.pinned (OpenSpec.ofChange fnExactAlwaysDryWrong)

/-- 'laws.FnExactNeverDry': WHATEVER THE INPUT: true; the input reads as it did. -/
def fnExactNeverDrySpec : ChangeSpec := { name := "fnExactNeverDry", fn := fun _ => fun
  | [d1, d2] => { results := [.lit (.bool true)], args := [d1, d2] }
  | _ => none }
def fnExactNeverDryRow : OpenClaim := { program := "ythglhfhepooggaadoor", sum := "b433f3b3b0043beea9343fe4cc0c50dedca13f48d4fbaa4d2db216cf063bd42a", func := "loop.example/g01352/laws.FnExactNeverDry", spec := "fnExactNeverDry", inPlace := ["internal/bytealg.IndexByteString", "internal/bytealg.IndexString"], named := ["unicode/utf8.first", "unicode/utf8.acceptRanges", "internal/bytealg.MaxLen"], apart := false, laid := [("unicode/utf8.acceptRanges", laid_unicode_utf8_acceptRanges), ("unicode/utf8.first", laid_unicode_utf8_first)] }
def FnExactNeverDrySaid : Prop := fnExactNeverDryRow.holds Tryd.pinned (OpenSpec.ofChange fnExactNeverDrySpec)

/-- ITS FALSE NEIGHBOUR: 'it returns false'. Refute it at one input. -/
def fnExactNeverDryWrong : ChangeSpec := { name := "fnExactNeverDry", fn := fun _ => fun
  | [d1, d2] => { results := [.lit (.bool false)], args := [d1, d2] }
  | _ => none }
def FnExactNeverDryWrongFalsely : Prop := fnExactNeverDryRow.holds Tryd.pinned (OpenSpec.ofChange fnExactNeverDryWrong)

/-- 'laws.FnTidesDry': WHATEVER THE INPUT: true; the input reads as it did. -/
def fnTidesDrySpec : ChangeSpec := { name := "fnTidesDry", fn := fun _ => fun
  | [d1, d2] => { results := [.lit (.bool true)], args := [d1, d2] }
  | _ => none }
def fnTidesDryRow : OpenClaim := { program := "ythglhfhepooggaadoor", sum := "b433f3b3b0043beea9343fe4cc0c50dedca13f48d4fbaa4d2db216cf063bd42a", func := "loop.example/g01352/laws.FnTidesDry", spec := "fnTidesDry", inPlace := ["internal/bytealg.IndexByteString", "internal/bytealg.IndexString"], recurses := true, named := ["unicode/utf8.first", "unicode/utf8.acceptRanges", "internal/bytealg.MaxLen"], apart := false, laid := [("unicode/utf8.acceptRanges", laid_unicode_utf8_acceptRanges), ("unicode/utf8.first", laid_unicode_utf8_first)] }
def FnTidesDrySaid : Prop := fnTidesDryRow.holds Tryd.pinned (OpenSpec.ofChange fnTidesDrySpec)

/-- ITS FALSE NEIGHBOUR: 'it returns false'. Refute it at one input. -/
def fnTidesDryWrong : ChangeSpec := { name := "fnTidesDry", fn := fun _ => fun
  | [d1, d2] => { results := [.lit (.bool false)], args := [d1, d2] }
  | _ => none }
def FnTidesDryWrongFalsely : Prop := fnTidesDryRow.holds Tryd.pinned (OpenSpec.ofChange fnTidesDryWrong)

/-- 'laws.FnExactIsTideWay': WHATEVER THE INPUT: true; the input reads as it did. -/
def fnExactIsTideWaySpec : ChangeSpec := { name := "fnExactIsTideWay", fn := fun _ => fun
  | [d1, d2, d3, d4, d5] => { results := [.lit (.bool true)], args := [d1, d2, d3, d4, d5] }
  | _ => none }
def fnExactIsTideWayRow : OpenClaim := { program := "ythglhfhepooggaadoor", sum := "b433f3b3b0043beea9343fe4cc0c50dedca13f48d4fbaa4d2db216cf063bd42a", func := "loop.example/g01352/laws.FnExactIsTideWay", spec := "fnExactIsTideWay", inPlace := ["internal/bytealg.IndexByteString", "internal/bytealg.IndexString"], named := ["unicode/utf8.first", "unicode/utf8.acceptRanges", "internal/bytealg.MaxLen"], apart := false, laid := [("unicode/utf8.acceptRanges", laid_unicode_utf8_acceptRanges), ("unicode/utf8.first", laid_unicode_utf8_first)] }
def FnExactIsTideWaySaid : Prop := fnExactIsTideWayRow.holds Tryd.pinned (OpenSpec.ofChange fnExactIsTideWaySpec)

/-- ITS FALSE NEIGHBOUR: 'it returns false'. Refute it at one input. -/
def fnExactIsTideWayWrong : ChangeSpec := { name := "fnExactIsTideWay", fn := fun _ => fun
  | [d1, d2, d3, d4, d5] => { results := [.lit (.bool false)], args := [d1, d2, d3, d4, d5] }
  | _ => none }
def FnExactIsTideWayWrongFalsely : Prop := fnExactIsTideWayRow.holds Tryd.pinned (OpenSpec.ofChange fnExactIsTideWayWrong)

/- THE SECOND FORM. 'bulk': how many values and letters a reading holds, each counted each time it is reached (what is shared counts as often as it is met; a slice's spare places count too). A statement '..UptoSaid' is the law's where the arguments, and the package variables that the reading takes, are together of bulk at most 1048576: NARROWER than '..Said'. Prove '..Said' where nothing that the law and all that it calls make is longer than what came in: it says more and counts as full. Else prove '..UptoSaid'. A law counts once. -/
mutual
def uptoBulk {H : Type} : DataW H → Nat
  | .lit (.string bytes) => bytes.length + 1
  | .lit _ => 1
  | .nil => 1
  | .ptr d => uptoBulk d + 1
  | .slice elems spare => uptoBulkAll elems + uptoBulkAll spare + 1
  | .agg parts => uptoBulkAll parts + 1
  | .iface _ d => uptoBulk d + 1
  | .map entries => uptoBulkEntries entries + 1
  | .held _ => 1
def uptoBulkAll {H : Type} : List (DataW H) → Nat
  | [] => 0
  | d :: r => uptoBulk d + uptoBulkAll r
def uptoBulkEntries {H : Type} : List (Lit × DataW H) → Nat
  | [] => 0
  | x :: r => uptoBulkEntry x + uptoBulkEntries r
def uptoBulkEntry {H : Type} : Lit × DataW H → Nat
  | (.string bytes, d) => bytes.length + uptoBulk d + 1
  | (_, d) => uptoBulk d + 1
 end
def uptoSmall : (H : Type) → List (DataW H) → Bool := fun _ ds => decide (uptoBulkAll ds ≤ 1048576)
def OpenSpec.upto (s : _root_.Go.ChangeSpec) : _root_.Go.OpenSpec := { _root_.Go.OpenSpec.ofChange s with cond := some uptoSmall }

/-- 'laws.FnExactIsShore', WHERE WHAT IT READS IS OF BULK AT MOST 1048576: true; the input reads as it did. -/
def fnExactIsShoreUptoRow : OpenClaim := { program := "ythglhfhepooggaadoor", sum := "b433f3b3b0043beea9343fe4cc0c50dedca13f48d4fbaa4d2db216cf063bd42a", func := "loop.example/g01352/laws.FnExactIsShore", spec := "fnExactIsShore", inPlace := ["internal/bytealg.IndexByteString", "internal/bytealg.IndexString"], named := ["unicode/utf8.first", "unicode/utf8.acceptRanges", "internal/bytealg.MaxLen"], apart := false, laid := [("unicode/utf8.acceptRanges", laid_unicode_utf8_acceptRanges), ("unicode/utf8.first", laid_unicode_utf8_first)], narrowed := true }
def FnExactIsShoreUptoSaid : Prop := fnExactIsShoreUptoRow.holds Tryd.pinned (OpenSpec.upto fnExactIsShoreSpec)

/-- 'laws.FnExactIsTide', WHERE WHAT IT READS IS OF BULK AT MOST 1048576: true; the input reads as it did. -/
def fnExactIsTideUptoRow : OpenClaim := { program := "ythglhfhepooggaadoor", sum := "b433f3b3b0043beea9343fe4cc0c50dedca13f48d4fbaa4d2db216cf063bd42a", func := "loop.example/g01352/laws.FnExactIsTide", spec := "fnExactIsTide", inPlace := ["internal/bytealg.IndexByteString", "internal/bytealg.IndexString"], named := ["unicode/utf8.first", "unicode/utf8.acceptRanges", "internal/bytealg.MaxLen"], apart := false, laid := [("unicode/utf8.acceptRanges", laid_unicode_utf8_acceptRanges), ("unicode/utf8.first", laid_unicode_utf8_first)], narrowed := true }
def FnExactIsTideUptoSaid : Prop := fnExactIsTideUptoRow.holds Tryd.pinned (OpenSpec.upto fnExactIsTideSpec)

/-- 'laws.FnExactTurnTide', WHERE WHAT IT READS IS OF BULK AT MOST 1048576: true; the input reads as it did. -/
def fnExactTurnTideUptoRow : OpenClaim := { program := "ythglhfhepooggaadoor", sum := "b433f3b3b0043beea9343fe4cc0c50dedca13f48d4fbaa4d2db216cf063bd42a", func := "loop.example/g01352/laws.FnExactTurnTide", spec := "fnExactTurnTide", inPlace := ["internal/bytealg.IndexByteString", "internal/bytealg.IndexString"], named := ["unicode/utf8.first", "unicode/utf8.acceptRanges", "internal/bytealg.MaxLen"], apart := false, laid := [("unicode/utf8.acceptRanges", laid_unicode_utf8_acceptRanges), ("unicode/utf8.first", laid_unicode_utf8_first)], narrowed := true }
def FnExactTurnTideUptoSaid : Prop := fnExactTurnTideUptoRow.holds Tryd.pinned (OpenSpec.upto fnExactTurnTideSpec)

/-- 'laws.FnExactMirrorShore', WHERE WHAT IT READS IS OF BULK AT MOST 1048576: true; the input reads as it did. -/
def fnExactMirrorShoreUptoRow : OpenClaim := { program := "ythglhfhepooggaadoor", sum := "b433f3b3b0043beea9343fe4cc0c50dedca13f48d4fbaa4d2db216cf063bd42a", func := "loop.example/g01352/laws.FnExactMirrorShore", spec := "fnExactMirrorShore", inPlace := ["internal/bytealg.IndexByteString", "internal/bytealg.IndexString"], named := ["unicode/utf8.first", "unicode/utf8.acceptRanges", "internal/bytealg.MaxLen"], apart := false, laid := [("unicode/utf8.acceptRanges", laid_unicode_utf8_acceptRanges), ("unicode/utf8.first", laid_unicode_utf8_first)], narrowed := true }
def FnExactMirrorShoreUptoSaid : Prop := fnExactMirrorShoreUptoRow.holds Tryd.pinned (OpenSpec.upto fnExactMirrorShoreSpec)

/-- 'laws.FnExactRaiseStone', WHERE WHAT IT READS IS OF BULK AT MOST 1048576: true; the input reads as it did. -/
def fnExactRaiseStoneUptoRow : OpenClaim := { program := "ythglhfhepooggaadoor", sum := "b433f3b3b0043beea9343fe4cc0c50dedca13f48d4fbaa4d2db216cf063bd42a", func := "loop.example/g01352/laws.FnExactRaiseStone", spec := "fnExactRaiseStone", inPlace := ["internal/bytealg.IndexByteString", "internal/bytealg.IndexString"], recurses := true, named := ["unicode/utf8.first", "unicode/utf8.acceptRanges", "internal/bytealg.MaxLen"], apart := false, laid := [("unicode/utf8.acceptRanges", laid_unicode_utf8_acceptRanges), ("unicode/utf8.first", laid_unicode_utf8_first)], narrowed := true }
def FnExactRaiseStoneUptoSaid : Prop := fnExactRaiseStoneUptoRow.holds Tryd.pinned (OpenSpec.upto fnExactRaiseStoneSpec)

/-- 'laws.FnExactHighestHour', WHERE WHAT IT READS IS OF BULK AT MOST 1048576: true; the input reads as it did. -/
def fnExactHighestHourUptoRow : OpenClaim := { program := "ythglhfhepooggaadoor", sum := "b433f3b3b0043beea9343fe4cc0c50dedca13f48d4fbaa4d2db216cf063bd42a", func := "loop.example/g01352/laws.FnExactHighestHour", spec := "fnExactHighestHour", inPlace := ["internal/bytealg.IndexByteString", "internal/bytealg.IndexString"], named := ["unicode/utf8.first", "unicode/utf8.acceptRanges", "internal/bytealg.MaxLen"], apart := false, laid := [("unicode/utf8.acceptRanges", laid_unicode_utf8_acceptRanges), ("unicode/utf8.first", laid_unicode_utf8_first)], narrowed := true }
def FnExactHighestHourUptoSaid : Prop := fnExactHighestHourUptoRow.holds Tryd.pinned (OpenSpec.upto fnExactHighestHourSpec)

/-- 'laws.FnExactDryAt', WHERE WHAT IT READS IS OF BULK AT MOST 1048576: true; the input reads as it did. -/
def fnExactDryAtUptoRow : OpenClaim := { program := "ythglhfhepooggaadoor", sum := "b433f3b3b0043beea9343fe4cc0c50dedca13f48d4fbaa4d2db216cf063bd42a", func := "loop.example/g01352/laws.FnExactDryAt", spec := "fnExactDryAt", inPlace := ["internal/bytealg.IndexByteString", "internal/bytealg.IndexString"], named := ["unicode/utf8.first", "unicode/utf8.acceptRanges", "internal/bytealg.MaxLen"], apart := false, laid := [("unicode/utf8.acceptRanges", laid_unicode_utf8_acceptRanges), ("unicode/utf8.first", laid_unicode_utf8_first)], narrowed := true }
def FnExactDryAtUptoSaid : Prop := fnExactDryAtUptoRow.holds Tryd.pinned (OpenSpec.upto fnExactDryAtSpec)

/-- 'laws.FnExactDryHours', WHERE WHAT IT READS IS OF BULK AT MOST 1048576: true; the input reads as it did. -/
def fnExactDryHoursUptoRow : OpenClaim := { program := "ythglhfhepooggaadoor", sum := "b433f3b3b0043beea9343fe4cc0c50dedca13f48d4fbaa4d2db216cf063bd42a", func := "loop.example/g01352/laws.FnExactDryHours", spec := "fnExactDryHours", inPlace := ["internal/bytealg.IndexByteString", "internal/bytealg.IndexString"], named := ["unicode/utf8.first", "unicode/utf8.acceptRanges", "internal/bytealg.MaxLen"], apart := false, laid := [("unicode/utf8.acceptRanges", laid_unicode_utf8_acceptRanges), ("unicode/utf8.first", laid_unicode_utf8_first)], narrowed := true }
def FnExactDryHoursUptoSaid : Prop := fnExactDryHoursUptoRow.holds Tryd.pinned (OpenSpec.upto fnExactDryHoursSpec)

/-- 'laws.FnExactAlwaysDry', WHERE WHAT IT READS IS OF BULK AT MOST 1048576: true; the input reads as it did. -/
def fnExactAlwaysDryUptoRow : OpenClaim := { program := "ythglhfhepooggaadoor", sum := "b433f3b3b0043beea9343fe4cc0c50dedca13f48d4fbaa4d2db216cf063bd42a", func := "loop.example/g01352/laws.FnExactAlwaysDry", spec := "fnExactAlwaysDry", inPlace := ["internal/bytealg.IndexByteString", "internal/bytealg.IndexString"], named := ["unicode/utf8.first", "unicode/utf8.acceptRanges", "internal/bytealg.MaxLen"], apart := false, laid := [("unicode/utf8.acceptRanges", laid_unicode_utf8_acceptRanges), ("unicode/utf8.first", laid_unicode_utf8_first)], narrowed := true }
def FnExactAlwaysDryUptoSaid : Prop := fnExactAlwaysDryUptoRow.holds Tryd.pinned (OpenSpec.upto fnExactAlwaysDrySpec)

/-- 'laws.FnExactNeverDry', WHERE WHAT IT READS IS OF BULK AT MOST 1048576: true; the input reads as it did. -/
def fnExactNeverDryUptoRow : OpenClaim := { program := "ythglhfhepooggaadoor", sum := "b433f3b3b0043beea9343fe4cc0c50dedca13f48d4fbaa4d2db216cf063bd42a", func := "loop.example/g01352/laws.FnExactNeverDry", spec := "fnExactNeverDry", inPlace := ["internal/bytealg.IndexByteString", "internal/bytealg.IndexString"], named := ["unicode/utf8.first", "unicode/utf8.acceptRanges", "internal/bytealg.MaxLen"], apart := false, laid := [("unicode/utf8.acceptRanges", laid_unicode_utf8_acceptRanges), ("unicode/utf8.first", laid_unicode_utf8_first)], narrowed := true }
def FnExactNeverDryUptoSaid : Prop := fnExactNeverDryUptoRow.holds Tryd.pinned (OpenSpec.upto fnExactNeverDrySpec)

/-- 'laws.FnTidesDry', WHERE WHAT IT READS IS OF BULK AT MOST 1048576: true; the input reads as it did. -/
def fnTidesDryUptoRow : OpenClaim := { program := "ythglhfhepooggaadoor", sum := "b433f3b3b0043beea9343fe4cc0c50dedca13f48d4fbaa4d2db216cf063bd42a", func := "loop.example/g01352/laws.FnTidesDry", spec := "fnTidesDry", inPlace := ["internal/bytealg.IndexByteString", "internal/bytealg.IndexString"], recurses := true, named := ["unicode/utf8.first", "unicode/utf8.acceptRanges", "internal/bytealg.MaxLen"], apart := false, laid := [("unicode/utf8.acceptRanges", laid_unicode_utf8_acceptRanges), ("unicode/utf8.first", laid_unicode_utf8_first)], narrowed := true }
def FnTidesDryUptoSaid : Prop := fnTidesDryUptoRow.holds Tryd.pinned (OpenSpec.upto fnTidesDrySpec)

/-- 'laws.FnExactIsTideWay', WHERE WHAT IT READS IS OF BULK AT MOST 1048576: true; the input reads as it did. -/
def fnExactIsTideWayUptoRow : OpenClaim := { program := "ythglhfhepooggaadoor", sum := "b433f3b3b0043beea9343fe4cc0c50dedca13f48d4fbaa4d2db216cf063bd42a", func := "loop.example/g01352/laws.FnExactIsTideWay", spec := "fnExactIsTideWay", inPlace := ["internal/bytealg.IndexByteString", "internal/bytealg.IndexString"], named := ["unicode/utf8.first", "unicode/utf8.acceptRanges", "internal/bytealg.MaxLen"], apart := false, laid := [("unicode/utf8.acceptRanges", laid_unicode_utf8_acceptRanges), ("unicode/utf8.first", laid_unicode_utf8_first)], narrowed := true }
def FnExactIsTideWayUptoSaid : Prop := fnExactIsTideWayUptoRow.holds Tryd.pinned (OpenSpec.upto fnExactIsTideWaySpec)

end Rows
end Go.Proofs.YthglhfhepooggaaDoor
