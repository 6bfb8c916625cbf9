/-
  NARROWER THAN 'FOR EVERY INPUT', by the rows' own cells (each row's printed sentence says how): FnExactEarliestAt: laid · FnExactEarliestWay: laid · FnExactArrivalsOf: laid · FnExactLatestStart: laid · FnExactFewestHours: laid · FnExactLeastTideLeap: laid · FnExactStartsWithin: laid · FnExactCountTideWays: laid.
  DERIVED. THE GIVEN ROWS OF THIS SEAT. 8 by the template 'for every input the law returns true; each argument reads behind the call as it read before'; 0 by the template 'total and deterministic' (their statements: YteijbohbdhemoaaDoorTotals.lean).
  GIVEN WITH THE SEED: the statements are not yours to turn. If you find one false, say at which input.
  Laid BY PROGRAM, IN A SANDBOX (cutbox-rows.mjs): the forced cells as the released guide's own fill.sh prints them over the translation f5b5aa7b7f218e40… (all of the seat's roots in one cut). By AI agents, Wed Nov 11 2026. No macro, syntax, notation, axiom, sorry.
-/
import Derived.Test.YteijbohbdhemoaaDoorChecked
import GoSem.PinnedTables
import GoSem.Claim
import GoSem.ClaimJoined
import GoSem.ClaimMapViews
import Derived.JoinedTies
import Derived.KernelRfl
namespace Go.Proofs.YteijbohbdhemoaaDoor
/- THE CELL 'sum', in the pinned program and in every row, IS THE sha256 OF THE DUMP (.gsa) THAT YteijbohbdhemoaaDoorProg.lean LOADS. Nothing in Lean hashes anything: it is a label: what it is worth is what the hold of that sum in a sandbox is worth. -/
noncomputable def Tryd.pinned : Pinned := { name := "yteijbohbdhemoaadoor", sum := "f5b5aa7b7f218e40d5fc1a8a8f9a80f6372f489f4b4033b563e19d7c6cd3d270", checked := Tryd.checked }
namespace Rows
def none {H : Type} : Left H := { results := [], args := [] }

/- WHAT THE LISTED PACKAGE-LEVEL VARIABLES READ AS WHEN THE CALL BEGINS. Each datum BY PROGRAM (the guide's laid-datum.mjs) off the statement by which the dump's own 'gosem.cut.vars' lays the variable. In a bare row this is a premise. The card (YteijbohbdhemoaaDoorCards.lean) ties it to the program's text. -/
def laid_unicode_utf8_acceptRanges {H : Type} : DataW H := .agg [.agg [.lit (.int .u8 128), .lit (.int .u8 191)], .agg [.lit (.int .u8 160), .lit (.int .u8 191)], .agg [.lit (.int .u8 128), .lit (.int .u8 159)], .agg [.lit (.int .u8 144), .lit (.int .u8 191)], .agg [.lit (.int .u8 128), .lit (.int .u8 143)], .agg [.lit (.int .u8 0), .lit (.int .u8 0)], .agg [.lit (.int .u8 0), .lit (.int .u8 0)], .agg [.lit (.int .u8 0), .lit (.int .u8 0)], .agg [.lit (.int .u8 0), .lit (.int .u8 0)], .agg [.lit (.int .u8 0), .lit (.int .u8 0)], .agg [.lit (.int .u8 0), .lit (.int .u8 0)], .agg [.lit (.int .u8 0), .lit (.int .u8 0)], .agg [.lit (.int .u8 0), .lit (.int .u8 0)], .agg [.lit (.int .u8 0), .lit (.int .u8 0)], .agg [.lit (.int .u8 0), .lit (.int .u8 0)], .agg [.lit (.int .u8 0), .lit (.int .u8 0)]]
/-- One of Go's own tables, pinned by name: the form's constant. -/
def laid_unicode_utf8_first : DataW Unit := Go.Pinned.utf8First

/-- 'laws.FnExactEarliestAt': WHATEVER THE INPUT: true; the input reads as it did. -/
def fnExactEarliestAtSpec : ChangeSpec := { name := "fnExactEarliestAt", fn := fun _ => fun
  | [d1, d2, d3, d4] => { results := [.lit (.bool true)], args := [d1, d2, d3, d4] }
  | _ => none }
def fnExactEarliestAtRow : OpenClaim := { program := "yteijbohbdhemoaadoor", sum := "f5b5aa7b7f218e40d5fc1a8a8f9a80f6372f489f4b4033b563e19d7c6cd3d270", func := "loop.example/g01352/laws.FnExactEarliestAt", spec := "fnExactEarliestAt", inPlace := ["internal/bytealg.IndexByteString", "internal/bytealg.IndexString"], named := ["unicode/utf8.first", "unicode/utf8.acceptRanges", "internal/bytealg.MaxLen"], apart := false, laid := [("unicode/utf8.acceptRanges", laid_unicode_utf8_acceptRanges), ("unicode/utf8.first", laid_unicode_utf8_first)] }
def FnExactEarliestAtSaid : Prop := fnExactEarliestAtRow.holds Tryd.pinned (OpenSpec.ofChange fnExactEarliestAtSpec)

/-- ITS FALSE NEIGHBOUR: 'it returns false'. Refute it at one input. -/
def fnExactEarliestAtWrong : ChangeSpec := { name := "fnExactEarliestAt", fn := fun _ => fun
  | [d1, d2, d3, d4] => { results := [.lit (.bool false)], args := [d1, d2, d3, d4] }
  | _ => none }
def FnExactEarliestAtWrongFalsely : Prop := fnExactEarliestAtRow.holds Tryd.pinned (OpenSpec.ofChange fnExactEarliestAtWrong)

/-- 'laws.FnExactEarliestWay': WHATEVER THE INPUT: true; the input reads as it did. -/
def fnExactEarliestWaySpec : ChangeSpec := { name := "fnExactEarliestWay", fn := fun _ => fun
  | [d1, d2, d3, d4] => { results := [.lit (.bool true)], args := [d1, d2, d3, d4] }
  | _ => none }
def fnExactEarliestWayRow : OpenClaim := { program := "yteijbohbdhemoaadoor", sum := "f5b5aa7b7f218e40d5fc1a8a8f9a80f6372f489f4b4033b563e19d7c6cd3d270", func := "loop.example/g01352/laws.FnExactEarliestWay", spec := "fnExactEarliestWay", inPlace := ["internal/bytealg.IndexByteString", "internal/bytealg.IndexString"], named := ["unicode/utf8.first", "unicode/utf8.acceptRanges", "internal/bytealg.MaxLen"], apart := false, laid := [("unicode/utf8.acceptRanges", laid_unicode_utf8_acceptRanges), ("unicode/utf8.first", laid_unicode_utf8_first)] }
def FnExactEarliestWaySaid : Prop := fnExactEarliestWayRow.holds Tryd.pinned (OpenSpec.ofChange fnExactEarliestWaySpec)

/-- ITS FALSE NEIGHBOUR: 'it returns false'. Refute it at one input. -/
def fnExactEarliestWayWrong : ChangeSpec := { name := "fnExactEarliestWay", fn := fun _ => fun
  | [d1, d2, d3, d4] => { results := [.lit (.bool false)], args := [d1, d2, d3, d4] }
  | _ => none }
def FnExactEarliestWayWrongFalsely : Prop := fnExactEarliestWayRow.holds Tryd.pinned (OpenSpec.ofChange fnExactEarliestWayWrong)

/-- 'laws.FnExactArrivalsOf': WHATEVER THE INPUT: true; the input reads as it did. -/
def fnExactArrivalsOfSpec : ChangeSpec := { name := "fnExactArrivalsOf", fn := fun _ => fun
  | [d1, d2, d3, d4] => { results := [.lit (.bool true)], args := [d1, d2, d3, d4] }
  | _ => none }
def fnExactArrivalsOfRow : OpenClaim := { program := "yteijbohbdhemoaadoor", sum := "f5b5aa7b7f218e40d5fc1a8a8f9a80f6372f489f4b4033b563e19d7c6cd3d270", func := "loop.example/g01352/laws.FnExactArrivalsOf", spec := "fnExactArrivalsOf", inPlace := ["internal/bytealg.IndexByteString", "internal/bytealg.IndexString"], named := ["unicode/utf8.first", "unicode/utf8.acceptRanges", "internal/bytealg.MaxLen"], apart := false, laid := [("unicode/utf8.acceptRanges", laid_unicode_utf8_acceptRanges), ("unicode/utf8.first", laid_unicode_utf8_first)] }
def FnExactArrivalsOfSaid : Prop := fnExactArrivalsOfRow.holds Tryd.pinned (OpenSpec.ofChange fnExactArrivalsOfSpec)

/-- ITS FALSE NEIGHBOUR: 'it returns false'. Refute it at one input. -/
def fnExactArrivalsOfWrong : ChangeSpec := { name := "fnExactArrivalsOf", fn := fun _ => fun
  | [d1, d2, d3, d4] => { results := [.lit (.bool false)], args := [d1, d2, d3, d4] }
  | _ => none }
def FnExactArrivalsOfWrongFalsely : Prop := fnExactArrivalsOfRow.holds Tryd.pinned (OpenSpec.ofChange fnExactArrivalsOfWrong)

/-- 'laws.FnExactLatestStart': WHATEVER THE INPUT: true; the input reads as it did. -/
def fnExactLatestStartSpec : ChangeSpec := { name := "fnExactLatestStart", fn := fun _ => fun
  | [d1, d2, d3, d4] => { results := [.lit (.bool true)], args := [d1, d2, d3, d4] }
  | _ => none }
def fnExactLatestStartRow : OpenClaim := { program := "yteijbohbdhemoaadoor", sum := "f5b5aa7b7f218e40d5fc1a8a8f9a80f6372f489f4b4033b563e19d7c6cd3d270", func := "loop.example/g01352/laws.FnExactLatestStart", spec := "fnExactLatestStart", inPlace := ["internal/bytealg.IndexByteString", "internal/bytealg.IndexString"], named := ["unicode/utf8.first", "unicode/utf8.acceptRanges", "internal/bytealg.MaxLen"], apart := false, laid := [("unicode/utf8.acceptRanges", laid_unicode_utf8_acceptRanges), ("unicode/utf8.first", laid_unicode_utf8_first)] }
def FnExactLatestStartSaid : Prop := fnExactLatestStartRow.holds Tryd.pinned (OpenSpec.ofChange fnExactLatestStartSpec)

/-- ITS FALSE NEIGHBOUR: 'it returns false'. Refute it at one input. -/
def fnExactLatestStartWrong : ChangeSpec := { name := "fnExactLatestStart", fn := fun _ => fun
  | [d1, d2, d3, d4] => { results := [.lit (.bool false)], args := [d1, d2, d3, d4] }
  | _ => none }
def FnExactLatestStartWrongFalsely : Prop := fnExactLatestStartRow.holds Tryd.pinned (OpenSpec.ofChange fnExactLatestStartWrong)

/-- 'laws.FnExactFewestHours': WHATEVER THE INPUT: true; the input reads as it did. -/
def fnExactFewestHoursSpec : ChangeSpec := { name := "fnExactFewestHours", fn := fun _ => fun
  | [d1, d2, d3] => { results := [.lit (.bool true)], args := [d1, d2, d3] }
  | _ => none }
def fnExactFewestHoursRow : OpenClaim := { program := "yteijbohbdhemoaadoor", sum := "f5b5aa7b7f218e40d5fc1a8a8f9a80f6372f489f4b4033b563e19d7c6cd3d270", func := "loop.example/g01352/laws.FnExactFewestHours", spec := "fnExactFewestHours", inPlace := ["internal/bytealg.IndexByteString", "internal/bytealg.IndexString"], named := ["unicode/utf8.first", "unicode/utf8.acceptRanges", "internal/bytealg.MaxLen"], apart := false, laid := [("unicode/utf8.acceptRanges", laid_unicode_utf8_acceptRanges), ("unicode/utf8.first", laid_unicode_utf8_first)] }
def FnExactFewestHoursSaid : Prop := fnExactFewestHoursRow.holds Tryd.pinned (OpenSpec.ofChange fnExactFewestHoursSpec)

/-- ITS FALSE NEIGHBOUR: 'it returns false'. Refute it at one input. -/
def fnExactFewestHoursWrong : ChangeSpec := { name := "fnExactFewestHours", fn := fun _ => fun
  | [d1, d2, d3] => { results := [.lit (.bool false)], args := [d1, d2, d3] }
  | _ => none }
def FnExactFewestHoursWrongFalsely : Prop := fnExactFewestHoursRow.holds Tryd.pinned (OpenSpec.ofChange fnExactFewestHoursWrong)

/-- 'laws.FnExactLeastTideLeap': WHATEVER THE INPUT: true; the input reads as it did. -/
def fnExactLeastTideLeapSpec : ChangeSpec := { name := "fnExactLeastTideLeap", fn := fun _ => fun
  | [d1, d2] => { results := [.lit (.bool true)], args := [d1, d2] }
  | _ => none }
def fnExactLeastTideLeapRow : OpenClaim := { program := "yteijbohbdhemoaadoor", sum := "f5b5aa7b7f218e40d5fc1a8a8f9a80f6372f489f4b4033b563e19d7c6cd3d270", func := "loop.example/g01352/laws.FnExactLeastTideLeap", spec := "fnExactLeastTideLeap", inPlace := ["internal/bytealg.IndexByteString", "internal/bytealg.IndexString"], named := ["unicode/utf8.first", "unicode/utf8.acceptRanges", "internal/bytealg.MaxLen"], apart := false, laid := [("unicode/utf8.acceptRanges", laid_unicode_utf8_acceptRanges), ("unicode/utf8.first", laid_unicode_utf8_first)] }
def FnExactLeastTideLeapSaid : Prop := fnExactLeastTideLeapRow.holds Tryd.pinned (OpenSpec.ofChange fnExactLeastTideLeapSpec)

/-- ITS FALSE NEIGHBOUR: 'it returns false'. Refute it at one input. -/
def fnExactLeastTideLeapWrong : ChangeSpec := { name := "fnExactLeastTideLeap", fn := fun _ => fun
  | [d1, d2] => { results := [.lit (.bool false)], args := [d1, d2] }
  | _ => none }
def FnExactLeastTideLeapWrongFalsely : Prop := fnExactLeastTideLeapRow.holds Tryd.pinned (OpenSpec.ofChange fnExactLeastTideLeapWrong)

/-- 'laws.FnExactStartsWithin': WHATEVER THE INPUT: true; the input reads as it did. -/
def fnExactStartsWithinSpec : ChangeSpec := { name := "fnExactStartsWithin", fn := fun _ => fun
  | [d1, d2, d3, d4] => { results := [.lit (.bool true)], args := [d1, d2, d3, d4] }
  | _ => none }
def fnExactStartsWithinRow : OpenClaim := { program := "yteijbohbdhemoaadoor", sum := "f5b5aa7b7f218e40d5fc1a8a8f9a80f6372f489f4b4033b563e19d7c6cd3d270", func := "loop.example/g01352/laws.FnExactStartsWithin", spec := "fnExactStartsWithin", inPlace := ["internal/bytealg.IndexByteString", "internal/bytealg.IndexString"], named := ["unicode/utf8.first", "unicode/utf8.acceptRanges", "internal/bytealg.MaxLen"], apart := false, laid := [("unicode/utf8.acceptRanges", laid_unicode_utf8_acceptRanges), ("unicode/utf8.first", laid_unicode_utf8_first)] }
def FnExactStartsWithinSaid : Prop := fnExactStartsWithinRow.holds Tryd.pinned (OpenSpec.ofChange fnExactStartsWithinSpec)

/-- ITS FALSE NEIGHBOUR: 'it returns false'. Refute it at one input. -/
def fnExactStartsWithinWrong : ChangeSpec := { name := "fnExactStartsWithin", fn := fun _ => fun
  | [d1, d2, d3, d4] => { results := [.lit (.bool false)], args := [d1, d2, d3, d4] }
  | _ => none }
def FnExactStartsWithinWrongFalsely : Prop := fnExactStartsWithinRow.holds Tryd.pinned (OpenSpec.ofChange fnExactStartsWithinWrong)

/-- 'laws.FnExactCountTideWays': WHATEVER THE INPUT: true; the input reads as it did. -/
def fnExactCountTideWaysSpec : ChangeSpec := { name := "fnExactCountTideWays", fn := fun _ => fun
  | [d1, d2, d3, d4, d5] => { results := [.lit (.bool true)], args := [d1, d2, d3, d4, d5] }
  | _ => none }
def fnExactCountTideWaysRow : OpenClaim := { program := "yteijbohbdhemoaadoor", sum := "f5b5aa7b7f218e40d5fc1a8a8f9a80f6372f489f4b4033b563e19d7c6cd3d270", func := "loop.example/g01352/laws.FnExactCountTideWays", spec := "fnExactCountTideWays", inPlace := ["internal/bytealg.IndexByteString", "internal/bytealg.IndexString"], named := ["unicode/utf8.first", "unicode/utf8.acceptRanges", "internal/bytealg.MaxLen"], apart := false, laid := [("unicode/utf8.acceptRanges", laid_unicode_utf8_acceptRanges), ("unicode/utf8.first", laid_unicode_utf8_first)] }
def FnExactCountTideWaysSaid : Prop := fnExactCountTideWaysRow.holds Tryd.pinned (OpenSpec.ofChange fnExactCountTideWaysSpec)

/-- ITS FALSE NEIGHBOUR: 'it returns false'. Refute it at one input. -/
def fnExactCountTideWaysWrong : ChangeSpec := { name := "fnExactCountTideWays", fn := fun _ => fun
  | [d1, d2, d3, d4, d5] => { results := [.lit (.bool false)], args := [d1, d2, d3, d4, d5] }
  | _ => none }
def FnExactCountTideWaysWrongFalsely : Prop := fnExactCountTideWaysRow.holds Tryd.pinned (OpenSpec.ofChange fnExactCountTideWaysWrong)

/- THE SECOND FORM. 'bulk': how many values and letters a reading holds, each counted each time it is reached (what is shared counts as often as it is met; a slice's spare places count too). A statement '..UptoSaid' is the law's where the arguments, and the package variables that the reading takes, are together of bulk at most 1048576: NARROWER than '..Said'. Prove '..Said' where nothing that the law and all that it calls make is longer than what came in: it says more and counts as full. Else prove '..UptoSaid'. A law counts once. -/
mutual
def uptoBulk {H : Type} : DataW H → Nat
  | .lit (.string bytes) => bytes.length + 1
  | .lit _ => 1
  | .nil => 1
  | .ptr d => uptoBulk d + 1
  | .slice elems spare => uptoBulkAll elems + uptoBulkAll spare + 1
  | .agg parts => uptoBulkAll parts + 1
  | .iface _ d => uptoBulk d + 1
  | .map entries => uptoBulkEntries entries + 1
  | .held _ => 1
def uptoBulkAll {H : Type} : List (DataW H) → Nat
  | [] => 0
  | d :: r => uptoBulk d + uptoBulkAll r
def uptoBulkEntries {H : Type} : List (Lit × DataW H) → Nat
  | [] => 0
  | x :: r => uptoBulkEntry x + uptoBulkEntries r
def uptoBulkEntry {H : Type} : Lit × DataW H → Nat
  | (.string bytes, d) => bytes.length + uptoBulk d + 1
  | (_, d) => uptoBulk d + 1
 end
def uptoSmall : (H : Type) → List (DataW H) → Bool := fun _ ds => decide (uptoBulkAll ds ≤ 1048576)
def OpenSpec.upto (s : _root_.Go.ChangeSpec) : _root_.Go.OpenSpec := { _root_.Go.OpenSpec.ofChange s with cond := some uptoSmall }

/-- 'laws.FnExactEarliestAt', WHERE WHAT IT READS IS OF BULK AT MOST 1048576: true; the input reads as it did. -/
def fnExactEarliestAtUptoRow : OpenClaim := { program := "yteijbohbdhemoaadoor", sum := "f5b5aa7b7f218e40d5fc1a8a8f9a80f6372f489f4b4033b563e19d7c6cd3d270", func := "loop.example/g01352/laws.FnExactEarliestAt", spec := "fnExactEarliestAt", inPlace := ["internal/bytealg.IndexByteString", "internal/bytealg.IndexString"], named := ["unicode/utf8.first", "unicode/utf8.acceptRanges", "internal/bytealg.MaxLen"], apart := false, laid := [("unicode/utf8.acceptRanges", laid_unicode_utf8_acceptRanges), ("unicode/utf8.first", laid_unicode_utf8_first)], narrowed := true }
def FnExactEarliestAtUptoSaid : Prop := fnExactEarliestAtUptoRow.holds Tryd.pinned (OpenSpec.upto fnExactEarliestAtSpec)

/-- 'laws.FnExactEarliestWay', WHERE WHAT IT READS IS OF BULK AT MOST 1048576: true; the input reads as it did. -/
def fnExactEarliestWayUptoRow : OpenClaim := { program := "yteijbohbdhemoaadoor", sum := "f5b5aa7b7f218e40d5fc1a8a8f9a80f6372f489f4b4033b563e19d7c6cd3d270", func := "loop.example/g01352/laws.FnExactEarliestWay", spec := "fnExactEarliestWay", inPlace := ["internal/bytealg.IndexByteString", "internal/bytealg.IndexString"], named := ["unicode/utf8.first", "unicode/utf8.acceptRanges", "internal/bytealg.MaxLen"], apart := false, laid := [("unicode/utf8.acceptRanges", laid_unicode_utf8_acceptRanges), ("unicode/utf8.first", laid_unicode_utf8_first)], narrowed := true }
def FnExactEarliestWayUptoSaid : Prop := fnExactEarliestWayUptoRow.holds Tryd.pinned (OpenSpec.upto fnExactEarliestWaySpec)

/-- 'laws.FnExactArrivalsOf', WHERE WHAT IT READS IS OF BULK AT MOST 1048576: true; the input reads as it did. -/
def fnExactArrivalsOfUptoRow : OpenClaim := { program := "yteijbohbdhemoaadoor", sum := "f5b5aa7b7f218e40d5fc1a8a8f9a80f6372f489f4b4033b563e19d7c6cd3d270", func := "loop.example/g01352/laws.FnExactArrivalsOf", spec := "fnExactArrivalsOf", inPlace := ["internal/bytealg.IndexByteString", "internal/bytealg.IndexString"], named := ["unicode/utf8.first", "unicode/utf8.acceptRanges", "internal/bytealg.MaxLen"], apart := false, laid := [("unicode/utf8.acceptRanges", laid_unicode_utf8_acceptRanges), ("unicode/utf8.first", laid_unicode_utf8_first)], narrowed := true }
def FnExactArrivalsOfUptoSaid : Prop := fnExactArrivalsOfUptoRow.holds Tryd.pinned (OpenSpec.upto fnExactArrivalsOfSpec)

/-- 'laws.FnExactLatestStart', WHERE WHAT IT READS IS OF BULK AT MOST 1048576: true; the input reads as it did. -/
def fnExactLatestStartUptoRow : OpenClaim := { program := "yteijbohbdhemoaadoor", sum := "f5b5aa7b7f218e40d5fc1a8a8f9a80f6372f489f4b4033b563e19d7c6cd3d270", func := "loop.example/g01352/laws.FnExactLatestStart", spec := "fnExactLatestStart", inPlace := ["internal/bytealg.IndexByteString", "internal/bytealg.IndexString"], named := ["unicode/utf8.first", "unicode/utf8.acceptRanges", "internal/bytealg.MaxLen"], apart := false, laid := [("unicode/utf8.acceptRanges", laid_unicode_utf8_acceptRanges), ("unicode/utf8.first", laid_unicode_utf8_first)], narrowed := true }
def FnExactLatestStartUptoSaid : Prop := fnExactLatestStartUptoRow.holds Tryd.pinned (OpenSpec.upto fnExactLatestStartSpec)

/-- 'laws.FnExactFewestHours', WHERE WHAT IT READS IS OF BULK AT MOST 1048576: true; the input reads as it did. -/
def fnExactFewestHoursUptoRow : OpenClaim := { program := "yteijbohbdhemoaadoor", sum := "f5b5aa7b7f218e40d5fc1a8a8f9a80f6372f489f4b4033b563e19d7c6cd3d270", func := "loop.example/g01352/laws.FnExactFewestHours", spec := "fnExactFewestHours", inPlace := ["internal/bytealg.IndexByteString", "internal/bytealg.IndexString"], named := ["unicode/utf8.first", "unicode/utf8.acceptRanges", "internal/bytealg.MaxLen"], apart := false, laid := [("unicode/utf8.acceptRanges", laid_unicode_utf8_acceptRanges), ("unicode/utf8.first", laid_unicode_utf8_first)], narrowed := true }
def FnExactFewestHoursUptoSaid : Prop := fnExactFewestHoursUptoRow.holds Tryd.pinned (OpenSpec.upto fnExactFewestHoursSpec)

/-- 'laws.FnExactLeastTideLeap', WHERE WHAT IT READS IS OF BULK AT MOST 1048576: true; the input reads as it did. -/
def fnExactLeastTideLeapUptoRow : OpenClaim := { program := "yteijbohbdhemoaadoor", sum := "f5b5aa7b7f218e40d5fc1a8a8f9a80f6372f489f4b4033b563e19d7c6cd3d270", func := "loop.example/g01352/laws.FnExactLeastTideLeap", spec := "fnExactLeastTideLeap", inPlace := ["internal/bytealg.IndexByteString", "internal/bytealg.IndexString"], named := ["unicode/utf8.first", "unicode/utf8.acceptRanges", "internal/bytealg.MaxLen"], apart := false, laid := [("unicode/utf8.acceptRanges", laid_unicode_utf8_acceptRanges), ("unicode/utf8.first", laid_unicode_utf8_first)], narrowed := true }
def FnExactLeastTideLeapUptoSaid : Prop := fnExactLeastTideLeapUptoRow.holds Tryd.pinned (OpenSpec.upto fnExactLeastTideLeapSpec)

/-- 'laws.FnExactStartsWithin', WHERE WHAT IT READS IS OF BULK AT MOST 1048576: true; the input reads as it did. -/
def fnExactStartsWithinUptoRow : OpenClaim := { program := "yteijbohbdhemoaadoor", sum := "f5b5aa7b7f218e40d5fc1a8a8f9a80f6372f489f4b4033b563e19d7c6cd3d270", func := "loop.example/g01352/laws.FnExactStartsWithin", spec := "fnExactStartsWithin", inPlace := ["internal/bytealg.IndexByteString", "internal/bytealg.IndexString"], named := ["unicode/utf8.first", "unicode/utf8.acceptRanges", "internal/bytealg.MaxLen"], apart := false, laid := [("unicode/utf8.acceptRanges", laid_unicode_utf8_acceptRanges), ("unicode/utf8.first", laid_unicode_utf8_first)], narrowed := true }
def FnExactStartsWithinUptoSaid : Prop := fnExactStartsWithinUptoRow.holds Tryd.pinned (OpenSpec.upto fnExactStartsWithinSpec)

/-- 'laws.FnExactCountTideWays', WHERE WHAT IT READS IS OF BULK AT MOST 1048576: true; the input reads as it did. -/
def fnExactCountTideWaysUptoRow : OpenClaim := { program := "yteijbohbdhemoaadoor", sum := "f5b5aa7b7f218e40d5fc1a8a8f9a80f6372f489f4b4033b563e19d7c6cd3d270", func := "loop.example/g01352/laws.FnExactCountTideWays", spec := "fnExactCountTideWays", inPlace := ["internal/bytealg.IndexByteString", "internal/bytealg.IndexString"], named := ["unicode/utf8.first", "unicode/utf8.acceptRanges", "internal/bytealg.MaxLen"], apart := false, laid := [("unicode/utf8.acceptRanges", laid_unicode_utf8_acceptRanges), ("unicode/utf8.first", laid_unicode_utf8_first)], narrowed := true }
def FnExactCountTideWaysUptoSaid : Prop := fnExactCountTideWaysUptoRow.holds Tryd.pinned (OpenSpec.upto fnExactCountTideWaysSpec)

end Rows
end Go.Proofs.YteijbohbdhemoaaDoor
