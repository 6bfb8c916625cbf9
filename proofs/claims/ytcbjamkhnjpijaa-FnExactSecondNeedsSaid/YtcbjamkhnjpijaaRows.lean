/-
  No cell of these rows narrows 'for every input' (looked for: loops, veiled, ifaces, maps, wideKeys, modest, calm, conditions, laid).
  DERIVED. THE GIVEN ROWS OF THIS SEAT. 11 by the template 'for every input the law returns true; each argument reads behind the call as it read before'; 0 by the template 'total and deterministic' (their statements: YtcbjamkhnjpijaaTotals.lean).
  GIVEN WITH THE SEED: the statements are not yours to turn. If you find one false, say at which input.
  Laid BY PROGRAM, IN A SANDBOX (cutbox-rows.mjs): the forced cells as the released guide's own fill.sh prints them over the translation 589396ff6608569f… (all of the seat's roots in one cut). By AI agents, Wed Nov 11 2026. No macro, syntax, notation, axiom, sorry.
-/
import Derived.Test.YtcbjamkhnjpijaaChecked
import GoSem.Claim
import GoSem.ClaimJoined
import GoSem.ClaimMapViews
import Derived.JoinedTies
import Derived.KernelRfl
namespace Go.Proofs.Ytcbjamkhnjpijaa
/- THE CELL 'sum', in the pinned program and in every row, IS THE sha256 OF THE DUMP (.gsa) THAT YtcbjamkhnjpijaaProg.lean LOADS. Nothing in Lean hashes anything: it is a label: what it is worth is what the hold of that sum in a sandbox is worth. -/
noncomputable def Try.pinned : Pinned := { name := "ytcbjamkhnjpijaa", sum := "589396ff6608569fff69946557e8aac6df1f689d62ced4170471d9c17ab6c40f", checked := Try.checked }
namespace Rows
def none {H : Type} : Left H := { results := [], args := [] }

/-- 'laws.FnExactGreatestSquare': WHATEVER THE INPUT: true; the input reads as it did. -/
def fnExactGreatestSquareSpec : ChangeSpec := { name := "fnExactGreatestSquare", fn := fun _ => fun
  | [d] => { results := [.lit (.bool true)], args := [d] }
  | _ => none }
def fnExactGreatestSquareRow : OpenClaim := { program := "ytcbjamkhnjpijaa", sum := "589396ff6608569fff69946557e8aac6df1f689d62ced4170471d9c17ab6c40f", func := "loop.example/g01352/laws.FnExactGreatestSquare", spec := "fnExactGreatestSquare", apart := false }
def FnExactGreatestSquareSaid : Prop := fnExactGreatestSquareRow.holds Try.pinned (OpenSpec.ofChange fnExactGreatestSquareSpec)

/-- ITS FALSE NEIGHBOUR: 'it returns false'. Refute it at one input. -/
def fnExactGreatestSquareWrong : ChangeSpec := { name := "fnExactGreatestSquare", fn := fun _ => fun
  | [d] => { results := [.lit (.bool false)], args := [d] }
  | _ => none }
def FnExactGreatestSquareWrongFalsely : Prop := fnExactGreatestSquareRow.holds Try.pinned (OpenSpec.ofChange fnExactGreatestSquareWrong)

/-- 'laws.FnExactLeastSquarePlank': WHATEVER THE INPUT: true; the input reads as it did. -/
def fnExactLeastSquarePlankSpec : ChangeSpec := { name := "fnExactLeastSquarePlank", fn := fun _ => fun
  | [d] => { results := [.lit (.bool true)], args := [d] }
  | _ => none }
def fnExactLeastSquarePlankRow : OpenClaim := { program := "ytcbjamkhnjpijaa", sum := "589396ff6608569fff69946557e8aac6df1f689d62ced4170471d9c17ab6c40f", func := "loop.example/g01352/laws.FnExactLeastSquarePlank", spec := "fnExactLeastSquarePlank", apart := false }
def FnExactLeastSquarePlankSaid : Prop := fnExactLeastSquarePlankRow.holds Try.pinned (OpenSpec.ofChange fnExactLeastSquarePlankSpec)

/-- ITS FALSE NEIGHBOUR: 'it returns false'. Refute it at one input. -/
def fnExactLeastSquarePlankWrong : ChangeSpec := { name := "fnExactLeastSquarePlank", fn := fun _ => fun
  | [d] => { results := [.lit (.bool false)], args := [d] }
  | _ => none }
def FnExactLeastSquarePlankWrongFalsely : Prop := fnExactLeastSquarePlankRow.holds Try.pinned (OpenSpec.ofChange fnExactLeastSquarePlankWrong)

/-- 'laws.FnExactSquareToInner': WHATEVER THE INPUT: true; the input reads as it did. -/
def fnExactSquareToInnerSpec : ChangeSpec := { name := "fnExactSquareToInner", fn := fun _ => fun
  | [d] => { results := [.lit (.bool true)], args := [d] }
  | _ => none }
def fnExactSquareToInnerRow : OpenClaim := { program := "ytcbjamkhnjpijaa", sum := "589396ff6608569fff69946557e8aac6df1f689d62ced4170471d9c17ab6c40f", func := "loop.example/g01352/laws.FnExactSquareToInner", spec := "fnExactSquareToInner", apart := false }
def FnExactSquareToInnerSaid : Prop := fnExactSquareToInnerRow.holds Try.pinned (OpenSpec.ofChange fnExactSquareToInnerSpec)

/-- ITS FALSE NEIGHBOUR: 'it returns false'. Refute it at one input. -/
def fnExactSquareToInnerWrong : ChangeSpec := { name := "fnExactSquareToInner", fn := fun _ => fun
  | [d] => { results := [.lit (.bool false)], args := [d] }
  | _ => none }
def FnExactSquareToInnerWrongFalsely : Prop := fnExactSquareToInnerRow.holds Try.pinned (OpenSpec.ofChange fnExactSquareToInnerWrong)

/-- 'laws.FnExactNeedsCorner': WHATEVER THE INPUT: true; the input reads as it did. -/
def fnExactNeedsCornerSpec : ChangeSpec := { name := "fnExactNeedsCorner", fn := fun _ => fun
  | [d1, d2] => { results := [.lit (.bool true)], args := [d1, d2] }
  | _ => none }
def fnExactNeedsCornerRow : OpenClaim := { program := "ytcbjamkhnjpijaa", sum := "589396ff6608569fff69946557e8aac6df1f689d62ced4170471d9c17ab6c40f", func := "loop.example/g01352/laws.FnExactNeedsCorner", spec := "fnExactNeedsCorner", apart := false }
def FnExactNeedsCornerSaid : Prop := fnExactNeedsCornerRow.holds Try.pinned (OpenSpec.ofChange fnExactNeedsCornerSpec)

/-- ITS FALSE NEIGHBOUR: 'it returns false'. Refute it at one input. -/
def fnExactNeedsCornerWrong : ChangeSpec := { name := "fnExactNeedsCorner", fn := fun _ => fun
  | [d1, d2] => { results := [.lit (.bool false)], args := [d1, d2] }
  | _ => none }
def FnExactNeedsCornerWrongFalsely : Prop := fnExactNeedsCornerRow.holds Try.pinned (OpenSpec.ofChange fnExactNeedsCornerWrong)

/-- 'laws.FnExactCanTurn': WHATEVER THE INPUT: true; the input reads as it did. -/
def fnExactCanTurnSpec : ChangeSpec := { name := "fnExactCanTurn", fn := fun _ => fun
  | [d1, d2, d3] => { results := [.lit (.bool true)], args := [d1, d2, d3] }
  | _ => none }
def fnExactCanTurnRow : OpenClaim := { program := "ytcbjamkhnjpijaa", sum := "589396ff6608569fff69946557e8aac6df1f689d62ced4170471d9c17ab6c40f", func := "loop.example/g01352/laws.FnExactCanTurn", spec := "fnExactCanTurn", apart := false }
def FnExactCanTurnSaid : Prop := fnExactCanTurnRow.holds Try.pinned (OpenSpec.ofChange fnExactCanTurnSpec)

/-- ITS FALSE NEIGHBOUR: 'it returns false'. Refute it at one input. -/
def fnExactCanTurnWrong : ChangeSpec := { name := "fnExactCanTurn", fn := fun _ => fun
  | [d1, d2, d3] => { results := [.lit (.bool false)], args := [d1, d2, d3] }
  | _ => none }
def FnExactCanTurnWrongFalsely : Prop := fnExactCanTurnRow.holds Try.pinned (OpenSpec.ofChange fnExactCanTurnWrong)

/-- 'laws.FnExactLeanHeight': WHATEVER THE INPUT: true; the input reads as it did. -/
def fnExactLeanHeightSpec : ChangeSpec := { name := "fnExactLeanHeight", fn := fun _ => fun
  | [d1, d2] => { results := [.lit (.bool true)], args := [d1, d2] }
  | _ => none }
def fnExactLeanHeightRow : OpenClaim := { program := "ytcbjamkhnjpijaa", sum := "589396ff6608569fff69946557e8aac6df1f689d62ced4170471d9c17ab6c40f", func := "loop.example/g01352/laws.FnExactLeanHeight", spec := "fnExactLeanHeight", apart := false }
def FnExactLeanHeightSaid : Prop := fnExactLeanHeightRow.holds Try.pinned (OpenSpec.ofChange fnExactLeanHeightSpec)

/-- ITS FALSE NEIGHBOUR: 'it returns false'. Refute it at one input. -/
def fnExactLeanHeightWrong : ChangeSpec := { name := "fnExactLeanHeight", fn := fun _ => fun
  | [d1, d2] => { results := [.lit (.bool false)], args := [d1, d2] }
  | _ => none }
def FnExactLeanHeightWrongFalsely : Prop := fnExactLeanHeightRow.holds Try.pinned (OpenSpec.ofChange fnExactLeanHeightWrong)

/-- 'laws.FnExactTurnCorner': WHATEVER THE INPUT: true; the input reads as it did. -/
def fnExactTurnCornerSpec : ChangeSpec := { name := "fnExactTurnCorner", fn := fun _ => fun
  | [d] => { results := [.lit (.bool true)], args := [d] }
  | _ => none }
def fnExactTurnCornerRow : OpenClaim := { program := "ytcbjamkhnjpijaa", sum := "589396ff6608569fff69946557e8aac6df1f689d62ced4170471d9c17ab6c40f", func := "loop.example/g01352/laws.FnExactTurnCorner", spec := "fnExactTurnCorner", apart := false }
def FnExactTurnCornerSaid : Prop := fnExactTurnCornerRow.holds Try.pinned (OpenSpec.ofChange fnExactTurnCornerSpec)

/-- ITS FALSE NEIGHBOUR: 'it returns false'. Refute it at one input. -/
def fnExactTurnCornerWrong : ChangeSpec := { name := "fnExactTurnCorner", fn := fun _ => fun
  | [d] => { results := [.lit (.bool false)], args := [d] }
  | _ => none }
def FnExactTurnCornerWrongFalsely : Prop := fnExactTurnCornerRow.holds Try.pinned (OpenSpec.ofChange fnExactTurnCornerWrong)

/-- 'laws.FnExactSecondNeeds': WHATEVER THE INPUT: true; the input reads as it did. -/
def fnExactSecondNeedsSpec : ChangeSpec := { name := "fnExactSecondNeeds", fn := fun _ => fun
  | [d1, d2, d3] => { results := [.lit (.bool true)], args := [d1, d2, d3] }
  | _ => none }
def fnExactSecondNeedsRow : OpenClaim := { program := "ytcbjamkhnjpijaa", sum := "589396ff6608569fff69946557e8aac6df1f689d62ced4170471d9c17ab6c40f", func := "loop.example/g01352/laws.FnExactSecondNeeds", spec := "fnExactSecondNeeds", apart := false }
def FnExactSecondNeedsSaid : Prop := fnExactSecondNeedsRow.holds Try.pinned (OpenSpec.ofChange fnExactSecondNeedsSpec)

/-- ITS FALSE NEIGHBOUR: 'it returns false'. Refute it at one input. -/
def fnExactSecondNeedsWrong : ChangeSpec := { name := "fnExactSecondNeeds", fn := fun _ => fun
  | [d1, d2, d3] => { results := [.lit (.bool false)], args := [d1, d2, d3] }
  | _ => none }
def FnExactSecondNeedsWrongFalsely : Prop := fnExactSecondNeedsRow.holds Try.pinned (OpenSpec.ofChange fnExactSecondNeedsWrong)

/-- 'laws.FnExactStepOut': WHATEVER THE INPUT: true; the input reads as it did. -/
def fnExactStepOutSpec : ChangeSpec := { name := "fnExactStepOut", fn := fun _ => fun
  | [d1, d2, d3] => { results := [.lit (.bool true)], args := [d1, d2, d3] }
  | _ => none }
def fnExactStepOutRow : OpenClaim := { program := "ytcbjamkhnjpijaa", sum := "589396ff6608569fff69946557e8aac6df1f689d62ced4170471d9c17ab6c40f", func := "loop.example/g01352/laws.FnExactStepOut", spec := "fnExactStepOut", apart := false }
def FnExactStepOutSaid : Prop := fnExactStepOutRow.holds Try.pinned (OpenSpec.ofChange fnExactStepOutSpec)

/-- ITS FALSE NEIGHBOUR: 'it returns false'. Refute it at one input. -/
def fnExactStepOutWrong : ChangeSpec := { name := "fnExactStepOut", fn := fun _ => fun
  | [d1, d2, d3] => { results := [.lit (.bool false)], args := [d1, d2, d3] }
  | _ => none }
def FnExactStepOutWrongFalsely : Prop := fnExactStepOutRow.holds Try.pinned (OpenSpec.ofChange fnExactStepOutWrong)

/-- 'laws.FnExactCountWithCycles': WHATEVER THE INPUT: true; the input reads as it did. -/
def fnExactCountWithCyclesSpec : ChangeSpec := { name := "fnExactCountWithCycles", fn := fun _ => fun
  | [d1, d2] => { results := [.lit (.bool true)], args := [d1, d2] }
  | _ => none }
def fnExactCountWithCyclesRow : OpenClaim := { program := "ytcbjamkhnjpijaa", sum := "589396ff6608569fff69946557e8aac6df1f689d62ced4170471d9c17ab6c40f", func := "loop.example/g01352/laws.FnExactCountWithCycles", spec := "fnExactCountWithCycles", apart := false }
def FnExactCountWithCyclesSaid : Prop := fnExactCountWithCyclesRow.holds Try.pinned (OpenSpec.ofChange fnExactCountWithCyclesSpec)

/-- ITS FALSE NEIGHBOUR: 'it returns false'. Refute it at one input. -/
def fnExactCountWithCyclesWrong : ChangeSpec := { name := "fnExactCountWithCycles", fn := fun _ => fun
  | [d1, d2] => { results := [.lit (.bool false)], args := [d1, d2] }
  | _ => none }
def FnExactCountWithCyclesWrongFalsely : Prop := fnExactCountWithCyclesRow.holds Try.pinned (OpenSpec.ofChange fnExactCountWithCyclesWrong)

/-- 'laws.FnExactCountWithInverted': WHATEVER THE INPUT: true; the input reads as it did. -/
def fnExactCountWithInvertedSpec : ChangeSpec := { name := "fnExactCountWithInverted", fn := fun _ => fun
  | [d1, d2] => { results := [.lit (.bool true)], args := [d1, d2] }
  | _ => none }
def fnExactCountWithInvertedRow : OpenClaim := { program := "ytcbjamkhnjpijaa", sum := "589396ff6608569fff69946557e8aac6df1f689d62ced4170471d9c17ab6c40f", func := "loop.example/g01352/laws.FnExactCountWithInverted", spec := "fnExactCountWithInverted", apart := false }
def FnExactCountWithInvertedSaid : Prop := fnExactCountWithInvertedRow.holds Try.pinned (OpenSpec.ofChange fnExactCountWithInvertedSpec)

/-- ITS FALSE NEIGHBOUR: 'it returns false'. Refute it at one input. -/
def fnExactCountWithInvertedWrong : ChangeSpec := { name := "fnExactCountWithInverted", fn := fun _ => fun
  | [d1, d2] => { results := [.lit (.bool false)], args := [d1, d2] }
  | _ => none }
def FnExactCountWithInvertedWrongFalsely : Prop := fnExactCountWithInvertedRow.holds Try.pinned (OpenSpec.ofChange fnExactCountWithInvertedWrong)

/- THE SECOND FORM. 'bulk': how many values and letters a reading holds, each counted each time it is reached (what is shared counts as often as it is met; a slice's spare places count too). A statement '..UptoSaid' is the law's where the arguments, and the package variables that the reading takes, are together of bulk at most 1048576: NARROWER than '..Said'. Prove '..Said' where nothing that the law and all that it calls make is longer than what came in: it says more and counts as full. Else prove '..UptoSaid'. A law counts once. -/
mutual
def uptoBulk {H : Type} : DataW H → Nat
  | .lit (.string bytes) => bytes.length + 1
  | .lit _ => 1
  | .nil => 1
  | .ptr d => uptoBulk d + 1
  | .slice elems spare => uptoBulkAll elems + uptoBulkAll spare + 1
  | .agg parts => uptoBulkAll parts + 1
  | .iface _ d => uptoBulk d + 1
  | .map entries => uptoBulkEntries entries + 1
  | .held _ => 1
def uptoBulkAll {H : Type} : List (DataW H) → Nat
  | [] => 0
  | d :: r => uptoBulk d + uptoBulkAll r
def uptoBulkEntries {H : Type} : List (Lit × DataW H) → Nat
  | [] => 0
  | x :: r => uptoBulkEntry x + uptoBulkEntries r
def uptoBulkEntry {H : Type} : Lit × DataW H → Nat
  | (.string bytes, d) => bytes.length + uptoBulk d + 1
  | (_, d) => uptoBulk d + 1
 end
def uptoSmall : (H : Type) → List (DataW H) → Bool := fun _ ds => decide (uptoBulkAll ds ≤ 1048576)
def OpenSpec.upto (s : _root_.Go.ChangeSpec) : _root_.Go.OpenSpec := { _root_.Go.OpenSpec.ofChange s with cond := some uptoSmall }

/-- 'laws.FnExactGreatestSquare', WHERE WHAT IT READS IS OF BULK AT MOST 1048576: true; the input reads as it did. -/
def fnExactGreatestSquareUptoRow : OpenClaim := { program := "ytcbjamkhnjpijaa", sum := "589396ff6608569fff69946557e8aac6df1f689d62ced4170471d9c17ab6c40f", func := "loop.example/g01352/laws.FnExactGreatestSquare", spec := "fnExactGreatestSquare", apart := false, narrowed := true }
def FnExactGreatestSquareUptoSaid : Prop := fnExactGreatestSquareUptoRow.holds Try.pinned (OpenSpec.upto fnExactGreatestSquareSpec)

/-- 'laws.FnExactLeastSquarePlank', WHERE WHAT IT READS IS OF BULK AT MOST 1048576: true; the input reads as it did. -/
def fnExactLeastSquarePlankUptoRow : OpenClaim := { program := "ytcbjamkhnjpijaa", sum := "589396ff6608569fff69946557e8aac6df1f689d62ced4170471d9c17ab6c40f", func := "loop.example/g01352/laws.FnExactLeastSquarePlank", spec := "fnExactLeastSquarePlank", apart := false, narrowed := true }
def FnExactLeastSquarePlankUptoSaid : Prop := fnExactLeastSquarePlankUptoRow.holds Try.pinned (OpenSpec.upto fnExactLeastSquarePlankSpec)

/-- 'laws.FnExactSquareToInner', WHERE WHAT IT READS IS OF BULK AT MOST 1048576: true; the input reads as it did. -/
def fnExactSquareToInnerUptoRow : OpenClaim := { program := "ytcbjamkhnjpijaa", sum := "589396ff6608569fff69946557e8aac6df1f689d62ced4170471d9c17ab6c40f", func := "loop.example/g01352/laws.FnExactSquareToInner", spec := "fnExactSquareToInner", apart := false, narrowed := true }
def FnExactSquareToInnerUptoSaid : Prop := fnExactSquareToInnerUptoRow.holds Try.pinned (OpenSpec.upto fnExactSquareToInnerSpec)

/-- 'laws.FnExactNeedsCorner', WHERE WHAT IT READS IS OF BULK AT MOST 1048576: true; the input reads as it did. -/
def fnExactNeedsCornerUptoRow : OpenClaim := { program := "ytcbjamkhnjpijaa", sum := "589396ff6608569fff69946557e8aac6df1f689d62ced4170471d9c17ab6c40f", func := "loop.example/g01352/laws.FnExactNeedsCorner", spec := "fnExactNeedsCorner", apart := false, narrowed := true }
def FnExactNeedsCornerUptoSaid : Prop := fnExactNeedsCornerUptoRow.holds Try.pinned (OpenSpec.upto fnExactNeedsCornerSpec)

/-- 'laws.FnExactCanTurn', WHERE WHAT IT READS IS OF BULK AT MOST 1048576: true; the input reads as it did. -/
def fnExactCanTurnUptoRow : OpenClaim := { program := "ytcbjamkhnjpijaa", sum := "589396ff6608569fff69946557e8aac6df1f689d62ced4170471d9c17ab6c40f", func := "loop.example/g01352/laws.FnExactCanTurn", spec := "fnExactCanTurn", apart := false, narrowed := true }
def FnExactCanTurnUptoSaid : Prop := fnExactCanTurnUptoRow.holds Try.pinned (OpenSpec.upto fnExactCanTurnSpec)

/-- 'laws.FnExactLeanHeight', WHERE WHAT IT READS IS OF BULK AT MOST 1048576: true; the input reads as it did. -/
def fnExactLeanHeightUptoRow : OpenClaim := { program := "ytcbjamkhnjpijaa", sum := "589396ff6608569fff69946557e8aac6df1f689d62ced4170471d9c17ab6c40f", func := "loop.example/g01352/laws.FnExactLeanHeight", spec := "fnExactLeanHeight", apart := false, narrowed := true }
def FnExactLeanHeightUptoSaid : Prop := fnExactLeanHeightUptoRow.holds Try.pinned (OpenSpec.upto fnExactLeanHeightSpec)

/-- 'laws.FnExactTurnCorner', WHERE WHAT IT READS IS OF BULK AT MOST 1048576: true; the input reads as it did. -/
def fnExactTurnCornerUptoRow : OpenClaim := { program := "ytcbjamkhnjpijaa", sum := "589396ff6608569fff69946557e8aac6df1f689d62ced4170471d9c17ab6c40f", func := "loop.example/g01352/laws.FnExactTurnCorner", spec := "fnExactTurnCorner", apart := false, narrowed := true }
def FnExactTurnCornerUptoSaid : Prop := fnExactTurnCornerUptoRow.holds Try.pinned (OpenSpec.upto fnExactTurnCornerSpec)

/-- 'laws.FnExactSecondNeeds', WHERE WHAT IT READS IS OF BULK AT MOST 1048576: true; the input reads as it did. -/
def fnExactSecondNeedsUptoRow : OpenClaim := { program := "ytcbjamkhnjpijaa", sum := "589396ff6608569fff69946557e8aac6df1f689d62ced4170471d9c17ab6c40f", func := "loop.example/g01352/laws.FnExactSecondNeeds", spec := "fnExactSecondNeeds", apart := false, narrowed := true }
def FnExactSecondNeedsUptoSaid : Prop := fnExactSecondNeedsUptoRow.holds Try.pinned (OpenSpec.upto fnExactSecondNeedsSpec)

/-- 'laws.FnExactStepOut', WHERE WHAT IT READS IS OF BULK AT MOST 1048576: true; the input reads as it did. -/
def fnExactStepOutUptoRow : OpenClaim := { program := "ytcbjamkhnjpijaa", sum := "589396ff6608569fff69946557e8aac6df1f689d62ced4170471d9c17ab6c40f", func := "loop.example/g01352/laws.FnExactStepOut", spec := "fnExactStepOut", apart := false, narrowed := true }
def FnExactStepOutUptoSaid : Prop := fnExactStepOutUptoRow.holds Try.pinned (OpenSpec.upto fnExactStepOutSpec)

/-- 'laws.FnExactCountWithCycles', WHERE WHAT IT READS IS OF BULK AT MOST 1048576: true; the input reads as it did. -/
def fnExactCountWithCyclesUptoRow : OpenClaim := { program := "ytcbjamkhnjpijaa", sum := "589396ff6608569fff69946557e8aac6df1f689d62ced4170471d9c17ab6c40f", func := "loop.example/g01352/laws.FnExactCountWithCycles", spec := "fnExactCountWithCycles", apart := false, narrowed := true }
def FnExactCountWithCyclesUptoSaid : Prop := fnExactCountWithCyclesUptoRow.holds Try.pinned (OpenSpec.upto fnExactCountWithCyclesSpec)

/-- 'laws.FnExactCountWithInverted', WHERE WHAT IT READS IS OF BULK AT MOST 1048576: true; the input reads as it did. -/
def fnExactCountWithInvertedUptoRow : OpenClaim := { program := "ytcbjamkhnjpijaa", sum := "589396ff6608569fff69946557e8aac6df1f689d62ced4170471d9c17ab6c40f", func := "loop.example/g01352/laws.FnExactCountWithInverted", spec := "fnExactCountWithInverted", apart := false, narrowed := true }
def FnExactCountWithInvertedUptoSaid : Prop := fnExactCountWithInvertedUptoRow.holds Try.pinned (OpenSpec.upto fnExactCountWithInvertedSpec)

end Rows
end Go.Proofs.Ytcbjamkhnjpijaa
