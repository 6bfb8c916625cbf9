/-
  No cell of these rows narrows 'for every input' (looked for: loops, veiled, ifaces, maps, wideKeys, modest, calm, conditions, laid).
  DERIVED. THE GIVEN ROWS OF THIS SEAT. 8 by the template 'for every input the law returns true; each argument reads behind the call as it read before'; 0 by the template 'total and deterministic' (their statements: YtbfgiccfbaobnaaTotals.lean).
  GIVEN WITH THE SEED: the statements are not yours to turn. If you find one false, say at which input.
  Laid BY PROGRAM, IN A SANDBOX (cutbox-rows.mjs): the forced cells as the released guide's own fill.sh prints them over the translation 710f5e57c76c5469… (all of the seat's roots in one cut). By AI agents, Wed Nov 11 2026. No macro, syntax, notation, axiom, sorry.
-/
import Derived.Test.YtbfgiccfbaobnaaChecked
import GoSem.Claim
import GoSem.ClaimJoined
import GoSem.ClaimMapViews
import Derived.JoinedTies
import Derived.KernelRfl
namespace Go.Proofs.Ytbfgiccfbaobnaa
/- THE CELL 'sum', in the pinned program and in every row, IS THE sha256 OF THE DUMP (.gsa) THAT YtbfgiccfbaobnaaProg.lean LOADS. Nothing in Lean hashes anything: it is a label: what it is worth is what the hold of that sum in a sandbox is worth. -/
noncomputable def Try.pinned : Pinned := { name := "ytbfgiccfbaobnaa", sum := "710f5e57c76c54698fe13d1a4850cd2a6e42d6d025771106a3535f0697803be0", checked := Try.checked }
namespace Rows
def none {H : Type} : Left H := { results := [], args := [] }

/-- 'laws.FnExactIsOrder': WHATEVER THE INPUT: true; the input reads as it did. -/
def fnExactIsOrderSpec : ChangeSpec := { name := "fnExactIsOrder", fn := fun _ => fun
  | [d] => { results := [.lit (.bool true)], args := [d] }
  | _ => none }
def fnExactIsOrderRow : OpenClaim := { program := "ytbfgiccfbaobnaa", sum := "710f5e57c76c54698fe13d1a4850cd2a6e42d6d025771106a3535f0697803be0", func := "loop.example/g01352/laws.FnExactIsOrder", spec := "fnExactIsOrder", unfollowed := true, recurses := true, apart := false }
def FnExactIsOrderSaid : Prop := fnExactIsOrderRow.holds Try.pinned (OpenSpec.ofChange fnExactIsOrderSpec)

/-- ITS FALSE NEIGHBOUR: 'it returns false'. Refute it at one input. -/
def fnExactIsOrderWrong : ChangeSpec := { name := "fnExactIsOrder", fn := fun _ => fun
  | [d] => { results := [.lit (.bool false)], args := [d] }
  | _ => none }
def FnExactIsOrderWrongFalsely : Prop := fnExactIsOrderRow.holds Try.pinned (OpenSpec.ofChange fnExactIsOrderWrong)

/-- 'laws.FnExactBackOrder': WHATEVER THE INPUT: true; the input reads as it did. -/
def fnExactBackOrderSpec : ChangeSpec := { name := "fnExactBackOrder", fn := fun _ => fun
  | [d] => { results := [.lit (.bool true)], args := [d] }
  | _ => none }
def fnExactBackOrderRow : OpenClaim := { program := "ytbfgiccfbaobnaa", sum := "710f5e57c76c54698fe13d1a4850cd2a6e42d6d025771106a3535f0697803be0", func := "loop.example/g01352/laws.FnExactBackOrder", spec := "fnExactBackOrder", unfollowed := true, recurses := true, apart := false }
def FnExactBackOrderSaid : Prop := fnExactBackOrderRow.holds Try.pinned (OpenSpec.ofChange fnExactBackOrderSpec)

/-- ITS FALSE NEIGHBOUR: 'it returns false'. Refute it at one input. -/
def fnExactBackOrderWrong : ChangeSpec := { name := "fnExactBackOrder", fn := fun _ => fun
  | [d] => { results := [.lit (.bool false)], args := [d] }
  | _ => none }
def FnExactBackOrderWrongFalsely : Prop := fnExactBackOrderRow.holds Try.pinned (OpenSpec.ofChange fnExactBackOrderWrong)

/-- 'laws.FnExactCountInverted': WHATEVER THE INPUT: true; the input reads as it did. -/
def fnExactCountInvertedSpec : ChangeSpec := { name := "fnExactCountInverted", fn := fun _ => fun
  | [d] => { results := [.lit (.bool true)], args := [d] }
  | _ => none }
def fnExactCountInvertedRow : OpenClaim := { program := "ytbfgiccfbaobnaa", sum := "710f5e57c76c54698fe13d1a4850cd2a6e42d6d025771106a3535f0697803be0", func := "loop.example/g01352/laws.FnExactCountInverted", spec := "fnExactCountInverted", unfollowed := true, recurses := true, apart := false }
def FnExactCountInvertedSaid : Prop := fnExactCountInvertedRow.holds Try.pinned (OpenSpec.ofChange fnExactCountInvertedSpec)

/-- ITS FALSE NEIGHBOUR: 'it returns false'. Refute it at one input. -/
def fnExactCountInvertedWrong : ChangeSpec := { name := "fnExactCountInverted", fn := fun _ => fun
  | [d] => { results := [.lit (.bool false)], args := [d] }
  | _ => none }
def FnExactCountInvertedWrongFalsely : Prop := fnExactCountInvertedRow.holds Try.pinned (OpenSpec.ofChange fnExactCountInvertedWrong)

/-- 'laws.FnExactFollowOrder': WHATEVER THE INPUT: true; the input reads as it did. -/
def fnExactFollowOrderSpec : ChangeSpec := { name := "fnExactFollowOrder", fn := fun _ => fun
  | [d1, d2] => { results := [.lit (.bool true)], args := [d1, d2] }
  | _ => none }
def fnExactFollowOrderRow : OpenClaim := { program := "ytbfgiccfbaobnaa", sum := "710f5e57c76c54698fe13d1a4850cd2a6e42d6d025771106a3535f0697803be0", func := "loop.example/g01352/laws.FnExactFollowOrder", spec := "fnExactFollowOrder", unfollowed := true, recurses := true, apart := false }
def FnExactFollowOrderSaid : Prop := fnExactFollowOrderRow.holds Try.pinned (OpenSpec.ofChange fnExactFollowOrderSpec)

/-- ITS FALSE NEIGHBOUR: 'it returns false'. Refute it at one input. -/
def fnExactFollowOrderWrong : ChangeSpec := { name := "fnExactFollowOrder", fn := fun _ => fun
  | [d1, d2] => { results := [.lit (.bool false)], args := [d1, d2] }
  | _ => none }
def FnExactFollowOrderWrongFalsely : Prop := fnExactFollowOrderRow.holds Try.pinned (OpenSpec.ofChange fnExactFollowOrderWrong)

/-- 'laws.FnExactFewestSwaps': WHATEVER THE INPUT: true; the input reads as it did. -/
def fnExactFewestSwapsSpec : ChangeSpec := { name := "fnExactFewestSwaps", fn := fun _ => fun
  | [d] => { results := [.lit (.bool true)], args := [d] }
  | _ => none }
def fnExactFewestSwapsRow : OpenClaim := { program := "ytbfgiccfbaobnaa", sum := "710f5e57c76c54698fe13d1a4850cd2a6e42d6d025771106a3535f0697803be0", func := "loop.example/g01352/laws.FnExactFewestSwaps", spec := "fnExactFewestSwaps", unfollowed := true, recurses := true, apart := false }
def FnExactFewestSwapsSaid : Prop := fnExactFewestSwapsRow.holds Try.pinned (OpenSpec.ofChange fnExactFewestSwapsSpec)

/-- ITS FALSE NEIGHBOUR: 'it returns false'. Refute it at one input. -/
def fnExactFewestSwapsWrong : ChangeSpec := { name := "fnExactFewestSwaps", fn := fun _ => fun
  | [d] => { results := [.lit (.bool false)], args := [d] }
  | _ => none }
def FnExactFewestSwapsWrongFalsely : Prop := fnExactFewestSwapsRow.holds Try.pinned (OpenSpec.ofChange fnExactFewestSwapsWrong)

/-- 'laws.FnExactRankOfOrder': WHATEVER THE INPUT: true; the input reads as it did. -/
def fnExactRankOfOrderSpec : ChangeSpec := { name := "fnExactRankOfOrder", fn := fun _ => fun
  | [d] => { results := [.lit (.bool true)], args := [d] }
  | _ => none }
def fnExactRankOfOrderRow : OpenClaim := { program := "ytbfgiccfbaobnaa", sum := "710f5e57c76c54698fe13d1a4850cd2a6e42d6d025771106a3535f0697803be0", func := "loop.example/g01352/laws.FnExactRankOfOrder", spec := "fnExactRankOfOrder", unfollowed := true, recurses := true, apart := false }
def FnExactRankOfOrderSaid : Prop := fnExactRankOfOrderRow.holds Try.pinned (OpenSpec.ofChange fnExactRankOfOrderSpec)

/-- ITS FALSE NEIGHBOUR: 'it returns false'. Refute it at one input. -/
def fnExactRankOfOrderWrong : ChangeSpec := { name := "fnExactRankOfOrder", fn := fun _ => fun
  | [d] => { results := [.lit (.bool false)], args := [d] }
  | _ => none }
def FnExactRankOfOrderWrongFalsely : Prop := fnExactRankOfOrderRow.holds Try.pinned (OpenSpec.ofChange fnExactRankOfOrderWrong)

/-- 'laws.FnExactTurnFront': WHATEVER THE INPUT: true; the input reads as it did. -/
def fnExactTurnFrontSpec : ChangeSpec := { name := "fnExactTurnFront", fn := fun _ => fun
  | [d1, d2] => { results := [.lit (.bool true)], args := [d1, d2] }
  | _ => none }
def fnExactTurnFrontRow : OpenClaim := { program := "ytbfgiccfbaobnaa", sum := "710f5e57c76c54698fe13d1a4850cd2a6e42d6d025771106a3535f0697803be0", func := "loop.example/g01352/laws.FnExactTurnFront", spec := "fnExactTurnFront", unfollowed := true, recurses := true, apart := false }
def FnExactTurnFrontSaid : Prop := fnExactTurnFrontRow.holds Try.pinned (OpenSpec.ofChange fnExactTurnFrontSpec)

/-- ITS FALSE NEIGHBOUR: 'it returns false'. Refute it at one input. -/
def fnExactTurnFrontWrong : ChangeSpec := { name := "fnExactTurnFront", fn := fun _ => fun
  | [d1, d2] => { results := [.lit (.bool false)], args := [d1, d2] }
  | _ => none }
def FnExactTurnFrontWrongFalsely : Prop := fnExactTurnFrontRow.holds Try.pinned (OpenSpec.ofChange fnExactTurnFrontWrong)

/-- 'laws.FnExactRoundsHome': WHATEVER THE INPUT: true; the input reads as it did. -/
def fnExactRoundsHomeSpec : ChangeSpec := { name := "fnExactRoundsHome", fn := fun _ => fun
  | [d] => { results := [.lit (.bool true)], args := [d] }
  | _ => none }
def fnExactRoundsHomeRow : OpenClaim := { program := "ytbfgiccfbaobnaa", sum := "710f5e57c76c54698fe13d1a4850cd2a6e42d6d025771106a3535f0697803be0", func := "loop.example/g01352/laws.FnExactRoundsHome", spec := "fnExactRoundsHome", unfollowed := true, recurses := true, apart := false }
def FnExactRoundsHomeSaid : Prop := fnExactRoundsHomeRow.holds Try.pinned (OpenSpec.ofChange fnExactRoundsHomeSpec)

/-- ITS FALSE NEIGHBOUR: 'it returns false'. Refute it at one input. -/
def fnExactRoundsHomeWrong : ChangeSpec := { name := "fnExactRoundsHome", fn := fun _ => fun
  | [d] => { results := [.lit (.bool false)], args := [d] }
  | _ => none }
def FnExactRoundsHomeWrongFalsely : Prop := fnExactRoundsHomeRow.holds Try.pinned (OpenSpec.ofChange fnExactRoundsHomeWrong)

/- THE SECOND FORM. 'bulk': how many values and letters a reading holds, each counted each time it is reached (what is shared counts as often as it is met; a slice's spare places count too). A statement '..UptoSaid' is the law's where the arguments, and the package variables that the reading takes, are together of bulk at most 1048576: NARROWER than '..Said'. Prove '..Said' where nothing that the law and all that it calls make is longer than what came in: it says more and counts as full. Else prove '..UptoSaid'. A law counts once. -/
mutual
def uptoBulk {H : Type} : DataW H → Nat
  | .lit (.string bytes) => bytes.length + 1
  | .lit _ => 1
  | .nil => 1
  | .ptr d => uptoBulk d + 1
  | .slice elems spare => uptoBulkAll elems + uptoBulkAll spare + 1
  | .agg parts => uptoBulkAll parts + 1
  | .iface _ d => uptoBulk d + 1
  | .map entries => uptoBulkEntries entries + 1
  | .held _ => 1
def uptoBulkAll {H : Type} : List (DataW H) → Nat
  | [] => 0
  | d :: r => uptoBulk d + uptoBulkAll r
def uptoBulkEntries {H : Type} : List (Lit × DataW H) → Nat
  | [] => 0
  | x :: r => uptoBulkEntry x + uptoBulkEntries r
def uptoBulkEntry {H : Type} : Lit × DataW H → Nat
  | (.string bytes, d) => bytes.length + uptoBulk d + 1
  | (_, d) => uptoBulk d + 1
 end
def uptoSmall : (H : Type) → List (DataW H) → Bool := fun _ ds => decide (uptoBulkAll ds ≤ 1048576)
def OpenSpec.upto (s : _root_.Go.ChangeSpec) : _root_.Go.OpenSpec := { _root_.Go.OpenSpec.ofChange s with cond := some uptoSmall }

/-- 'laws.FnExactIsOrder', WHERE WHAT IT READS IS OF BULK AT MOST 1048576: true; the input reads as it did. -/
def fnExactIsOrderUptoRow : OpenClaim := { program := "ytbfgiccfbaobnaa", sum := "710f5e57c76c54698fe13d1a4850cd2a6e42d6d025771106a3535f0697803be0", func := "loop.example/g01352/laws.FnExactIsOrder", spec := "fnExactIsOrder", unfollowed := true, recurses := true, apart := false, narrowed := true }
def FnExactIsOrderUptoSaid : Prop := fnExactIsOrderUptoRow.holds Try.pinned (OpenSpec.upto fnExactIsOrderSpec)

/-- 'laws.FnExactBackOrder', WHERE WHAT IT READS IS OF BULK AT MOST 1048576: true; the input reads as it did. -/
def fnExactBackOrderUptoRow : OpenClaim := { program := "ytbfgiccfbaobnaa", sum := "710f5e57c76c54698fe13d1a4850cd2a6e42d6d025771106a3535f0697803be0", func := "loop.example/g01352/laws.FnExactBackOrder", spec := "fnExactBackOrder", unfollowed := true, recurses := true, apart := false, narrowed := true }
def FnExactBackOrderUptoSaid : Prop := fnExactBackOrderUptoRow.holds Try.pinned (OpenSpec.upto fnExactBackOrderSpec)

/-- 'laws.FnExactCountInverted', WHERE WHAT IT READS IS OF BULK AT MOST 1048576: true; the input reads as it did. -/
def fnExactCountInvertedUptoRow : OpenClaim := { program := "ytbfgiccfbaobnaa", sum := "710f5e57c76c54698fe13d1a4850cd2a6e42d6d025771106a3535f0697803be0", func := "loop.example/g01352/laws.FnExactCountInverted", spec := "fnExactCountInverted", unfollowed := true, recurses := true, apart := false, narrowed := true }
def FnExactCountInvertedUptoSaid : Prop := fnExactCountInvertedUptoRow.holds Try.pinned (OpenSpec.upto fnExactCountInvertedSpec)

/-- 'laws.FnExactFollowOrder', WHERE WHAT IT READS IS OF BULK AT MOST 1048576: true; the input reads as it did. -/
def fnExactFollowOrderUptoRow : OpenClaim := { program := "ytbfgiccfbaobnaa", sum := "710f5e57c76c54698fe13d1a4850cd2a6e42d6d025771106a3535f0697803be0", func := "loop.example/g01352/laws.FnExactFollowOrder", spec := "fnExactFollowOrder", unfollowed := true, recurses := true, apart := false, narrowed := true }
def FnExactFollowOrderUptoSaid : Prop := fnExactFollowOrderUptoRow.holds Try.pinned (OpenSpec.upto fnExactFollowOrderSpec)

/-- 'laws.FnExactFewestSwaps', WHERE WHAT IT READS IS OF BULK AT MOST 1048576: true; the input reads as it did. -/
def fnExactFewestSwapsUptoRow : OpenClaim := { program := "ytbfgiccfbaobnaa", sum := "710f5e57c76c54698fe13d1a4850cd2a6e42d6d025771106a3535f0697803be0", func := "loop.example/g01352/laws.FnExactFewestSwaps", spec := "fnExactFewestSwaps", unfollowed := true, recurses := true, apart := false, narrowed := true }
def FnExactFewestSwapsUptoSaid : Prop := fnExactFewestSwapsUptoRow.holds Try.pinned (OpenSpec.upto fnExactFewestSwapsSpec)

/-- 'laws.FnExactRankOfOrder', WHERE WHAT IT READS IS OF BULK AT MOST 1048576: true; the input reads as it did. -/
def fnExactRankOfOrderUptoRow : OpenClaim := { program := "ytbfgiccfbaobnaa", sum := "710f5e57c76c54698fe13d1a4850cd2a6e42d6d025771106a3535f0697803be0", func := "loop.example/g01352/laws.FnExactRankOfOrder", spec := "fnExactRankOfOrder", unfollowed := true, recurses := true, apart := false, narrowed := true }
def FnExactRankOfOrderUptoSaid : Prop := fnExactRankOfOrderUptoRow.holds Try.pinned (OpenSpec.upto fnExactRankOfOrderSpec)

/-- 'laws.FnExactTurnFront', WHERE WHAT IT READS IS OF BULK AT MOST 1048576: true; the input reads as it did. -/
def fnExactTurnFrontUptoRow : OpenClaim := { program := "ytbfgiccfbaobnaa", sum := "710f5e57c76c54698fe13d1a4850cd2a6e42d6d025771106a3535f0697803be0", func := "loop.example/g01352/laws.FnExactTurnFront", spec := "fnExactTurnFront", unfollowed := true, recurses := true, apart := false, narrowed := true }
def FnExactTurnFrontUptoSaid : Prop := fnExactTurnFrontUptoRow.holds Try.pinned (OpenSpec.upto fnExactTurnFrontSpec)

/-- 'laws.FnExactRoundsHome', WHERE WHAT IT READS IS OF BULK AT MOST 1048576: true; the input reads as it did. -/
def fnExactRoundsHomeUptoRow : OpenClaim := { program := "ytbfgiccfbaobnaa", sum := "710f5e57c76c54698fe13d1a4850cd2a6e42d6d025771106a3535f0697803be0", func := "loop.example/g01352/laws.FnExactRoundsHome", spec := "fnExactRoundsHome", unfollowed := true, recurses := true, apart := false, narrowed := true }
def FnExactRoundsHomeUptoSaid : Prop := fnExactRoundsHomeUptoRow.holds Try.pinned (OpenSpec.upto fnExactRoundsHomeSpec)

end Rows
end Go.Proofs.Ytbfgiccfbaobnaa
