/-
  No cell of these rows narrows 'for every input' (looked for: loops, veiled, ifaces, maps, wideKeys, modest, calm, conditions, laid).
  DERIVED. THE GIVEN ROWS OF THIS SEAT. 8 by the template 'for every input the law returns true; each argument reads behind the call as it read before'; 0 by the template 'total and deterministic' (their statements: YtnnedicoapdkkaaTotals.lean).
  GIVEN WITH THE SEED: the statements are not yours to turn. If you find one false, say at which input.
  Laid BY PROGRAM, IN A SANDBOX (cutbox-rows.mjs): the forced cells as the released guide's own fill.sh prints them over the translation 48c4594ce7a18981… (all of the seat's roots in one cut). By AI agents, Wed Nov 11 2026. No macro, syntax, notation, axiom, sorry.
-/
import Derived.Test.YtnnedicoapdkkaaChecked
import GoSem.Claim
import GoSem.ClaimJoined
import GoSem.ClaimMapViews
import Derived.JoinedTies
import Derived.KernelRfl
namespace Go.Proofs.Ytnnedicoapdkkaa
/- THE CELL 'sum', in the pinned program and in every row, IS THE sha256 OF THE DUMP (.gsa) THAT YtnnedicoapdkkaaProg.lean LOADS. Nothing in Lean hashes anything: it is a label: what it is worth is what the hold of that sum in a sandbox is worth. -/
noncomputable def Try.pinned : Pinned := { name := "ytnnedicoapdkkaa", sum := "48c4594ce7a189810a4d6a042ad4e6d747e8b2a649e1937dd5212a35b66f6e41", checked := Try.checked }
namespace Rows
def none {H : Type} : Left H := { results := [], args := [] }

/-- 'laws.FnExactBestSpot': WHATEVER THE INPUT: true; the input reads as it did. -/
def fnExactBestSpotSpec : ChangeSpec := { name := "fnExactBestSpot", fn := fun _ => fun
  | [d1, d2] => { results := [.lit (.bool true)], args := [d1, d2] }
  | _ => none }
def fnExactBestSpotRow : OpenClaim := { program := "ytnnedicoapdkkaa", sum := "48c4594ce7a189810a4d6a042ad4e6d747e8b2a649e1937dd5212a35b66f6e41", func := "loop.example/g01352/laws.FnExactBestSpot", spec := "fnExactBestSpot", unfollowed := true, recurses := true, apart := false }
def FnExactBestSpotSaid : Prop := fnExactBestSpotRow.holds Try.pinned (OpenSpec.ofChange fnExactBestSpotSpec)

/-- ITS FALSE NEIGHBOUR: 'it returns false'. Refute it at one input. -/
def fnExactBestSpotWrong : ChangeSpec := { name := "fnExactBestSpot", fn := fun _ => fun
  | [d1, d2] => { results := [.lit (.bool false)], args := [d1, d2] }
  | _ => none }
def FnExactBestSpotWrongFalsely : Prop := fnExactBestSpotRow.holds Try.pinned (OpenSpec.ofChange fnExactBestSpotWrong)

/-- 'laws.FnExactCountSpots': WHATEVER THE INPUT: true; the input reads as it did. -/
def fnExactCountSpotsSpec : ChangeSpec := { name := "fnExactCountSpots", fn := fun _ => fun
  | [d1, d2] => { results := [.lit (.bool true)], args := [d1, d2] }
  | _ => none }
def fnExactCountSpotsRow : OpenClaim := { program := "ytnnedicoapdkkaa", sum := "48c4594ce7a189810a4d6a042ad4e6d747e8b2a649e1937dd5212a35b66f6e41", func := "loop.example/g01352/laws.FnExactCountSpots", spec := "fnExactCountSpots", unfollowed := true, recurses := true, apart := false }
def FnExactCountSpotsSaid : Prop := fnExactCountSpotsRow.holds Try.pinned (OpenSpec.ofChange fnExactCountSpotsSpec)

/-- ITS FALSE NEIGHBOUR: 'it returns false'. Refute it at one input. -/
def fnExactCountSpotsWrong : ChangeSpec := { name := "fnExactCountSpots", fn := fun _ => fun
  | [d1, d2] => { results := [.lit (.bool false)], args := [d1, d2] }
  | _ => none }
def FnExactCountSpotsWrongFalsely : Prop := fnExactCountSpotsRow.holds Try.pinned (OpenSpec.ofChange fnExactCountSpotsWrong)

/-- 'laws.FnExactLeastPlank': WHATEVER THE INPUT: true; the input reads as it did. -/
def fnExactLeastPlankSpec : ChangeSpec := { name := "fnExactLeastPlank", fn := fun _ => fun
  | [d] => { results := [.lit (.bool true)], args := [d] }
  | _ => none }
def fnExactLeastPlankRow : OpenClaim := { program := "ytnnedicoapdkkaa", sum := "48c4594ce7a189810a4d6a042ad4e6d747e8b2a649e1937dd5212a35b66f6e41", func := "loop.example/g01352/laws.FnExactLeastPlank", spec := "fnExactLeastPlank", unfollowed := true, recurses := true, apart := false }
def FnExactLeastPlankSaid : Prop := fnExactLeastPlankRow.holds Try.pinned (OpenSpec.ofChange fnExactLeastPlankSpec)

/-- ITS FALSE NEIGHBOUR: 'it returns false'. Refute it at one input. -/
def fnExactLeastPlankWrong : ChangeSpec := { name := "fnExactLeastPlank", fn := fun _ => fun
  | [d] => { results := [.lit (.bool false)], args := [d] }
  | _ => none }
def FnExactLeastPlankWrongFalsely : Prop := fnExactLeastPlankRow.holds Try.pinned (OpenSpec.ofChange fnExactLeastPlankWrong)

/-- 'laws.FnExactSpotsFor': WHATEVER THE INPUT: true; the input reads as it did. -/
def fnExactSpotsForSpec : ChangeSpec := { name := "fnExactSpotsFor", fn := fun _ => fun
  | [d1, d2] => { results := [.lit (.bool true)], args := [d1, d2] }
  | _ => none }
def fnExactSpotsForRow : OpenClaim := { program := "ytnnedicoapdkkaa", sum := "48c4594ce7a189810a4d6a042ad4e6d747e8b2a649e1937dd5212a35b66f6e41", func := "loop.example/g01352/laws.FnExactSpotsFor", spec := "fnExactSpotsFor", unfollowed := true, recurses := true, apart := false }
def FnExactSpotsForSaid : Prop := fnExactSpotsForRow.holds Try.pinned (OpenSpec.ofChange fnExactSpotsForSpec)

/-- ITS FALSE NEIGHBOUR: 'it returns false'. Refute it at one input. -/
def fnExactSpotsForWrong : ChangeSpec := { name := "fnExactSpotsFor", fn := fun _ => fun
  | [d1, d2] => { results := [.lit (.bool false)], args := [d1, d2] }
  | _ => none }
def FnExactSpotsForWrongFalsely : Prop := fnExactSpotsForRow.holds Try.pinned (OpenSpec.ofChange fnExactSpotsForWrong)

/-- 'laws.FnExactWholeLeans': WHATEVER THE INPUT: true; the input reads as it did. -/
def fnExactWholeLeansSpec : ChangeSpec := { name := "fnExactWholeLeans", fn := fun _ => fun
  | [d] => { results := [.lit (.bool true)], args := [d] }
  | _ => none }
def fnExactWholeLeansRow : OpenClaim := { program := "ytnnedicoapdkkaa", sum := "48c4594ce7a189810a4d6a042ad4e6d747e8b2a649e1937dd5212a35b66f6e41", func := "loop.example/g01352/laws.FnExactWholeLeans", spec := "fnExactWholeLeans", apart := false }
def FnExactWholeLeansSaid : Prop := fnExactWholeLeansRow.holds Try.pinned (OpenSpec.ofChange fnExactWholeLeansSpec)

/-- ITS FALSE NEIGHBOUR: 'it returns false'. Refute it at one input. -/
def fnExactWholeLeansWrong : ChangeSpec := { name := "fnExactWholeLeans", fn := fun _ => fun
  | [d] => { results := [.lit (.bool false)], args := [d] }
  | _ => none }
def FnExactWholeLeansWrongFalsely : Prop := fnExactWholeLeansRow.holds Try.pinned (OpenSpec.ofChange fnExactWholeLeansWrong)

/-- 'laws.FnExactLeansUpTo': WHATEVER THE INPUT: true; the input reads as it did. -/
def fnExactLeansUpToSpec : ChangeSpec := { name := "fnExactLeansUpTo", fn := fun _ => fun
  | [d] => { results := [.lit (.bool true)], args := [d] }
  | _ => none }
def fnExactLeansUpToRow : OpenClaim := { program := "ytnnedicoapdkkaa", sum := "48c4594ce7a189810a4d6a042ad4e6d747e8b2a649e1937dd5212a35b66f6e41", func := "loop.example/g01352/laws.FnExactLeansUpTo", spec := "fnExactLeansUpTo", apart := false }
def FnExactLeansUpToSaid : Prop := fnExactLeansUpToRow.holds Try.pinned (OpenSpec.ofChange fnExactLeansUpToSpec)

/-- ITS FALSE NEIGHBOUR: 'it returns false'. Refute it at one input. -/
def fnExactLeansUpToWrong : ChangeSpec := { name := "fnExactLeansUpTo", fn := fun _ => fun
  | [d] => { results := [.lit (.bool false)], args := [d] }
  | _ => none }
def FnExactLeansUpToWrongFalsely : Prop := fnExactLeansUpToRow.holds Try.pinned (OpenSpec.ofChange fnExactLeansUpToWrong)

/-- 'laws.FnExactPrimeLeans': WHATEVER THE INPUT: true; the input reads as it did. -/
def fnExactPrimeLeansSpec : ChangeSpec := { name := "fnExactPrimeLeans", fn := fun _ => fun
  | [d] => { results := [.lit (.bool true)], args := [d] }
  | _ => none }
def fnExactPrimeLeansRow : OpenClaim := { program := "ytnnedicoapdkkaa", sum := "48c4594ce7a189810a4d6a042ad4e6d747e8b2a649e1937dd5212a35b66f6e41", func := "loop.example/g01352/laws.FnExactPrimeLeans", spec := "fnExactPrimeLeans", unfollowed := true, recurses := true, apart := false }
def FnExactPrimeLeansSaid : Prop := fnExactPrimeLeansRow.holds Try.pinned (OpenSpec.ofChange fnExactPrimeLeansSpec)

/-- ITS FALSE NEIGHBOUR: 'it returns false'. Refute it at one input. -/
def fnExactPrimeLeansWrong : ChangeSpec := { name := "fnExactPrimeLeans", fn := fun _ => fun
  | [d] => { results := [.lit (.bool false)], args := [d] }
  | _ => none }
def FnExactPrimeLeansWrongFalsely : Prop := fnExactPrimeLeansRow.holds Try.pinned (OpenSpec.ofChange fnExactPrimeLeansWrong)

/-- 'laws.FnExactOrderOfRank': WHATEVER THE INPUT: true; the input reads as it did. -/
def fnExactOrderOfRankSpec : ChangeSpec := { name := "fnExactOrderOfRank", fn := fun _ => fun
  | [d1, d2] => { results := [.lit (.bool true)], args := [d1, d2] }
  | _ => none }
def fnExactOrderOfRankRow : OpenClaim := { program := "ytnnedicoapdkkaa", sum := "48c4594ce7a189810a4d6a042ad4e6d747e8b2a649e1937dd5212a35b66f6e41", func := "loop.example/g01352/laws.FnExactOrderOfRank", spec := "fnExactOrderOfRank", apart := false }
def FnExactOrderOfRankSaid : Prop := fnExactOrderOfRankRow.holds Try.pinned (OpenSpec.ofChange fnExactOrderOfRankSpec)

/-- ITS FALSE NEIGHBOUR: 'it returns false'. Refute it at one input. -/
def fnExactOrderOfRankWrong : ChangeSpec := { name := "fnExactOrderOfRank", fn := fun _ => fun
  | [d1, d2] => { results := [.lit (.bool false)], args := [d1, d2] }
  | _ => none }
def FnExactOrderOfRankWrongFalsely : Prop := fnExactOrderOfRankRow.holds Try.pinned (OpenSpec.ofChange fnExactOrderOfRankWrong)

/- THE SECOND FORM. 'bulk': how many values and letters a reading holds, each counted each time it is reached (what is shared counts as often as it is met; a slice's spare places count too). A statement '..UptoSaid' is the law's where the arguments, and the package variables that the reading takes, are together of bulk at most 1048576: NARROWER than '..Said'. Prove '..Said' where nothing that the law and all that it calls make is longer than what came in: it says more and counts as full. Else prove '..UptoSaid'. A law counts once. -/
mutual
def uptoBulk {H : Type} : DataW H → Nat
  | .lit (.string bytes) => bytes.length + 1
  | .lit _ => 1
  | .nil => 1
  | .ptr d => uptoBulk d + 1
  | .slice elems spare => uptoBulkAll elems + uptoBulkAll spare + 1
  | .agg parts => uptoBulkAll parts + 1
  | .iface _ d => uptoBulk d + 1
  | .map entries => uptoBulkEntries entries + 1
  | .held _ => 1
def uptoBulkAll {H : Type} : List (DataW H) → Nat
  | [] => 0
  | d :: r => uptoBulk d + uptoBulkAll r
def uptoBulkEntries {H : Type} : List (Lit × DataW H) → Nat
  | [] => 0
  | x :: r => uptoBulkEntry x + uptoBulkEntries r
def uptoBulkEntry {H : Type} : Lit × DataW H → Nat
  | (.string bytes, d) => bytes.length + uptoBulk d + 1
  | (_, d) => uptoBulk d + 1
 end
def uptoSmall : (H : Type) → List (DataW H) → Bool := fun _ ds => decide (uptoBulkAll ds ≤ 1048576)
def OpenSpec.upto (s : _root_.Go.ChangeSpec) : _root_.Go.OpenSpec := { _root_.Go.OpenSpec.ofChange s with cond := some uptoSmall }

/-- 'laws.FnExactBestSpot', WHERE WHAT IT READS IS OF BULK AT MOST 1048576: true; the input reads as it did. -/
def fnExactBestSpotUptoRow : OpenClaim := { program := "ytnnedicoapdkkaa", sum := "48c4594ce7a189810a4d6a042ad4e6d747e8b2a649e1937dd5212a35b66f6e41", func := "loop.example/g01352/laws.FnExactBestSpot", spec := "fnExactBestSpot", unfollowed := true, recurses := true, apart := false, narrowed := true }
def FnExactBestSpotUptoSaid : Prop := fnExactBestSpotUptoRow.holds Try.pinned (OpenSpec.upto fnExactBestSpotSpec)

/-- 'laws.FnExactCountSpots', WHERE WHAT IT READS IS OF BULK AT MOST 1048576: true; the input reads as it did. -/
def fnExactCountSpotsUptoRow : OpenClaim := { program := "ytnnedicoapdkkaa", sum := "48c4594ce7a189810a4d6a042ad4e6d747e8b2a649e1937dd5212a35b66f6e41", func := "loop.example/g01352/laws.FnExactCountSpots", spec := "fnExactCountSpots", unfollowed := true, recurses := true, apart := false, narrowed := true }
def FnExactCountSpotsUptoSaid : Prop := fnExactCountSpotsUptoRow.holds Try.pinned (OpenSpec.upto fnExactCountSpotsSpec)

/-- 'laws.FnExactLeastPlank', WHERE WHAT IT READS IS OF BULK AT MOST 1048576: true; the input reads as it did. -/
def fnExactLeastPlankUptoRow : OpenClaim := { program := "ytnnedicoapdkkaa", sum := "48c4594ce7a189810a4d6a042ad4e6d747e8b2a649e1937dd5212a35b66f6e41", func := "loop.example/g01352/laws.FnExactLeastPlank", spec := "fnExactLeastPlank", unfollowed := true, recurses := true, apart := false, narrowed := true }
def FnExactLeastPlankUptoSaid : Prop := fnExactLeastPlankUptoRow.holds Try.pinned (OpenSpec.upto fnExactLeastPlankSpec)

/-- 'laws.FnExactSpotsFor', WHERE WHAT IT READS IS OF BULK AT MOST 1048576: true; the input reads as it did. -/
def fnExactSpotsForUptoRow : OpenClaim := { program := "ytnnedicoapdkkaa", sum := "48c4594ce7a189810a4d6a042ad4e6d747e8b2a649e1937dd5212a35b66f6e41", func := "loop.example/g01352/laws.FnExactSpotsFor", spec := "fnExactSpotsFor", unfollowed := true, recurses := true, apart := false, narrowed := true }
def FnExactSpotsForUptoSaid : Prop := fnExactSpotsForUptoRow.holds Try.pinned (OpenSpec.upto fnExactSpotsForSpec)

/-- 'laws.FnExactWholeLeans', WHERE WHAT IT READS IS OF BULK AT MOST 1048576: true; the input reads as it did. -/
def fnExactWholeLeansUptoRow : OpenClaim := { program := "ytnnedicoapdkkaa", sum := "48c4594ce7a189810a4d6a042ad4e6d747e8b2a649e1937dd5212a35b66f6e41", func := "loop.example/g01352/laws.FnExactWholeLeans", spec := "fnExactWholeLeans", apart := false, narrowed := true }
def FnExactWholeLeansUptoSaid : Prop := fnExactWholeLeansUptoRow.holds Try.pinned (OpenSpec.upto fnExactWholeLeansSpec)

/-- 'laws.FnExactLeansUpTo', WHERE WHAT IT READS IS OF BULK AT MOST 1048576: true; the input reads as it did. -/
def fnExactLeansUpToUptoRow : OpenClaim := { program := "ytnnedicoapdkkaa", sum := "48c4594ce7a189810a4d6a042ad4e6d747e8b2a649e1937dd5212a35b66f6e41", func := "loop.example/g01352/laws.FnExactLeansUpTo", spec := "fnExactLeansUpTo", apart := false, narrowed := true }
def FnExactLeansUpToUptoSaid : Prop := fnExactLeansUpToUptoRow.holds Try.pinned (OpenSpec.upto fnExactLeansUpToSpec)

/-- 'laws.FnExactPrimeLeans', WHERE WHAT IT READS IS OF BULK AT MOST 1048576: true; the input reads as it did. -/
def fnExactPrimeLeansUptoRow : OpenClaim := { program := "ytnnedicoapdkkaa", sum := "48c4594ce7a189810a4d6a042ad4e6d747e8b2a649e1937dd5212a35b66f6e41", func := "loop.example/g01352/laws.FnExactPrimeLeans", spec := "fnExactPrimeLeans", unfollowed := true, recurses := true, apart := false, narrowed := true }
def FnExactPrimeLeansUptoSaid : Prop := fnExactPrimeLeansUptoRow.holds Try.pinned (OpenSpec.upto fnExactPrimeLeansSpec)

/-- 'laws.FnExactOrderOfRank', WHERE WHAT IT READS IS OF BULK AT MOST 1048576: true; the input reads as it did. -/
def fnExactOrderOfRankUptoRow : OpenClaim := { program := "ytnnedicoapdkkaa", sum := "48c4594ce7a189810a4d6a042ad4e6d747e8b2a649e1937dd5212a35b66f6e41", func := "loop.example/g01352/laws.FnExactOrderOfRank", spec := "fnExactOrderOfRank", apart := false, narrowed := true }
def FnExactOrderOfRankUptoSaid : Prop := fnExactOrderOfRankUptoRow.holds Try.pinned (OpenSpec.upto fnExactOrderOfRankSpec)

end Rows
end Go.Proofs.Ytnnedicoapdkkaa
