/-
  DERIVED. GIVEN WITH THE SEED: THE CARDS: each row of YtnnedicoapdkkaaDoorRows.lean that lists a variable, with what it lists TIED to the program's text (the seventh form; the later family's looks); each row that meets fmt, with fmt's text TOLD by the authors' own Lean function (tested against real Go, not proved from fmt's source: count such statements apart). THE CARD IS WHAT COUNTS. Prove the row's statement (the work); the ties are given (YtnnedicoapdkkaaDoorTie.lean); close each card by the builder's one call (the guide's Derived/Test/ToyasCard.lean, 'card_holds'). Laid BY PROGRAM, IN A SANDBOX (cutbox-door.mjs). By AI agents, Wed Nov 11 2026. No macro, syntax, notation, axiom, sorry.
-/
import Derived.Test.YtnnedicoapdkkaaDoorRows
import GoSem.ClaimSeven
namespace Go.Proofs.YtnnedicoapdkkaaDoor
namespace Rows

/-- THE TIED CARD OF 'laws.FnExactParseCorner'. -/
def fnExactParseCornerCard : Claim7 := { stood := { row := fnExactParseCornerRow, standIns := [], harness := (true, "fd4b9bc313b3c1550942436e9cb46646e5b9dfe46b71755612f40c0dd23a872b"), looks := true }, kinds := [], alts := [], laidByText := true, laidKinds := [.data, .data, .data, .sentinel, .sentinel], laidTests := true, laidLooks := .later }
def FnExactParseCornerCardSaid : Prop := Claim7.holds Tryd.pinned (.plain (OpenSpec.ofChange fnExactParseCornerSpec)) fnExactParseCornerCard

/-- THE SECOND FORM's CARD OF 'laws.FnExactParseCorner'. -/
def fnExactParseCornerUptoCard : Claim7 := { stood := { row := fnExactParseCornerUptoRow, standIns := [], harness := (true, "fd4b9bc313b3c1550942436e9cb46646e5b9dfe46b71755612f40c0dd23a872b"), looks := true }, kinds := [], alts := [], laidByText := true, laidKinds := [.data, .data, .data, .sentinel, .sentinel], laidTests := true, laidLooks := .later }
def FnExactParseCornerUptoCardSaid : Prop := Claim7.holds Tryd.pinned (.plain (OpenSpec.upto fnExactParseCornerSpec)) fnExactParseCornerUptoCard
end Rows
end Go.Proofs.YtnnedicoapdkkaaDoor
