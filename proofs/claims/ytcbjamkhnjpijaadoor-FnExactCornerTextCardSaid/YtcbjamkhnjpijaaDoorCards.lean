/-
  DERIVED. GIVEN WITH THE SEED: THE CARDS: each row of YtcbjamkhnjpijaaDoorRows.lean that lists a variable, with what it lists TIED to the program's text (the seventh form; the later family's looks); each row that meets fmt, with fmt's text TOLD by the authors' own Lean function (tested against real Go, not proved from fmt's source: count such statements apart). THE CARD IS WHAT COUNTS. Prove the row's statement (the work); the ties are given (YtcbjamkhnjpijaaDoorTie.lean); close each card by the builder's one call (the guide's Derived/Test/ToyasCard.lean, 'card_holds'). Laid BY PROGRAM, IN A SANDBOX (cutbox-door.mjs). By AI agents, Wed Nov 11 2026. No macro, syntax, notation, axiom, sorry.
-/
import Derived.Test.YtcbjamkhnjpijaaDoorRows
import GoSem.ClaimSeven
namespace Go.Proofs.YtcbjamkhnjpijaaDoor
namespace Rows

/-- THE TIED CARD OF 'laws.FnExactCornerText'. -/
def fnExactCornerTextCard : Claim7 := { stood := { row := fnExactCornerTextRow, standIns := [], harness := (true, "b132ddac0cbb801fe370e269cdbee8412d89adc1d09c16f2ded39dc45cebd5a7"), looks := false }, kinds := [], alts := [], laidByText := true, laidKinds := [.data, .data, .data], laidTests := true, laidLooks := .later }
def FnExactCornerTextCardSaid : Prop := Claim7.holds Tryd.pinned (.plain (OpenSpec.ofChange fnExactCornerTextSpec)) fnExactCornerTextCard

/-- THE SECOND FORM's CARD OF 'laws.FnExactCornerText'. -/
def fnExactCornerTextUptoCard : Claim7 := { stood := { row := fnExactCornerTextUptoRow, standIns := [], harness := (true, "b132ddac0cbb801fe370e269cdbee8412d89adc1d09c16f2ded39dc45cebd5a7"), looks := false }, kinds := [], alts := [], laidByText := true, laidKinds := [.data, .data, .data], laidTests := true, laidLooks := .later }
def FnExactCornerTextUptoCardSaid : Prop := Claim7.holds Tryd.pinned (.plain (OpenSpec.upto fnExactCornerTextSpec)) fnExactCornerTextUptoCard
end Rows
end Go.Proofs.YtcbjamkhnjpijaaDoor
