/-
  DERIVED. GIVEN WITH THE SEED: THE CARDS: each row of YteijbohbdhemoaaDoorRows.lean that lists a variable, with what it lists TIED to the program's text (the seventh form; the later family's looks); each row that meets fmt, with fmt's text TOLD by the authors' own Lean function (tested against real Go, not proved from fmt's source: count such statements apart). THE CARD IS WHAT COUNTS. Prove the row's statement (the work); the ties are given (YteijbohbdhemoaaDoorTie.lean); close each card by the builder's one call (the guide's Derived/Test/ToyasCard.lean, 'card_holds'). Laid BY PROGRAM, IN A SANDBOX (cutbox-door.mjs). By AI agents, Wed Nov 11 2026. No macro, syntax, notation, axiom, sorry.
-/
import Derived.Test.YteijbohbdhemoaaDoorRows
import GoSem.ClaimSeven
namespace Go.Proofs.YteijbohbdhemoaaDoor
namespace Rows

/-- THE TIED CARD OF 'laws.FnExactEarliestAt'. -/
def fnExactEarliestAtCard : Claim7 := { stood := { row := fnExactEarliestAtRow, standIns := [], harness := (true, "c4de8d03b7b3e261914359a2ca249aa39a8acb657210377e07783f94c5b293f8"), looks := false }, kinds := [], alts := [], laidByText := true, laidKinds := [.data, .pinned], laidTests := true, laidLooks := .later }
def FnExactEarliestAtCardSaid : Prop := Claim7.holds Tryd.pinned (.plain (OpenSpec.ofChange fnExactEarliestAtSpec)) fnExactEarliestAtCard

/-- THE TIED CARD OF 'laws.FnExactEarliestWay'. -/
def fnExactEarliestWayCard : Claim7 := { stood := { row := fnExactEarliestWayRow, standIns := [], harness := (true, "c4de8d03b7b3e261914359a2ca249aa39a8acb657210377e07783f94c5b293f8"), looks := false }, kinds := [], alts := [], laidByText := true, laidKinds := [.data, .pinned], laidTests := true, laidLooks := .later }
def FnExactEarliestWayCardSaid : Prop := Claim7.holds Tryd.pinned (.plain (OpenSpec.ofChange fnExactEarliestWaySpec)) fnExactEarliestWayCard

/-- THE TIED CARD OF 'laws.FnExactArrivalsOf'. -/
def fnExactArrivalsOfCard : Claim7 := { stood := { row := fnExactArrivalsOfRow, standIns := [], harness := (true, "c4de8d03b7b3e261914359a2ca249aa39a8acb657210377e07783f94c5b293f8"), looks := false }, kinds := [], alts := [], laidByText := true, laidKinds := [.data, .pinned], laidTests := true, laidLooks := .later }
def FnExactArrivalsOfCardSaid : Prop := Claim7.holds Tryd.pinned (.plain (OpenSpec.ofChange fnExactArrivalsOfSpec)) fnExactArrivalsOfCard

/-- THE TIED CARD OF 'laws.FnExactLatestStart'. -/
def fnExactLatestStartCard : Claim7 := { stood := { row := fnExactLatestStartRow, standIns := [], harness := (true, "c4de8d03b7b3e261914359a2ca249aa39a8acb657210377e07783f94c5b293f8"), looks := false }, kinds := [], alts := [], laidByText := true, laidKinds := [.data, .pinned], laidTests := true, laidLooks := .later }
def FnExactLatestStartCardSaid : Prop := Claim7.holds Tryd.pinned (.plain (OpenSpec.ofChange fnExactLatestStartSpec)) fnExactLatestStartCard

/-- THE TIED CARD OF 'laws.FnExactFewestHours'. -/
def fnExactFewestHoursCard : Claim7 := { stood := { row := fnExactFewestHoursRow, standIns := [], harness := (true, "c4de8d03b7b3e261914359a2ca249aa39a8acb657210377e07783f94c5b293f8"), looks := false }, kinds := [], alts := [], laidByText := true, laidKinds := [.data, .pinned], laidTests := true, laidLooks := .later }
def FnExactFewestHoursCardSaid : Prop := Claim7.holds Tryd.pinned (.plain (OpenSpec.ofChange fnExactFewestHoursSpec)) fnExactFewestHoursCard

/-- THE TIED CARD OF 'laws.FnExactLeastTideLeap'. -/
def fnExactLeastTideLeapCard : Claim7 := { stood := { row := fnExactLeastTideLeapRow, standIns := [], harness := (true, "c4de8d03b7b3e261914359a2ca249aa39a8acb657210377e07783f94c5b293f8"), looks := false }, kinds := [], alts := [], laidByText := true, laidKinds := [.data, .pinned], laidTests := true, laidLooks := .later }
def FnExactLeastTideLeapCardSaid : Prop := Claim7.holds Tryd.pinned (.plain (OpenSpec.ofChange fnExactLeastTideLeapSpec)) fnExactLeastTideLeapCard

/-- THE TIED CARD OF 'laws.FnExactStartsWithin'. -/
def fnExactStartsWithinCard : Claim7 := { stood := { row := fnExactStartsWithinRow, standIns := [], harness := (true, "c4de8d03b7b3e261914359a2ca249aa39a8acb657210377e07783f94c5b293f8"), looks := false }, kinds := [], alts := [], laidByText := true, laidKinds := [.data, .pinned], laidTests := true, laidLooks := .later }
def FnExactStartsWithinCardSaid : Prop := Claim7.holds Tryd.pinned (.plain (OpenSpec.ofChange fnExactStartsWithinSpec)) fnExactStartsWithinCard

/-- THE TIED CARD OF 'laws.FnExactCountTideWays'. -/
def fnExactCountTideWaysCard : Claim7 := { stood := { row := fnExactCountTideWaysRow, standIns := [], harness := (true, "c4de8d03b7b3e261914359a2ca249aa39a8acb657210377e07783f94c5b293f8"), looks := false }, kinds := [], alts := [], laidByText := true, laidKinds := [.data, .pinned], laidTests := true, laidLooks := .later }
def FnExactCountTideWaysCardSaid : Prop := Claim7.holds Tryd.pinned (.plain (OpenSpec.ofChange fnExactCountTideWaysSpec)) fnExactCountTideWaysCard

/-- THE SECOND FORM's CARD OF 'laws.FnExactEarliestAt'. -/
def fnExactEarliestAtUptoCard : Claim7 := { stood := { row := fnExactEarliestAtUptoRow, standIns := [], harness := (true, "c4de8d03b7b3e261914359a2ca249aa39a8acb657210377e07783f94c5b293f8"), looks := false }, kinds := [], alts := [], laidByText := true, laidKinds := [.data, .pinned], laidTests := true, laidLooks := .later }
def FnExactEarliestAtUptoCardSaid : Prop := Claim7.holds Tryd.pinned (.plain (OpenSpec.upto fnExactEarliestAtSpec)) fnExactEarliestAtUptoCard

/-- THE SECOND FORM's CARD OF 'laws.FnExactEarliestWay'. -/
def fnExactEarliestWayUptoCard : Claim7 := { stood := { row := fnExactEarliestWayUptoRow, standIns := [], harness := (true, "c4de8d03b7b3e261914359a2ca249aa39a8acb657210377e07783f94c5b293f8"), looks := false }, kinds := [], alts := [], laidByText := true, laidKinds := [.data, .pinned], laidTests := true, laidLooks := .later }
def FnExactEarliestWayUptoCardSaid : Prop := Claim7.holds Tryd.pinned (.plain (OpenSpec.upto fnExactEarliestWaySpec)) fnExactEarliestWayUptoCard

/-- THE SECOND FORM's CARD OF 'laws.FnExactArrivalsOf'. -/
def fnExactArrivalsOfUptoCard : Claim7 := { stood := { row := fnExactArrivalsOfUptoRow, standIns := [], harness := (true, "c4de8d03b7b3e261914359a2ca249aa39a8acb657210377e07783f94c5b293f8"), looks := false }, kinds := [], alts := [], laidByText := true, laidKinds := [.data, .pinned], laidTests := true, laidLooks := .later }
def FnExactArrivalsOfUptoCardSaid : Prop := Claim7.holds Tryd.pinned (.plain (OpenSpec.upto fnExactArrivalsOfSpec)) fnExactArrivalsOfUptoCard

/-- THE SECOND FORM's CARD OF 'laws.FnExactLatestStart'. -/
def fnExactLatestStartUptoCard : Claim7 := { stood := { row := fnExactLatestStartUptoRow, standIns := [], harness := (true, "c4de8d03b7b3e261914359a2ca249aa39a8acb657210377e07783f94c5b293f8"), looks := false }, kinds := [], alts := [], laidByText := true, laidKinds := [.data, .pinned], laidTests := true, laidLooks := .later }
def FnExactLatestStartUptoCardSaid : Prop := Claim7.holds Tryd.pinned (.plain (OpenSpec.upto fnExactLatestStartSpec)) fnExactLatestStartUptoCard

/-- THE SECOND FORM's CARD OF 'laws.FnExactFewestHours'. -/
def fnExactFewestHoursUptoCard : Claim7 := { stood := { row := fnExactFewestHoursUptoRow, standIns := [], harness := (true, "c4de8d03b7b3e261914359a2ca249aa39a8acb657210377e07783f94c5b293f8"), looks := false }, kinds := [], alts := [], laidByText := true, laidKinds := [.data, .pinned], laidTests := true, laidLooks := .later }
def FnExactFewestHoursUptoCardSaid : Prop := Claim7.holds Tryd.pinned (.plain (OpenSpec.upto fnExactFewestHoursSpec)) fnExactFewestHoursUptoCard

/-- THE SECOND FORM's CARD OF 'laws.FnExactLeastTideLeap'. -/
def fnExactLeastTideLeapUptoCard : Claim7 := { stood := { row := fnExactLeastTideLeapUptoRow, standIns := [], harness := (true, "c4de8d03b7b3e261914359a2ca249aa39a8acb657210377e07783f94c5b293f8"), looks := false }, kinds := [], alts := [], laidByText := true, laidKinds := [.data, .pinned], laidTests := true, laidLooks := .later }
def FnExactLeastTideLeapUptoCardSaid : Prop := Claim7.holds Tryd.pinned (.plain (OpenSpec.upto fnExactLeastTideLeapSpec)) fnExactLeastTideLeapUptoCard

/-- THE SECOND FORM's CARD OF 'laws.FnExactStartsWithin'. -/
def fnExactStartsWithinUptoCard : Claim7 := { stood := { row := fnExactStartsWithinUptoRow, standIns := [], harness := (true, "c4de8d03b7b3e261914359a2ca249aa39a8acb657210377e07783f94c5b293f8"), looks := false }, kinds := [], alts := [], laidByText := true, laidKinds := [.data, .pinned], laidTests := true, laidLooks := .later }
def FnExactStartsWithinUptoCardSaid : Prop := Claim7.holds Tryd.pinned (.plain (OpenSpec.upto fnExactStartsWithinSpec)) fnExactStartsWithinUptoCard

/-- THE SECOND FORM's CARD OF 'laws.FnExactCountTideWays'. -/
def fnExactCountTideWaysUptoCard : Claim7 := { stood := { row := fnExactCountTideWaysUptoRow, standIns := [], harness := (true, "c4de8d03b7b3e261914359a2ca249aa39a8acb657210377e07783f94c5b293f8"), looks := false }, kinds := [], alts := [], laidByText := true, laidKinds := [.data, .pinned], laidTests := true, laidLooks := .later }
def FnExactCountTideWaysUptoCardSaid : Prop := Claim7.holds Tryd.pinned (.plain (OpenSpec.upto fnExactCountTideWaysSpec)) fnExactCountTideWaysUptoCard
end Rows
end Go.Proofs.YteijbohbdhemoaaDoor
