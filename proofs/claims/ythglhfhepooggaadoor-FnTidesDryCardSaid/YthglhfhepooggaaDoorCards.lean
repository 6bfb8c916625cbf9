/-
  DERIVED. GIVEN WITH THE SEED: THE CARDS: each row of YthglhfhepooggaaDoorRows.lean that lists a variable, with what it lists TIED to the program's text (the seventh form; the later family's looks); each row that meets fmt, with fmt's text TOLD by the authors' own Lean function (tested against real Go, not proved from fmt's source: count such statements apart). THE CARD IS WHAT COUNTS. Prove the row's statement (the work); the ties are given (YthglhfhepooggaaDoorTie.lean); close each card by the builder's one call (the guide's Derived/Test/ToyasCard.lean, 'card_holds'). Laid BY PROGRAM, IN A SANDBOX (cutbox-door.mjs). By AI agents, Wed Nov 11 2026. No macro, syntax, notation, axiom, sorry.
-/
import Derived.Test.YthglhfhepooggaaDoorRows
import GoSem.ClaimSeven
namespace Go.Proofs.YthglhfhepooggaaDoor
namespace Rows

/-- THE TIED CARD OF 'laws.FnExactIsShore'. -/
def fnExactIsShoreCard : Claim7 := { stood := { row := fnExactIsShoreRow, standIns := [], harness := (true, "a2cd4e99407a2dea419a6fa68974bfe33ab1e0e41fa44be5354eb87c7812f3b6"), looks := false }, kinds := [], alts := [], laidByText := true, laidKinds := [.data, .pinned], laidTests := true, laidLooks := .later }
def FnExactIsShoreCardSaid : Prop := Claim7.holds Tryd.pinned (.plain (OpenSpec.ofChange fnExactIsShoreSpec)) fnExactIsShoreCard

/-- THE TIED CARD OF 'laws.FnExactIsTide'. -/
def fnExactIsTideCard : Claim7 := { stood := { row := fnExactIsTideRow, standIns := [], harness := (true, "a2cd4e99407a2dea419a6fa68974bfe33ab1e0e41fa44be5354eb87c7812f3b6"), looks := false }, kinds := [], alts := [], laidByText := true, laidKinds := [.data, .pinned], laidTests := true, laidLooks := .later }
def FnExactIsTideCardSaid : Prop := Claim7.holds Tryd.pinned (.plain (OpenSpec.ofChange fnExactIsTideSpec)) fnExactIsTideCard

/-- THE TIED CARD OF 'laws.FnExactTurnTide'. -/
def fnExactTurnTideCard : Claim7 := { stood := { row := fnExactTurnTideRow, standIns := [], harness := (true, "a2cd4e99407a2dea419a6fa68974bfe33ab1e0e41fa44be5354eb87c7812f3b6"), looks := false }, kinds := [], alts := [], laidByText := true, laidKinds := [.data, .pinned], laidTests := true, laidLooks := .later }
def FnExactTurnTideCardSaid : Prop := Claim7.holds Tryd.pinned (.plain (OpenSpec.ofChange fnExactTurnTideSpec)) fnExactTurnTideCard

/-- THE TIED CARD OF 'laws.FnExactMirrorShore'. -/
def fnExactMirrorShoreCard : Claim7 := { stood := { row := fnExactMirrorShoreRow, standIns := [], harness := (true, "a2cd4e99407a2dea419a6fa68974bfe33ab1e0e41fa44be5354eb87c7812f3b6"), looks := false }, kinds := [], alts := [], laidByText := true, laidKinds := [.data, .pinned], laidTests := true, laidLooks := .later }
def FnExactMirrorShoreCardSaid : Prop := Claim7.holds Tryd.pinned (.plain (OpenSpec.ofChange fnExactMirrorShoreSpec)) fnExactMirrorShoreCard

/-- THE TIED CARD OF 'laws.FnExactRaiseStone'. -/
def fnExactRaiseStoneCard : Claim7 := { stood := { row := fnExactRaiseStoneRow, standIns := [], harness := (true, "a2cd4e99407a2dea419a6fa68974bfe33ab1e0e41fa44be5354eb87c7812f3b6"), looks := false }, kinds := [], alts := [], laidByText := true, laidKinds := [.data, .pinned], laidTests := true, laidLooks := .later }
def FnExactRaiseStoneCardSaid : Prop := Claim7.holds Tryd.pinned (.plain (OpenSpec.ofChange fnExactRaiseStoneSpec)) fnExactRaiseStoneCard

/-- THE TIED CARD OF 'laws.FnExactHighestHour'. -/
def fnExactHighestHourCard : Claim7 := { stood := { row := fnExactHighestHourRow, standIns := [], harness := (true, "a2cd4e99407a2dea419a6fa68974bfe33ab1e0e41fa44be5354eb87c7812f3b6"), looks := false }, kinds := [], alts := [], laidByText := true, laidKinds := [.data, .pinned], laidTests := true, laidLooks := .later }
def FnExactHighestHourCardSaid : Prop := Claim7.holds Tryd.pinned (.plain (OpenSpec.ofChange fnExactHighestHourSpec)) fnExactHighestHourCard

/-- THE TIED CARD OF 'laws.FnExactDryAt'. -/
def fnExactDryAtCard : Claim7 := { stood := { row := fnExactDryAtRow, standIns := [], harness := (true, "a2cd4e99407a2dea419a6fa68974bfe33ab1e0e41fa44be5354eb87c7812f3b6"), looks := false }, kinds := [], alts := [], laidByText := true, laidKinds := [.data, .pinned], laidTests := true, laidLooks := .later }
def FnExactDryAtCardSaid : Prop := Claim7.holds Tryd.pinned (.plain (OpenSpec.ofChange fnExactDryAtSpec)) fnExactDryAtCard

/-- THE TIED CARD OF 'laws.FnExactDryHours'. -/
def fnExactDryHoursCard : Claim7 := { stood := { row := fnExactDryHoursRow, standIns := [], harness := (true, "a2cd4e99407a2dea419a6fa68974bfe33ab1e0e41fa44be5354eb87c7812f3b6"), looks := false }, kinds := [], alts := [], laidByText := true, laidKinds := [.data, .pinned], laidTests := true, laidLooks := .later }
def FnExactDryHoursCardSaid : Prop := Claim7.holds Tryd.pinned (.plain (OpenSpec.ofChange fnExactDryHoursSpec)) fnExactDryHoursCard

/-- THE TIED CARD OF 'laws.FnExactAlwaysDry'. -/
def fnExactAlwaysDryCard : Claim7 := { stood := { row := fnExactAlwaysDryRow, standIns := [], harness := (true, "a2cd4e99407a2dea419a6fa68974bfe33ab1e0e41fa44be5354eb87c7812f3b6"), looks := false }, kinds := [], alts := [], laidByText := true, laidKinds := [.data, .pinned], laidTests := true, laidLooks := .later }
def FnExactAlwaysDryCardSaid : Prop := Claim7.holds Tryd.pinned (.plain (OpenSpec.ofChange fnExactAlwaysDrySpec)) fnExactAlwaysDryCard

/-- THE TIED CARD OF 'laws.FnExactNeverDry'. -/
def fnExactNeverDryCard : Claim7 := { stood := { row := fnExactNeverDryRow, standIns := [], harness := (true, "a2cd4e99407a2dea419a6fa68974bfe33ab1e0e41fa44be5354eb87c7812f3b6"), looks := false }, kinds := [], alts := [], laidByText := true, laidKinds := [.data, .pinned], laidTests := true, laidLooks := .later }
def FnExactNeverDryCardSaid : Prop := Claim7.holds Tryd.pinned (.plain (OpenSpec.ofChange fnExactNeverDrySpec)) fnExactNeverDryCard

/-- THE TIED CARD OF 'laws.FnTidesDry'. -/
def fnTidesDryCard : Claim7 := { stood := { row := fnTidesDryRow, standIns := [], harness := (true, "a2cd4e99407a2dea419a6fa68974bfe33ab1e0e41fa44be5354eb87c7812f3b6"), looks := false }, kinds := [], alts := [], laidByText := true, laidKinds := [.data, .pinned], laidTests := true, laidLooks := .later }
def FnTidesDryCardSaid : Prop := Claim7.holds Tryd.pinned (.plain (OpenSpec.ofChange fnTidesDrySpec)) fnTidesDryCard

/-- THE TIED CARD OF 'laws.FnExactIsTideWay'. -/
def fnExactIsTideWayCard : Claim7 := { stood := { row := fnExactIsTideWayRow, standIns := [], harness := (true, "a2cd4e99407a2dea419a6fa68974bfe33ab1e0e41fa44be5354eb87c7812f3b6"), looks := false }, kinds := [], alts := [], laidByText := true, laidKinds := [.data, .pinned], laidTests := true, laidLooks := .later }
def FnExactIsTideWayCardSaid : Prop := Claim7.holds Tryd.pinned (.plain (OpenSpec.ofChange fnExactIsTideWaySpec)) fnExactIsTideWayCard

/-- THE SECOND FORM's CARD OF 'laws.FnExactIsShore'. -/
def fnExactIsShoreUptoCard : Claim7 := { stood := { row := fnExactIsShoreUptoRow, standIns := [], harness := (true, "a2cd4e99407a2dea419a6fa68974bfe33ab1e0e41fa44be5354eb87c7812f3b6"), looks := false }, kinds := [], alts := [], laidByText := true, laidKinds := [.data, .pinned], laidTests := true, laidLooks := .later }
def FnExactIsShoreUptoCardSaid : Prop := Claim7.holds Tryd.pinned (.plain (OpenSpec.upto fnExactIsShoreSpec)) fnExactIsShoreUptoCard

/-- THE SECOND FORM's CARD OF 'laws.FnExactIsTide'. -/
def fnExactIsTideUptoCard : Claim7 := { stood := { row := fnExactIsTideUptoRow, standIns := [], harness := (true, "a2cd4e99407a2dea419a6fa68974bfe33ab1e0e41fa44be5354eb87c7812f3b6"), looks := false }, kinds := [], alts := [], laidByText := true, laidKinds := [.data, .pinned], laidTests := true, laidLooks := .later }
def FnExactIsTideUptoCardSaid : Prop := Claim7.holds Tryd.pinned (.plain (OpenSpec.upto fnExactIsTideSpec)) fnExactIsTideUptoCard

/-- THE SECOND FORM's CARD OF 'laws.FnExactTurnTide'. -/
def fnExactTurnTideUptoCard : Claim7 := { stood := { row := fnExactTurnTideUptoRow, standIns := [], harness := (true, "a2cd4e99407a2dea419a6fa68974bfe33ab1e0e41fa44be5354eb87c7812f3b6"), looks := false }, kinds := [], alts := [], laidByText := true, laidKinds := [.data, .pinned], laidTests := true, laidLooks := .later }
def FnExactTurnTideUptoCardSaid : Prop := Claim7.holds Tryd.pinned (.plain (OpenSpec.upto fnExactTurnTideSpec)) fnExactTurnTideUptoCard

/-- THE SECOND FORM's CARD OF 'laws.FnExactMirrorShore'. -/
def fnExactMirrorShoreUptoCard : Claim7 := { stood := { row := fnExactMirrorShoreUptoRow, standIns := [], harness := (true, "a2cd4e99407a2dea419a6fa68974bfe33ab1e0e41fa44be5354eb87c7812f3b6"), looks := false }, kinds := [], alts := [], laidByText := true, laidKinds := [.data, .pinned], laidTests := true, laidLooks := .later }
def FnExactMirrorShoreUptoCardSaid : Prop := Claim7.holds Tryd.pinned (.plain (OpenSpec.upto fnExactMirrorShoreSpec)) fnExactMirrorShoreUptoCard

/-- THE SECOND FORM's CARD OF 'laws.FnExactRaiseStone'. -/
def fnExactRaiseStoneUptoCard : Claim7 := { stood := { row := fnExactRaiseStoneUptoRow, standIns := [], harness := (true, "a2cd4e99407a2dea419a6fa68974bfe33ab1e0e41fa44be5354eb87c7812f3b6"), looks := false }, kinds := [], alts := [], laidByText := true, laidKinds := [.data, .pinned], laidTests := true, laidLooks := .later }
def FnExactRaiseStoneUptoCardSaid : Prop := Claim7.holds Tryd.pinned (.plain (OpenSpec.upto fnExactRaiseStoneSpec)) fnExactRaiseStoneUptoCard

/-- THE SECOND FORM's CARD OF 'laws.FnExactHighestHour'. -/
def fnExactHighestHourUptoCard : Claim7 := { stood := { row := fnExactHighestHourUptoRow, standIns := [], harness := (true, "a2cd4e99407a2dea419a6fa68974bfe33ab1e0e41fa44be5354eb87c7812f3b6"), looks := false }, kinds := [], alts := [], laidByText := true, laidKinds := [.data, .pinned], laidTests := true, laidLooks := .later }
def FnExactHighestHourUptoCardSaid : Prop := Claim7.holds Tryd.pinned (.plain (OpenSpec.upto fnExactHighestHourSpec)) fnExactHighestHourUptoCard

/-- THE SECOND FORM's CARD OF 'laws.FnExactDryAt'. -/
def fnExactDryAtUptoCard : Claim7 := { stood := { row := fnExactDryAtUptoRow, standIns := [], harness := (true, "a2cd4e99407a2dea419a6fa68974bfe33ab1e0e41fa44be5354eb87c7812f3b6"), looks := false }, kinds := [], alts := [], laidByText := true, laidKinds := [.data, .pinned], laidTests := true, laidLooks := .later }
def FnExactDryAtUptoCardSaid : Prop := Claim7.holds Tryd.pinned (.plain (OpenSpec.upto fnExactDryAtSpec)) fnExactDryAtUptoCard

/-- THE SECOND FORM's CARD OF 'laws.FnExactDryHours'. -/
def fnExactDryHoursUptoCard : Claim7 := { stood := { row := fnExactDryHoursUptoRow, standIns := [], harness := (true, "a2cd4e99407a2dea419a6fa68974bfe33ab1e0e41fa44be5354eb87c7812f3b6"), looks := false }, kinds := [], alts := [], laidByText := true, laidKinds := [.data, .pinned], laidTests := true, laidLooks := .later }
def FnExactDryHoursUptoCardSaid : Prop := Claim7.holds Tryd.pinned (.plain (OpenSpec.upto fnExactDryHoursSpec)) fnExactDryHoursUptoCard

/-- THE SECOND FORM's CARD OF 'laws.FnExactAlwaysDry'. -/
def fnExactAlwaysDryUptoCard : Claim7 := { stood := { row := fnExactAlwaysDryUptoRow, standIns := [], harness := (true, "a2cd4e99407a2dea419a6fa68974bfe33ab1e0e41fa44be5354eb87c7812f3b6"), looks := false }, kinds := [], alts := [], laidByText := true, laidKinds := [.data, .pinned], laidTests := true, laidLooks := .later }
def FnExactAlwaysDryUptoCardSaid : Prop := Claim7.holds Tryd.pinned (.plain (OpenSpec.upto fnExactAlwaysDrySpec)) fnExactAlwaysDryUptoCard

/-- THE SECOND FORM's CARD OF 'laws.FnExactNeverDry'. -/
def fnExactNeverDryUptoCard : Claim7 := { stood := { row := fnExactNeverDryUptoRow, standIns := [], harness := (true, "a2cd4e99407a2dea419a6fa68974bfe33ab1e0e41fa44be5354eb87c7812f3b6"), looks := false }, kinds := [], alts := [], laidByText := true, laidKinds := [.data, .pinned], laidTests := true, laidLooks := .later }
def FnExactNeverDryUptoCardSaid : Prop := Claim7.holds Tryd.pinned (.plain (OpenSpec.upto fnExactNeverDrySpec)) fnExactNeverDryUptoCard

/-- THE SECOND FORM's CARD OF 'laws.FnTidesDry'. -/
def fnTidesDryUptoCard : Claim7 := { stood := { row := fnTidesDryUptoRow, standIns := [], harness := (true, "a2cd4e99407a2dea419a6fa68974bfe33ab1e0e41fa44be5354eb87c7812f3b6"), looks := false }, kinds := [], alts := [], laidByText := true, laidKinds := [.data, .pinned], laidTests := true, laidLooks := .later }
def FnTidesDryUptoCardSaid : Prop := Claim7.holds Tryd.pinned (.plain (OpenSpec.upto fnTidesDrySpec)) fnTidesDryUptoCard

/-- THE SECOND FORM's CARD OF 'laws.FnExactIsTideWay'. -/
def fnExactIsTideWayUptoCard : Claim7 := { stood := { row := fnExactIsTideWayUptoRow, standIns := [], harness := (true, "a2cd4e99407a2dea419a6fa68974bfe33ab1e0e41fa44be5354eb87c7812f3b6"), looks := false }, kinds := [], alts := [], laidByText := true, laidKinds := [.data, .pinned], laidTests := true, laidLooks := .later }
def FnExactIsTideWayUptoCardSaid : Prop := Claim7.holds Tryd.pinned (.plain (OpenSpec.upto fnExactIsTideWaySpec)) fnExactIsTideWayUptoCard
end Rows
end Go.Proofs.YthglhfhepooggaaDoor
