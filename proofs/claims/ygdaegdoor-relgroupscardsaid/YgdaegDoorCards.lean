/-
  DERIVED. GIVEN WITH THE SEED: THE CARDS: each row of YgdaegDoorRows.lean that lists a variable, with what it lists TIED to the program's text (the seventh form; the later family's looks); each row that meets fmt, with fmt's text TOLD by the authors' own Lean function (tested against real Go, not proved from fmt's source: count such statements apart). THE CARD IS WHAT COUNTS. Prove the row's statement (the work); the ties are given (YgdaegDoorTie.lean); close each card by the builder's one call (the guide's Derived/Test/ToyasCard.lean, 'card_holds'). Laid BY PROGRAM, IN A SANDBOX (cutbox-door.mjs). By AI agents, Wed Nov 11 2026. No macro, syntax, notation, axiom, sorry.
-/
import Derived.Test.YgdaegDoorRows
import GoSem.ClaimSeven
namespace Go.Proofs.YgdaegDoor
namespace Rows

/-- THE TIED CARD OF 'law.RelDrops'. -/
def relDropsCard : Claim7 := { stood := { row := relDropsRow, standIns := [], harness := (true, "5fe3d34aae0ce178797248193b73d4643f79c58e3e7e23bc2f76c9334753b3a7"), looks := false }, kinds := [], alts := [], laidByText := true, laidKinds := [.funcs], laidTests := true, laidLooks := .later }
def RelDropsCardSaid : Prop := Claim7.holds Yaed.pinned (.plain (OpenSpec.ofChange relDropsSpec)) relDropsCard

/-- THE TIED CARD OF 'law.RelFilters'. -/
def relFiltersCard : Claim7 := { stood := { row := relFiltersRow, standIns := [], harness := (true, "5fe3d34aae0ce178797248193b73d4643f79c58e3e7e23bc2f76c9334753b3a7"), looks := false }, kinds := [], alts := [], laidByText := true, laidKinds := [.funcs], laidTests := true, laidLooks := .later }
def RelFiltersCardSaid : Prop := Claim7.holds Yaed.pinned (.plain (OpenSpec.ofChange relFiltersSpec)) relFiltersCard

/-- THE TIED CARD OF 'law.RelUpdates'. -/
def relUpdatesCard : Claim7 := { stood := { row := relUpdatesRow, standIns := [], harness := (true, "5fe3d34aae0ce178797248193b73d4643f79c58e3e7e23bc2f76c9334753b3a7"), looks := false }, kinds := [], alts := [], laidByText := true, laidKinds := [.funcs], laidTests := true, laidLooks := .later }
def RelUpdatesCardSaid : Prop := Claim7.holds Yaed.pinned (.plain (OpenSpec.ofChange relUpdatesSpec)) relUpdatesCard

/-- THE TIED CARD OF 'law.RelSorts'. -/
def relSortsCard : Claim7 := { stood := { row := relSortsRow, standIns := [], harness := (true, "5fe3d34aae0ce178797248193b73d4643f79c58e3e7e23bc2f76c9334753b3a7"), looks := false }, kinds := [], alts := [], laidByText := true, laidKinds := [.funcs], laidTests := true, laidLooks := .later }
def RelSortsCardSaid : Prop := Claim7.holds Yaed.pinned (.plain (OpenSpec.ofChange relSortsSpec)) relSortsCard

/-- THE TIED CARD OF 'law.RelUndoes'. -/
def relUndoesCard : Claim7 := { stood := { row := relUndoesRow, standIns := [], harness := (true, "5fe3d34aae0ce178797248193b73d4643f79c58e3e7e23bc2f76c9334753b3a7"), looks := false }, kinds := [], alts := [], laidByText := true, laidKinds := [.funcs], laidTests := true, laidLooks := .later }
def RelUndoesCardSaid : Prop := Claim7.holds Yaed.pinned (.plain (OpenSpec.ofChange relUndoesSpec)) relUndoesCard

/-- THE TIED CARD OF 'law.RelGroups'. -/
def relGroupsCard : Claim7 := { stood := { row := relGroupsRow, standIns := [], harness := (true, "5fe3d34aae0ce178797248193b73d4643f79c58e3e7e23bc2f76c9334753b3a7"), looks := false }, kinds := [], alts := [], laidByText := true, laidKinds := [.funcs], laidTests := true, laidLooks := .later }
def RelGroupsCardSaid : Prop := Claim7.holds Yaed.pinned (.plain (OpenSpec.ofChange relGroupsSpec)) relGroupsCard

/-- THE TIED CARD OF 'law.ParseBack'. -/
def parseBackCard : Claim7 := { stood := { row := parseBackRow, standIns := [], harness := (true, "5fe3d34aae0ce178797248193b73d4643f79c58e3e7e23bc2f76c9334753b3a7"), looks := false }, kinds := [], alts := [], laidByText := true, laidKinds := [.funcs], laidTests := true, laidLooks := .later }
def ParseBackCardSaid : Prop := Claim7.holds Yaed.pinned (.plain (OpenSpec.ofChange parseBackSpec)) parseBackCard

/-- THE TIED CARD OF 'law.ParseLoose'. -/
def parseLooseCard : Claim7 := { stood := { row := parseLooseRow, standIns := [], harness := (true, "5fe3d34aae0ce178797248193b73d4643f79c58e3e7e23bc2f76c9334753b3a7"), looks := false }, kinds := [], alts := [], laidByText := true, laidKinds := [.funcs], laidTests := true, laidLooks := .later }
def ParseLooseCardSaid : Prop := Claim7.holds Yaed.pinned (.plain (OpenSpec.ofChange parseLooseSpec)) parseLooseCard

/-- THE TIED CARD OF 'law.ParseTotal'. -/
def parseTotalCard : Claim7 := { stood := { row := parseTotalRow, standIns := [], harness := (true, "5fe3d34aae0ce178797248193b73d4643f79c58e3e7e23bc2f76c9334753b3a7"), looks := false }, kinds := [], alts := [], laidByText := true, laidKinds := [.funcs], laidTests := true, laidLooks := .later }
def ParseTotalCardSaid : Prop := Claim7.holds Yaed.pinned (.plain (OpenSpec.ofChange parseTotalSpec)) parseTotalCard

/-- THE TIED CARD OF 'law.ParseTable'. -/
def parseTableCard : Claim7 := { stood := { row := parseTableRow, standIns := [], harness := (true, "5fe3d34aae0ce178797248193b73d4643f79c58e3e7e23bc2f76c9334753b3a7"), looks := false }, kinds := [], alts := [], laidByText := true, laidKinds := [.funcs], laidTests := true, laidLooks := .later }
def ParseTableCardSaid : Prop := Claim7.holds Yaed.pinned (.plain (OpenSpec.ofChange parseTableSpec)) parseTableCard

/-- THE TIED CARD OF 'law.ParseCodes'. -/
def parseCodesCard : Claim7 := { stood := { row := parseCodesRow, standIns := [], harness := (true, "5fe3d34aae0ce178797248193b73d4643f79c58e3e7e23bc2f76c9334753b3a7"), looks := false }, kinds := [], alts := [], laidByText := true, laidKinds := [.funcs], laidTests := true, laidLooks := .later }
def ParseCodesCardSaid : Prop := Claim7.holds Yaed.pinned (.plain (OpenSpec.ofChange parseCodesSpec)) parseCodesCard
end Rows
end Go.Proofs.YgdaegDoor
