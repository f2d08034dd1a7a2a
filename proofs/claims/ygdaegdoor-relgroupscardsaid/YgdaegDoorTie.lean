/-
  DERIVED. GIVEN WITH THE SEED: THE PROGRAM's TIES (one call each: nine closed facts by the kernel) AND EACH ROW's TIE, after the 31st guide's Derived/Test/Toyas{Tie, Card}.lean. No idea stands in it: it is a product of the set-up. Laid BY PROGRAM, IN A SANDBOX (cutbox-door.mjs). By AI agents, Wed Nov 11 2026. No macro, syntax, notation, axiom, sorry.
-/
import Derived.Test.YgdaegDoorRows
import Derived.LaidByTextLater
import Derived.SevenTiedAt
import Derived.LaidSub
import Derived.LaidOnce
namespace Go.Proofs.YgdaegDoor
open Go
set_option maxRecDepth 100000
theorem seatTie1 : Yaed.prog.laidByTextLater [("sqlmini/law.theRel", Rows.laid_sqlmini_law_theRel), ("sqlmini/law.theSQL", Rows.laid_sqlmini_law_theSQL)] [.funcs, .funcs] true :=
  Program.laidByTextLater_by_one 19 8 2 (by kernel_rfl) (by kernel_rfl) (by kernel_rfl) (by kernel_rfl) (by kernel_rfl) (by kernel_rfl) (fun _ _ => by kernel_rfl)
theorem noOwnUnsafe : Yaed.pinned.checked.prog.headLifts.contains "ownunsafe" = false := by kernel_rfl
theorem tie : Yaed.prog.laidByTextLater [("sqlmini/law.theRel", Rows.laid_sqlmini_law_theRel)] [.funcs] true :=
  Program.laidByTextLater.sub seatTie1 ["sqlmini/law.theRel"] (by kernel_rfl) (by kernel_rfl)
theorem relDrops_row_tie : Rows.relDropsRow.laidByTextAt .later Yaed.pinned [.funcs] true :=
  OpenClaim.laidByTextAt_later rfl rfl tie noOwnUnsafe
theorem relFilters_row_tie : Rows.relFiltersRow.laidByTextAt .later Yaed.pinned [.funcs] true :=
  OpenClaim.laidByTextAt_later rfl rfl tie noOwnUnsafe
theorem relUpdates_row_tie : Rows.relUpdatesRow.laidByTextAt .later Yaed.pinned [.funcs] true :=
  OpenClaim.laidByTextAt_later rfl rfl tie noOwnUnsafe
theorem relSorts_row_tie : Rows.relSortsRow.laidByTextAt .later Yaed.pinned [.funcs] true :=
  OpenClaim.laidByTextAt_later rfl rfl tie noOwnUnsafe
theorem relUndoes_row_tie : Rows.relUndoesRow.laidByTextAt .later Yaed.pinned [.funcs] true :=
  OpenClaim.laidByTextAt_later rfl rfl tie noOwnUnsafe
theorem relGroups_row_tie : Rows.relGroupsRow.laidByTextAt .later Yaed.pinned [.funcs] true :=
  OpenClaim.laidByTextAt_later rfl rfl tie noOwnUnsafe
theorem tie2 : Yaed.prog.laidByTextLater [("sqlmini/law.theSQL", Rows.laid_sqlmini_law_theSQL)] [.funcs] true :=
  Program.laidByTextLater.sub seatTie1 ["sqlmini/law.theSQL"] (by kernel_rfl) (by kernel_rfl)
theorem parseBack_row_tie : Rows.parseBackRow.laidByTextAt .later Yaed.pinned [.funcs] true :=
  OpenClaim.laidByTextAt_later rfl rfl tie2 noOwnUnsafe
theorem parseLoose_row_tie : Rows.parseLooseRow.laidByTextAt .later Yaed.pinned [.funcs] true :=
  OpenClaim.laidByTextAt_later rfl rfl tie2 noOwnUnsafe
theorem parseTotal_row_tie : Rows.parseTotalRow.laidByTextAt .later Yaed.pinned [.funcs] true :=
  OpenClaim.laidByTextAt_later rfl rfl tie2 noOwnUnsafe
theorem parseTable_row_tie : Rows.parseTableRow.laidByTextAt .later Yaed.pinned [.funcs] true :=
  OpenClaim.laidByTextAt_later rfl rfl tie2 noOwnUnsafe
theorem parseCodes_row_tie : Rows.parseCodesRow.laidByTextAt .later Yaed.pinned [.funcs] true :=
  OpenClaim.laidByTextAt_later rfl rfl tie2 noOwnUnsafe
end Go.Proofs.YgdaegDoor
