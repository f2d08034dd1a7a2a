import Derived.Test.YgdaegDoorOpen
namespace Go.Proofs.YgdaegDoor
open Go.ChangeShapes Go.WideShapes Go.ChangeAt Go.RowKit
set_option linter.unusedSimpArgs false
set_option linter.unusedVariables false
theorem factsLaidOut : laidOutB Yaed.pinned.checked.prog = true := by kernel_rfl
theorem factsMaps : mapsRowed Yaed.pinned.checked.prog = true := by kernel_rfl
theorem factsHeard : Yaed.pinned.checked.prog.stopsHeard = true := by kernel_rfl
theorem factsEnter : Yaed.pinned.checked.prog.mayEnter = true := by kernel_rfl
theorem factsLifts : (Rows.relDropsRow.lifted == Yaed.pinned.checked.prog.liftsFinal) = true := by kernel_rfl
theorem factsKeys : (Rows.relDropsRow.plainKeys == Yaed.pinned.checked.prog.plainKeys) = true := by kernel_rfl
end Go.Proofs.YgdaegDoor
