import Derived.Test.YgdaegDoorOpen
namespace Go.Proofs.YgdaegDoor
open Go.ChangeShapes Go.WideShapes Go.ChangeAt Go.RowKit
set_option linter.unusedSimpArgs false
set_option linter.unusedVariables false
theorem factsInPlace : (Rows.relDropsRow.inPlace == Yaed.pinned.checked.prog.inPlace 3) = true := by kernel_rfl
theorem factsUnfollowed : (Rows.relDropsRow.unfollowed == Yaed.pinned.checked.prog.unfollowed 3) = true := by kernel_rfl
end Go.Proofs.YgdaegDoor
