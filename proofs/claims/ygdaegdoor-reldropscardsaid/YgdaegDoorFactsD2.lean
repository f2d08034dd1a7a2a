import Derived.Test.YgdaegDoorOpen
namespace Go.Proofs.YgdaegDoor
open Go.ChangeShapes Go.WideShapes Go.ChangeAt Go.RowKit
set_option linter.unusedSimpArgs false
set_option linter.unusedVariables false
theorem factsRecurses : (Rows.relDropsRow.recurses == Yaed.pinned.checked.prog.recurses 3) = true := by kernel_rfl
theorem factsNamed : (Rows.relDropsRow.named == Yaed.pinned.checked.prog.varsNamed 3) = true := by kernel_rfl
end Go.Proofs.YgdaegDoor
