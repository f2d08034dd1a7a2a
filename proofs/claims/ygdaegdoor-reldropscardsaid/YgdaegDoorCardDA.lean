import Derived.Test.YgdaegDoorOpen
import Derived.SevenTiedAt
namespace Go.Proofs.YgdaegDoor
open Go
theorem cardWf : Rows.relDropsRow.wfByText (OpenSpec.ofChange Rows.relDropsSpec) = true := by kernel_rfl
theorem cardMain : Yaed.pinned.checked.prog.mainIs = some (true, "5fe3d34aae0ce178797248193b73d4643f79c58e3e7e23bc2f76c9334753b3a7".toList) := by kernel_rfl
theorem cardLooks : false = Yaed.pinned.checked.prog.looks [] := by kernel_rfl
end Go.Proofs.YgdaegDoor
