import Derived.Test.YgdaegDoorOpen
import Derived.SevenTiedAt
namespace Go.Proofs.YgdaegDoor
open Go
theorem cardGoes : false = Rows.relDropsRow.goesBy Yaed.pinned.checked.prog := by kernel_rfl
theorem cardName : Yaed.prog.funcNamed "sqlmini/law.RelDrops" = some 3 := by kernel_rfl
theorem cardStand : ([22].all fun u => !Yaed.prog.wantsStandIn u) = true := by kernel_rfl
end Go.Proofs.YgdaegDoor
