import Derived.Test.YgdaegDoorOpen
namespace Go.Proofs.YgdaegDoor
open Go.ChangeShapes Go.WideShapes Go.ChangeAt Go.RowKit
set_option linter.unusedSimpArgs false
set_option linter.unusedVariables false
abbrev laidR : List (String × DataW Unit) := [("sqlmini/law.theRel", Rows.laid_sqlmini_law_theRel)]
theorem cells24 : Yaed.prog.cellsOf 24 = 1 := by kernel_rfl
theorem cells25 : Yaed.prog.cellsOf 25 = 1 := by kernel_rfl
theorem cells27 : Yaed.prog.cellsOf 27 = 2 := by kernel_rfl
theorem door_met (os : Os) (args : Array Value) : laidMetH Yaed.prog laidR ((World.doorLaid Yaed.prog 19 os).forCall (fun _ _ => 0) ⟨#[], args, []⟩).memory :=
  laidMetH_of_parts3 (fuel := 8) (laidMet_of_run' 8 (by kernel_rfl) (by kernel_rfl)) (by kernel_rfl) (by kernel_rfl)
end Go.Proofs.YgdaegDoor
