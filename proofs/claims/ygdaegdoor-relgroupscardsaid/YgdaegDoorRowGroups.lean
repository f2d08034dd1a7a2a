import Derived.Test.YgdaegDoorLifted
import Derived.Test.YgdaegDoorFacts
import Derived.Test.YgdaegDoorFacts2
import Derived.Test.YgdaegDoorFacts3
namespace Go.Proofs.YgdaegDoor
open Go.ChangeShapes Go.WideShapes Go.ChangeAt Go.RowKit
set_option linter.unusedSimpArgs false
set_option linter.unusedVariables false
theorem factsAll : joinedFacts Yaed.pinned.checked.prog 8 Yaed.f8 Rows.relGroupsSpec Rows.relGroupsRow = true := by
  unfold joinedFacts
  rw [factsInPlace, factsUnfollowed, factsRecurses, factsNamed, factsLaidOut, factsMaps, factsHeard, factsEnter, factsLifts, factsKeys]
  kernel_rfl
theorem factsFunc : Yaed.pinned.checked.prog.funcNamed Rows.relGroupsRow.func = some 8 := by kernel_rfl
theorem relGroups_holds : Rows.RelGroupsSaid :=
  OpenClaim.holds_of_wide 8 Yaed.f8 rfl rfl rfl rfl rfl rfl rfl ⟨rfl, rfl, rfl, rfl, rfl⟩ rfl rfl rfl rfl rfl factsFunc Yaed.func8 factsAll
    (of_decide_eq_true (by kernel_rfl)) (by unfold Func.isWrapper; first | (rw [if_pos (by decide +kernel)]; kernel_rfl) | (rw [if_neg (by decide +kernel)]; exact ⟨rfl, rfl⟩))
    (fun os started H enc _ => lifted os started H enc)
end Go.Proofs.YgdaegDoor
