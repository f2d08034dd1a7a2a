import Derived.Test.YgdaegDoorLiftedD
import Derived.Test.YgdaegDoorFactsD
import Derived.Test.YgdaegDoorFactsD2
import Derived.Test.YgdaegDoorFactsD3
namespace Go.Proofs.YgdaegDoor
open Go.ChangeShapes Go.WideShapes Go.ChangeAt Go.RowKit
set_option linter.unusedSimpArgs false
set_option linter.unusedVariables false
theorem factsAll : joinedFacts Yaed.pinned.checked.prog 3 Yaed.f3 Rows.relDropsSpec Rows.relDropsRow = true := by
  unfold joinedFacts
  rw [factsInPlace, factsUnfollowed, factsRecurses, factsNamed, factsLaidOut, factsMaps, factsHeard, factsEnter, factsLifts, factsKeys]
  kernel_rfl
theorem factsFunc : Yaed.pinned.checked.prog.funcNamed Rows.relDropsRow.func = some 3 := by kernel_rfl
theorem relDrops_holds : Rows.RelDropsSaid :=
  OpenClaim.holds_of_wide 3 Yaed.f3 rfl rfl rfl rfl rfl rfl rfl ⟨rfl, rfl, rfl, rfl, rfl⟩ rfl rfl rfl rfl rfl factsFunc Yaed.func3 factsAll
    (of_decide_eq_true (by kernel_rfl)) (by unfold Func.isWrapper; first | (rw [if_pos (by decide +kernel)]; kernel_rfl) | (rw [if_neg (by decide +kernel)]; exact ⟨rfl, rfl⟩))
    (fun os started H enc _ => lifted os started H enc)
end Go.Proofs.YgdaegDoor
