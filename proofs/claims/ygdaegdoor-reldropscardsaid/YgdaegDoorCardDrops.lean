import Derived.Test.YgdaegDoorRowDrops
import Derived.Test.YgdaegDoorCardDA
import Derived.Test.YgdaegDoorCardDB
import Derived.SevenTiedAt
set_option linter.unusedSimpArgs false
set_option linter.unusedVariables false
namespace Go.Proofs.YgdaegDoor
open Go
/-- THE TIED CARD OF RelDrops. -/
theorem relDrops_card : Rows.RelDropsCardSaid :=
  Claim7.holds_tied_plain_at .later [] [.funcs] true (true, "5fe3d34aae0ce178797248193b73d4643f79c58e3e7e23bc2f76c9334753b3a7") false
    relDrops_holds (fun _ h => by cases h) cardWf (fun _ h => by cases h) relDrops_row_tie rfl ⟨rfl, rfl⟩ cardMain rfl
    (fun f fn hf hfn => by
      obtain rfl : f = 3 := Option.some.inj (cardName.symm.trans hf) |>.symm
      obtain rfl : fn = Yaed.f3 := (Option.some.inj (Yaed.func3.symm.trans hfn)).symm
      exact ⟨cardLooks, fun j t ht => by
        rw [Yaed.params3] at ht
        have hm : t ∈ [22] := by simpa using Array.mem_of_getElem? ht
        exact (show Yaed.prog.wantsStandIn t = false by simpa using List.all_eq_true.1 cardStand t hm)⟩)
    cardGoes
end Go.Proofs.YgdaegDoor
