import Derived.Test.YgdaegDoorDrops
namespace Go.Proofs.YgdaegDoor
open Go.ChangeShapes Go.WideShapes Go.ChangeAt Go.RowKit
set_option linter.unusedSimpArgs false
set_option linter.unusedVariables false
set_option maxHeartbeats 1000000 in
theorem relDrops_top (rs : List (List V)) (hok : ∀ v ∈ rs.flatten, v.ok) (h63 : rs.length ≤ 9223372036854775807) (rv : Value) (w : World) (ok : Nat → Prop) (hrv : Arr2 w ok rv 4 (rowsL rs)) (k0 : w.cell? ⟨0, 0, none⟩ = some (.func (.func 207) #[] #[])) (k1 : w.cell? ⟨0, 1, none⟩ = some (.func (.func 39) #[] #[])) :
    Calls Yaed.prog 3 #[rv] w fun r w' => r = .returned (.bool true) ∧ Below w.heap.size w w' := by
  have HRV : Hid (Arr2 w ok rv 4 (rowsL rs)) := hrv
  have HOK : Hid (∀ v ∈ rs.flatten, v.ok) := hok
  clear hrv hok
  go_enter Yaed.func3, Yaed.ntmps3
  go_wp2_with fail
  refine (relDrops_any rs HOK.out h63 rv w ok HRV.out).mono ?_
  rintro e w1 ⟨rfl, hb⟩
  have HB : Hid (Below w.heap.size w w1) := hb
  clear hb
  go_wp2_with fail
  go_ret
  exact ⟨rfl, HB.out⟩
end Go.Proofs.YgdaegDoor
