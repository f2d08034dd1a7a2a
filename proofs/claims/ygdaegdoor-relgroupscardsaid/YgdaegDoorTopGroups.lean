import Derived.Test.YgdaegDoorGroupsLaw
namespace Go.Proofs.YgdaegDoor
open Go.ChangeShapes Go.WideShapes Go.ChangeAt Go.RowKit
set_option linter.unusedSimpArgs false
set_option linter.unusedVariables false
set_option maxHeartbeats 1000000 in
theorem relGroups_top (rs : List (List V)) (hok : ∀ v ∈ rs.flatten, v.ok) (h63 : rs.length ≤ 9223372036854775807) (g c : Nat) (hg : g < 256) (hc : c < 256) (rv : Value) (w : World) (ok : Nat → Prop) (hrv : Arr2 w ok rv 4 (rowsL rs)) (k0 : w.cell? ⟨0, 0, none⟩ = some (.func (.func 207) #[] #[])) (k1 : w.cell? ⟨0, 1, none⟩ = some (.func (.func 39) #[] #[])) :
    Calls Yaed.prog 8 #[rv, .int .u8 g, .int .u8 c] w fun r w' => r = .returned (.bool true) ∧ Below w.heap.size w w' := by
  have HRV : Hid (Arr2 w ok rv 4 (rowsL rs)) := hrv
  have HOK : Hid (∀ v ∈ rs.flatten, v.ok) := hok
  clear hrv hok
  go_enter Yaed.func8, Yaed.ntmps8
  go_wp2_with fail
  refine (relGroups_any rs HOK.out h63 g c hg hc rv w ok HRV.out).mono ?_
  rintro e w1 ⟨rfl, hb⟩
  have HB : Hid (Below w.heap.size w w1) := hb
  clear hb
  go_wp2_with fail
  go_ret
  exact ⟨rfl, HB.out⟩
theorem u8_nat {n : Int} (h : (Lit.int .u8 n).wf = true) : ∃ k : Nat, n = k ∧ k < 256 := by
  have h1 : IntKind.u8.min ≤ n ∧ n ≤ IntKind.u8.max := by simpa [Lit.wf] using h
  have h2 : IntKind.u8.min = 0 := by decide
  have h3 : IntKind.u8.max = 255 := by decide
  rw [h2, h3] at h1
  exact ⟨n.toNat, by omega, by omega⟩
end Go.Proofs.YgdaegDoor
