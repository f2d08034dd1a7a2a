import Derived.Test.YgdaegDoorBase
set_option linter.unusedSimpArgs false
set_option linter.unusedVariables false
namespace Go.Proofs.YgdaegDoor
open Go.RowKit
attribute [local go_sem] run_store_float

theorem f64bits_run (n : Nat) (w : World) : (callFunc 184 #[.float .f64 n]).run Yaed.prog w = .ok (.value (.int .u64 n)) w := by
  rw [run_callFunc_extern (e := Extern.MathFloatBits.float64bits) Yaed.func184 (by kernel_rfl) (by kernel_rfl) (by kernel_rfl) (by kernel_rfl)]; rfl
theorem bits_any (n : Nat) (w : World) :
    Calls Yaed.prog 160 #[.float .f64 n] w fun e w' => e = .returned (.int .u64 n) ∧ w' = w := by
  have h := f64bits_run n w
  go_enter Yaed.func160, Yaed.ntmps160
  go_wp2
  go_ret
  exact ⟨rfl, rfl⟩
theorem isNaN_any (n : Nat) (w : World) :
    Calls Yaed.prog 124 #[.float .f64 n] w fun e w' => e = .returned (.bool (nanB n)) ∧ w' = w := by
  go_enter Yaed.func124, Yaed.ntmps124
  go_wp2_with (go_at_call 160; refine (bits_any _ _).mono ?_; rintro e w' ⟨rfl, rfl⟩)
  go_ret
  exact ⟨rfl, rfl⟩
theorem isNZ_any (n : Nat) (w : World) :
    Calls Yaed.prog 125 #[.float .f64 n] w fun e w' => e = .returned (.bool (nzB n)) ∧ w' = w := by
  go_enter Yaed.func125, Yaed.ntmps125
  go_wp2_with (go_at_call 160; refine (bits_any _ _).mono ?_; rintro e w' ⟨rfl, rfl⟩)
  go_ret
  exact ⟨rfl, rfl⟩
end Go.Proofs.YgdaegDoor
