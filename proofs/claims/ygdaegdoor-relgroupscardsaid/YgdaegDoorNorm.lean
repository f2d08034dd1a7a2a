import Derived.Test.YgdaegDoorUtf
set_option linter.unusedSimpArgs false
set_option linter.unusedVariables false
namespace Go.Proofs.YgdaegDoor
open Go.RowKit
attribute [local go_sem] run_store_float

def norm (v : V) : V :=
  if v.k == 1 then ⟨1, v.i, 0, ⟨#[]⟩⟩
  else if v.k == 2 then (if nanB v.r then V0 else if nzB v.r then ⟨2, 0, 0, ⟨#[]⟩⟩ else ⟨2, 0, v.r, ⟨#[]⟩⟩)
  else if v.k == 3 then (if 8 < v.s.size then V0 else if vuB v.s then ⟨3, 0, 0, v.s⟩ else V0)
  else V0

theorem nanB_zero : nanB 0 = false := by decide
theorem nzB_zero : nzB 0 = false := by decide
theorem norm_V0 : norm V0 = V0 := rfl
theorem norm_norm (v : V) : norm (norm v) = norm v := by
  obtain ⟨k, i, r, s⟩ := v
  unfold norm
  simp only []
  cases h1 : (k == 1)
  · cases h2 : (k == 2)
    · cases h3 : (k == 3)
      · rfl
      · by_cases h4 : 8 < s.size
        · simp only [Bool.false_eq_true, if_false, if_true, if_pos h4]; rfl
        · cases h5 : vuB s
          · simp only [Bool.false_eq_true, if_false, if_true, if_neg h4]; rfl
          · simp [if_neg h4, h5]
    · cases h3 : nanB r
      · cases h4 : nzB r
        · simp [h3, h4]
        · simp [nanB_zero, nzB_zero]
      · rfl
  · rfl

set_option maxHeartbeats 1000000 in
theorem norm_any (v : V) (w : World) :
    Calls Yaed.prog 64 #[v.val] w fun e w' => e = .returned (norm v).val ∧ Below w.heap.size w w' := by
  obtain ⟨k, i, r, s⟩ := v
  unfold norm V.val V0
  simp only []
  by_cases h1 : (k == 1) = true
  · rw [if_pos h1]
    go_enter Yaed.func64, Yaed.ntmps64
    go_wp2_with fail
    go_returns
    exact ⟨rfl, by go_grown⟩
  rw [if_neg h1]
  by_cases h2 : (k == 2) = true
  · rw [if_pos h2]
    cases h3 : nanB r
    · cases h4 : nzB r
      all_goals
        go_enter Yaed.func64, Yaed.ntmps64
        go_wp2_with (first | (go_at_call 124; refine (isNaN_any _ _).mono ?_; rintro e w' ⟨rfl, rfl⟩) | (go_at_call 125; refine (isNZ_any _ _).mono ?_; rintro e w' ⟨rfl, rfl⟩))
        go_returns
        exact ⟨rfl, by go_grown⟩
    · go_enter Yaed.func64, Yaed.ntmps64
      go_wp2_with (first | (go_at_call 124; refine (isNaN_any _ _).mono ?_; rintro e w' ⟨rfl, rfl⟩) | (go_at_call 125; refine (isNZ_any _ _).mono ?_; rintro e w' ⟨rfl, rfl⟩))
      go_returns
      exact ⟨rfl, by go_grown⟩
  rw [if_neg h2]
  by_cases h3 : (k == 3) = true
  · rw [if_pos h3]
    by_cases h4 : 8 < s.size
    · rw [if_pos h4]
      have h5 : (8 : Int) < s.size := by omega
      go_enter Yaed.func64, Yaed.ntmps64
      go_wp2_with fail
      go_returns
      exact ⟨rfl, by go_grown⟩
    · rw [if_neg h4]
      have h5 : ¬ (8 : Int) < s.size := by omega
      cases h6 : vuB s
      all_goals
        go_enter Yaed.func64, Yaed.ntmps64
        go_wp2_with (go_at_call 126; refine (vu_any _ _ (by omega)).mono ?_; rintro e w' ⟨rfl, rfl⟩)
        go_returns
        exact ⟨rfl, by go_grown⟩
  · rw [if_neg h3]
    go_enter Yaed.func64, Yaed.ntmps64
    go_wp2_with fail
    go_returns
    exact ⟨rfl, by go_grown⟩
end Go.Proofs.YgdaegDoor
