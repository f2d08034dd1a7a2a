import Derived.Test.YgdaegDoorFine
namespace Go.Proofs.YgdaegDoor
open Go.RowKit
set_option linter.unusedSimpArgs false
set_option linter.unusedVariables false
set_option maxRecDepth 20000 in
set_option maxHeartbeats 2000000 in
/-- checkExprs over Params. -/
theorem checkExprs_params (b o n cap f l : Nat) (hl : l < n) (hn : n < 30000) (cv : Value) (q : Bool) (w : World) (hop : ∀ i, i < n → ∃ v, NodeAt w b (o + i * 12) (leafE 4 v)) :
    Calls Yaed.prog 224 #[.slice (some ⟨b, o, none⟩) n cap, .int .i64 f, .int .i64 l, cv, .bool q] w fun r w' => r = .returned (.int .u8 0) ∧ w' = w := by
  have HOP : Hid (∀ i, i < n → ∃ v, NodeAt w b (o + i * 12) (leafE 4 v)) := hop
  clear hop
  go_enter Yaed.func224, Yaed.ntmps224
  go_wp2_with fail
  go_loopw [11] (fun c wr => ∃ k : Nat, f ≤ k ∧ c = .int .i64 k ∧ Hid (wr = w)) (fun c _ => n - (intOf c).toNat)
  case atStart => exact ⟨f, Nat.le_refl _, rfl, rfl⟩
  case round =>
    obtain ⟨k, hk, rfl, HW⟩ := hrel
    by_cases hkl : k ≤ l
    · obtain ⟨v, hN⟩ := HOP.out k (by omega)
      obtain ⟨h0, _⟩ := hN.facts
      simp only [leafE] at h0
      rw [← HW.out] at h0
      clear hN
      have h1 : (k : Int) ≤ l := by omega
      have h2 : (k : Int) < n := by omega
      go_wp2_with fail
      go_roundw
      case rel => exact ⟨k + 1, by omega, by go_num, HW⟩
      case measure => simp [intOf]; omega
    · have h1 : ¬ (k : Int) ≤ l := by omega
      go_wp2_with fail
      go_ret
      exact ⟨rfl, HW.out⟩
set_option maxRecDepth 20000 in
set_option maxHeartbeats 2000000 in
/-- checkExprs over rowid = 1. -/
theorem checkExprs_del (b o cap : Nat) (cv : Value) (w : World) (hN0 : NodeAt w b (o + 0 * 12) (colE rowidS)) (hN1 : NodeAt w b (o + 1 * 12) (leafE 0 (intV 1))) (hN2 : NodeAt w b (o + 2 * 12) (opE 11 0 1)) :
    Calls Yaed.prog 224 #[.slice (some ⟨b, o, none⟩) 3 cap, .int .i64 0, .int .i64 2, cv, .bool true] w fun r w' => r = .returned (.int .u8 0) ∧ Below w.heap.size w w' := by
  obtain ⟨f0, _, _, _, _, _, _, _, _, _, fn, _⟩ := hN0.facts
  obtain ⟨g0, _⟩ := hN1.facts
  obtain ⟨k0, _⟩ := hN2.facts
  simp only [colE, leafE, opE, rowidS, Nat.zero_mul, Nat.add_zero, Nat.one_mul] at f0 fn g0 k0
  clear hN0 hN1 hN2
  go_enter Yaed.func224, Yaed.ntmps224
  go_wp2_with fail
  refine wp_loop_rounds 4 ?_
  rw [rounds_succ]
  go_wp2_with fail
  rw [rounds_succ]
  go_wp2_with fail
  rw [rounds_succ]
  go_wp2_with fail
  rw [rounds_succ]
  go_wp2_with fail
  go_ret
  exact ⟨rfl, Below.refl _ _⟩
end Go.Proofs.YgdaegDoor
