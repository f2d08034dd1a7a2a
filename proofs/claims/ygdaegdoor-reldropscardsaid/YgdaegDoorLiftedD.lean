import Derived.Test.YgdaegDoorOfLaid
import Derived.Test.YgdaegDoorTopDrops
namespace Go.Proofs.YgdaegDoor
open Go.ChangeShapes Go.WideShapes Go.ChangeAt Go.RowKit
set_option linter.unusedSimpArgs false
set_option linter.unusedVariables false
theorem laidOut : laidOutB Yaed.prog = true := by kernel_rfl
set_option maxRecDepth 100000 in
theorem lifted (os : Os) (started : os.Started) (H : Type) (enc : TypeId × Value → H) :
    ReturnsInHanded {} Yaed.checked os 3 .any (fun w args => (Rows.relDropsSpec.pre enc Yaed.prog Yaed.f3 [] false w args ∧ laidMetH Yaed.prog laidR w) ∧ sizedMet enc Yaed.prog Yaed.f3 (OpenSpec.ofChange Rows.relDropsSpec) false w args)
      (Rows.relDropsSpec.post enc Yaed.prog Yaed.f3 false true false false) := by
  refine returnsInHanded_of_change_and (C := Yaed.checked) (X := fun w _ => laidMetH Yaed.prog laidR w) (fun _ _ _ hh h => h.of_heap hh) own started (by kernel_rfl) Yaed.func3
    (ChangeSpec.witness_shaped (enc := enc) (C := Yaed.checked) (os := os) (X := fun w _ => laidMetH Yaed.prog laidR w) false (World.doorLaid Yaed.prog 19 os) #[.slice none 0 0] 8 rfl (World.shaped_of_RefB (by kernel_rfl) (by kernel_rfl)) (by kernel_rfl) (by kernel_rfl) (by kernel_rfl) (door_met os _)) ?_
  intro W base args ds gs before hval0 hW _ _ hL _
  have hval : ∀ (j : Nat) t v, Yaed.f3.params[j]? = some t → args[j]? = some v → Value.okWide Yaed.prog W .any base t v := hval0
  have hW' := hW
  obtain ⟨p, q, hA0, hV, rfl, hfz, hnd⟩ := hW
  have hA : DataW.TrodAll enc Yaed.prog W 0 (fun _ => true) true Yaed.f3.params.toList args.toList ds p := hA0
  rw [Yaed.params3] at hA hval
  obtain ⟨v0, d0, rfl, rfl, h0⟩ := trodAll_one hA
  obtain ⟨rfl, rfl⟩ := trodVars_none hV
  obtain ⟨k0, k1⟩ := of_laid hL
  have h0k := h0
  obtain ⟨a0, len, cap, rfl⟩ := okWide_slice Yaed.underlying22 (hval 0 22 v0 rfl rfl)
  obtain ⟨fuel, hf⟩ := h0
  obtain ⟨v, rs, hcs, hrv, hok, hlen⟩ := open_vrows hf
  obtain rfl : v = .slice a0 len cap := by simpa [Value.cells] using hcs.symm
  clear hA0 hval0
  refine (relDrops_top rs hok (by unfold maxLen at hlen; omega) _ W _ hrv k0 k1).mono fun e W' ⟨he, hb⟩ => ?_
  subst he
  have hlt : ∀ x ∈ p, x.block < W.heap.size := fun x hx => by simpa using hW'.lt x (by simpa using hx)
  refine ⟨_, rfl, _, _, _, [], p, [], hW', trodAll_mk1 (shut_bool Yaed.underlying4 true), trodAll_mk1 (Below.trod laidOut (by kernel_rfl) (of_decide_eq_true (by kernel_rfl)) h0k hb hlt), rfl, hb.frame _, fun h => by cases h⟩
end Go.Proofs.YgdaegDoor
