import Derived.Test.YgdaegDoorOfLaid
import Derived.Test.YgdaegDoorTopGroups
namespace Go.Proofs.YgdaegDoor
open Go.ChangeShapes Go.WideShapes Go.ChangeAt Go.RowKit
set_option linter.unusedSimpArgs false
set_option linter.unusedVariables false
theorem laidOut : laidOutB Yaed.prog = true := by kernel_rfl
set_option maxRecDepth 100000 in
theorem lifted (os : Os) (started : os.Started) (H : Type) (enc : TypeId × Value → H) :
    ReturnsInHanded {} Yaed.checked os 8 .any (fun w args => (Rows.relGroupsSpec.pre enc Yaed.prog Yaed.f8 [] false w args ∧ laidMetH Yaed.prog laidR w) ∧ sizedMet enc Yaed.prog Yaed.f8 (OpenSpec.ofChange Rows.relGroupsSpec) false w args)
      (Rows.relGroupsSpec.post enc Yaed.prog Yaed.f8 false true false false) := by
  refine returnsInHanded_of_change_and (C := Yaed.checked) (X := fun w _ => laidMetH Yaed.prog laidR w) (fun _ _ _ hh h => h.of_heap hh) own started (by kernel_rfl) Yaed.func8
    (ChangeSpec.witness_shaped (enc := enc) (C := Yaed.checked) (os := os) (X := fun w _ => laidMetH Yaed.prog laidR w) false (World.doorLaid Yaed.prog 19 os) #[.slice none 0 0, .int .u8 0, .int .u8 0] 8 rfl (World.shaped_of_RefB (by kernel_rfl) (by kernel_rfl)) (by kernel_rfl) (by kernel_rfl) (by kernel_rfl) (door_met os _)) ?_
  intro W base args ds gs before hval0 hW _ _ hL _
  have hval : ∀ (j : Nat) t v, Yaed.f8.params[j]? = some t → args[j]? = some v → Value.okWide Yaed.prog W .any base t v := hval0
  have hW' := hW
  obtain ⟨p, q, hA0, hV, rfl, hfz, hnd⟩ := hW
  have hA : DataW.TrodAll enc Yaed.prog W 0 (fun _ => true) true Yaed.f8.params.toList args.toList ds p := hA0
  rw [Yaed.params8] at hA hval
  obtain ⟨v0, v1, v2, d0, d1, d2, p0, p1, p2, rfl, rfl, rfl, h0, h1, h2⟩ := trodAll_three hA
  obtain ⟨rfl, rfl⟩ := trodVars_none hV
  obtain ⟨k0, k1⟩ := of_laid hL
  have h0k := h0
  obtain ⟨a0, len, cap, rfl⟩ := okWide_slice Yaed.underlying22 (hval 0 22 v0 rfl rfl)
  obtain ⟨n1, rfl, rfl, rfl, hw1⟩ := open_int Yaed.underlying5 (hval 1 5 v1 rfl rfl) h1
  obtain ⟨n2, rfl, rfl, rfl, hw2⟩ := open_int Yaed.underlying5 (hval 2 5 v2 rfl rfl) h2
  obtain ⟨g, rfl, hg⟩ := u8_nat hw1
  obtain ⟨c, rfl, hc⟩ := u8_nat hw2
  obtain ⟨fuel, hf⟩ := h0
  obtain ⟨v, rs, hcs, hrv, hok, hlen⟩ := open_vrows hf
  obtain rfl : v = .slice a0 len cap := by simpa [Value.cells] using hcs.symm
  clear hA0 hval0
  refine (relGroups_top rs hok (by unfold maxLen at hlen; omega) g c hg hc _ W _ hrv k0 k1).mono fun e W' ⟨he, hb⟩ => ?_
  subst he
  have hlt : ∀ x ∈ p0, x.block < W.heap.size := fun x hx => by simpa using hW'.lt x (by simpa using hx)
  refine ⟨_, rfl, _, _, _, [], p0 ++ ([] ++ []), [], hW', trodAll_mk1 (shut_bool Yaed.underlying4 true), trodAll_mk3 (Below.trod laidOut (by kernel_rfl) (of_decide_eq_true (by kernel_rfl)) h0k hb hlt) (shut_int Yaed.underlying5 hw1) (shut_int Yaed.underlying5 hw2), rfl, hb.frame _, fun h => by cases h⟩
end Go.Proofs.YgdaegDoor
