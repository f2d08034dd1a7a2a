import Derived.Test.YgdaegDoorCols
namespace Go.Proofs.YgdaegDoor
open Go.RowKit
set_option linter.unusedSimpArgs false
set_option linter.unusedVariables false
set_option maxRecDepth 20000 in
set_option maxHeartbeats 4000000 in
theorem check_of (s : St) (ps : Nat) (w : World) (hst : StAt w ps s) (hk11 : s.kind < 11) (en : Nat) (aa : Option Addr) (ac : Nat) (ha : s.arena = .slice aa en ac) (hen : en ≤ 128) (R : Value → World → Prop) (G : Value → World → Prop)
    (h59 : ∀ w', Below w.heap.size w w' → Calls Yaed.prog 59 #[.pointer (some ⟨ps, 0, none⟩)] w' fun r w'' => r = .returned (.bool true) ∧ Below w'.heap.size w' w'')
    (h60 : ∀ w', Below w.heap.size w w' → Calls Yaed.prog 60 #[.pointer (some ⟨ps, 0, none⟩)] w' fun r w'' => ∃ rv av, r = .returned (.tuple #[rv, av]) ∧ (∀ w3, Below w''.heap.size w'' w3 → R rv w3) ∧ (∀ w3, Below w''.heap.size w'' w3 → G av w3) ∧ Below w'.heap.size w' w'')
    (h62 : ∀ w' rv, Below w.heap.size w w' → R rv w' → Calls Yaed.prog 62 #[s.arena, rv] w' fun r w'' => r = .returned (.bool true) ∧ Below w'.heap.size w' w'')
    (h63 : ∀ w' rv av, Below w.heap.size w w' → R rv w' → G av w' → Calls Yaed.prog 63 #[s.arena, rv, av] w' fun r w'' => r = .returned (.bool true) ∧ Below w'.heap.size w' w'') :
    Calls Yaed.prog 35 #[.pointer (some ⟨ps, 0, none⟩)] w fun r w' => r = .returned (.bool true) ∧ Below w.heap.size w w' := by
  have HST : Hid (StAt w ps s) := hst
  have H59 : Hid _ := h59
  have H60 : Hid _ := h60
  have H62 : Hid _ := h62
  have H63 : Hid _ := h63
  obtain ⟨f0, f3, f4, f5, f9, f10, f11, f13, f14, f18⟩ := hst.facts
  have HA : Hid _ := ha
  rw [ha] at f18
  have h11 : ¬ (11 : Int) ≤ s.kind := by omega
  have h128 : ¬ (128 : Int) < en := by omega
  have h128n : ¬ 128 < en := by omega
  clear h59 h60 h62 h63 hst ha f3 f4 f5 f9 f10 f11 f13 f14
  go_enter Yaed.func35, Yaed.ntmps35
  go_wp2_with fail
  refine (H59.out w (Below.refl _ _)).mono ?_
  rintro e w1 ⟨rfl, hb1⟩
  have HB1 : Hid (Below w.heap.size w w1) := hb1
  clear hb1 f0 f18
  go_wp2_with fail
  refine (H60.out w1 HB1.out).mono ?_
  rintro e w2 ⟨rv, av, rfl, hR, hG, hb2⟩
  have HB2 : Hid (Below w.heap.size w w2) := HB1.out.trans (hb2.mono HB1.out.size)
  have HR : Hid _ := hR
  have HG : Hid _ := hG
  clear hR hG hb2 HB1
  obtain ⟨f0, f3, f4, f5, f9, f10, f11, f13, f14, f18⟩ := (HST.out.ext HB2.out).facts
  clear f4 f5 f9 f10 f11 f13 f14
  go_wp2_with fail
  refine (H62.out w2 rv HB2.out (HR.out w2 (Below.refl _ _))).mono ?_
  rintro e w3 ⟨rfl, hb3⟩
  have HB3 : Hid (Below w.heap.size w w3) := HB2.out.trans (hb3.mono HB2.out.size)
  have HR3 : Hid _ := HR.out w3 hb3
  have HG3 : Hid _ := HG.out w3 hb3
  obtain ⟨f0, f3, f4, f5, f9, f10, f11, f13, f14, f18⟩ := (HST.out.ext HB3.out).facts
  clear f4 f5 f9 f10 f11 f13 f14 HR HG hb3 HB2
  go_wp2_with fail
  refine (H63.out w3 rv av HB3.out HR3.out HG3.out).mono ?_
  rintro e w4 ⟨rfl, hb4⟩
  have HB4 : Hid (Below w.heap.size w w4) := HB3.out.trans (hb4.mono HB3.out.size)
  clear hb4 HB3
  go_wp2_with fail
  go_ret
  exact ⟨by simp, HB4.out⟩
end Go.Proofs.YgdaegDoor
