import Derived.Test.YgdaegDoorOpen
import Derived.Test.YgdaegDoorDrops
namespace Go.Proofs.YgdaegDoor
open Go.ChangeShapes Go.WideShapes Go.ChangeAt Go.RowKit
set_option linter.unusedSimpArgs false
set_option linter.unusedVariables false
abbrev laidR : List (String × DataW Unit) := [("sqlmini/law.theRel", Rows.laid_sqlmini_law_theRel)]
theorem cells24 : Yaed.prog.cellsOf 24 = 1 := by kernel_rfl
theorem cells25 : Yaed.prog.cellsOf 25 = 1 := by kernel_rfl
theorem cells27 : Yaed.prog.cellsOf 27 = 2 := by kernel_rfl
theorem door_met (os : Os) (args : Array Value) : laidMetH Yaed.prog laidR ((World.doorLaid Yaed.prog 19 os).forCall (fun _ _ => 0) ⟨#[], args, []⟩).memory :=
  laidMetH_of_parts3 (fuel := 8) (laidMet_of_run' 8 (by kernel_rfl) (by kernel_rfl)) (by kernel_rfl) (by kernel_rfl)
set_option maxRecDepth 100000 in
theorem of_laid {W : World} (h : laidMetH Yaed.prog laidR W) : W.cell? ⟨0, 0, none⟩ = some (.func (.func 207) #[] #[]) ∧ W.cell? ⟨0, 1, none⟩ = some (.func (.func 39) #[] #[]) := by
  obtain ⟨g, t, cs, fuel, p, hg, ht, hv, hd⟩ := h.funcs (List.mem_singleton.2 rfl)
  obtain rfl := Option.some.inj (gRel.symm.trans hg)
  obtain rfl := Option.some.inj (tRel.symm.trans ht)
  obtain ⟨y0, y1, n, hx, hl, h0, h1⟩ := trod_struct2 Yaed.underlying27 hd
  have hx' : (DataW.agg [DataW.held [40, 42, 115, 113, 108, 109, 105, 110, 105, 47, 114, 101, 108, 46, 68, 66, 41, 46, 69, 120, 101, 99], DataW.held [115, 113, 108, 109, 105, 110, 105, 47, 114, 101, 108, 46, 69, 118, 97, 108]] : DataW (List UInt8)) = .agg [y0.1, y1.1] := congrArg Prod.fst hx
  have e0 : y0.1 = DataW.held [40, 42, 115, 113, 108, 109, 105, 110, 105, 47, 114, 101, 108, 46, 68, 66, 41, 46, 69, 120, 101, 99] := by injection hx' with h; injection h with h _; exact h.symm
  have e1 : y1.1 = DataW.held [115, 113, 108, 109, 105, 110, 105, 47, 114, 101, 108, 46, 69, 118, 97, 108] := by injection hx' with h; injection h with _ h; injection h with h _; exact h.symm
  rw [cells27] at hl
  have hv0 := World.var?_cell hg hv 0
  have hv1 := World.var?_cell hg hv 1
  obtain ⟨l⟩ := cs
  match l, hl with
  | [c0, c1], _ =>
    simp only [cells24, cells25, List.drop_zero, List.drop_succ_cons, List.take_succ_cons, List.take_zero] at h0 h1
    obtain ⟨y00, y01⟩ := y0
    obtain ⟨y10, y11⟩ := y1
    simp only at e0 e1
    subst e0 e1
    obtain rfl := func_of_trod (f0 := 207) Yaed.underlying24 (by kernel_rfl) h0
    obtain rfl := func_of_trod (f0 := 39) Yaed.underlying25 (by kernel_rfl) h1
    exact ⟨by simpa using hv0, by simpa using hv1⟩
set_option maxHeartbeats 1000000 in
theorem relDrops_top (rs : List (List V)) (hok : ∀ v ∈ rs.flatten, v.ok) (h63 : rs.length ≤ 9223372036854775807) (rv : Value) (w : World) (ok : Nat → Prop) (hrv : Arr2 w ok rv 4 (rowsL rs)) (k0 : w.cell? ⟨0, 0, none⟩ = some (.func (.func 207) #[] #[])) (k1 : w.cell? ⟨0, 1, none⟩ = some (.func (.func 39) #[] #[])) :
    Calls Yaed.prog 3 #[rv] w fun r w' => r = .returned (.bool true) ∧ Below w.heap.size w w' := by
  have HRV : Hid (Arr2 w ok rv 4 (rowsL rs)) := hrv
  have HOK : Hid (∀ v ∈ rs.flatten, v.ok) := hok
  clear hrv hok
  go_enter Yaed.func3, Yaed.ntmps3
  go_wp2_with fail
  refine (relDrops_any rs HOK.out h63 rv w ok HRV.out).mono ?_
  rintro e w1 ⟨rfl, hb⟩
  have HB : Hid (Below w.heap.size w w1) := hb
  clear hb
  go_wp2_with fail
  go_ret
  exact ⟨rfl, HB.out⟩
theorem laidOut : laidOutB Yaed.prog = true := by kernel_rfl
set_option maxRecDepth 100000 in
theorem lifted (os : Os) (started : os.Started) (H : Type) (enc : TypeId × Value → H) :
    ReturnsInHanded {} Yaed.checked os 3 .any (fun w args => (Rows.relDropsSpec.pre enc Yaed.prog Yaed.f3 [] false w args ∧ laidMetH Yaed.prog laidR w) ∧ sizedMet enc Yaed.prog Yaed.f3 (OpenSpec.ofChange Rows.relDropsSpec) false w args)
      (Rows.relDropsSpec.post enc Yaed.prog Yaed.f3 false true false false) := by
  refine returnsInHanded_of_change_and (C := Yaed.checked) (X := fun w _ => laidMetH Yaed.prog laidR w) (fun _ _ _ hh h => h.of_heap hh) own started (by kernel_rfl) Yaed.func3
    (ChangeSpec.witness_shaped (enc := enc) (C := Yaed.checked) (os := os) (X := fun w _ => laidMetH Yaed.prog laidR w) false (World.doorLaid Yaed.prog 19 os) #[.slice none 0 0] 8 rfl (World.shaped_of_RefB (by kernel_rfl) (by kernel_rfl)) (by kernel_rfl) (by kernel_rfl) (by kernel_rfl) (door_met os _)) ?_
  intro W base args ds gs before hval0 hW _ _ hL _
  have hval : ∀ (j : Nat) t v, Yaed.f3.params[j]? = some t → args[j]? = some v → Value.okWide Yaed.prog W .any base t v := hval0
  have hW' := hW
  obtain ⟨p, q, hA0, hV, rfl, hfz, hnd⟩ := hW
  have hA : DataW.TrodAll enc Yaed.prog W 0 (fun _ => true) true Yaed.f3.params.toList args.toList ds p := hA0
  rw [Yaed.params3] at hA hval
  obtain ⟨v0, d0, rfl, rfl, h0⟩ := trodAll_one hA
  obtain ⟨rfl, rfl⟩ := trodVars_none hV
  obtain ⟨k0, k1⟩ := of_laid hL
  have h0k := h0
  obtain ⟨a0, len, cap, rfl⟩ := okWide_slice Yaed.underlying22 (hval 0 22 v0 rfl rfl)
  obtain ⟨fuel, hf⟩ := h0
  obtain ⟨v, rs, hcs, hrv, hok, hlen⟩ := open_vrows hf
  obtain rfl : v = .slice a0 len cap := by simpa [Value.cells] using hcs.symm
  clear hA0 hval0
  refine (relDrops_top rs hok (by unfold maxLen at hlen; omega) _ W _ hrv k0 k1).mono fun e W' ⟨he, hb⟩ => ?_
  subst he
  have hlt : ∀ x ∈ p, x.block < W.heap.size := fun x hx => by simpa using hW'.lt x (by simpa using hx)
  refine ⟨_, rfl, _, _, _, [], p, [], hW', trodAll_mk1 (shut_bool Yaed.underlying4 true), trodAll_mk1 (Below.trod laidOut (by kernel_rfl) (of_decide_eq_true (by kernel_rfl)) h0k hb hlt), rfl, hb.frame _, fun h => by cases h⟩
theorem relDrops_holds : Rows.RelDropsSaid :=
  OpenClaim.holds_of_wide 3 Yaed.f3 rfl rfl rfl rfl rfl rfl rfl ⟨rfl, rfl, rfl, rfl, rfl⟩ rfl rfl rfl rfl rfl (by kernel_rfl) Yaed.func3 (by kernel_rfl)
    (of_decide_eq_true (by kernel_rfl)) (by unfold Func.isWrapper; first | (rw [if_pos (by decide +kernel)]; kernel_rfl) | (rw [if_neg (by decide +kernel)]; exact ⟨rfl, rfl⟩))
    (fun os started H enc _ => lifted os started H enc)
end Go.Proofs.YgdaegDoor
