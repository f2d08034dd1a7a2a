import Derived.Test.YgdaegDoorDoorMet
namespace Go.Proofs.YgdaegDoor
open Go.ChangeShapes Go.WideShapes Go.ChangeAt Go.RowKit
set_option linter.unusedSimpArgs false
set_option linter.unusedVariables false
set_option maxRecDepth 100000 in
theorem of_laid {W : World} (h : laidMetH Yaed.prog laidR W) : W.cell? ⟨0, 0, none⟩ = some (.func (.func 207) #[] #[]) ∧ W.cell? ⟨0, 1, none⟩ = some (.func (.func 39) #[] #[]) := by
  obtain ⟨g, t, cs, fuel, p, hg, ht, hv, hd⟩ := h.funcs (List.mem_singleton.2 rfl)
  obtain rfl := Option.some.inj (gRel.symm.trans hg)
  obtain rfl := Option.some.inj (tRel.symm.trans ht)
  obtain ⟨y0, y1, n, hx, hl, h0, h1⟩ := trod_struct2 Yaed.underlying27 hd
  have hx' : (DataW.agg [DataW.held [40, 42, 115, 113, 108, 109, 105, 110, 105, 47, 114, 101, 108, 46, 68, 66, 41, 46, 69, 120, 101, 99], DataW.held [115, 113, 108, 109, 105, 110, 105, 47, 114, 101, 108, 46, 69, 118, 97, 108]] : DataW (List UInt8)) = .agg [y0.1, y1.1] := congrArg Prod.fst hx
  have e0 : y0.1 = DataW.held [40, 42, 115, 113, 108, 109, 105, 110, 105, 47, 114, 101, 108, 46, 68, 66, 41, 46, 69, 120, 101, 99] := by injection hx' with h; injection h with h _; exact h.symm
  have e1 : y1.1 = DataW.held [115, 113, 108, 109, 105, 110, 105, 47, 114, 101, 108, 46, 69, 118, 97, 108] := by injection hx' with h; injection h with _ h; injection h with h _; exact h.symm
  rw [cells27] at hl
  have hv0 := World.var?_cell hg hv 0
  have hv1 := World.var?_cell hg hv 1
  obtain ⟨l⟩ := cs
  match l, hl with
  | [c0, c1], _ =>
    simp only [cells24, cells25, List.drop_zero, List.drop_succ_cons, List.take_succ_cons, List.take_zero] at h0 h1
    obtain ⟨y00, y01⟩ := y0
    obtain ⟨y10, y11⟩ := y1
    simp only at e0 e1
    subst e0 e1
    obtain rfl := func_of_trod (f0 := 207) Yaed.underlying24 (by kernel_rfl) h0
    obtain rfl := func_of_trod (f0 := 39) Yaed.underlying25 (by kernel_rfl) h1
    exact ⟨by simpa using hv0, by simpa using hv1⟩
end Go.Proofs.YgdaegDoor
