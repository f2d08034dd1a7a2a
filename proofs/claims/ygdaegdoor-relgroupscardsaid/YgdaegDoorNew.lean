import Derived.Test.YgdaegDoorRow
set_option linter.unusedSimpArgs false
set_option linter.unusedVariables false
namespace Go.Proofs.YgdaegDoor
open Go.RowKit
section
variable {P : Program} {w : World} {o : Oper} {a : Act} {Q : Exit → Act → World → Prop} {t : TypeId} {size bytes : Nat}
/-- A new variable of type t. -/
theorem wp_new {K : Act → World → Prop} (hop : o.op = .alloc t) (hinfo : infoTest P t size bytes = true)
    (h : ∀ w' cs, w'.heap[w.heap.size]? = some (.cells cs t (0, 0)) → cs.size = size → Below w.heap.size w w' → w'.heap.size = w.heap.size + 1 → K (a.put o.dst (.pointer (some ⟨w.heap.size, 0, none⟩))) w') : o.wp P a w K Q := by
  obtain ⟨ii, z, hi, hz, hsi, hbi, hzs⟩ := info_of hinfo
  have hr : (Instr.alloc t true (.tuple #[])).run P w = .ok (.pointer (some ⟨w.heap.size, 0, none⟩)) (w.alloc (.cells z.cells t (0, 0))) := by
    simp [Instr.alloc, zeroValue, newVar, newRow, typeInfo, hi, hz]
  unfold Oper.wp execOp
  simp only [hop, Sem.run_bind, hr, Result.andThen_ok, Sem.run_pure]
  exact h _ _ (heap_alloc_new w _) hzs (below_alloc w _) (by simp)
theorem wpList_new {ops : Array Oper} {rest : List Oper} (hgd : o.guard = none) (hop : o.op = .alloc t) (hinfo : infoTest P t size bytes = true)
    (h : ∀ w' cs, w'.heap[w.heap.size]? = some (.cells cs t (0, 0)) → cs.size = size → Below w.heap.size w w' → w'.heap.size = w.heap.size + 1 → wpList P ops Q rest (a.put o.dst (.pointer (some ⟨w.heap.size, 0, none⟩))) w') : wpList P ops Q (o :: rest) a w :=
  wpList_plain hgd fun _ hK => wp_new hop hinfo fun w' cs h1 h2 h3 h4 => hK _ _ (h w' cs h1 h2 h3 h4)
end
theorem info181 : infoTest Yaed.prog 181 128 256 = true := by kernel_rfl
end Go.Proofs.YgdaegDoor
