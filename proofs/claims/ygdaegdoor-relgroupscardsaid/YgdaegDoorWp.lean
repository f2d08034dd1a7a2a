import Derived.Test.YgdaegDoorFloat
namespace Go.Proofs.YgdaegDoor
open Go.RowKit
set_option linter.unusedSimpArgs false
set_option linter.unusedVariables false
section
variable {P : Program} {o : Oper} {a : Act} {w : World} {K : Act → World → Prop} {Q : Exit → Act → World → Prop} {n : Nat} {x1 x2 x3 : Operand} {ts : Array TypeId} {v1 v2 v3 : Value}
set_option maxHeartbeats 1000000 in
theorem wp_call0 (hf : ∀ args w, (callFunc n args).run P w = .ok (.enter n args) w)
    (ho : o.op = .call { callee := .value (.func n), args := #[], argTypes := ts })
    (h : Calls P n #[] w fun r w' => ∃ v, r = .returned v ∧ K (a.put o.dst v) w') : o.wp P a w K Q := by
  obtain ⟨op, dst, c3, c4, c5⟩ := o
  simp only at ho h
  subst ho
  unfold Oper.wp
  have hev : a.eval (.func n) = .func (.func n) #[] #[] := rfl
  generalize a.eval = ev at h hev ⊢
  go_simp
  refine Calls.mono h ?_
  rintro r w' ⟨v, rfl, hk⟩
  exact hk
set_option maxHeartbeats 1000000 in
theorem wp_call1 (hf : ∀ args w, (callFunc n args).run P w = .ok (.enter n args) w)
    (ho : o.op = .call { callee := .value (.func n), args := #[x1], argTypes := ts }) (h1 : a.eval x1 = v1)
    (h : Calls P n #[v1] w fun r w' => ∃ v, r = .returned v ∧ K (a.put o.dst v) w') : o.wp P a w K Q := by
  obtain ⟨op, dst, c3, c4, c5⟩ := o
  simp only at ho h
  subst ho h1
  unfold Oper.wp
  have hev : a.eval (.func n) = .func (.func n) #[] #[] := rfl
  generalize a.eval = ev at h hev ⊢
  go_simp
  refine Calls.mono h ?_
  rintro r w' ⟨v, rfl, hk⟩
  exact hk
set_option maxHeartbeats 1000000 in
theorem wp_call2 (hf : ∀ args w, (callFunc n args).run P w = .ok (.enter n args) w)
    (ho : o.op = .call { callee := .value (.func n), args := #[x1, x2], argTypes := ts }) (h1 : a.eval x1 = v1) (h2 : a.eval x2 = v2)
    (h : Calls P n #[v1, v2] w fun r w' => ∃ v, r = .returned v ∧ K (a.put o.dst v) w') : o.wp P a w K Q := by
  obtain ⟨op, dst, c3, c4, c5⟩ := o
  simp only at ho h
  subst ho h1 h2
  unfold Oper.wp
  have hev : a.eval (.func n) = .func (.func n) #[] #[] := rfl
  generalize a.eval = ev at h hev ⊢
  go_simp
  refine Calls.mono h ?_
  rintro r w' ⟨v, rfl, hk⟩
  exact hk
set_option maxHeartbeats 1000000 in
theorem wp_call3 (hf : ∀ args w, (callFunc n args).run P w = .ok (.enter n args) w)
    (ho : o.op = .call { callee := .value (.func n), args := #[x1, x2, x3], argTypes := ts }) (h1 : a.eval x1 = v1) (h2 : a.eval x2 = v2) (h3 : a.eval x3 = v3)
    (h : Calls P n #[v1, v2, v3] w fun r w' => ∃ v, r = .returned v ∧ K (a.put o.dst v) w') : o.wp P a w K Q := by
  obtain ⟨op, dst, c3, c4, c5⟩ := o
  simp only at ho h
  subst ho h1 h2 h3
  unfold Oper.wp
  have hev : a.eval (.func n) = .func (.func n) #[] #[] := rfl
  generalize a.eval = ev at h hev ⊢
  go_simp
  refine Calls.mono h ?_
  rintro r w' ⟨v, rfl, hk⟩
  exact hk
end
theorem call27 : ∀ args w, (callFunc 27 args).run Yaed.prog w = .ok (.enter 27 args) w := by intro args w; go_simp
theorem call28 : ∀ args w, (callFunc 28 args).run Yaed.prog w = .ok (.enter 28 args) w := by intro args w; go_simp
theorem call29 : ∀ args w, (callFunc 29 args).run Yaed.prog w = .ok (.enter 29 args) w := by intro args w; go_simp
theorem call31 : ∀ args w, (callFunc 31 args).run Yaed.prog w = .ok (.enter 31 args) w := by intro args w; go_simp
theorem call32 : ∀ args w, (callFunc 32 args).run Yaed.prog w = .ok (.enter 32 args) w := by intro args w; go_simp
theorem call33 : ∀ args w, (callFunc 33 args).run Yaed.prog w = .ok (.enter 33 args) w := by intro args w; go_simp
/-- A fresh block of type ty, size k. -/
def FrT (ty k : Nat) (B : Nat) (x : Value) (w : World) : Prop := ∃ g z, x = .pointer (some ⟨g, 0, none⟩) ∧ B ≤ g ∧ w.heap[g]? = some (.cells z ty (0, 0)) ∧ z.size = k
theorem FrT.ext {ty k B : Nat} {x : Value} {w w' : World} (h : FrT ty k B x w) (hb : Below w.heap.size w w') : FrT ty k B x w' := by
  obtain ⟨g, z, h1, h2, h3, h4⟩ := h
  exact ⟨g, z, h1, h2, (hb.block _ (block_lt h3)).trans h3, h4⟩
theorem FrT.ne {ty k B : Nat} {x : Value} {w : World} (h : FrT ty k B x w) : x ≠ .pointer (some ⟨w.heap.size, 0, none⟩) := by
  obtain ⟨g, z, rfl, _, h3, _⟩ := h
  intro e
  have hlt := block_lt h3
  injection e with e1
  injection e1 with e2
  injection e2 with e3
  omega
theorem eval_put_same {a : Act} {i : Nat} {x : Value} (h : i < a.tmps.size) : (a.put (some i) x).eval (.tmp i) = x := by
  show (a.tmps.setIfInBounds i x).getD i undef = x
  rw [Array.getD_eq_getD_getElem?, Array.getElem?_setIfInBounds_self_of_lt h]
  rfl
theorem put_size {a : Act} {i : Nat} {x : Value} : (a.put (some i) x).tmps.size = a.tmps.size := by
  show (a.tmps.setIfInBounds i x).size = _
  simp
end Go.Proofs.YgdaegDoor
