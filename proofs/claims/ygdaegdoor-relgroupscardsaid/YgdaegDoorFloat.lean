import Derived.Test.YgdaegDoorArg
namespace Go.Proofs.YgdaegDoor
open Go.RowKit
set_option linter.unusedSimpArgs false
set_option linter.unusedVariables false
section
variable {P : Program} {l : List Oper} {K : Act → World → Prop} {S : World → Prop}
/-- Effects that float, under an invariant: n of them are left. -/
theorem wpAnyH_float (I : Nat → Array Bool → Act → World → Prop) (hS : ∀ n L a w, I n L a w → S w)
    (h0 : ∀ L a w, I 0 L a w → Region.ready .any l.toArray L = [] ∧ K a w)
    (h1 : ∀ n L a w, I (n + 1) L a w → Region.ready .any l.toArray L ≠ [] ∧ ∀ i ∈ Region.ready .any l.toArray L, ∃ o, l[i]? = some o ∧ Region.wanted o (yielded l.toArray a.tmps) = true ∧
      o.wp P a w (fun a' w' => I n (L.setIfInBounds i true) a' w') (fun _ _ _ => False)) :
    ∀ n L a w, I n L a w → wpAnyH P .any l.toArray (onlyN K) S n L a w := by
  intro n
  induction n with
  | zero =>
    intro L a w h
    obtain ⟨hr, hk⟩ := h0 L a w h
    exact wpAnyH_done hr hk 0
  | succ n ih =>
    intro L a w h
    obtain ⟨hne, hh⟩ := h1 n L a w h
    refine wpAnyH_branch _ rfl hne (fun i hi => ?_)
    obtain ⟨o, ho, hw, hwp⟩ := hh i hi
    exact ⟨o, ho, hw, Oper.wp_mono (fun a' w' hI => ⟨hS _ _ _ _ hI, ih _ _ _ hI⟩) hwp⟩
end

/-- A fresh value's block. -/
def Fr (B : Nat) (x : Value) (w : World) : Prop := ∃ g z, x = .pointer (some ⟨g, 0, none⟩) ∧ B ≤ g ∧ w.heap[g]? = some (.cells z 100 (0, 0)) ∧ z.size = 4
theorem Fr.ext {B : Nat} {x : Value} {w w' : World} (h : Fr B x w) (hb : Below w.heap.size w w') : Fr B x w' := by
  obtain ⟨g, z, h1, h2, h3, h4⟩ := h
  exact ⟨g, z, h1, h2, (hb.block _ (block_lt h3)).trans h3, h4⟩
theorem Fr.ne {B : Nat} {x : Value} {w : World} (h : Fr B x w) : x ≠ .pointer (some ⟨w.heap.size, 0, none⟩) := by
  obtain ⟨g, z, rfl, _, h3, _⟩ := h
  intro e
  have hlt := block_lt h3
  injection e with e1
  injection e1 with e2
  injection e2 with e3
  omega
def puts (a0 : Act) (x36 x44 x16 x17 : Value) : Act := (((a0.put (some 36) x36).put (some 44) x44).put (some 16) x16).put (some 17) x17
/-- What holds while the four effects of node's beginning come up. -/
structure NodeI (w0 : World) (a0 : Act) (va vb : Value) (n : Nat) (L : Array Bool) (a : Act) (w : World) : Prop where
  mk ::
  ex : ∃ f7 f15 f16 f17 : Bool, ∃ x36 x44 x16 x17 : Value, L = #[true, true, true, true, true, true, true, f7, true, true, true, true, true, true, true, f15, f16, f17] ∧ a = puts a0 x36 x44 x16 x17 ∧
    n = (cond f7 0 1) + (cond f15 0 1) + (cond f16 0 1) + (cond f17 0 1) ∧ (f15 = true → f7 = true) ∧ (f7 = true → x36 = va) ∧ (f15 = true → x44 = vb) ∧ (f16 = true → Fr w0.heap.size x16 w) ∧ (f17 = true → Fr w0.heap.size x17 w) ∧ (f16 = true → f17 = true → x16 ≠ x17) ∧ Below w0.heap.size w0 w
theorem put_put {a : Act} {i j : Nat} {x y : Value} (h : i ≠ j) : (a.put (some i) x).put (some j) y = (a.put (some j) y).put (some i) x := by
  unfold Act.put
  simp only []
  congr 1
  rw [Array.setIfInBounds_comm _ _ h]
theorem eval_put {a : Act} {i k : Nat} {x : Value} (h : i ≠ k) : (a.put (some i) x).eval (.tmp k) = a.eval (.tmp k) := by
  show (a.tmps.setIfInBounds i x).getD k undef = a.tmps.getD k undef
  rw [Array.getD_eq_getD_getElem?, Array.getD_eq_getD_getElem?, Array.getElem?_setIfInBounds_ne h]
theorem eval_puts {a0 : Act} {x36 x44 x16 x17 : Value} {k : Nat} (h1 : 36 ≠ k) (h2 : 44 ≠ k) (h3 : 16 ≠ k) (h4 : 17 ≠ k) : (puts a0 x36 x44 x16 x17).eval (.tmp k) = a0.eval (.tmp k) := by
  unfold puts
  rw [eval_put h4, eval_put h3, eval_put h2, eval_put h1]
theorem put_same {a : Act} {i : Nat} {x y : Value} : (a.put (some i) x).put (some i) y = a.put (some i) y := by
  unfold Act.put
  simp only []
  congr 1
  rw [Array.setIfInBounds_setIfInBounds]
theorem puts17 {a0 : Act} {x36 x44 x16 x17 y : Value} : (puts a0 x36 x44 x16 x17).put (some 17) y = puts a0 x36 x44 x16 y := by
  unfold puts
  rw [put_same]
theorem puts16 {a0 : Act} {x36 x44 x16 x17 y : Value} : (puts a0 x36 x44 x16 x17).put (some 16) y = puts a0 x36 x44 y x17 := by
  unfold puts
  rw [put_put (i := 17) (j := 16) (by decide), put_same]
theorem puts44 {a0 : Act} {x36 x44 x16 x17 y : Value} : (puts a0 x36 x44 x16 x17).put (some 44) y = puts a0 x36 y x16 x17 := by
  unfold puts
  rw [put_put (i := 17) (j := 44) (by decide), put_put (i := 16) (j := 44) (by decide), put_same]
theorem puts36 {a0 : Act} {x36 x44 x16 x17 y : Value} : (puts a0 x36 x44 x16 x17).put (some 36) y = puts a0 y x44 x16 x17 := by
  unfold puts
  rw [put_put (i := 17) (j := 36) (by decide), put_put (i := 16) (j := 36) (by decide), put_put (i := 44) (j := 36) (by decide), put_same]
end Go.Proofs.YgdaegDoor
