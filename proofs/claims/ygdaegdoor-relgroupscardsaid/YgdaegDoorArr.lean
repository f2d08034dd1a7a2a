import Derived.Test.YgdaegDoorBuild
set_option linter.unusedSimpArgs false
set_option linter.unusedVariables false
namespace Go.Proofs.YgdaegDoor
open Go.RowKit

/-- The slice v over these rows of k cells; its block, if it is read at all, is ok. -/
def Arr (w : World) (ok : Nat → Prop) (v : Value) (k : Nat) (rows : List (List Value)) : Prop :=
  ∃ a cap, v = .slice a rows.length cap ∧ rows.length ≤ cap ∧ ∀ i, i < rows.length → ∃ b o, a = some ⟨b, o, none⟩ ∧ ok b ∧ b < w.heap.size ∧
    ∀ f, f < k → w.cell? ⟨b, o + i * k + f, none⟩ = some ((rows.getD i []).getD f undef)

/-- A slice of slices. -/
def Arr2 (w : World) (ok : Nat → Prop) (v : Value) (k : Nat) (rss : List (List (List Value))) : Prop :=
  ∃ vs : List Value, vs.length = rss.length ∧ Arr w ok v 1 (vs.map fun x => [x]) ∧ ∀ i, i < rss.length → Arr w ok (vs.getD i undef) k (rss.getD i [])

section
variable {w w' : World} {ok ok' X : Nat → Prop} {v : Value} {k : Nat} {rows : List (List Value)} {rss : List (List (List Value))}
theorem Arr.nil (w : World) (ok : Nat → Prop) (k : Nat) : Arr w ok (.slice none 0 0) k [] := ⟨none, 0, rfl, Nat.le_refl _, fun i h => absurd h (Nat.not_lt_zero _)⟩
theorem Arr.mono (h : Arr w ok v k rows) (hok : ∀ b, ok b → ok' b) : Arr w ok' v k rows := by
  obtain ⟨a, cap, hv, hc, h⟩ := h
  refine ⟨a, cap, hv, hc, fun i hi => ?_⟩
  obtain ⟨b, o, ha, hb, h⟩ := h i hi
  exact ⟨b, o, ha, hok b hb, h⟩
theorem Arr.keep (h : Arr w ok v k rows) (hk : Keep X w w') (hok : ∀ b, ok b → X b) : Arr w' ok v k rows := by
  obtain ⟨a, cap, hv, hc, h⟩ := h
  refine ⟨a, cap, hv, hc, fun i hi => ?_⟩
  obtain ⟨b, o, ha, hb, hlt, h⟩ := h i hi
  exact ⟨b, o, ha, hb, Nat.lt_of_lt_of_le hlt hk.size, fun f hf => by rw [hk.cell (p := ⟨b, _, none⟩) (hok b hb)]; exact h f hf⟩
theorem Arr.ext (h : Arr w ok v k rows) (hb : Below w.heap.size w w') : Arr w' ok v k rows := by
  obtain ⟨a, cap, hv, hc, h⟩ := h
  refine ⟨a, cap, hv, hc, fun i hi => ?_⟩
  obtain ⟨b, o, ha, hbk, hlt, h⟩ := h i hi
  exact ⟨b, o, ha, hbk, Nat.lt_of_lt_of_le hlt hb.size, fun f hf => by rw [hb.cell (p := ⟨b, _, none⟩) hlt]; exact h f hf⟩
theorem Arr2.mono (h : Arr2 w ok v k rss) (hok : ∀ b, ok b → ok' b) : Arr2 w ok' v k rss := by
  obtain ⟨vs, hl, h1, h2⟩ := h
  exact ⟨vs, hl, h1.mono hok, fun i hi => (h2 i hi).mono hok⟩
theorem Arr2.keep (h : Arr2 w ok v k rss) (hk : Keep X w w') (hok : ∀ b, ok b → X b) : Arr2 w' ok v k rss := by
  obtain ⟨vs, hl, h1, h2⟩ := h
  exact ⟨vs, hl, h1.keep hk hok, fun i hi => (h2 i hi).keep hk hok⟩
theorem Arr2.ext (h : Arr2 w ok v k rss) (hb : Below w.heap.size w w') : Arr2 w' ok v k rss := by
  obtain ⟨vs, hl, h1, h2⟩ := h
  exact ⟨vs, hl, h1.ext hb, fun i hi => (h2 i hi).ext hb⟩
theorem Arr2.nil (w : World) (ok : Nat → Prop) (k : Nat) : Arr2 w ok (.slice none 0 0) k [] := ⟨[], rfl, Arr.nil w ok 1, fun i h => absurd h (Nat.not_lt_zero _)⟩

/-- Where the cells of row i lie in the rows' cells, one behind the other. -/
theorem flat_get : ∀ (rows : List (List Value)), (∀ r ∈ rows, r.length = k) → ∀ i f, i < rows.length → f < k → rows.flatten[i * k + f]? = some ((rows.getD i []).getD f undef) := by
  intro rows
  induction rows with
  | nil => intro _ i f hi; simp at hi
  | cons r rows ih =>
    intro hr i f hi hf
    have hrk : r.length = k := hr r (by simp)
    rw [List.flatten_cons]
    cases i with
    | zero =>
      simp only [Nat.zero_mul, Nat.zero_add, List.getD_cons_zero]
      rw [List.getElem?_append_left (by omega)]
      simp [List.getD_eq_getElem?_getD, show f < r.length by omega]
    | succ i =>
      have e : (i + 1) * k + f = r.length + (i * k + f) := by rw [hrk, Nat.add_mul, Nat.one_mul]; omega
      rw [e, List.getElem?_append_right (by omega), Nat.add_sub_cancel_left, List.getD_cons_succ]
      exact ih (fun r h => hr r (by simp [h])) i f (by simpa using hi) hf

/-- What the call owns, read as rows. -/
theorem Arr.of_owns {base : Nat} {e : TypeId} (h : w.ownsRow base e k v rows.length rows.flatten) (hr : ∀ r ∈ rows, r.length = k) : Arr w (fun b => v.ownBlock = some b) v k rows := by
  rcases h.2 with ⟨rfl, h0⟩ | ⟨g, cap, cur, rfl, hb, hg, hn, hcm, hcs, ht⟩
  · have : rows = [] := List.eq_nil_of_length_eq_zero h0
    subst this
    exact Arr.nil _ _ _
  · refine ⟨_, cap, rfl, hn, fun i hi => ⟨g, 0, rfl, rfl, block_lt hg, fun f hf => ?_⟩⟩
    rw [Nat.zero_add, cell_of_row w g _ cur e _ hg]
    have := flat_get rows hr i f hi hf
    rw [← ht, List.getElem?_take] at this
    split at this
    · simpa using this
    · cases this
end
end Go.Proofs.YgdaegDoor
