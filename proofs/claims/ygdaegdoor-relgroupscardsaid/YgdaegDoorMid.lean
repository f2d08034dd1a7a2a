import Derived.Test.YgdaegDoorStore
import Derived.Deep.MidRow
set_option linter.unusedSimpArgs false
set_option linter.unusedVariables false
namespace Go.Proofs.YgdaegDoor
open Go.RowKit
theorem keep_setCells (b : Nat) : ∀ (vs : List Value) (o : Nat) (w : World), Keep (fun k => k ≠ b) w (w.setCells b o vs)
  | [], _, _ => Keep.refl
  | v :: r, o, w => by
    rw [World.setCells]
    exact (Keep.refl.setCell (X := fun k => k ≠ b) (p := ⟨b, o, none⟩) (fun h => h rfl) v).trans (keep_setCells b r (o + 1) _)
theorem size_setCells (b : Nat) : ∀ (vs : List Value) (o : Nat) (w : World), (w.setCells b o vs).heap.size = w.heap.size
  | [], _, _ => rfl
  | v :: r, o, w => by
    rw [World.setCells, size_setCells b r (o + 1)]
    simp
theorem range_keep {X : Nat → Prop} {w w' : World} {b o : Nat} {cs : List Value} (h : w.rangeAt b o cs) (hk : Keep X w w') (hX : X b) : w'.rangeAt b o cs := fun j v hv => by
  rw [hk.cell (p := ⟨b, o + j, none⟩) hX]; exact h j v hv
theorem there_keep {X : Nat → Prop} {w w' : World} {b o n : Nat} (h : w.there b o n) (hk : Keep X w w') (hX : X b) : w'.there b o n := fun j hj => by
  rw [hk.cell (p := ⟨b, o + j, none⟩) hX, hk.frozen (p := ⟨b, o + j, none⟩) hX]; exact h j hj
theorem range_ext {w w' : World} {b o B : Nat} {cs : List Value} (h : w.rangeAt b o cs) (hb : Below B w w') (hlt : b < B) : w'.rangeAt b o cs := fun j v hv => by
  rw [hb.cell (p := ⟨b, o + j, none⟩) hlt]; exact h j v hv
theorem there_ext {w w' : World} {b o n B : Nat} (h : w.there b o n) (hb : Below B w w') (hlt : b < B) : w'.there b o n :=
  there_keep h (X := fun k => k < B) (Keep.of_below hb (fun _ h => h)) hlt
theorem there_block {w : World} {b : Nat} {C : Array Value} {t : TypeId} (hb : w.heap[b]? = some (.cells C t (0, 0))) (o n : Nat) (hn : o + n ≤ C.size) : w.there b o n := fun j hj => by
  have h1 : (o + j) < C.size := by omega
  refine ⟨by simp [World.cell?, hb, h1], by simp [World.frozen?, hb]⟩
section
variable {P : Program} {op : Oper} {a : Act} {w : World} {Q : Exit → Act → World → Prop} {ty : TypeId} {x y : Operand} {b o : Nat} {cells : Array Value}
/-- A struct is stored inside a block. -/
theorem wp_putM {K : Act → World → Prop} (ho : op.op = .store ty x y) (hx : a.eval x = .pointer (some ⟨b, o, none⟩)) (hy : a.eval y = .agg cells)
    (ht : w.there b o cells.size) (hi : (P.info? ty).map (·.size) = some cells.size) (h1 : cells.all (·.oneCell') = true)
    (h : ∀ w', Keep (fun k => k ≠ b) w w' → w'.heap.size = w.heap.size → w'.rangeAt b o cells.toList → (∀ o' cs, w.rangeAt b o' cs → (o' + cs.length ≤ o ∨ o + cells.size ≤ o') → w'.rangeAt b o' cs) → (∀ o' n, w.there b o' n → w'.there b o' n) →
      K (a.put op.dst undef) w') : op.wp P a w K Q := by
  refine wp_store_mid ty x y ho b o cells hx hy ht hi h1 ?_
  refine h _ (keep_setCells _ _ _ _) (size_setCells _ _ _ _) (World.rangeAt_setCells_same _ _ _ _ (by simpa using ht)) (fun o' cs hr ha => World.rangeAt_setCells_apart hr _ _ _ (.inr (by simpa using ha))) (fun o' n ht => World.there_setCells ht _ _ _)
theorem wpList_putM {ops : Array Oper} {rest : List Oper} (hgd : op.guard = none) (ho : op.op = .store ty x y) (hx : a.eval x = .pointer (some ⟨b, o, none⟩)) (hy : a.eval y = .agg cells)
    (ht : w.there b o cells.size) (hi : (P.info? ty).map (·.size) = some cells.size) (h1 : cells.all (·.oneCell') = true)
    (h : ∀ w', Keep (fun k => k ≠ b) w w' → w'.heap.size = w.heap.size → w'.rangeAt b o cells.toList → (∀ o' cs, w.rangeAt b o' cs → (o' + cs.length ≤ o ∨ o + cells.size ≤ o') → w'.rangeAt b o' cs) → (∀ o' n, w.there b o' n → w'.there b o' n) →
      wpList P ops Q rest (a.put op.dst undef) w') : wpList P ops Q (op :: rest) a w :=
  wpList_plain hgd fun _ hK => wp_putM ho hx hy ht hi h1 fun w' h2 h3 h4 h5 h6 => hK _ _ (h w' h2 h3 h4 h5 h6)
end
end Go.Proofs.YgdaegDoor
