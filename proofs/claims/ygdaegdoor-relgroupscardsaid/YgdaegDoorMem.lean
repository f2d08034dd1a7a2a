import Derived.Test.YgdaegDoorBase
import Derived.Handy
import Derived.Deep.RegionHeld3
import Derived.Deep.AppendLies
import Derived.Deep.DrawnRows
set_option linter.unusedSimpArgs false
set_option linter.unusedVariables false
namespace Go.Proofs.YgdaegDoor
open Go.RowKit

/-- The blocks of X are as they were; the streams too; no block has gone. -/
structure Keep (X : Nat → Prop) (w w' : World) : Prop where
  os : w'.os = w.os
  tape : w'.tape = w.tape
  output : w'.output = w.output
  size : w.heap.size ≤ w'.heap.size
  block : ∀ k, X k → w'.heap[k]? = w.heap[k]?

/-- Every block of X is there. -/
def Old (X : Nat → Prop) (w : World) : Prop := ∀ k, X k → k < w.heap.size

section
variable {X Y : Nat → Prop} {w w' w1 : World}
theorem Keep.refl : Keep X w w := ⟨rfl, rfl, rfl, Nat.le_refl _, fun _ _ => rfl⟩
theorem Keep.trans (h : Keep X w w1) (k : Keep X w1 w') : Keep X w w' :=
  ⟨k.os.trans h.os, k.tape.trans h.tape, k.output.trans h.output, Nat.le_trans h.size k.size, fun i hi => (k.block i hi).trans (h.block i hi)⟩
theorem Keep.mono (h : Keep X w w') (hY : ∀ k, Y k → X k) : Keep Y w w' := ⟨h.os, h.tape, h.output, h.size, fun k hk => h.block k (hY k hk)⟩
theorem Keep.of_below {B : Nat} (h : Below B w w') (hX : ∀ k, X k → k < B) : Keep X w w' := ⟨h.os, h.tape, h.output, h.size, fun k hk => h.block k (hX k hk)⟩
theorem Keep.below {B : Nat} (h : Keep X w w') (hX : ∀ k, k < B → X k) : Below B w w' := ⟨h.os, h.tape, h.output, h.size, fun k hk => h.block k (hX k hk)⟩
theorem Keep.alloc (h : Keep X w w1) (hX : Old X w) (o : Obj) : Keep X w (w1.alloc o) :=
  h.trans ⟨rfl, rfl, rfl, by simp, fun k hk => Below.heap_alloc _ _ _ (Nat.lt_of_lt_of_le (hX k hk) h.size)⟩
theorem Keep.drew (h : Keep X w w1) : Keep X w w1.drew := ⟨h.os, h.tape, h.output, h.size, h.block⟩
theorem Keep.setCell (h : Keep X w w1) {p : Addr} (hp : ¬ X p.block) (u : Value) : Keep X w (w1.setCell p u) :=
  h.trans ⟨rfl, rfl, rfl, by simp [World.setCell], fun k hk => Below.heap_setCell _ _ _ _ (fun e => hp (e ▸ hk))⟩
theorem Keep.grown {row : Option Nat} (h : Keep X w w1) (hX : Old X w) (hg : w1.grownBy w' row) (hr : ∀ k, row = some k → ¬ X k) : Keep X w w' :=
  h.trans ⟨hg.os, hg.tape, hg.output, hg.size, fun k hk => hg.block k (Nat.lt_of_lt_of_le (hX k hk) h.size) (fun e => hr k e.symm hk)⟩
theorem Keep.cell (h : Keep X w w') {p : Addr} (hp : X p.block) : w'.cell? p = w.cell? p := World.cell?_of_block (w := w) (h.block p.block hp)
theorem Keep.frozen (h : Keep X w w') {p : Addr} (hp : X p.block) : w'.frozen? p = w.frozen? p := World.frozen?_of_block (w := w) (h.block p.block hp)
theorem Old.keep (hX : Old X w) (h : w.heap.size ≤ w'.heap.size) : Old X w' := fun k hk => Nat.lt_of_lt_of_le (hX k hk) h
end

/-- A node of an arena. -/
structure E where
  op : Int
  a : Int
  b : Int
  c : Int
  v : V
  man : Int
  q : Int
  name : ByteArray
  table : ByteArray

def E.list (e : E) : List Value := [.int .u8 e.op, .int .i16 e.a, .int .i16 e.b, .int .i16 e.c, .int .u8 e.v.k, .int .i64 e.v.i, .float .f64 e.v.r, .string e.v.s,
  .int .u64 e.man, .int .i8 e.q, .string e.name, .string e.table]
def E.val (e : E) : Value := .agg #[.int .u8 e.op, .int .i16 e.a, .int .i16 e.b, .int .i16 e.c, .int .u8 e.v.k, .int .i64 e.v.i, .float .f64 e.v.r, .string e.v.s,
  .int .u64 e.man, .int .i8 e.q, .string e.name, .string e.table]

/-- The builder at block pb: it owns its arena, whose block lies behind pb and outside X. -/
def BAt (w : World) (pb : Nat) (es : List E) (X : Nat → Prop) : Prop :=
  ∃ av, w.heap[pb]? = some (.cells #[av] 111 (0, 0)) ∧ w.ownsRow (pb + 1) 150 12 av es.length (es.flatMap E.list) ∧ (∀ g, av.ownBlock = some g → ¬ X g) ∧ ¬ X pb

def infoTest (P : Program) (t n b : Nat) : Bool :=
  match P.info? t with
  | some i => i.size == n && i.bytes == b && (match i.zero with | some z => z.cells.size == n | none => false)
  | none => false
theorem info_of {P : Program} {t n b : Nat} (h : infoTest P t n b = true) : ∃ i z, P.info? t = some i ∧ i.zero = some z ∧ i.size = n ∧ i.bytes = b ∧ z.cells.size = n := by
  unfold infoTest at h
  split at h
  · rename_i i hi
    refine ⟨i, ?_⟩
    cases hz : i.zero with
    | none => simp [hz] at h
    | some z => simp [hz] at h; exact ⟨z, hi, rfl, h.1.1, h.1.2, h.2⟩
  · cases h
theorem info150 : infoTest Yaed.prog 150 12 96 = true := by kernel_rfl

theorem E.one (e : E) : ∀ u ∈ e.list, u.oneCell' = true := by
  intro u hu; simp [E.list] at hu; rcases hu with h | h | h | h | h | h | h | h | h | h | h | h <;> subst h <;> rfl

theorem heap_set {w : World} {b o : Nat} {c : Array Value} {t : TypeId} {f : Nat × Nat} (h : w.heap[b]? = some (.cells c t f)) (v : Value) :
    (w.setCell ⟨b, o, none⟩ v).heap[b]? = some (.cells (c.setIfInBounds o v) t f) := by
  simp [World.setCell, Array.getElem?_modify, h]
theorem heap_set_ne {w : World} {b k : Nat} {o : Nat} (hk : k ≠ b) (v : Value) : (w.setCell ⟨b, o, none⟩ v).heap[k]? = w.heap[k]? := Below.heap_setCell _ _ _ _ hk
theorem heap_new {w : World} {o : Obj} {n : Nat} (h : n = w.heap.size) : (w.alloc o).heap[n]? = some o := by subst h; exact heap_alloc_new w o
theorem heap_old {w : World} {o : Obj} {n : Nat} (h : n < w.heap.size) : (w.alloc o).heap[n]? = w.heap[n]? := Below.heap_alloc w o n h
theorem block_lt {w : World} {b : Nat} {o : Obj} (h : w.heap[b]? = some o) : b < w.heap.size := (Array.getElem?_eq_some_iff.1 h).1

end Go.Proofs.YgdaegDoor
