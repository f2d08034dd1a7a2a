import Derived.Test.YgdaegDoorIndex
import Derived.Test.YgdaegDoorCopy
set_option linter.unusedSimpArgs false
set_option linter.unusedVariables false
namespace Go.Proofs.YgdaegDoor
open Go.RowKit
/-- Two slices that a walk owns: rows, and their ids; the rows' values lie in M. -/
structure Two (B : Nat) (w1 : World) (M : Nat → Prop) (rv : Value) (xs : List Value) (iv : Value) (is : List Int) (rss : List (List V)) (wr : World) : Prop where
  old : ∀ k, M k → k < wr.heap.size
  rown : wr.ownsRow B 94 1 rv rss.length xs
  iown : wr.ownsRow B 2 1 iv is.length (is.map (Value.int .i64))
  rM : ∀ g, rv.ownBlock = some g → ¬ M g
  iM : ∀ g, iv.ownBlock = some g → ¬ M g
  ne : ∀ g, rv.ownBlock = some g → iv.ownBlock ≠ some g
  arr : ∀ k, k < rss.length → Arr wr M (xs.getD k undef) 4 ((rss.getD k []).map V.list)
  bel : Below B w1 wr
theorem idsL_flat : ∀ (is : List Int), (idsL is).flatten = is.map (Value.int .i64)
  | [] => rfl
  | x :: is => by
    show [Value.int .i64 x] ++ (idsL is).flatten = _
    rw [idsL_flat is]
    rfl
section
variable {B : Nat} {w1 wr wr' : World} {M : Nat → Prop} {rv iv : Value} {xs : List Value} {is : List Int} {rss : List (List V)}
theorem Two.step {X : Nat → Prop} (h : Two B w1 M rv xs iv is rss wr) (hk : Keep X wr wr') (h1 : ∀ k, M k → X k) (h2 : ∀ g, rv.ownBlock = some g → X g) (h3 : ∀ g, iv.ownBlock = some g → X g) (h4 : ∀ k, k < B → X k) :
    Two B w1 M rv xs iv is rss wr' :=
  ⟨fun k hk' => Nat.lt_of_lt_of_le (h.old k hk') hk.size, ownsRow_blk h.rown (fun g hg => hk.block g (h2 g hg)), ownsRow_blk h.iown (fun g hg => hk.block g (h3 g hg)), h.rM, h.iM, h.ne,
    fun k hk' => (h.arr k hk').keep hk h1, h.bel.trans (hk.below h4)⟩
theorem Two.rlt (h : Two B w1 M rv xs iv is rss wr) {g : Nat} (hg : rv.ownBlock = some g) : B ≤ g ∧ g < wr.heap.size := h.rown.lt g hg
theorem Two.ilt (h : Two B w1 M rv xs iv is rss wr) {g : Nat} (hg : iv.ownBlock = some g) : B ≤ g ∧ g < wr.heap.size := h.iown.lt g hg
theorem Two.ext (h : Two B w1 M rv xs iv is rss wr) (hB : B ≤ wr.heap.size) (hb : Below wr.heap.size wr wr') : Two B w1 M rv xs iv is rss wr' :=
  h.step (X := fun k => k < wr.heap.size) (Keep.of_below hb (fun _ h => h)) h.old (fun g hg => (h.rlt hg).2) (fun g hg => (h.ilt hg).2) (fun k hk => by omega)
/-- The block of a row that was made behind these comes to the others. -/
theorem Two.more (h : Two B w1 M rv xs iv is rss wr) (g : Nat) (hg : g < wr.heap.size) (h1 : rv.ownBlock ≠ some g) (h2 : iv.ownBlock ≠ some g) : Two B w1 (fun k => M k ∨ k = g) rv xs iv is rss wr :=
  ⟨fun k hk => by rcases hk with hk | rfl; exact h.old k hk; exact hg, h.rown, h.iown, fun b hb hm => by rcases hm with hm | rfl; exact h.rM b hb hm; exact h1 hb,
    fun b hb hm => by rcases hm with hm | rfl; exact h.iM b hb hm; exact h2 hb, h.ne, fun k hk => (h.arr k hk).mono (fun b hb => .inl hb), h.bel⟩
theorem keep_grown {row : Option Nat} (hg : wr.grownBy wr' row) : Keep (fun k => k < wr.heap.size ∧ some k ≠ row) wr wr' :=
  ⟨hg.os, hg.tape, hg.output, hg.size, fun k hk => hg.block k hk.1 hk.2⟩
/-- An id comes. -/
theorem Two.appI (h : Two B w1 M rv xs iv is rss wr) (hB : B ≤ wr.heap.size) {g cap : Nat} {x : Int}
    (hown : wr'.ownsRow B 2 1 (.slice (some ⟨g, 0, none⟩) (is.length + 1) cap) (is.length + 1) (is.map (Value.int .i64) ++ [.int .i64 x])) (hgr : wr.grownBy wr' iv.ownBlock) (hat : iv.ownBlock = some g ∨ g = wr.heap.size) :
    Two B w1 M rv xs (.slice (some ⟨g, 0, none⟩) (is.length + 1) cap) (is ++ [x]) rss wr' := by
  have hk := keep_grown hgr
  have hgM : ∀ b, (some b : Option Nat) = some g → ¬ M b := by
    intro b hb hm
    obtain rfl : b = g := by simpa using hb
    rcases hat with e | e
    · exact h.iM b e hm
    · have := h.old b hm; omega
  refine ⟨fun k hk' => Nat.lt_of_lt_of_le (h.old k hk') hk.size, ownsRow_blk h.rown (fun b hb => hk.block b ⟨(h.rlt hb).2, fun e => h.ne b hb e.symm⟩), by simpa using hown, h.rM,
    fun b hb => hgM b (by simpa [Value.ownBlock] using hb.symm), fun b hb e => ?_, fun k hk' => (h.arr k hk').keep hk (fun b hb => ⟨h.old b hb, fun e => h.iM b e.symm hb⟩), h.bel.trans (hk.below (fun k hk => ⟨by omega, fun e => ?_⟩))⟩
  · have e' : g = b := by simpa [Value.ownBlock] using e
    subst e'
    rcases hat with e | e
    · exact h.ne g hb e
    · have := (h.rlt hb).2; omega
  · have := (h.ilt e.symm).1; omega
/-- A row comes. -/
theorem Two.appR (h : Two B w1 M rv xs iv is rss wr) (hB : B ≤ wr.heap.size) {g cap : Nat} {x : Value} {row : List V} (hx : Arr wr M x 4 (row.map V.list))
    (hown : wr'.ownsRow B 94 1 (.slice (some ⟨g, 0, none⟩) (rss.length + 1) cap) (rss.length + 1) (xs ++ [x])) (hgr : wr.grownBy wr' rv.ownBlock) (hat : rv.ownBlock = some g ∨ g = wr.heap.size) :
    Two B w1 M (.slice (some ⟨g, 0, none⟩) (rss.length + 1) cap) (xs ++ [x]) iv is (rss ++ [row]) wr' := by
  have hk := keep_grown hgr
  have hl : xs.length = rss.length := by have := h.rown.1; simpa using this
  have hgM : ∀ b, (some b : Option Nat) = some g → ¬ M b := by
    intro b hb hm
    obtain rfl : b = g := by simpa using hb
    rcases hat with e | e
    · exact h.rM b e hm
    · have := h.old b hm; omega
  refine ⟨fun k hk' => Nat.lt_of_lt_of_le (h.old k hk') hk.size, by simpa using hown, ownsRow_blk h.iown (fun b hb => hk.block b ⟨(h.ilt hb).2, fun e => h.ne b e.symm hb⟩),
    fun b hb => hgM b (by simpa [Value.ownBlock] using hb.symm), h.iM, fun b hb e => ?_, fun k hk' => ?_, h.bel.trans (hk.below (fun k hk => ⟨by omega, fun e => ?_⟩))⟩
  · have e' : g = b := by simpa [Value.ownBlock] using hb
    subst e'
    rcases hat with e1 | e1
    · exact h.ne g e1 e
    · have := (h.ilt e).2; omega
  · have hM : ∀ b, M b → b < wr.heap.size ∧ some b ≠ rv.ownBlock := fun b hb => ⟨h.old b hb, fun e => h.rM b e.symm hb⟩
    by_cases e : k < rss.length
    · have h1 := (h.arr k e).keep hk hM
      rw [List.getD_eq_getElem?_getD, List.getD_eq_getElem?_getD] at h1 ⊢
      rw [List.getElem?_append_left (by omega), List.getElem?_append_left e]
      exact h1
    · have e2 : k = rss.length := by simp at hk'; omega
      subst e2
      have h1 := hx.keep hk hM
      rw [List.getD_eq_getElem?_getD, List.getD_eq_getElem?_getD, List.getElem?_append_right (by omega), List.getElem?_append_right (by omega), hl]
      simpa using h1
  · have := (h.rlt e.symm).1; omega
/-- What the two are in the end. -/
theorem Two.out (h : Two B w1 M rv xs iv is rss wr) : Arr wr (fun b => B ≤ b) iv 1 (idsL is) ∧ Arr2 wr (fun b => B ≤ b ∨ M b) rv 4 (rowsL rss) := by
  have hl : xs.length = rss.length := by have := h.rown.1; simpa using this
  refine ⟨?_, xs, by simp [rowsL, hl], ?_, fun k hk => ?_⟩
  · have := Arr.of_owns (rows := idsL is) (v := iv) (w := wr) (base := B) (e := 2) (k := 1) (by rw [idsL_flat, show (idsL is).length = is.length by simp [idsL]]; exact h.iown) (one_ids is).1
    exact this.mono (fun b hb => (h.ilt hb).1)
  · have := Arr.of_owns (rows := xs.map fun x => [x]) (v := rv) (w := wr) (base := B) (e := 94) (k := 1) (by simpa [hl, List.flatten_eq_flatMap, List.flatMap_map] using h.rown) (by intro r hr; simp at hr; obtain ⟨x, _, rfl⟩ := hr; rfl)
    exact this.mono (fun b hb => .inl (h.rlt hb).1)
  · have hk' : k < rss.length := by simpa [rowsL] using hk
    have := (h.arr k hk').mono (ok' := fun b => B ≤ b ∨ M b) (fun b hb => .inr hb)
    simpa [rowsL, List.getD_eq_getElem?_getD, hk'] using this
end
end Go.Proofs.YgdaegDoor
