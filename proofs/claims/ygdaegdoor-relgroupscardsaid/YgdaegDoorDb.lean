import Derived.Test.YgdaegDoorCheck
namespace Go.Proofs.YgdaegDoor
open Go.RowKit
set_option linter.unusedSimpArgs false
set_option linter.unusedVariables false

/-- A slice value. -/
structure Sl where
  a : Option Addr
  n : Nat
  c : Nat
def nilSl : Sl := ⟨none, 0, 0⟩
structure T where
  name : ByteArray
  cols : Sl
  idx : Sl
  ids : Sl
  rows : Sl
abbrev Sl.v (s : Sl) : Value := .slice s.a s.n s.c
def T.list (t : T) : List Value := [.string t.name, t.cols.v, t.idx.v, t.ids.v, t.rows.v, .int .i64 0]
def resV (err changed : Int) (rows : Value) : Value := .agg #[.int .u8 err, rows, .int .i64 changed]

/-- A database of no table. -/
def DB0 (w : World) (bd : Nat) : Prop := ∃ ta, w.heap[bd]? = some (.cells #[.slice ta 0 0, nilS, .bool false] 116 (0, 0))
/-- A database of one table. -/
structure DB1 (w : World) (bd bt tc : Nat) (t : T) : Prop where
  db : w.heap[bd]? = some (.cells #[.slice (some ⟨bt, 0, none⟩) 1 tc, nilS, .bool false] 116 (0, 0))
  tb : ∃ cur, w.heap[bt]? = some (.cells cur 137 (0, 0)) ∧ cur.toList.take 6 = t.list
  ne : bd ≠ bt
  cap : 1 ≤ tc

section
variable {w w' : World} {bd bt tc : Nat} {t : T}
theorem DB0.lt (h : DB0 w bd) : bd < w.heap.size := by obtain ⟨_, h⟩ := h; exact block_lt h
theorem DB0.ext (h : DB0 w bd) (hb : Below w.heap.size w w') : DB0 w' bd := by obtain ⟨ta, h⟩ := h; exact ⟨ta, (hb.block _ (block_lt h)).trans h⟩
theorem DB1.lt (h : DB1 w bd bt tc t) : bd < w.heap.size := block_lt h.db
theorem DB1.lt' (h : DB1 w bd bt tc t) : bt < w.heap.size := by obtain ⟨_, h, _⟩ := h.tb; exact block_lt h
theorem DB1.ext (h : DB1 w bd bt tc t) (hb : Below w.heap.size w w') : DB1 w' bd bt tc t :=
  ⟨(hb.block _ h.lt).trans h.db, by obtain ⟨cur, h1, h2⟩ := h.tb; exact ⟨cur, (hb.block _ h.lt').trans h1, h2⟩, h.ne, h.cap⟩
theorem DB0.facts (h : DB0 w bd) : ∃ ta, w.cell? ⟨bd, 0, none⟩ = some (.slice ta 0 0) ∧ w.cell? ⟨bd, 1, none⟩ = some nilS ∧ w.cell? ⟨bd, 2, none⟩ = some (.bool false) ∧ w.frozen? ⟨bd, 0, none⟩ = false := by
  obtain ⟨ta, h⟩ := h
  exact ⟨ta, cell_of_row w bd 0 _ 116 _ h, cell_of_row w bd 1 _ 116 _ h, cell_of_row w bd 2 _ 116 _ h, by simp [World.frozen?, h]⟩
theorem DB1.dfacts (h : DB1 w bd bt tc t) : w.cell? ⟨bd, 0, none⟩ = some (.slice (some ⟨bt, 0, none⟩) 1 tc) ∧ w.cell? ⟨bd, 1, none⟩ = some nilS ∧ w.cell? ⟨bd, 2, none⟩ = some (.bool false) ∧ w.frozen? ⟨bd, 0, none⟩ = false :=
  ⟨cell_of_row w bd 0 _ 116 _ h.db, cell_of_row w bd 1 _ 116 _ h.db, cell_of_row w bd 2 _ 116 _ h.db, by simp [World.frozen?, h.db]⟩
theorem DB1.tcell (h : DB1 w bd bt tc t) (k : Nat) (hk : k < 6) : w.cell? ⟨bt, k, none⟩ = t.list[k]? := by
  obtain ⟨cur, h1, h2⟩ := h.tb
  rw [cell_of_row w bt k cur 137 _ h1, ← h2, List.getElem?_take, if_pos hk]
  simp
theorem DB1.tfacts (h : DB1 w bd bt tc t) : w.cell? ⟨bt, 0, none⟩ = some (.string t.name) ∧ w.cell? ⟨bt, 1, none⟩ = some (.slice t.cols.a t.cols.n t.cols.c) ∧ w.cell? ⟨bt, 2, none⟩ = some (.slice t.idx.a t.idx.n t.idx.c) ∧ w.cell? ⟨bt, 3, none⟩ = some (.slice t.ids.a t.ids.n t.ids.c) ∧
    w.cell? ⟨bt, 4, none⟩ = some (.slice t.rows.a t.rows.n t.rows.c) ∧ w.cell? ⟨bt, 5, none⟩ = some (.int .i64 0) ∧ ∀ k, w.frozen? ⟨bt, k, none⟩ = false := by
  refine ⟨h.tcell 0 (by omega), h.tcell 1 (by omega), h.tcell 2 (by omega), h.tcell 3 (by omega), h.tcell 4 (by omega), h.tcell 5 (by omega), fun k => ?_⟩
  obtain ⟨cur, h1, h2⟩ := h.tb
  simp [World.frozen?, h1]
end

theorem size76 : (Yaed.prog.info? 76).map (·.size) = some 3 := by kernel_rfl
set_option maxHeartbeats 1000000 in
theorem fail_any (c : Int) (w : World) : Calls Yaed.prog 208 #[.int .u8 c] w fun r w' => r = .returned (resV c 0 nilS) ∧ Below w.heap.size w w' := by
  go_enter Yaed.func208, Yaed.ntmps208
  go_wp2_with (refine wpList_put (ty := 76) rfl rfl rfl rfl size76 (by kernel_rfl) ?_ ?_)
  · exact ⟨_, heap_alloc_new w _, rfl⟩
  intro w1 h1 h2 h3
  go_wp2_with fail
  refine bodyPost_ret (results_cell_row rfl _ _ _ _ _ _ _ rfl h1 Yaed.underlying76 rfl size76) rfl ⟨rfl, ?_⟩
  exact (below_alloc w _).trans (h2.below (fun k hk => by omega))

set_option maxHeartbeats 1000000 in
theorem table_empty (bd : Nat) (n : ByteArray) (w : World) (h : DB0 w bd) : Calls Yaed.prog 211 #[.pointer (some ⟨bd, 0, none⟩), .string n] w fun r w' => r = .returned (.int .i64 (-1)) ∧ w' = w := by
  obtain ⟨ta, h0, h1, h2, h3⟩ := h.facts
  clear h
  go_enter Yaed.func211, Yaed.ntmps211
  go_wp2_with fail
  refine wp_loop_rounds 1 ?_
  rw [rounds_succ]
  go_wp2_with fail
  go_ret
  exact ⟨rfl, rfl⟩
set_option maxHeartbeats 1000000 in
theorem table_t (bd bt tc : Nat) (t : T) (ht : t.name = tS) (w : World) (h : DB1 w bd bt tc t) : Calls Yaed.prog 211 #[.pointer (some ⟨bd, 0, none⟩), .string tS] w fun r w' => r = .returned (.int .i64 0) ∧ w' = w := by
  obtain ⟨h0, h1, h2, h3⟩ := h.dfacts
  obtain ⟨t0, _⟩ := h.tfacts
  rw [ht] at t0
  clear h
  go_enter Yaed.func211, Yaed.ntmps211
  go_wp2_with fail
  refine wp_loop_rounds 1 ?_
  rw [rounds_succ]
  go_wp2_with fail
  go_ret
  exact ⟨rfl, rfl⟩
set_option maxHeartbeats 1000000 in
theorem table_i (bd bt tc : Nat) (t : T) (ht : t.name = tS) (w : World) (h : DB1 w bd bt tc t) : Calls Yaed.prog 211 #[.pointer (some ⟨bd, 0, none⟩), .string iS] w fun r w' => r = .returned (.int .i64 (-1)) ∧ w' = w := by
  obtain ⟨h0, h1, h2, h3⟩ := h.dfacts
  obtain ⟨t0, _⟩ := h.tfacts
  rw [ht] at t0
  clear h
  go_enter Yaed.func211, Yaed.ntmps211
  go_wp2_with fail
  refine wp_loop_rounds 2 ?_
  rw [rounds_succ]
  go_wp2_with fail
  rw [rounds_succ]
  go_wp2_with fail
  go_ret
  exact ⟨rfl, rfl⟩
set_option maxHeartbeats 1000000 in
theorem index_empty (bd : Nat) (n : ByteArray) (w : World) (h : DB0 w bd) : Calls Yaed.prog 212 #[.pointer (some ⟨bd, 0, none⟩), .string n] w fun r w' => r = .returned (.tuple #[.int .i64 (-1), .int .i64 (-1)]) ∧ w' = w := by
  obtain ⟨ta, h0, h1, h2, h3⟩ := h.facts
  clear h
  go_enter Yaed.func212, Yaed.ntmps212
  go_wp2_with fail
  refine wp_loop_rounds 1 ?_
  rw [rounds_succ]
  go_wp2_with fail
  go_ret2
  exact ⟨rfl, rfl⟩
set_option maxHeartbeats 1000000 in
theorem index_none (bd bt tc : Nat) (t : T) (n : ByteArray) (hi : t.idx.n = 0) (w : World) (h : DB1 w bd bt tc t) : Calls Yaed.prog 212 #[.pointer (some ⟨bd, 0, none⟩), .string n] w fun r w' => r = .returned (.tuple #[.int .i64 (-1), .int .i64 (-1)]) ∧ w' = w := by
  obtain ⟨h0, h1, h2, h3⟩ := h.dfacts
  obtain ⟨t0, t1, t2, _⟩ := h.tfacts
  rw [hi] at t2
  clear h
  go_enter Yaed.func212, Yaed.ntmps212
  go_wp2_with fail
  refine wp_loop_rounds 2 ?_
  rw [rounds_succ]
  go_wp2_with fail
  refine wp_loop_rounds 1 ?_
  rw [rounds_succ]
  go_wp2_with fail
  rw [rounds_succ]
  go_wp2_with fail
  go_ret2
  exact ⟨rfl, rfl⟩
set_option maxHeartbeats 1000000 in
theorem index_i (bd bt tc : Nat) (t : T) (bi oi : Nat) (hi : t.idx.n = 1) (hia : t.idx.a = some ⟨bi, oi, none⟩) (w : World) (h : DB1 w bd bt tc t) (hin : w.cell? ⟨bi, oi, none⟩ = some (.string iS)) :
    Calls Yaed.prog 212 #[.pointer (some ⟨bd, 0, none⟩), .string iS] w fun r w' => r = .returned (.tuple #[.int .i64 0, .int .i64 0]) ∧ w' = w := by
  obtain ⟨h0, h1, h2, h3⟩ := h.dfacts
  obtain ⟨t0, t1, t2, _⟩ := h.tfacts
  rw [hi, hia] at t2
  clear h
  go_enter Yaed.func212, Yaed.ntmps212
  go_wp2_with fail
  refine wp_loop_rounds 1 ?_
  rw [rounds_succ]
  go_wp2_with fail
  refine wp_loop_rounds 1 ?_
  rw [rounds_succ]
  go_wp2_with fail
  go_ret2
  exact ⟨rfl, rfl⟩
set_option maxHeartbeats 1000000 in
theorem nameUsed_empty (bd : Nat) (n : ByteArray) (w : World) (h : DB0 w bd) : Calls Yaed.prog 220 #[.pointer (some ⟨bd, 0, none⟩), .string n] w fun r w' => r = .returned (.bool false) ∧ w' = w := by
  go_enter Yaed.func220, Yaed.ntmps220
  go_wp2_with (first | (go_at_call 212; refine (index_empty _ _ _ h).mono ?_; rintro e w1 ⟨rfl, rfl⟩) | (go_at_call 211; refine (table_empty _ _ _ h).mono ?_; rintro e w1 ⟨rfl, rfl⟩))
  go_ret
  exact ⟨rfl, rfl⟩
set_option maxHeartbeats 1000000 in
theorem nameUsed_i (bd bt tc : Nat) (t : T) (ht : t.name = tS) (hi : t.idx.n = 0) (w : World) (h : DB1 w bd bt tc t) : Calls Yaed.prog 220 #[.pointer (some ⟨bd, 0, none⟩), .string iS] w fun r w' => r = .returned (.bool false) ∧ w' = w := by
  go_enter Yaed.func220, Yaed.ntmps220
  go_wp2_with (first | (go_at_call 212; refine (index_none _ _ _ _ _ hi _ h).mono ?_; rintro e w1 ⟨rfl, rfl⟩) | (go_at_call 211; refine (table_i _ _ _ _ ht _ h).mono ?_; rintro e w1 ⟨rfl, rfl⟩))
  go_ret
  exact ⟨rfl, rfl⟩
end Go.Proofs.YgdaegDoor
