import Derived.Test.YgdaegDoorRow
import Derived.Deep.Cut
set_option linter.unusedSimpArgs false
set_option linter.unusedVariables false
namespace Go.Proofs.YgdaegDoor
open Go.RowKit

abbrev nilS : Value := .slice none 0 0
abbrev eS : ByteArray := ⟨#[]⟩
/-- "t", "i", "rowid". -/
abbrev tS : ByteArray := ⟨#[116]⟩
abbrev iS : ByteArray := ⟨#[105]⟩
abbrev rowidS : ByteArray := ⟨#[114, 111, 119, 105, 100]⟩
/-- c0, c1, .. -/
def cname (i : Nat) : ByteArray := ⟨#[99, (48 + i).toUInt8]⟩

/-- A statement: what the laws' statements set; all else is empty. -/
structure St where
  kind : Int
  groups : Value
  table : ByteArray
  index : ByteArray
  cols : Value
  tuples : Value
  items : Value
  wher : Int
  star : Bool
  arena : Value
def St.arr (s : St) : Array Value := #[.int .u8 s.kind, .bool false, .bool false, nilS, s.groups, nilS, .string s.table, .string s.index, s.cols, s.tuples, s.items, nilS, nilS, nilS,
  .int .i16 s.wher, .int .i64 (-1), .int .i64 0, .bool s.star, s.arena]
def St.val (s : St) : Value := .agg s.arr
def St.mk0 (kind : Int) (table : ByteArray) : St := ⟨kind, nilS, table, eS, nilS, nilS, nilS, -1, false, nilS⟩

set_option maxHeartbeats 1000000 in
theorem stmt_any (kind : Int) (table : ByteArray) (w : World) :
    Calls Yaed.prog 27 #[.int .u8 kind, .string table] w fun r w' => r = .returned (St.mk0 kind table).val ∧ Below w.heap.size w w' := by
  go_enter Yaed.func27, Yaed.ntmps27
  go_wp2_with (refine wpList_put (ty := 38) rfl rfl rfl rfl size38 (by kernel_rfl) ?_ ?_)
  · exact ⟨_, heap_alloc_new w _, rfl⟩
  intro w1 h1 h2 h3
  go_wp2_with fail
  refine bodyPost_ret (results_cell_row rfl _ _ _ _ _ _ _ rfl h1 Yaed.underlying38 rfl size38) rfl ⟨rfl, ?_⟩
  exact (below_alloc w _).trans (h2.below (fun k hk => by omega))

theorem colName_any (i : Nat) (hi : i < 4) (w : World) :
    Calls Yaed.prog 32 #[.int .i64 i] w fun r w' => r = .returned (.string (cname i)) ∧ w' = w := by
  have : i = 0 ∨ i = 1 ∨ i = 2 ∨ i = 3 := by omega
  rcases this with rfl | rfl | rfl | rfl
  all_goals
    go_enter Yaed.func32, Yaed.ntmps32
    go_wp2_with fail
    go_ret
    exact ⟨rfl, rfl⟩

set_option maxHeartbeats 1000000 in
theorem starStmt_any (w : World) :
    Calls Yaed.prog 28 #[] w fun r w' => r = .returned ({ St.mk0 5 tS with star := true } : St).val ∧ Below w.heap.size w w' := by
  go_enter Yaed.func28, Yaed.ntmps28
  go_wp2_with fail
  generalize hw0 : w.alloc _ = w0
  have hr0 : ∃ z, w0.heap[w.heap.size]? = some (.cells z 38 (0, 0)) ∧ z.size = 19 := ⟨_, by rw [← hw0]; exact heap_alloc_new w _, rfl⟩
  have HB0 : Hid (Below w.heap.size w w0) := by rw [← hw0]; exact below_alloc w _
  have hs0 : w0.heap.size = w.heap.size + 1 := by rw [← hw0]; simp
  clear hw0
  have HR0 : Hid _ := hr0
  clear hr0
  refine (stmt_any _ _ _).mono ?_
  rintro e w1 ⟨rfl, h1⟩
  have HB1 : Hid (Below w0.heap.size w0 w1) := h1
  have hs1 := h1.size
  clear h1
  unfold St.mk0 St.val St.arr
  go_wp2_with (refine wpList_put (ty := 38) rfl rfl rfl rfl size38 (by kernel_rfl) ?_ ?_)
  · exact ⟨_, heap_alloc_new w1 _, rfl⟩
  intro w2 h2 k2 s2
  have HK2 : Hid (Below w1.heap.size w1 w2) := (below_alloc w1 _).trans (k2.below (fun k hk => by omega))
  have HH2 : Hid _ := h2
  have hc17 : w2.cell? ⟨w1.heap.size, 17, none⟩ = some (.bool false) := by simp [World.cell?, h2]
  have hf17 : w2.frozen? ⟨w1.heap.size, 17, none⟩ = false := by simp [World.frozen?, h2]
  clear h2 k2
  have HG : Hid ((w2.setCell ⟨w1.heap.size, 17, none⟩ (.bool true)).heap[w1.heap.size]? = some (.cells ({ St.mk0 5 tS with star := true } : St).arr 38 (0, 0))) := (heap_set HH2.out _).trans (by kernel_rfl)
  clear HH2
  unfold St.mk0 St.arr at HG
  go_wp2_with (first | (refine wpList_get (ty := 38) _ rfl rfl rfl Yaed.underlying38 rfl HG.out size38 ?_) | (refine wpList_put (ty := 38) rfl rfl rfl rfl size38 (by kernel_rfl) ?_ ?_))
  · obtain ⟨z, hz, hsz⟩ := HR0.out
    refine ⟨z, ?_, hsz⟩
    rw [heap_set_ne (by omega), HK2.out.block _ (by omega), HB1.out.block _ (by omega)]
    exact hz
  intro w3 h3 k3 s3
  go_wp2_with fail
  refine bodyPost_ret (results_cell_row rfl _ _ _ _ _ _ _ rfl h3 Yaed.underlying38 rfl size38) rfl ⟨rfl, ?_⟩
  have hb2 : Below w.heap.size w w2 := HB0.out.trans ((HB1.out.mono (by omega)).trans (HK2.out.mono (by omega)))
  exact (hb2.setCell (by show w.heap.size ≤ w1.heap.size; omega) _).trans (k3.below (fun k hk => by omega))
set_option maxHeartbeats 1000000 in
theorem mkDropIndex_any (name : ByteArray) (w : World) :
    Calls Yaed.prog 33 #[.string name] w fun r w' => r = .returned ({ St.mk0 3 eS with index := name } : St).val ∧ Below w.heap.size w w' := by
  go_enter Yaed.func33, Yaed.ntmps33
  go_wp2_with fail
  generalize hw0 : w.alloc _ = w0
  have hr0 : ∃ z, w0.heap[w.heap.size]? = some (.cells z 38 (0, 0)) ∧ z.size = 19 := ⟨_, by rw [← hw0]; exact heap_alloc_new w _, rfl⟩
  have HB0 : Hid (Below w.heap.size w w0) := by rw [← hw0]; exact below_alloc w _
  have hs0 : w0.heap.size = w.heap.size + 1 := by rw [← hw0]; simp
  clear hw0
  have HR0 : Hid _ := hr0
  clear hr0
  refine (stmt_any _ _ _).mono ?_
  rintro e w1 ⟨rfl, h1⟩
  have HB1 : Hid (Below w0.heap.size w0 w1) := h1
  have hs1 := h1.size
  clear h1
  unfold St.mk0 St.val St.arr
  go_wp2_with (refine wpList_put (ty := 38) rfl rfl rfl rfl size38 (by kernel_rfl) ?_ ?_)
  · exact ⟨_, heap_alloc_new w1 _, rfl⟩
  intro w2 h2 k2 s2
  have HK2 : Hid (Below w1.heap.size w1 w2) := (below_alloc w1 _).trans (k2.below (fun k hk => by omega))
  have HH2 : Hid _ := h2
  have hs2 : w2.heap.size = w1.heap.size + 1 := by simpa using s2
  have hc7 : w2.cell? ⟨w1.heap.size, 7, none⟩ = some (.string eS) := by simp [World.cell?, h2]
  have hf7 : w2.frozen? ⟨w1.heap.size, 7, none⟩ = false := by simp [World.frozen?, h2]
  clear h2 k2
  have HG : Hid ((w2.setCell ⟨w1.heap.size, 7, none⟩ (.string name)).heap[w1.heap.size]? = some (.cells ({ St.mk0 3 eS with index := name } : St).arr 38 (0, 0))) := (heap_set HH2.out _).trans (by kernel_rfl)
  clear HH2
  unfold St.mk0 St.arr at HG
  go_wp2_with (first | (refine wpList_get (ty := 38) _ rfl rfl rfl Yaed.underlying38 rfl HG.out size38 ?_) | (refine wpList_put (ty := 38) rfl rfl rfl rfl size38 (by kernel_rfl) ?_ ?_))
  · obtain ⟨z, hz, hsz⟩ := HR0.out
    refine ⟨z, ?_, hsz⟩
    rw [heap_set_ne (by omega), HK2.out.block _ (by omega), HB1.out.block _ (by omega)]
    exact hz
  intro w3 h3 k3 s3
  go_wp2_with fail
  refine bodyPost_ret (results_cell_row rfl _ _ _ _ _ _ _ rfl h3 Yaed.underlying38 rfl size38) rfl ⟨rfl, ?_⟩
  have hb2 : Below w.heap.size w w2 := HB0.out.trans ((HB1.out.mono (by omega)).trans (HK2.out.mono (by omega)))
  exact (hb2.setCell (by show w.heap.size ≤ w1.heap.size; omega) _).trans (k3.below (fun k hk => by omega))

/-- A column of the laws: a name, no type, NULL let. -/
def colL (n : ByteArray) : List Value := [.string n, .int .u8 0, .bool false]

set_option maxHeartbeats 1000000 in
theorem mkIndex_any (name table col : ByteArray) (w : World) :
    Calls Yaed.prog 31 #[.string name, .string table, .string col] w fun r w' => ∃ cv, r = .returned ({ St.mk0 1 table with index := name, cols := cv } : St).val ∧
      Arr w' (fun b => w.heap.size ≤ b) cv 3 [colL col] ∧ Below w.heap.size w w' := by
  go_enter Yaed.func31, Yaed.ntmps31
  go_wp2_with fail
  generalize hw0 : w.alloc _ = w0
  have hr0 : ∃ z, w0.heap[w.heap.size]? = some (.cells z 38 (0, 0)) ∧ z.size = 19 := ⟨_, by rw [← hw0]; exact heap_alloc_new w _, rfl⟩
  have HB0 : Hid (Below w.heap.size w w0) := by rw [← hw0]; exact below_alloc w _
  have hs0 : w0.heap.size = w.heap.size + 1 := by rw [← hw0]; simp
  clear hw0
  have HR0 : Hid _ := hr0
  clear hr0
  refine (stmt_any _ _ _).mono ?_
  rintro e w1 ⟨rfl, h1⟩
  have HB1 : Hid (Below w0.heap.size w0 w1) := h1
  have hs1 := h1.size
  clear h1
  unfold St.mk0 St.val St.arr
  go_wp2_with (refine wpList_put (ty := 38) rfl rfl rfl rfl size38 (by kernel_rfl) ?_ ?_)
  · exact ⟨_, heap_alloc_new w1 _, rfl⟩
  intro w2 h2 k2 s2
  have HK2 : Hid (Below w1.heap.size w1 w2) := (below_alloc w1 _).trans (k2.below (fun k hk => by omega))
  have HH2 : Hid _ := h2
  have hs2 : w2.heap.size = w1.heap.size + 1 := by simpa using s2
  have hc7 : w2.cell? ⟨w1.heap.size, 7, none⟩ = some (.string eS) := by simp [World.cell?, h2]
  have hf7 : w2.frozen? ⟨w1.heap.size, 7, none⟩ = false := by simp [World.frozen?, h2]
  have hc8 : w2.cell? ⟨w1.heap.size, 8, none⟩ = some nilS := by simp [World.cell?, h2]
  have hf8 : w2.frozen? ⟨w1.heap.size, 8, none⟩ = false := by simp [World.frozen?, h2]
  clear h2 k2
  go_upto_region 3 with fail
  have hx : ∃ w3 : World, w3 = ((w2.setCell ⟨w1.heap.size, 7, none⟩ (Value.string name)).setCell ⟨w1.heap.size, 8, none⟩ (Value.slice (some ⟨w1.heap.size + 1, 0, none⟩) 1 1)).alloc
      (Obj.cells #[Value.string col, Value.int IntKind.u8 0, Value.bool false] 109) := ⟨_, rfl⟩
  obtain ⟨w3, hw3⟩ := hx
  rw [← hw3]
  have hb2 : Below w.heap.size w w2 := HB0.out.trans ((HB1.out.mono (by omega)).trans (HK2.out.mono (by omega)))
  have HB3 : Hid (Below w.heap.size w w3) := by
    rw [hw3]
    exact ((hb2.setCell (by show w.heap.size ≤ w1.heap.size; omega) _).setCell (by show w.heap.size ≤ w1.heap.size; omega) _).alloc (by simp; omega) _
  have hs3 : w3.heap.size = w1.heap.size + 2 := by rw [hw3]; simp; omega
  have HA : Hid (w3.heap[w1.heap.size + 1]? = some (.cells #[Value.string col, Value.int IntKind.u8 0, Value.bool false] 109 (0, 0))) := by
    rw [hw3]
    have := heap_alloc_new ((w2.setCell ⟨w1.heap.size, 7, none⟩ (Value.string name)).setCell ⟨w1.heap.size, 8, none⟩ (Value.slice (some ⟨w1.heap.size + 1, 0, none⟩) 1 1)) (Obj.cells #[Value.string col, Value.int IntKind.u8 0, Value.bool false] 109)
    simp only [World.size_setCell, hs2] at this
    exact this
  have HG : Hid (w3.heap[w1.heap.size]? = some (.cells ({ St.mk0 1 table with index := name, cols := Value.slice (some ⟨w1.heap.size + 1, 0, none⟩) 1 1 } : St).arr 38 (0, 0))) := by
    rw [hw3]
    show _ = _
    rw [Below.heap_alloc _ _ _ (by simp; omega)]
    exact (heap_set (heap_set HH2.out _) _).trans (by kernel_rfl)
  have HZ : Hid (∃ z, w3.heap[w.heap.size]? = some (.cells z 38 (0, 0)) ∧ z.size = 19) := by
    obtain ⟨z, hz, hsz⟩ := HR0.out
    refine ⟨z, ?_, hsz⟩
    rw [hw3, Below.heap_alloc _ _ _ (by simp; omega), heap_set_ne (by omega), heap_set_ne (by omega), HK2.out.block _ (by omega), HB1.out.block _ (by omega)]
    exact hz
  clear hw3 HH2 HR0 HK2 HB1 HB0 hb2 hc7 hf7 hc8 hf8
  unfold St.mk0 St.arr at HG
  go_wp2_with (first | (refine wpList_get (ty := 38) _ rfl rfl rfl Yaed.underlying38 rfl HG.out size38 ?_) | (refine wpList_put (ty := 38) rfl rfl rfl rfl size38 (by kernel_rfl) ?_ ?_))
  · exact HZ.out
  intro w4 h4 k4 s4
  go_wp2_with fail
  refine bodyPost_ret (results_cell_row rfl _ _ _ _ _ _ _ rfl h4 Yaed.underlying38 rfl size38) rfl ⟨Value.slice (some ⟨w1.heap.size + 1, 0, none⟩) 1 1, rfl, ?_, ?_⟩
  · refine ⟨_, 1, rfl, Nat.le_refl _, fun i hi => ⟨w1.heap.size + 1, 0, rfl, by omega, by omega, fun f hf => ?_⟩⟩
    have hi0 : i = 0 := by simp at hi; omega
    subst hi0
    have hA : w4.heap[w1.heap.size + 1]? = some (.cells #[Value.string col, Value.int IntKind.u8 0, Value.bool false] 109 (0, 0)) := by
      rw [k4.block _ (by omega)]; exact HA
    rw [cell_of_row w4 _ _ _ _ _ hA]
    have : f = 0 ∨ f = 1 ∨ f = 2 := by omega
    rcases this with rfl | rfl | rfl <;> rfl
  · exact HB3.out.trans (k4.below (fun k hk => by omega))
end Go.Proofs.YgdaegDoor
