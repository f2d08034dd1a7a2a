import Derived.Test.YgdaegDoorEval
import Derived.Test.YgdaegDoorCmp2
import Derived.Test.YgdaegDoorMid
import Derived.Test.YgdaegDoorFine
namespace Go.Proofs.YgdaegDoor
open Go.RowKit
set_option linter.unusedSimpArgs false
set_option linter.unusedVariables false
/-- Eval of a Param. -/
theorem eval_param (v : V) (b o n cap x : Nat) (hxn : x < n) (hx3 : x < 30000) (cv rv : Value) (id : Int) (w : World) (hN : NodeAt w b (o + x * 12) (leafE 4 v)) :
    Calls Yaed.prog 39 #[.slice (some ⟨b, o, none⟩) n cap, .int .i16 x, cv, .int .i64 id, rv] w fun r w' => r = .returned (norm v).val ∧ Below w.heap.size w w' :=
  eval_leaf (leafE 4 v) rfl (norm v) b o n cap x hxn hx3 cv rv id w hN fun vsv w1 h1 =>
    node_any (leafE 4 v) V0 V0 (norm v) b o n cap x hxn vsv cv rv x id w1 (hN.ext h1) (fun w2 _ => arg_none vsv x x w2) (fun w2 _ => arg_none vsv x x w2) (.inl ⟨.inl rfl, rfl⟩)
theorem cells4 {w : World} {b o : Nat} {v : V} (h : w.rangeAt b o v.list) : w.cell? ⟨b, o, none⟩ = some (.int .u8 v.k) ∧ w.cell? ⟨b, o + 1, none⟩ = some (.int .i64 v.i) ∧ w.cell? ⟨b, o + 2, none⟩ = some (.float .f64 v.r) ∧ w.cell? ⟨b, o + 3, none⟩ = some (.string v.s) :=
  ⟨h 0 _ rfl, h 1 _ rfl, h 2 _ rfl, h 3 _ rfl⟩
set_option maxRecDepth 20000 in
set_option maxHeartbeats 4000000 in
/-- Eval of rowid = 1. -/
theorem eval_del (b o cap : Nat) (cv rv : Value) (id : Int) (w : World) (hN0 : NodeAt w b (o + 0 * 12) (colE rowidS)) (hN1 : NodeAt w b (o + 1 * 12) (leafE 0 (intV 1))) (hN2 : NodeAt w b (o + 2 * 12) (opE 11 0 1)) :
    Calls Yaed.prog 39 #[.slice (some ⟨b, o, none⟩) 3 cap, .int .i16 2, cv, .int .i64 id, rv] w fun r w' => r = .returned (intV (cond (decide (id = 1)) 1 0)).val ∧ Below w.heap.size w w' := by
  have HN0 : Hid (NodeAt w b (o + 0 * 12) (colE rowidS)) := hN0
  have HN1 : Hid (NodeAt w b (o + 1 * 12) (leafE 0 (intV 1))) := hN1
  have HN2 : Hid (NodeAt w b (o + 2 * 12) (opE 11 0 1)) := hN2
  obtain ⟨_, h1, _⟩ := hN0.facts
  obtain ⟨_, h2, _⟩ := hN2.facts
  simp only [colE, opE, Nat.zero_mul, Nat.add_zero] at h1 h2
  have hb := hN0.1
  have hbne : ¬ b = w.heap.size := by omega
  clear hN0 hN1 hN2
  go_enter Yaed.func39, Yaed.ntmps39
  go_wp2_with fail
  refine wp_loop_rounds 2 ?_
  rw [rounds_succ]
  go_wp2_with fail
  rw [rounds_succ]
  go_wp2_with (refine wpList_mk (n := 3) rfl rfl Yaed.underlying94 info100 rfl rfl (by omega) (by omega) ?_)
  intro w1 cs hcs hcz hb1 hs1 _
  have HB1 : Hid (Below w.heap.size w w1) := (below_alloc w _).trans (hb1.mono (by simp))
  have HR1 : Hid (∃ z, w1.heap[w.heap.size]? = some (.cells z 100 (0, 0)) ∧ z.size = 4) := ⟨_, (hb1.block _ (by simp)).trans (heap_alloc_new w _), rfl⟩
  have HC1 : Hid (w1.there (w.heap.size + 1) 0 12) := there_block (by simpa using hcs) 0 12 (by first | omega | (simp at hcz; omega))
  have hs1' : w.heap.size + 2 ≤ w1.heap.size := by first | omega | (simp at hs1; omega)
  clear hcs hcz hb1 hs1
  go_wp2_with fail
  refine wp_loop_rounds 4 ?_
  rw [rounds_succ]
  go_wp2_with fail
  refine (node_any (colE rowidS) V0 V0 (intV id) b o 3 cap 0 (by omega) _ cv rv 0 id w1 (HN0.out.ext HB1.out) (fun w2 _ => arg_none _ 0 _ w2) (fun w2 _ => arg_none _ 0 _ w2) (.inr (.inl ⟨rfl, rfl, rfl⟩))).mono ?_
  rintro e' w2 ⟨rfl, hb2⟩
  have HB2 : Hid (Below w.heap.size w w2) := HB1.out.trans (hb2.mono (by omega))
  have HR2 : Hid (∃ z, w2.heap[w.heap.size]? = some (.cells z 100 (0, 0)) ∧ z.size = 4) := by obtain ⟨z, h1, h2⟩ := HR1.out; exact ⟨z, (hb2.block _ (by omega)).trans h1, h2⟩
  have HC2 : Hid (w2.there (w.heap.size + 1) 0 12) := there_ext HC1.out hb2 (by omega)
  have hs2 : w.heap.size + 2 ≤ w2.heap.size := Nat.le_trans hs1' hb2.size
  clear hb2 HB1 HR1 HC1 hs1' h1 h2
  unfold V.val intV
  go_wp2_with (refine wpList_putM (ty := 100) (b := w.heap.size + 1) (o := 0) rfl rfl rfl rfl (fun j hj => HC2.out j (by simp at hj; omega)) size100 (by kernel_rfl) ?_; intro w3 k3 s3 r3 a3 t3; have HK3 : Hid (Keep (fun k => k ≠ w.heap.size + 1) w2 w3) := k3; have HRG3 : Hid (w3.rangeAt (w.heap.size + 1) 0 (intV id).list) := r3; have HC3 : Hid (w3.there (w.heap.size + 1) 0 12) := t3 _ _ HC2.out; have hs3 : w.heap.size + 2 ≤ w3.heap.size := Nat.le_trans hs2 k3.size; clear k3 s3 r3 a3 t3)
  have HB3 : Hid (Below w.heap.size w w3) := HB2.out.trans (HK3.out.below (fun k hk => by show k ≠ w.heap.size + 1; omega))
  have HR3 : Hid (∃ z, w3.heap[w.heap.size]? = some (.cells z 100 (0, 0)) ∧ z.size = 4) := by obtain ⟨z, h1, h2⟩ := HR2.out; exact ⟨z, (HK3.out.block _ (by show w.heap.size ≠ w.heap.size + 1; omega)).trans h1, h2⟩
  clear HB2 HR2 HK3 HC2 hs2
  rw [rounds_succ]
  go_wp2_with fail
  refine (node_any (leafE 0 (intV 1)) V0 V0 (intV 1) b o 3 cap 1 (by omega) _ cv rv 0 id w3 (HN1.out.ext HB3.out) (fun w2 _ => arg_none _ 0 _ w2) (fun w2 _ => arg_none _ 0 _ w2) (.inl ⟨.inr rfl, rfl⟩)).mono ?_
  rintro e' w4 ⟨rfl, hb4⟩
  have HB4 : Hid (Below w.heap.size w w4) := HB3.out.trans (hb4.mono (by omega))
  have HR4 : Hid (∃ z, w4.heap[w.heap.size]? = some (.cells z 100 (0, 0)) ∧ z.size = 4) := by obtain ⟨z, h1, h2⟩ := HR3.out; exact ⟨z, (hb4.block _ (by omega)).trans h1, h2⟩
  have HC4 : Hid (w4.there (w.heap.size + 1) 0 12) := there_ext HC3.out hb4 (by omega)
  have HRG4 : Hid (w4.rangeAt (w.heap.size + 1) 0 (intV id).list) := range_ext HRG3.out hb4 (by omega)
  have hs4 : w.heap.size + 2 ≤ w4.heap.size := Nat.le_trans hs3 hb4.size
  clear hb4 HB3 HR3 HC3 HRG3 hs3
  unfold V.val intV
  go_wp2_with (refine wpList_putM (ty := 100) (b := w.heap.size + 1) (o := 4) rfl rfl rfl rfl (fun j hj => by have := HC4.out (4 + j) (by simp at hj; omega); rw [Nat.zero_add] at this; exact this) size100 (by kernel_rfl) ?_; intro w5 k3 s3 r3 a3 t3; have HK5 : Hid (Keep (fun k => k ≠ w.heap.size + 1) w4 w5) := k3; have HRG5 : Hid (w5.rangeAt (w.heap.size + 1) 4 (intV 1).list) := r3; have HRG5a : Hid (w5.rangeAt (w.heap.size + 1) 0 (intV id).list) := a3 _ _ HRG4.out (.inl (by simp [V.list])); have HC5 : Hid (w5.there (w.heap.size + 1) 0 12) := t3 _ _ HC4.out; have hs5 : w.heap.size + 2 ≤ w5.heap.size := Nat.le_trans hs4 k3.size; clear k3 s3 r3 a3 t3)
  have HB5 : Hid (Below w.heap.size w w5) := HB4.out.trans (HK5.out.below (fun k hk => by show k ≠ w.heap.size + 1; omega))
  have HR5 : Hid (∃ z, w5.heap[w.heap.size]? = some (.cells z 100 (0, 0)) ∧ z.size = 4) := by obtain ⟨z, h1, h2⟩ := HR4.out; exact ⟨z, (HK5.out.block _ (by show w.heap.size ≠ w.heap.size + 1; omega)).trans h1, h2⟩
  clear HB4 HR4 HK5 HC4 HRG4 hs4
  rw [rounds_succ]
  go_wp2_with fail
  have HARG : Hid (∀ w6, Below w5.heap.size w5 w6 → (Calls Yaed.prog 127 #[.slice (some ⟨w.heap.size + 1, 0, none⟩) 3 3, .int .i16 0, .int .i16 (0 : Nat), .int .i64 (2 : Nat)] w6 fun r w7 => r = .returned (intV id).val ∧ Below w6.heap.size w6 w7) ∧ (Calls Yaed.prog 127 #[.slice (some ⟨w.heap.size + 1, 0, none⟩) 3 3, .int .i16 0, .int .i16 (1 : Nat), .int .i64 (2 : Nat)] w6 fun r w7 => r = .returned (intV 1).val ∧ Below w6.heap.size w6 w7)) := by
    intro w6 h6
    have e1 := cells4 (range_ext HRG5a.out h6 (by omega))
    have e2 := cells4 (range_ext HRG5.out h6 (by omega))
    have hsz := h6.size
    exact ⟨arg_some (w.heap.size + 1) 0 3 3 0 2 (by omega) (by omega) (by omega) (intV id) w6 (by omega) e1.1 e1.2.1 e1.2.2.1 e1.2.2.2, arg_some (w.heap.size + 1) 0 3 3 1 2 (by omega) (by omega) (by omega) (intV 1) w6 (by omega) e2.1 e2.2.1 e2.2.2.1 e2.2.2.2⟩
  refine (node_any (opE 11 0 1) (intV id) (intV 1) (intV (cond (decide (id = 1)) 1 0)) b o 3 cap 2 (by omega) _ cv rv 0 id w5 (HN2.out.ext HB5.out) (fun w6 h6 => (HARG.out w6 h6).1) (fun w6 h6 => (HARG.out w6 h6).2) (.inr (.inr ⟨rfl, fun w6 => rel_eq id 1 w6⟩))).mono ?_
  rintro e' w6 ⟨rfl, hb6⟩
  have HB6 : Hid (Below w.heap.size w w6) := HB5.out.trans (hb6.mono (by omega))
  have HR6 : Hid (∃ z, w6.heap[w.heap.size]? = some (.cells z 100 (0, 0)) ∧ z.size = 4) := by obtain ⟨z, h1, h2⟩ := HR5.out; exact ⟨z, (hb6.block _ (by omega)).trans h1, h2⟩
  have HC6 : Hid (w6.there (w.heap.size + 1) 0 12) := there_ext HC5.out hb6 (by omega)
  have hs6 : w.heap.size + 2 ≤ w6.heap.size := Nat.le_trans hs5 hb6.size
  clear hb6 HB5 HR5 HC5 HRG5 HRG5a HARG hs5
  obtain ⟨d, hd⟩ : ∃ d, decide (id = 1) = d := ⟨_, rfl⟩
  rw [hd]
  have HD : Hid (decide (id = 1) = d) := hd
  clear hd
  unfold V.val intV
  go_wp2_with (refine wpList_putM (ty := 100) (b := w.heap.size + 1) (o := 8) rfl rfl rfl rfl (fun j hj => by have := HC6.out (8 + j) (by simp at hj; omega); rw [Nat.zero_add] at this; exact this) size100 (by kernel_rfl) ?_; intro w7 k3 s3 r3 a3 t3; have HK7 : Hid (Keep (fun k => k ≠ w.heap.size + 1) w6 w7) := k3; have HRG7 : Hid (w7.rangeAt (w.heap.size + 1) 8 (intV (cond d 1 0)).list) := r3; have hs7 : w.heap.size + 2 ≤ w7.heap.size := Nat.le_trans hs6 k3.size; clear k3 s3 r3 a3 t3)
  have HB7 : Hid (Below w.heap.size w w7) := HB6.out.trans (HK7.out.below (fun k hk => by show k ≠ w.heap.size + 1; omega))
  have HR7 : Hid (∃ z, w7.heap[w.heap.size]? = some (.cells z 100 (0, 0)) ∧ z.size = 4) := by obtain ⟨z, h1, h2⟩ := HR6.out; exact ⟨z, (HK7.out.block _ (by show w.heap.size ≠ w.heap.size + 1; omega)).trans h1, h2⟩
  clear HB6 HR6 HK7 HC6 hs6
  obtain ⟨c0, c1, c2, c3⟩ := cells4 HRG7.out
  simp only [intV, Nat.reduceAdd] at c0 c1 c2 c3
  rw [rounds_succ]
  go_wp2_with (refine wpList_put (ty := 100) (g := w.heap.size) rfl rfl rfl rfl size100 (by kernel_rfl) HR7.out ?_; intro w8 h4 k4 s4; have HN8 : Hid (w8.heap[w.heap.size]? = some (.cells #[.int .u8 1, .int .i64 (cond d 1 0), .float .f64 0, .string ⟨#[]⟩] 100 (0, 0))) := h4; have HK8 : Hid (Keep (fun k => k ≠ w.heap.size) w7 w8) := k4; clear h4 k4 s4)
  refine bodyPost_ret (results_cell_row rfl _ _ _ _ _ _ _ rfl HN8.out Yaed.underlying100 rfl size100) rfl ⟨by rw [HD.out]; rfl, ?_⟩
  exact HB7.out.trans (HK8.out.below (fun k hk => by show k ≠ w.heap.size; omega))
end Go.Proofs.YgdaegDoor
