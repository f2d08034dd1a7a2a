import Derived.Test.YgdaegDoorStore
namespace Go.Proofs.YgdaegDoor
open Go.RowKit
set_option linter.unusedSimpArgs false
set_option linter.unusedVariables false
theorem norm_int (n : Int) : norm (intV n) = intV n := rfl
set_option maxHeartbeats 1000000 in
theorem sign_any (b c : Bool) (w : World) : Calls Yaed.prog 65 #[.bool b, .bool c] w fun r w' => r = .returned (.int .i8 (cond b (-1) (cond c 1 0))) ∧ w' = w := by
  cases b <;> cases c <;> (go_enter Yaed.func65, Yaed.ntmps65; go_wp2_with fail; go_ret; exact ⟨rfl, rfl⟩)
set_option maxHeartbeats 1000000 in
theorem rank_one (w : World) : Calls Yaed.prog 75 #[.int .u8 1] w fun r w' => r = .returned (.int .i64 1) ∧ w' = w := by
  go_enter Yaed.func75, Yaed.ntmps75
  go_wp2_with fail
  go_ret
  exact ⟨rfl, rfl⟩
set_option maxHeartbeats 1000000 in
theorem truth_any (b : Bool) (w : World) : Calls Yaed.prog 171 #[.bool b] w fun r w' => r = .returned (intV (cond b 1 0)).val ∧ Below w.heap.size w w' := by
  cases b <;>
  (go_enter Yaed.func171, Yaed.ntmps171
   go_wp2_with fail
   generalize hw0 : World.alloc _ _ = w0
   have HB0 : Hid (Below w.heap.size w w0 ∧ ∃ z, w0.heap[w.heap.size]? = some (.cells z 100 (0, 0)) ∧ z.size = 4) := by rw [← hw0]; exact ⟨below_alloc _ _, _, heap_alloc_new _ _, rfl⟩
   have hs0 : w.heap.size + 1 ≤ w0.heap.size := by rw [← hw0]; simp
   clear hw0
   refine (intV_any _ _).mono ?_
   rintro e w1 ⟨rfl, hb1⟩
   have HB1 : Hid (Below w0.heap.size w0 w1) := hb1
   clear hb1
   unfold intV V.val
   go_wp2_with (refine wpList_put (ty := 100) (g := w.heap.size) rfl rfl rfl rfl size100 (by kernel_rfl) (by obtain ⟨z, h1, h2⟩ := HB0.out.2; exact ⟨z, (HB1.out.block _ (by omega)).trans h1, h2⟩) ?_; intro w2 h2 k2 s2; have HN2 : Hid _ := h2; have HK2 : Hid (Keep (fun k => k ≠ w.heap.size) w1 w2) := k2; clear h2 k2 s2)
   refine bodyPost_ret (results_cell_row rfl _ _ _ _ _ _ _ rfl HN2.out Yaed.underlying100 rfl size100) rfl ⟨rfl, ?_⟩
   exact HB0.out.1.trans ((HB1.out.mono (by omega)).trans (HK2.out.below (fun k hk => by show k ≠ w.heap.size; omega))))
set_option maxHeartbeats 1000000 in
theorem truth_int (b : Bool) (w : World) : Calls Yaed.prog 38 #[(intV (cond b 1 0)).val] w fun r w' => r = .returned (.int .i8 (cond b 1 0)) ∧ Below w.heap.size w w' := by
  cases b <;>
  (unfold intV V.val
   go_enter Yaed.func38, Yaed.ntmps38
   go_wp2_with fail
   generalize hw0 : World.alloc _ _ = w0
   have HB0 : Hid (Below w.heap.size w w0 ∧ ∃ z, w0.heap[w.heap.size]? = some (.cells z 100 (0, 0)) ∧ z.size = 4) := by rw [← hw0]; exact ⟨below_alloc _ _, _, heap_alloc_new _ _, rfl⟩
   have hs0 : w.heap.size + 1 ≤ w0.heap.size := by rw [← hw0]; simp
   clear hw0
   refine (norm_any (intV _) _).mono ?_
   rintro e w1 ⟨rfl, hb1⟩
   have HB1 : Hid (Below w0.heap.size w0 w1) := hb1
   clear hb1
   rw [norm_int]
   unfold intV V.val
   go_wp2_with (refine wpList_put (ty := 100) (g := w.heap.size) rfl rfl rfl rfl size100 (by kernel_rfl) (by obtain ⟨z, h1, h2⟩ := HB0.out.2; exact ⟨z, (HB1.out.block _ (by omega)).trans h1, h2⟩) ?_; intro w2 h2 k2 s2; have HN2 : Hid _ := h2; have HK2 : Hid (Keep (fun k => k ≠ w.heap.size) w1 w2) := k2; have c0 := cell_of_row w2 _ 0 _ _ _ h2; have c1 := cell_of_row w2 _ 1 _ _ _ h2; simp only [List.getElem?_toArray, List.getElem?_cons_zero, List.getElem?_cons_succ] at c0 c1; clear h2 k2 s2)
   refine (sign_any _ _ _).mono ?_
   rintro e w3 ⟨rfl, rfl⟩
   go_wp2_with fail
   go_ret
   exact ⟨rfl, HB0.out.1.trans ((HB1.out.mono (by omega)).trans (HK2.out.below (fun k hk => by show k ≠ w.heap.size; omega)))⟩)
end Go.Proofs.YgdaegDoor
