import Derived.Test.YgdaegDoorKids
namespace Go.Proofs.YgdaegDoor
open Go.RowKit
set_option linter.unusedSimpArgs false
set_option linter.unusedVariables false
theorem size100 : (Yaed.prog.info? 100).map (·.size) = some 4 := by kernel_rfl
set_option maxHeartbeats 2000000 in
theorem store_null (v : V) (w : World) : Calls Yaed.prog 44 #[.int .u8 0, v.val] w fun r w' => r = .returned (norm v).val ∧ Below w.heap.size w w' := by
  unfold V.val
  go_enter Yaed.func44, Yaed.ntmps44
  go_wp2_with fail
  generalize hw0 : World.alloc (World.alloc _ _) _ = w0
  have HB0 : Hid (Below w.heap.size w w0 ∧ (∃ z, w0.heap[w.heap.size]? = some (.cells z 100 (0, 0)) ∧ z.size = 4) ∧ ∃ z, w0.heap[w.heap.size + 1]? = some (.cells z 100 (0, 0)) ∧ z.size = 4) := by
    rw [← hw0]
    exact ⟨(below_alloc _ _).trans ((below_alloc _ _).mono (by simp)), ⟨_, (heap_old (by simp)).trans (heap_alloc_new _ _), rfl⟩, ⟨_, heap_new (by simp), rfl⟩⟩
  have hs0 : w.heap.size + 2 ≤ w0.heap.size := by rw [← hw0]; simp
  clear hw0
  refine (norm_any v _).mono ?_
  rintro e w1 ⟨rfl, hb1⟩
  have HB1 : Hid (Below w0.heap.size w0 w1) := hb1
  have hs1 := hb1.size
  clear hb1
  obtain ⟨u, hu⟩ : ∃ u, norm v = u := ⟨_, rfl⟩
  rw [hu]
  have HU : Hid (norm v = u) := hu
  clear hu
  unfold V.val
  go_wp2_with (first | (refine wpList_put (ty := 100) (g := w.heap.size) rfl rfl rfl rfl size100 (by kernel_rfl) (by obtain ⟨z, h1, h2⟩ := HB0.out.2.1; exact ⟨z, (HB1.out.block _ (by omega)).trans h1, h2⟩) ?_; intro w2 h2 k2 s2; have HN2 : Hid (w2.heap[w.heap.size]? = some (.cells #[.int .u8 u.k, .int .i64 u.i, .float .f64 u.r, .string u.s] 100 (0, 0))) := h2; have HK2 : Hid (Keep (fun k => k ≠ w.heap.size) w1 w2) := k2; clear h2 k2 s2) | (refine wpList_get (ty := 100) _ rfl rfl rfl Yaed.underlying100 rfl HN2.out size100 ?_) | (refine wpList_put (ty := 100) (g := w.heap.size + 1) rfl rfl rfl rfl size100 (by kernel_rfl) (by obtain ⟨z, h1, h2⟩ := HB0.out.2.2; exact ⟨z, (HK2.out.block _ (by show w.heap.size + 1 ≠ w.heap.size; omega)).trans ((HB1.out.block _ (by omega)).trans h1), h2⟩) ?_; intro w3 h3 k3 s3; have HN3 : Hid (w3.heap[w.heap.size + 1]? = some (.cells #[.int .u8 u.k, .int .i64 u.i, .float .f64 u.r, .string u.s] 100 (0, 0))) := h3; have HK3 : Hid (Keep (fun k => k ≠ w.heap.size + 1) w2 w3) := k3; clear h3 k3 s3))
  refine bodyPost_ret (results_cell_row rfl _ _ _ _ _ _ _ rfl HN3.out Yaed.underlying100 rfl size100) rfl ⟨by rw [HU.out], ?_⟩
  exact HB0.out.1.trans ((HB1.out.mono (by omega)).trans ((HK2.out.below (fun k hk => by show k ≠ w.heap.size; omega)).trans (HK3.out.below (fun k hk => by show k ≠ w.heap.size + 1; omega))))
end Go.Proofs.YgdaegDoor
