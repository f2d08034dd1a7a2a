import Derived.Test.YgdaegDoorCmp
namespace Go.Proofs.YgdaegDoor
open Go.RowKit
set_option linter.unusedSimpArgs false
set_option linter.unusedVariables false
set_option maxRecDepth 20000 in
set_option maxHeartbeats 2000000 in
theorem compare_int (a b : Int) (w : World) : Calls Yaed.prog 49 #[(intV a).val, (intV b).val] w fun r w' => r = .returned (.int .i8 (cond (decide (a < b)) (-1) (cond (decide (b < a)) 1 0))) ∧ Below w.heap.size w w' := by
  unfold intV V.val
  go_enter Yaed.func49, Yaed.ntmps49
  go_wp2_with fail
  generalize hw0 : World.alloc (World.alloc _ _) _ = w0
  have HB0 : Hid (Below w.heap.size w w0) := by
    rw [← hw0]
    exact (below_alloc _ _).trans ((below_alloc _ _).mono (by simp))
  have h1 : w0.heap[w.heap.size]? = some (.cells #[.int .u8 1, .int .i64 a, .float .f64 0, .string ⟨#[]⟩] 100 (0, 0)) := by rw [← hw0]; exact (heap_old (by simp)).trans (heap_alloc_new _ _)
  have h2 : w0.heap[w.heap.size + 1]? = some (.cells #[.int .u8 1, .int .i64 b, .float .f64 0, .string ⟨#[]⟩] 100 (0, 0)) := by rw [← hw0]; exact heap_new (by simp)
  have HN0 : Hid (w0.heap[w.heap.size]? = some (.cells #[.int .u8 1, .int .i64 a, .float .f64 0, .string ⟨#[]⟩] 100 (0, 0)) ∧ w0.heap[w.heap.size + 1]? = some (.cells #[.int .u8 1, .int .i64 b, .float .f64 0, .string ⟨#[]⟩] 100 (0, 0))) := ⟨h1, h2⟩
  have hs0 : w.heap.size + 2 ≤ w0.heap.size := by rw [← hw0]; simp
  clear hw0 h1 h2
  refine wp_region_can (l := [_, _, _]) [(true, 0), (true, 2), (false, 1)] (fun W => W.heap[w.heap.size]? = some (.cells #[.int .u8 1, .int .i64 a, .float .f64 0, .string ⟨#[]⟩] 100 (0, 0)) ∧ W.heap[w.heap.size + 1]? = some (.cells #[.int .u8 1, .int .i64 b, .float .f64 0, .string ⟨#[]⟩] 100 (0, 0))) (by kernel_rfl) (by kernel_rfl) HN0.out ?_
  generalize hw1 : World.drew _ = w1
  have HN1 : Hid (w1.heap[w.heap.size]? = some (.cells #[.int .u8 1, .int .i64 a, .float .f64 0, .string ⟨#[]⟩] 100 (0, 0)) ∧ w1.heap[w.heap.size + 1]? = some (.cells #[.int .u8 1, .int .i64 b, .float .f64 0, .string ⟨#[]⟩] 100 (0, 0))) := by rw [← hw1]; exact HN0.out
  have HB1 : Hid (Below w.heap.size w w1) := by rw [← hw1]; exact HB0.out.drew
  have hs1 : w.heap.size + 2 ≤ w1.heap.size := by rw [← hw1]; exact hs0
  clear hw1 HN0 HB0 hs0
  repeat (first | ((first | refine wpCan_q (v := ?_) rfl rfl rfl ?_ ?_ | refine wpCan_qg (v := ?_) rfl rfl (by rfl) ?_ ?_); rotate_left; (focus (rintro W ⟨p1, p2⟩; have r10 := cell_of_row W _ 0 _ _ _ p1; have r11 := cell_of_row W _ 1 _ _ _ p1; have r12 := cell_of_row W _ 2 _ _ _ p1; have r13 := cell_of_row W _ 3 _ _ _ p1; have r20 := cell_of_row W _ 0 _ _ _ p2; have r21 := cell_of_row W _ 1 _ _ _ p2; have r22 := cell_of_row W _ 2 _ _ _ p2; have r23 := cell_of_row W _ 3 _ _ _ p2; clear p1 p2; simp only [List.getElem?_toArray, List.getElem?_cons_zero, List.getElem?_cons_succ] at r10 r11 r12 r13 r20 r21 r22 r23; go_simp; first | done | exact rfl)); simp only [Act.put, List.setIfInBounds_toArray, List.set_cons_zero, List.set_cons_succ]) | (refine wpCan_skip rfl rfl (by rfl) ?_; simp only [Act.put, List.setIfInBounds_toArray, List.set_cons_zero, List.set_cons_succ]))
  refine wpCan_e rfl rfl (fun K hK => ?_)
  go_simp
  refine (norm_any (intV a) _).mono ?_
  rintro e w2 ⟨rfl, hb2⟩
  rw [norm_int]
  have HB2 : Hid (Below w1.heap.size w1 w2) := hb2
  have HN2 : Hid (w2.heap[w.heap.size]? = some (.cells #[.int .u8 1, .int .i64 a, .float .f64 0, .string ⟨#[]⟩] 100 (0, 0)) ∧ w2.heap[w.heap.size + 1]? = some (.cells #[.int .u8 1, .int .i64 b, .float .f64 0, .string ⟨#[]⟩] 100 (0, 0))) := ⟨(hb2.block _ (by omega)).trans HN1.out.1, (hb2.block _ (by omega)).trans HN1.out.2⟩
  have hs2 := hb2.size
  clear hb2
  refine hK _ _ ⟨HN2.out, ?_⟩
  clear hK K
  refine wpCan_nil ?_
  try simp only [Act.put, List.setIfInBounds_toArray, List.set_cons_zero, List.set_cons_succ]
  unfold intV V.val
  go_wp2_with fail
  refine (norm_any (intV b) _).mono ?_
  rintro e w3 ⟨rfl, hb3⟩
  rw [norm_int]
  have HB3 : Hid (Below w2.heap.size w2 w3) := hb3
  have HN3 : Hid (w3.heap[w.heap.size]? = some (.cells #[.int .u8 1, .int .i64 a, .float .f64 0, .string ⟨#[]⟩] 100 (0, 0)) ∧ w3.heap[w.heap.size + 1]? = some (.cells #[.int .u8 1, .int .i64 b, .float .f64 0, .string ⟨#[]⟩] 100 (0, 0))) := ⟨(hb3.block _ (by omega)).trans HN2.out.1, (hb3.block _ (by omega)).trans HN2.out.2⟩
  have hs3 := hb3.size
  clear hb3 HN1 HN2
  unfold intV V.val
  go_upto_region 2 with (first | (refine wpList_put (ty := 100) (g := w.heap.size) rfl rfl rfl rfl size100 (by kernel_rfl) ⟨_, HN3.out.1, rfl⟩ ?_; intro w4 h4 k4 s4; have HN4 : Hid (w4.heap[w.heap.size]? = some (.cells #[.int .u8 1, .int .i64 a, .float .f64 0, .string ⟨#[]⟩] 100 (0, 0))) := h4; have HK4 : Hid (Keep (fun k => k ≠ w.heap.size) w3 w4) := k4; clear h4 k4 s4) | (refine wpList_put (ty := 100) (g := w.heap.size + 1) rfl rfl rfl rfl size100 (by kernel_rfl) ⟨_, (HK4.out.block _ (by show w.heap.size + 1 ≠ w.heap.size; omega)).trans HN3.out.2, rfl⟩ ?_; intro w5 h5 k5 s5; have HN5 : Hid (w5.heap[w.heap.size + 1]? = some (.cells #[.int .u8 1, .int .i64 b, .float .f64 0, .string ⟨#[]⟩] 100 (0, 0))) := h5; have HK5 : Hid (Keep (fun k => k ≠ w.heap.size + 1) w4 w5) := k5; clear h5 k5 s5))
  have HBW : Hid (Below w.heap.size w w5) := HB1.out.trans ((HB2.out.mono (by omega)).trans ((HB3.out.mono (by omega)).trans ((HK4.out.below (fun k hk => by show k ≠ w.heap.size; omega)).trans (HK5.out.below (fun k hk => by show k ≠ w.heap.size + 1; omega)))))
  have hp1 := (HK5.out.block w.heap.size (by show w.heap.size ≠ w.heap.size + 1; omega)).trans HN4.out
  have hp2 := HN5.out
  clear HN3 HN4 HN5 HK4 HK5 HB1 HB2 HB3
  have r10 := cell_of_row w5 _ 0 _ _ _ hp1
  have r11 := cell_of_row w5 _ 1 _ _ _ hp1
  have r20 := cell_of_row w5 _ 0 _ _ _ hp2
  have r21 := cell_of_row w5 _ 1 _ _ _ hp2
  simp only [List.getElem?_toArray, List.getElem?_cons_zero, List.getElem?_cons_succ] at r10 r11 r20 r21
  clear hp1 hp2
  refine wp_region_can (l := [_, _, _, _, _]) [(true, 0), (true, 1), (true, 3), (true, 4), (false, 2)] (fun W => W.cell? ⟨w.heap.size, 0, none⟩ = some (.int .u8 1) ∧ W.cell? ⟨w.heap.size, 1, none⟩ = some (.int .i64 a) ∧ W.cell? ⟨w.heap.size + 1, 0, none⟩ = some (.int .u8 1) ∧ W.cell? ⟨w.heap.size + 1, 1, none⟩ = some (.int .i64 b)) (by kernel_rfl) (by kernel_rfl) ⟨r10, r11, r20, r21⟩ ?_
  repeat (first | ((first | refine wpCan_q (v := ?_) rfl rfl rfl ?_ ?_ | refine wpCan_qg (v := ?_) rfl rfl (by rfl) ?_ ?_); rotate_left; (focus (rintro W ⟨p1, p2, p3, p4⟩; go_simp; first | done | exact rfl)); simp only [Act.put, List.setIfInBounds_toArray, List.set_cons_zero, List.set_cons_succ]) | (refine wpCan_skip rfl rfl (by rfl) ?_; simp only [Act.put, List.setIfInBounds_toArray, List.set_cons_zero, List.set_cons_succ]))
  refine wpCan_e rfl rfl (fun K hK => ?_)
  go_simp
  refine (rank_one _).mono ?_
  rintro e w6 ⟨rfl, rfl⟩
  refine hK _ _ ⟨⟨r10, r11, r20, r21⟩, ?_⟩
  clear hK K
  refine wpCan_nil ?_
  try simp only [Act.put, List.setIfInBounds_toArray, List.set_cons_zero, List.set_cons_succ]
  generalize hw6 : World.drew _ = w6
  have HBW6 : Hid (Below w.heap.size w w6) := by rw [← hw6]; exact HBW.out.drew
  replace r10 : w6.cell? ⟨w.heap.size, 0, none⟩ = some (.int .u8 1) := by rw [← hw6]; exact r10
  replace r11 : w6.cell? ⟨w.heap.size, 1, none⟩ = some (.int .i64 a) := by rw [← hw6]; exact r11
  replace r20 : w6.cell? ⟨w.heap.size + 1, 0, none⟩ = some (.int .u8 1) := by rw [← hw6]; exact r20
  replace r21 : w6.cell? ⟨w.heap.size + 1, 1, none⟩ = some (.int .i64 b) := by rw [← hw6]; exact r21
  clear hw6
  go_wp2_with fail
  refine (rank_one _).mono ?_
  rintro e w7 ⟨rfl, rfl⟩
  go_wp2_with fail
  refine (sign_any _ _ _).mono ?_
  rintro e w8 ⟨rfl, rfl⟩
  go_wp2_with fail
  go_ret
  exact ⟨rfl, HBW6.out⟩
set_option maxRecDepth 20000 in
set_option maxHeartbeats 2000000 in
theorem rel_eq (a b : Int) (w : World) : Calls Yaed.prog 135 #[.int .u8 0, (intV a).val, (intV b).val] w fun r w' => r = .returned (intV (cond (decide (a = b)) 1 0)).val ∧ Below w.heap.size w w' := by
  unfold intV V.val
  go_enter Yaed.func135, Yaed.ntmps135
  go_wp2_with fail
  generalize hw0 : World.alloc (World.alloc (World.alloc _ _) _) _ = w0
  have HB0 : Hid (Below w.heap.size w w0) := by
    rw [← hw0]
    exact ((below_alloc _ _).trans ((below_alloc _ _).mono (by simp))).trans ((below_alloc _ _).mono (by simp; omega))
  have HR0 : Hid (∃ z, w0.heap[w.heap.size + 2]? = some (.cells z 100 (0, 0)) ∧ z.size = 4) := by rw [← hw0]; exact ⟨_, heap_new (by simp), rfl⟩
  have h1 : w0.heap[w.heap.size]? = some (.cells #[.int .u8 1, .int .i64 a, .float .f64 0, .string ⟨#[]⟩] 100 (0, 0)) := by rw [← hw0]; exact (heap_old (by simp; omega)).trans ((heap_old (by simp)).trans (heap_alloc_new _ _))
  have h2 : w0.heap[w.heap.size + 1]? = some (.cells #[.int .u8 1, .int .i64 b, .float .f64 0, .string ⟨#[]⟩] 100 (0, 0)) := by rw [← hw0]; exact (heap_old (by simp)).trans (heap_new (by simp))
  have HN0 : Hid (w0.heap[w.heap.size]? = some (.cells #[.int .u8 1, .int .i64 a, .float .f64 0, .string ⟨#[]⟩] 100 (0, 0)) ∧ w0.heap[w.heap.size + 1]? = some (.cells #[.int .u8 1, .int .i64 b, .float .f64 0, .string ⟨#[]⟩] 100 (0, 0))) := ⟨h1, h2⟩
  have hs0 : w.heap.size + 3 ≤ w0.heap.size := by rw [← hw0]; simp
  clear hw0 h1 h2
  refine wp_region_can (l := [_, _, _]) [(true, 0), (true, 2), (false, 1)] (fun W => W.heap[w.heap.size]? = some (.cells #[.int .u8 1, .int .i64 a, .float .f64 0, .string ⟨#[]⟩] 100 (0, 0)) ∧ W.heap[w.heap.size + 1]? = some (.cells #[.int .u8 1, .int .i64 b, .float .f64 0, .string ⟨#[]⟩] 100 (0, 0))) (by kernel_rfl) (by kernel_rfl) HN0.out ?_
  generalize hw1 : World.drew _ = w1
  have HN1 : Hid (w1.heap[w.heap.size]? = some (.cells #[.int .u8 1, .int .i64 a, .float .f64 0, .string ⟨#[]⟩] 100 (0, 0)) ∧ w1.heap[w.heap.size + 1]? = some (.cells #[.int .u8 1, .int .i64 b, .float .f64 0, .string ⟨#[]⟩] 100 (0, 0))) := by rw [← hw1]; exact HN0.out
  have HB1 : Hid (Below w.heap.size w w1) := by rw [← hw1]; exact HB0.out.drew
  replace HR0 : Hid (∃ z, w1.heap[w.heap.size + 2]? = some (.cells z 100 (0, 0)) ∧ z.size = 4) := by rw [← hw1]; exact HR0.out
  have hs1 : w.heap.size + 3 ≤ w1.heap.size := by rw [← hw1]; exact hs0
  clear hw1 HN0 HB0 hs0
  repeat (first | ((first | refine wpCan_q (v := ?_) rfl rfl rfl ?_ ?_ | refine wpCan_qg (v := ?_) rfl rfl (by rfl) ?_ ?_); rotate_left; (focus (rintro W ⟨p1, p2⟩; have r10 := cell_of_row W _ 0 _ _ _ p1; have r11 := cell_of_row W _ 1 _ _ _ p1; have r12 := cell_of_row W _ 2 _ _ _ p1; have r13 := cell_of_row W _ 3 _ _ _ p1; have r20 := cell_of_row W _ 0 _ _ _ p2; have r21 := cell_of_row W _ 1 _ _ _ p2; have r22 := cell_of_row W _ 2 _ _ _ p2; have r23 := cell_of_row W _ 3 _ _ _ p2; clear p1 p2; simp only [List.getElem?_toArray, List.getElem?_cons_zero, List.getElem?_cons_succ] at r10 r11 r12 r13 r20 r21 r22 r23; go_simp; first | done | exact rfl)); simp only [Act.put, List.setIfInBounds_toArray, List.set_cons_zero, List.set_cons_succ]) | (refine wpCan_skip rfl rfl (by rfl) ?_; simp only [Act.put, List.setIfInBounds_toArray, List.set_cons_zero, List.set_cons_succ]))
  refine wpCan_e rfl rfl (fun K hK => ?_)
  go_simp
  refine (norm_any (intV a) _).mono ?_
  rintro e w2 ⟨rfl, hb2⟩
  rw [norm_int]
  have HB2 : Hid (Below w1.heap.size w1 w2) := hb2
  have HN2 : Hid (w2.heap[w.heap.size]? = some (.cells #[.int .u8 1, .int .i64 a, .float .f64 0, .string ⟨#[]⟩] 100 (0, 0)) ∧ w2.heap[w.heap.size + 1]? = some (.cells #[.int .u8 1, .int .i64 b, .float .f64 0, .string ⟨#[]⟩] 100 (0, 0))) := ⟨(hb2.block _ (by omega)).trans HN1.out.1, (hb2.block _ (by omega)).trans HN1.out.2⟩
  have hs2 := hb2.size
  clear hb2
  refine hK _ _ ⟨HN2.out, ?_⟩
  clear hK K
  refine wpCan_nil ?_
  try simp only [Act.put, List.setIfInBounds_toArray, List.set_cons_zero, List.set_cons_succ]
  unfold intV V.val
  go_wp2_with fail
  refine (norm_any (intV b) _).mono ?_
  rintro e w3 ⟨rfl, hb3⟩
  rw [norm_int]
  have HB3 : Hid (Below w2.heap.size w2 w3) := hb3
  have HN3 : Hid (w3.heap[w.heap.size]? = some (.cells #[.int .u8 1, .int .i64 a, .float .f64 0, .string ⟨#[]⟩] 100 (0, 0)) ∧ w3.heap[w.heap.size + 1]? = some (.cells #[.int .u8 1, .int .i64 b, .float .f64 0, .string ⟨#[]⟩] 100 (0, 0))) := ⟨(hb3.block _ (by omega)).trans HN2.out.1, (hb3.block _ (by omega)).trans HN2.out.2⟩
  have hs3 := hb3.size
  clear hb3 HN1 HN2
  unfold intV V.val
  go_upto_region 2 with (first | (refine wpList_put (ty := 100) (g := w.heap.size) rfl rfl rfl rfl size100 (by kernel_rfl) ⟨_, HN3.out.1, rfl⟩ ?_; intro w4 h4 k4 s4; have HN4 : Hid (w4.heap[w.heap.size]? = some (.cells #[.int .u8 1, .int .i64 a, .float .f64 0, .string ⟨#[]⟩] 100 (0, 0))) := h4; have HK4 : Hid (Keep (fun k => k ≠ w.heap.size) w3 w4) := k4; clear h4 k4 s4) | (refine wpList_put (ty := 100) (g := w.heap.size + 1) rfl rfl rfl rfl size100 (by kernel_rfl) ⟨_, (HK4.out.block _ (by show w.heap.size + 1 ≠ w.heap.size; omega)).trans HN3.out.2, rfl⟩ ?_; intro w5 h5 k5 s5; have HN5 : Hid (w5.heap[w.heap.size + 1]? = some (.cells #[.int .u8 1, .int .i64 b, .float .f64 0, .string ⟨#[]⟩] 100 (0, 0))) := h5; have HK5 : Hid (Keep (fun k => k ≠ w.heap.size + 1) w4 w5) := k5; clear h5 k5 s5))
  have HR5 : Hid (∃ z, w5.heap[w.heap.size + 2]? = some (.cells z 100 (0, 0)) ∧ z.size = 4) := by
    obtain ⟨z, h1, h2⟩ := HR0.out
    exact ⟨z, (HK5.out.block _ (by show w.heap.size + 2 ≠ w.heap.size + 1; omega)).trans ((HK4.out.block _ (by show w.heap.size + 2 ≠ w.heap.size; omega)).trans ((HB3.out.block _ (by omega)).trans ((HB2.out.block _ (by omega)).trans h1))), h2⟩
  have hs5 : w.heap.size + 3 ≤ w5.heap.size := by have h4 := HK4.out.size; have h5 := HK5.out.size; omega
  have HBW : Hid (Below w.heap.size w w5) := HB1.out.trans ((HB2.out.mono (by omega)).trans ((HB3.out.mono (by omega)).trans ((HK4.out.below (fun k hk => by show k ≠ w.heap.size; omega)).trans (HK5.out.below (fun k hk => by show k ≠ w.heap.size + 1; omega)))))
  have hp1 := (HK5.out.block w.heap.size (by show w.heap.size ≠ w.heap.size + 1; omega)).trans HN4.out
  have hp2 := HN5.out
  clear HN3 HN4 HN5 HK4 HK5 HB1 HB2 HB3
  have r10 := cell_of_row w5 _ 0 _ _ _ hp1
  have r11 := cell_of_row w5 _ 1 _ _ _ hp1
  have r12 := cell_of_row w5 _ 2 _ _ _ hp1
  have r13 := cell_of_row w5 _ 3 _ _ _ hp1
  have r20 := cell_of_row w5 _ 0 _ _ _ hp2
  have r21 := cell_of_row w5 _ 1 _ _ _ hp2
  have r22 := cell_of_row w5 _ 2 _ _ _ hp2
  have r23 := cell_of_row w5 _ 3 _ _ _ hp2
  simp only [List.getElem?_toArray, List.getElem?_cons_zero, List.getElem?_cons_succ] at r10 r11 r12 r13 r20 r21 r22 r23
  clear hp1 hp2
  go_wp2_with fail
  refine (compare_int a b _).mono ?_
  rintro e w6 ⟨rfl, hb6⟩
  have HB6 : Hid (Below w5.heap.size w5 w6) := hb6
  have hs6 := hb6.size
  clear hb6 r10 r11 r12 r13 r20 r21 r22 r23
  have hc : ((cond (decide (a < b)) (-1) (cond (decide (b < a)) 1 0) : Int) == 0) = decide (a = b) := by
    rcases Int.lt_trichotomy a b with h | h | h
    · have h2 : ¬ a = b := by omega
      simp [h, h2]
    · subst h; simp
    · have h1 : ¬ a < b := by omega
      have h2 : ¬ a = b := by omega
      simp [h, h1, h2]
  generalize hcc : (cond (decide (a < b)) (-1) (cond (decide (b < a)) 1 0) : Int) = c at hc ⊢
  clear hcc
  obtain ⟨d, hd⟩ : ∃ d, decide (a = b) = d := ⟨_, rfl⟩
  rw [hd] at hc
  have HD : Hid (decide (a = b) = d) := hd
  clear hd
  go_wp2_with fail
  refine (truth_any d _).mono ?_
  rintro e w7 ⟨rfl, hb7⟩
  have HB7 : Hid (Below w6.heap.size w6 w7) := hb7
  clear hb7
  unfold intV V.val
  go_wp2_with (refine wpList_put (ty := 100) (g := w.heap.size + 2) rfl rfl rfl rfl size100 (by kernel_rfl) (by obtain ⟨z, h1, h2⟩ := HR5.out; exact ⟨z, (HB7.out.block _ (by omega)).trans ((HB6.out.block _ (by omega)).trans h1), h2⟩) ?_; intro w8 h8 k8 s8; have HN8 : Hid (w8.heap[w.heap.size + 2]? = some (.cells #[.int .u8 1, .int .i64 (cond d 1 0), .float .f64 0, .string ⟨#[]⟩] 100 (0, 0))) := h8; have HK8 : Hid (Keep (fun k => k ≠ w.heap.size + 2) w7 w8) := k8; clear h8 k8 s8)
  refine bodyPost_ret (results_cell_row rfl _ _ _ _ _ _ _ rfl HN8.out Yaed.underlying100 rfl size100) rfl ⟨by rw [HD.out], ?_⟩
  exact HBW.out.trans ((HB6.out.mono (by omega)).trans ((HB7.out.mono (by omega)).trans (HK8.out.below (fun k hk => by show k ≠ w.heap.size + 2; omega))))
end Go.Proofs.YgdaegDoor
