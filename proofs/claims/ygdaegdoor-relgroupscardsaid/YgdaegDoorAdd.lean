import Derived.Test.YgdaegDoorNum
namespace Go.Proofs.YgdaegDoor
open Go.RowKit
set_option linter.unusedSimpArgs false
set_option linter.unusedVariables false
/-- + on normal values. -/
def addN (a b : V) : V := if numB a.k && numB b.k then (if (a.k == 1 && b.k == 1) && addB a.i b.i then intV (addW a.i b.i) else realR (FloatKind.f64.format.add (toFN a) (toFN b))) else V0
def addV (a b : V) : V := addN (norm a) (norm b)
set_option maxRecDepth 20000 in
set_option maxHeartbeats 2000000 in
/-- Arith, +. -/
theorem arith_add (a b : V) (w : World) : Calls Yaed.prog 79 #[.int .u8 0, a.val, b.val] w fun r w' => r = .returned (addV a b).val ∧ Below w.heap.size w w' := by
  obtain ⟨res, hres⟩ : ∃ res, addV a b = res := ⟨_, rfl⟩
  rw [hres]
  have HRES : Hid (addV a b = res) := hres
  clear hres
  obtain ⟨⟨uk, ui, ur, us⟩, hu⟩ : ∃ u, norm a = u := ⟨_, rfl⟩
  obtain ⟨⟨vk, vi, vr, vs⟩, hv⟩ : ∃ u, norm b = u := ⟨_, rfl⟩
  have HU : Hid (norm a = ⟨uk, ui, ur, us⟩) := hu
  have HV : Hid (norm b = ⟨vk, vi, vr, vs⟩) := hv
  have hku := norm_kind a
  have hkv := norm_kind b
  rw [hu] at hku
  rw [hv] at hkv
  clear hu hv
  have HKU : Hid (uk = 0 ∨ uk = 1 ∨ uk = 2 ∨ uk = 3) := hku
  have HKV : Hid (vk = 0 ∨ vk = 1 ∨ vk = 2 ∨ vk = 3) := hkv
  clear hku hkv
  unfold V.val
  go_enter Yaed.func79, Yaed.ntmps79
  go_wp2_with fail
  generalize hw0 : World.alloc (World.alloc (World.alloc _ _) _) _ = w0
  have HB0 : Hid (Below w.heap.size w w0) := by
    rw [← hw0]
    exact ((below_alloc _ _).trans ((below_alloc _ _).mono (by simp))).trans ((below_alloc _ _).mono (by simp; omega))
  have HR0 : Hid (∃ z, w0.heap[w.heap.size + 2]? = some (.cells z 100 (0, 0)) ∧ z.size = 4) := by rw [← hw0]; exact ⟨_, heap_new (by simp), rfl⟩
  have h1 : w0.heap[w.heap.size]? = some (.cells #[.int .u8 a.k, .int .i64 a.i, .float .f64 a.r, .string a.s] 100 (0, 0)) := by rw [← hw0]; exact (heap_old (by simp; omega)).trans ((heap_old (by simp)).trans (heap_alloc_new _ _))
  have h2 : w0.heap[w.heap.size + 1]? = some (.cells #[.int .u8 b.k, .int .i64 b.i, .float .f64 b.r, .string b.s] 100 (0, 0)) := by rw [← hw0]; exact (heap_old (by simp)).trans (heap_new (by simp))
  have HN0 : Hid (w0.heap[w.heap.size]? = some (.cells #[.int .u8 a.k, .int .i64 a.i, .float .f64 a.r, .string a.s] 100 (0, 0)) ∧ w0.heap[w.heap.size + 1]? = some (.cells #[.int .u8 b.k, .int .i64 b.i, .float .f64 b.r, .string b.s] 100 (0, 0))) := ⟨h1, h2⟩
  have hs0 : w.heap.size + 3 ≤ w0.heap.size := by rw [← hw0]; simp
  clear hw0 h1 h2
  refine wp_region_can (l := [_, _, _]) [(true, 0), (true, 2), (false, 1)] (fun W => W.heap[w.heap.size]? = some (.cells #[.int .u8 a.k, .int .i64 a.i, .float .f64 a.r, .string a.s] 100 (0, 0)) ∧ W.heap[w.heap.size + 1]? = some (.cells #[.int .u8 b.k, .int .i64 b.i, .float .f64 b.r, .string b.s] 100 (0, 0))) (by kernel_rfl) (by kernel_rfl) HN0.out ?_
  generalize hw1 : World.drew _ = w1
  have HN1 : Hid (w1.heap[w.heap.size]? = some (.cells #[.int .u8 a.k, .int .i64 a.i, .float .f64 a.r, .string a.s] 100 (0, 0)) ∧ w1.heap[w.heap.size + 1]? = some (.cells #[.int .u8 b.k, .int .i64 b.i, .float .f64 b.r, .string b.s] 100 (0, 0))) := by rw [← hw1]; exact HN0.out
  have HB1 : Hid (Below w.heap.size w w1) := by rw [← hw1]; exact HB0.out.drew
  replace HR0 : Hid (∃ z, w1.heap[w.heap.size + 2]? = some (.cells z 100 (0, 0)) ∧ z.size = 4) := by rw [← hw1]; exact HR0.out
  have hs1 : w.heap.size + 3 ≤ w1.heap.size := by rw [← hw1]; exact hs0
  clear hw1 HN0 HB0 hs0
  repeat (first | ((first | refine wpCan_q (v := ?_) rfl rfl rfl ?_ ?_ | refine wpCan_qg (v := ?_) rfl rfl (by rfl) ?_ ?_); rotate_left; (focus (rintro W ⟨p1, p2⟩; have r10 := cell_of_row W _ 0 _ _ _ p1; have r11 := cell_of_row W _ 1 _ _ _ p1; have r12 := cell_of_row W _ 2 _ _ _ p1; have r13 := cell_of_row W _ 3 _ _ _ p1; have r20 := cell_of_row W _ 0 _ _ _ p2; have r21 := cell_of_row W _ 1 _ _ _ p2; have r22 := cell_of_row W _ 2 _ _ _ p2; have r23 := cell_of_row W _ 3 _ _ _ p2; clear p1 p2; simp only [List.getElem?_toArray, List.getElem?_cons_zero, List.getElem?_cons_succ] at r10 r11 r12 r13 r20 r21 r22 r23; go_simp; first | done | exact rfl)); simp only [Act.put, List.setIfInBounds_toArray, List.set_cons_zero, List.set_cons_succ]) | (refine wpCan_skip rfl rfl (by rfl) ?_; simp only [Act.put, List.setIfInBounds_toArray, List.set_cons_zero, List.set_cons_succ]))
  refine wpCan_e rfl rfl (fun K hK => ?_)
  go_simp
  refine (norm_any a _).mono ?_
  rintro e w2 ⟨rfl, hb2⟩
  rw [HU.out]
  have HB2 : Hid (Below w1.heap.size w1 w2) := hb2
  have HN2 : Hid (w2.heap[w.heap.size]? = some (.cells #[.int .u8 a.k, .int .i64 a.i, .float .f64 a.r, .string a.s] 100 (0, 0)) ∧ w2.heap[w.heap.size + 1]? = some (.cells #[.int .u8 b.k, .int .i64 b.i, .float .f64 b.r, .string b.s] 100 (0, 0))) := ⟨(hb2.block _ (by omega)).trans HN1.out.1, (hb2.block _ (by omega)).trans HN1.out.2⟩
  have hs2 := hb2.size
  clear hb2
  refine hK _ _ ⟨HN2.out, ?_⟩
  clear hK K
  refine wpCan_nil ?_
  try simp only [Act.put, List.setIfInBounds_toArray, List.set_cons_zero, List.set_cons_succ]
  unfold V.val
  go_wp2_with fail
  refine (norm_any b _).mono ?_
  rintro e w3 ⟨rfl, hb3⟩
  rw [HV.out]
  have HB3 : Hid (Below w2.heap.size w2 w3) := hb3
  have HN3 : Hid (w3.heap[w.heap.size]? = some (.cells #[.int .u8 a.k, .int .i64 a.i, .float .f64 a.r, .string a.s] 100 (0, 0)) ∧ w3.heap[w.heap.size + 1]? = some (.cells #[.int .u8 b.k, .int .i64 b.i, .float .f64 b.r, .string b.s] 100 (0, 0))) := ⟨(hb3.block _ (by omega)).trans HN2.out.1, (hb3.block _ (by omega)).trans HN2.out.2⟩
  have hs3 := hb3.size
  clear hb3 HN1 HN2
  unfold V.val
  go_upto_region 2 with (first | (refine wpList_put (ty := 100) (g := w.heap.size) rfl rfl rfl rfl size100 (by kernel_rfl) ⟨_, HN3.out.1, rfl⟩ ?_; intro w4 h4 k4 s4; have HN4 : Hid (w4.heap[w.heap.size]? = some (.cells #[.int .u8 uk, .int .i64 ui, .float .f64 ur, .string us] 100 (0, 0))) := h4; have HK4 : Hid (Keep (fun k => k ≠ w.heap.size) w3 w4) := k4; clear h4 k4 s4) | (refine wpList_put (ty := 100) (g := w.heap.size + 1) rfl rfl rfl rfl size100 (by kernel_rfl) ⟨_, (HK4.out.block _ (by show w.heap.size + 1 ≠ w.heap.size; omega)).trans HN3.out.2, rfl⟩ ?_; intro w5 h5 k5 s5; have HN5 : Hid (w5.heap[w.heap.size + 1]? = some (.cells #[.int .u8 vk, .int .i64 vi, .float .f64 vr, .string vs] 100 (0, 0))) := h5; have HK5 : Hid (Keep (fun k => k ≠ w.heap.size + 1) w4 w5) := k5; clear h5 k5 s5))
  have HR5 : Hid (∃ z, w5.heap[w.heap.size + 2]? = some (.cells z 100 (0, 0)) ∧ z.size = 4) := by
    obtain ⟨z, h1, h2⟩ := HR0.out
    exact ⟨z, (HK5.out.block _ (by show w.heap.size + 2 ≠ w.heap.size + 1; omega)).trans ((HK4.out.block _ (by show w.heap.size + 2 ≠ w.heap.size; omega)).trans ((HB3.out.block _ (by omega)).trans ((HB2.out.block _ (by omega)).trans h1))), h2⟩
  have hs5 : w.heap.size + 3 ≤ w5.heap.size := by have h4 := HK4.out.size; have h5 := HK5.out.size; omega
  have HBW : Hid (Below w.heap.size w w5) := HB1.out.trans ((HB2.out.mono (by omega)).trans ((HB3.out.mono (by omega)).trans ((HK4.out.below (fun k hk => by show k ≠ w.heap.size; omega)).trans (HK5.out.below (fun k hk => by show k ≠ w.heap.size + 1; omega)))))
  have hp1 := (HK5.out.block w.heap.size (by show w.heap.size ≠ w.heap.size + 1; omega)).trans HN4.out
  have hp2 := HN5.out
  clear HN3 HN4 HN5 HK4 HK5 HB1 HB2 HB3
  have r10 := cell_of_row w5 _ 0 _ _ _ hp1
  have r11 := cell_of_row w5 _ 1 _ _ _ hp1
  have r12 := cell_of_row w5 _ 2 _ _ _ hp1
  have r13 := cell_of_row w5 _ 3 _ _ _ hp1
  have r20 := cell_of_row w5 _ 0 _ _ _ hp2
  have r21 := cell_of_row w5 _ 1 _ _ _ hp2
  have r22 := cell_of_row w5 _ 2 _ _ _ hp2
  have r23 := cell_of_row w5 _ 3 _ _ _ hp2
  simp only [List.getElem?_toArray, List.getElem?_cons_zero, List.getElem?_cons_succ] at r10 r11 r12 r13 r20 r21 r22 r23
  clear hp1 hp2
  rcases HKU.out with h | h | h | h <;> subst h <;> rcases HKV.out with h | h | h | h <;> subst h
  · go_wp2_with fail
    refine (number_any ⟨0, ui, ur, us⟩ _).mono ?_
    rintro e w6 ⟨rfl, hb6⟩
    rw [show numB 0 = false from rfl]
    have HB6 : Hid (Below w5.heap.size w5 w6) := hb6
    have hs6 := hb6.size
    clear hb6
    go_wp2_with (refine wpList_put (ty := 100) (g := w.heap.size + 2) rfl rfl rfl rfl size100 (by kernel_rfl) (by obtain ⟨z, h1, h2⟩ := HR5.out; exact ⟨z, (HB6.out.block _ (by omega)).trans h1, h2⟩) ?_; intro wz hz kz sz; have HNZ : Hid (wz.heap[w.heap.size + 2]? = some (.cells #[.int .u8 0, .int .i64 0, .float .f64 0, .string ⟨#[]⟩] 100 (0, 0))) := hz; have HKZ : Hid (Keep (fun k => k ≠ w.heap.size + 2) w6 wz) := kz; clear hz kz sz)
    refine bodyPost_ret (results_cell_row rfl _ _ _ _ _ _ _ rfl HNZ.out Yaed.underlying100 rfl size100) rfl ⟨by rw [← HRES.out]; rw [addV, HU.out, HV.out]; rfl, ?_⟩
    exact HBW.out.trans ((HB6.out.mono (by omega)).trans (HKZ.out.below (fun k hk => by show k ≠ w.heap.size + 2; omega)))
  · go_wp2_with fail
    refine (number_any ⟨0, ui, ur, us⟩ _).mono ?_
    rintro e w6 ⟨rfl, hb6⟩
    rw [show numB 0 = false from rfl]
    have HB6 : Hid (Below w5.heap.size w5 w6) := hb6
    have hs6 := hb6.size
    clear hb6
    go_wp2_with (refine wpList_put (ty := 100) (g := w.heap.size + 2) rfl rfl rfl rfl size100 (by kernel_rfl) (by obtain ⟨z, h1, h2⟩ := HR5.out; exact ⟨z, (HB6.out.block _ (by omega)).trans h1, h2⟩) ?_; intro wz hz kz sz; have HNZ : Hid (wz.heap[w.heap.size + 2]? = some (.cells #[.int .u8 0, .int .i64 0, .float .f64 0, .string ⟨#[]⟩] 100 (0, 0))) := hz; have HKZ : Hid (Keep (fun k => k ≠ w.heap.size + 2) w6 wz) := kz; clear hz kz sz)
    refine bodyPost_ret (results_cell_row rfl _ _ _ _ _ _ _ rfl HNZ.out Yaed.underlying100 rfl size100) rfl ⟨by rw [← HRES.out]; rw [addV, HU.out, HV.out]; rfl, ?_⟩
    exact HBW.out.trans ((HB6.out.mono (by omega)).trans (HKZ.out.below (fun k hk => by show k ≠ w.heap.size + 2; omega)))
  · go_wp2_with fail
    refine (number_any ⟨0, ui, ur, us⟩ _).mono ?_
    rintro e w6 ⟨rfl, hb6⟩
    rw [show numB 0 = false from rfl]
    have HB6 : Hid (Below w5.heap.size w5 w6) := hb6
    have hs6 := hb6.size
    clear hb6
    go_wp2_with (refine wpList_put (ty := 100) (g := w.heap.size + 2) rfl rfl rfl rfl size100 (by kernel_rfl) (by obtain ⟨z, h1, h2⟩ := HR5.out; exact ⟨z, (HB6.out.block _ (by omega)).trans h1, h2⟩) ?_; intro wz hz kz sz; have HNZ : Hid (wz.heap[w.heap.size + 2]? = some (.cells #[.int .u8 0, .int .i64 0, .float .f64 0, .string ⟨#[]⟩] 100 (0, 0))) := hz; have HKZ : Hid (Keep (fun k => k ≠ w.heap.size + 2) w6 wz) := kz; clear hz kz sz)
    refine bodyPost_ret (results_cell_row rfl _ _ _ _ _ _ _ rfl HNZ.out Yaed.underlying100 rfl size100) rfl ⟨by rw [← HRES.out]; rw [addV, HU.out, HV.out]; rfl, ?_⟩
    exact HBW.out.trans ((HB6.out.mono (by omega)).trans (HKZ.out.below (fun k hk => by show k ≠ w.heap.size + 2; omega)))
  · go_wp2_with fail
    refine (number_any ⟨0, ui, ur, us⟩ _).mono ?_
    rintro e w6 ⟨rfl, hb6⟩
    rw [show numB 0 = false from rfl]
    have HB6 : Hid (Below w5.heap.size w5 w6) := hb6
    have hs6 := hb6.size
    clear hb6
    go_wp2_with (refine wpList_put (ty := 100) (g := w.heap.size + 2) rfl rfl rfl rfl size100 (by kernel_rfl) (by obtain ⟨z, h1, h2⟩ := HR5.out; exact ⟨z, (HB6.out.block _ (by omega)).trans h1, h2⟩) ?_; intro wz hz kz sz; have HNZ : Hid (wz.heap[w.heap.size + 2]? = some (.cells #[.int .u8 0, .int .i64 0, .float .f64 0, .string ⟨#[]⟩] 100 (0, 0))) := hz; have HKZ : Hid (Keep (fun k => k ≠ w.heap.size + 2) w6 wz) := kz; clear hz kz sz)
    refine bodyPost_ret (results_cell_row rfl _ _ _ _ _ _ _ rfl HNZ.out Yaed.underlying100 rfl size100) rfl ⟨by rw [← HRES.out]; rw [addV, HU.out, HV.out]; rfl, ?_⟩
    exact HBW.out.trans ((HB6.out.mono (by omega)).trans (HKZ.out.below (fun k hk => by show k ≠ w.heap.size + 2; omega)))
  · go_wp2_with fail
    refine (number_any ⟨1, ui, ur, us⟩ _).mono ?_
    rintro e w6 ⟨rfl, hb6⟩
    rw [show numB 1 = true from rfl]
    have HB6 : Hid (Below w5.heap.size w5 w6) := hb6
    have hs6 := hb6.size
    clear hb6
    replace r20 : w6.cell? ⟨w.heap.size + 1, 0, none⟩ = some (.int .u8 0) := by rw [HB6.out.cell (p := ⟨w.heap.size + 1, _, none⟩) (by show w.heap.size + 1 < w5.heap.size; omega)]; exact r20
    replace r21 : w6.cell? ⟨w.heap.size + 1, 1, none⟩ = some (.int .i64 vi) := by rw [HB6.out.cell (p := ⟨w.heap.size + 1, _, none⟩) (by show w.heap.size + 1 < w5.heap.size; omega)]; exact r21
    replace r22 : w6.cell? ⟨w.heap.size + 1, 2, none⟩ = some (.float .f64 vr) := by rw [HB6.out.cell (p := ⟨w.heap.size + 1, _, none⟩) (by show w.heap.size + 1 < w5.heap.size; omega)]; exact r22
    replace r23 : w6.cell? ⟨w.heap.size + 1, 3, none⟩ = some (.string vs) := by rw [HB6.out.cell (p := ⟨w.heap.size + 1, _, none⟩) (by show w.heap.size + 1 < w5.heap.size; omega)]; exact r23
    go_wp2_with fail
    refine (number_any ⟨0, vi, vr, vs⟩ _).mono ?_
    rintro e w7 ⟨rfl, hb7⟩
    rw [show numB 0 = false from rfl]
    have HB76 : Hid (Below w6.heap.size w6 w7) := hb7
    have HB7 : Hid (Below w5.heap.size w5 w7) := HB6.out.trans (hb7.mono hs6)
    have hs7 : w5.heap.size ≤ w7.heap.size := HB7.out.size
    clear hb7
    go_wp2_with (refine wpList_put (ty := 100) (g := w.heap.size + 2) rfl rfl rfl rfl size100 (by kernel_rfl) (by obtain ⟨z, h1, h2⟩ := HR5.out; exact ⟨z, (HB7.out.block _ (by omega)).trans h1, h2⟩) ?_; intro wz hz kz sz; have HNZ : Hid (wz.heap[w.heap.size + 2]? = some (.cells #[.int .u8 0, .int .i64 0, .float .f64 0, .string ⟨#[]⟩] 100 (0, 0))) := hz; have HKZ : Hid (Keep (fun k => k ≠ w.heap.size + 2) w7 wz) := kz; clear hz kz sz)
    refine bodyPost_ret (results_cell_row rfl _ _ _ _ _ _ _ rfl HNZ.out Yaed.underlying100 rfl size100) rfl ⟨by rw [← HRES.out]; rw [addV, HU.out, HV.out]; rfl, ?_⟩
    exact HBW.out.trans ((HB7.out.mono (by omega)).trans (HKZ.out.below (fun k hk => by show k ≠ w.heap.size + 2; omega)))
  · go_wp2_with fail
    refine (number_any ⟨1, ui, ur, us⟩ _).mono ?_
    rintro e w6 ⟨rfl, hb6⟩
    rw [show numB 1 = true from rfl]
    have HB6 : Hid (Below w5.heap.size w5 w6) := hb6
    have hs6 := hb6.size
    clear hb6
    replace r20 : w6.cell? ⟨w.heap.size + 1, 0, none⟩ = some (.int .u8 1) := by rw [HB6.out.cell (p := ⟨w.heap.size + 1, _, none⟩) (by show w.heap.size + 1 < w5.heap.size; omega)]; exact r20
    replace r21 : w6.cell? ⟨w.heap.size + 1, 1, none⟩ = some (.int .i64 vi) := by rw [HB6.out.cell (p := ⟨w.heap.size + 1, _, none⟩) (by show w.heap.size + 1 < w5.heap.size; omega)]; exact r21
    replace r22 : w6.cell? ⟨w.heap.size + 1, 2, none⟩ = some (.float .f64 vr) := by rw [HB6.out.cell (p := ⟨w.heap.size + 1, _, none⟩) (by show w.heap.size + 1 < w5.heap.size; omega)]; exact r22
    replace r23 : w6.cell? ⟨w.heap.size + 1, 3, none⟩ = some (.string vs) := by rw [HB6.out.cell (p := ⟨w.heap.size + 1, _, none⟩) (by show w.heap.size + 1 < w5.heap.size; omega)]; exact r23
    go_wp2_with fail
    refine (number_any ⟨1, vi, vr, vs⟩ _).mono ?_
    rintro e w7 ⟨rfl, hb7⟩
    rw [show numB 1 = true from rfl]
    have HB76 : Hid (Below w6.heap.size w6 w7) := hb7
    have HB7 : Hid (Below w5.heap.size w5 w7) := HB6.out.trans (hb7.mono hs6)
    have hs7 : w5.heap.size ≤ w7.heap.size := HB7.out.size
    clear hb7
    replace r10 : w7.cell? ⟨w.heap.size, 0, none⟩ = some (.int .u8 1) := by rw [HB7.out.cell (p := ⟨w.heap.size, _, none⟩) (by show w.heap.size < w5.heap.size; omega)]; exact r10
    replace r11 : w7.cell? ⟨w.heap.size, 1, none⟩ = some (.int .i64 ui) := by rw [HB7.out.cell (p := ⟨w.heap.size, _, none⟩) (by show w.heap.size < w5.heap.size; omega)]; exact r11
    replace r12 : w7.cell? ⟨w.heap.size, 2, none⟩ = some (.float .f64 ur) := by rw [HB7.out.cell (p := ⟨w.heap.size, _, none⟩) (by show w.heap.size < w5.heap.size; omega)]; exact r12
    replace r13 : w7.cell? ⟨w.heap.size, 3, none⟩ = some (.string us) := by rw [HB7.out.cell (p := ⟨w.heap.size, _, none⟩) (by show w.heap.size < w5.heap.size; omega)]; exact r13
    replace r20 : w7.cell? ⟨w.heap.size + 1, 0, none⟩ = some (.int .u8 1) := by rw [HB76.out.cell (p := ⟨w.heap.size + 1, _, none⟩) (by show w.heap.size + 1 < w6.heap.size; omega)]; exact r20
    replace r21 : w7.cell? ⟨w.heap.size + 1, 1, none⟩ = some (.int .i64 vi) := by rw [HB76.out.cell (p := ⟨w.heap.size + 1, _, none⟩) (by show w.heap.size + 1 < w6.heap.size; omega)]; exact r21
    replace r22 : w7.cell? ⟨w.heap.size + 1, 2, none⟩ = some (.float .f64 vr) := by rw [HB76.out.cell (p := ⟨w.heap.size + 1, _, none⟩) (by show w.heap.size + 1 < w6.heap.size; omega)]; exact r22
    replace r23 : w7.cell? ⟨w.heap.size + 1, 3, none⟩ = some (.string vs) := by rw [HB76.out.cell (p := ⟨w.heap.size + 1, _, none⟩) (by show w.heap.size + 1 < w6.heap.size; omega)]; exact r23
    go_wp2_with fail
    refine (intArith_add ui vi _).mono ?_
    rintro e w8 ⟨rfl, hb8⟩
    have HB87 : Hid (Below w7.heap.size w7 w8) := hb8
    have HB8 : Hid (Below w5.heap.size w5 w8) := HB7.out.trans (hb8.mono hs7)
    have hs8 : w5.heap.size ≤ w8.heap.size := HB8.out.size
    clear hb8
    obtain ⟨s0, hs0'⟩ : ∃ s, cond (addB ui vi) (addW ui vi) 0 = s := ⟨_, rfl⟩
    obtain ⟨p, hp⟩ : ∃ p, addB ui vi = p := ⟨_, rfl⟩
    have HSP : Hid (cond (addB ui vi) (addW ui vi) 0 = s0 ∧ addB ui vi = p) := ⟨hs0', hp⟩
    rw [hs0', hp]
    clear hs0' hp
    unfold intV V.val
    go_wp2_with (refine wpList_put (ty := 100) (g := w8.heap.size) rfl rfl rfl rfl size100 (by kernel_rfl) ⟨_, heap_alloc_new w8 _, rfl⟩ ?_)
    intro w9 h9 k9 s9
    have HN9 : Hid (w9.heap[w8.heap.size]? = some (.cells #[.int .u8 1, .int .i64 s0, .float .f64 0, .string ⟨#[]⟩] 100 (0, 0))) := h9
    have HB98 : Hid (Below w8.heap.size w8 w9) := (below_alloc w8 _).trans (k9.below (fun k hk => by show k ≠ w8.heap.size; omega))
    have HB9 : Hid (Below w5.heap.size w5 w9) := HB8.out.trans (HB98.out.mono hs8)
    have hs9 : w8.heap.size + 1 ≤ w9.heap.size := by have := k9.size; simp at this; omega
    clear h9 k9 s9
    cases p with
    | true =>
      have hs0e : s0 = addW ui vi := by have h := HSP.out.1; rw [HSP.out.2] at h; exact h.symm
      have HS0 : Hid (s0 = addW ui vi) := hs0e
      clear hs0e
      go_wp2_with (first | (refine wpList_get (ty := 100) _ rfl rfl rfl Yaed.underlying100 rfl HN9.out size100 ?_) | (refine wpList_put (ty := 100) (g := w.heap.size + 2) rfl rfl rfl rfl size100 (by kernel_rfl) (by obtain ⟨z, h1, h2⟩ := HR5.out; exact ⟨z, (HB9.out.block _ (by omega)).trans h1, h2⟩) ?_; intro wz hz kz sz; have HNZ : Hid (wz.heap[w.heap.size + 2]? = some (.cells #[.int .u8 1, .int .i64 s0, .float .f64 0, .string ⟨#[]⟩] 100 (0, 0))) := hz; have HKZ : Hid (Keep (fun k => k ≠ w.heap.size + 2) w9 wz) := kz; clear hz kz sz))
      refine bodyPost_ret (results_cell_row rfl _ _ _ _ _ _ _ rfl HNZ.out Yaed.underlying100 rfl size100) rfl ⟨by rw [← HRES.out, addV, HU.out, HV.out, HS0.out]; simp [addN, numB, HSP.out.2, intV], ?_⟩
      exact HBW.out.trans ((HB9.out.mono (by omega)).trans (HKZ.out.below (fun k hk => by show k ≠ w.heap.size + 2; omega)))
    | false =>
      replace r10 : w9.cell? ⟨w.heap.size, 0, none⟩ = some (.int .u8 1) := by rw [HB98.out.cell (p := ⟨w.heap.size, _, none⟩) (by show w.heap.size < w8.heap.size; omega), HB87.out.cell (p := ⟨w.heap.size, _, none⟩) (by show w.heap.size < w7.heap.size; omega)]; exact r10
      replace r11 : w9.cell? ⟨w.heap.size, 1, none⟩ = some (.int .i64 ui) := by rw [HB98.out.cell (p := ⟨w.heap.size, _, none⟩) (by show w.heap.size < w8.heap.size; omega), HB87.out.cell (p := ⟨w.heap.size, _, none⟩) (by show w.heap.size < w7.heap.size; omega)]; exact r11
      replace r12 : w9.cell? ⟨w.heap.size, 2, none⟩ = some (.float .f64 ur) := by rw [HB98.out.cell (p := ⟨w.heap.size, _, none⟩) (by show w.heap.size < w8.heap.size; omega), HB87.out.cell (p := ⟨w.heap.size, _, none⟩) (by show w.heap.size < w7.heap.size; omega)]; exact r12
      replace r13 : w9.cell? ⟨w.heap.size, 3, none⟩ = some (.string us) := by rw [HB98.out.cell (p := ⟨w.heap.size, _, none⟩) (by show w.heap.size < w8.heap.size; omega), HB87.out.cell (p := ⟨w.heap.size, _, none⟩) (by show w.heap.size < w7.heap.size; omega)]; exact r13
      replace r20 : w9.cell? ⟨w.heap.size + 1, 0, none⟩ = some (.int .u8 1) := by rw [HB98.out.cell (p := ⟨w.heap.size + 1, _, none⟩) (by show w.heap.size + 1 < w8.heap.size; omega), HB87.out.cell (p := ⟨w.heap.size + 1, _, none⟩) (by show w.heap.size + 1 < w7.heap.size; omega)]; exact r20
      replace r21 : w9.cell? ⟨w.heap.size + 1, 1, none⟩ = some (.int .i64 vi) := by rw [HB98.out.cell (p := ⟨w.heap.size + 1, _, none⟩) (by show w.heap.size + 1 < w8.heap.size; omega), HB87.out.cell (p := ⟨w.heap.size + 1, _, none⟩) (by show w.heap.size + 1 < w7.heap.size; omega)]; exact r21
      replace r22 : w9.cell? ⟨w.heap.size + 1, 2, none⟩ = some (.float .f64 vr) := by rw [HB98.out.cell (p := ⟨w.heap.size + 1, _, none⟩) (by show w.heap.size + 1 < w8.heap.size; omega), HB87.out.cell (p := ⟨w.heap.size + 1, _, none⟩) (by show w.heap.size + 1 < w7.heap.size; omega)]; exact r22
      replace r23 : w9.cell? ⟨w.heap.size + 1, 3, none⟩ = some (.string vs) := by rw [HB98.out.cell (p := ⟨w.heap.size + 1, _, none⟩) (by show w.heap.size + 1 < w8.heap.size; omega), HB87.out.cell (p := ⟨w.heap.size + 1, _, none⟩) (by show w.heap.size + 1 < w7.heap.size; omega)]; exact r23
      go_wp2_with fail
      refine wp_region_can (l := [_, _, _]) [(true, 0), (true, 2), (false, 1)] (fun W => W.cell? ⟨w.heap.size, 0, none⟩ = some (.int .u8 1) ∧ W.cell? ⟨w.heap.size, 1, none⟩ = some (.int .i64 ui) ∧ W.cell? ⟨w.heap.size, 2, none⟩ = some (.float .f64 ur) ∧ W.cell? ⟨w.heap.size, 3, none⟩ = some (.string us) ∧ W.cell? ⟨w.heap.size + 1, 0, none⟩ = some (.int .u8 1) ∧ W.cell? ⟨w.heap.size + 1, 1, none⟩ = some (.int .i64 vi) ∧ W.cell? ⟨w.heap.size + 1, 2, none⟩ = some (.float .f64 vr) ∧ W.cell? ⟨w.heap.size + 1, 3, none⟩ = some (.string vs)) (by kernel_rfl) (by kernel_rfl) ⟨r10, r11, r12, r13, r20, r21, r22, r23⟩ ?_
      generalize hwd : World.drew _ = wd
      have HBd : Hid (Below w5.heap.size w5 wd) := by rw [← hwd]; exact HB9.out.drew
      have hsd : w5.heap.size ≤ wd.heap.size := HBd.out.size
      have HRd : Hid (wd.cell? ⟨w.heap.size, 0, none⟩ = some (.int .u8 1) ∧ wd.cell? ⟨w.heap.size, 1, none⟩ = some (.int .i64 ui) ∧ wd.cell? ⟨w.heap.size, 2, none⟩ = some (.float .f64 ur) ∧ wd.cell? ⟨w.heap.size, 3, none⟩ = some (.string us) ∧ wd.cell? ⟨w.heap.size + 1, 0, none⟩ = some (.int .u8 1) ∧ wd.cell? ⟨w.heap.size + 1, 1, none⟩ = some (.int .i64 vi) ∧ wd.cell? ⟨w.heap.size + 1, 2, none⟩ = some (.float .f64 vr) ∧ wd.cell? ⟨w.heap.size + 1, 3, none⟩ = some (.string vs)) := by rw [← hwd]; exact ⟨r10, r11, r12, r13, r20, r21, r22, r23⟩
      clear hwd r10 r11 r12 r13 r20 r21 r22 r23
      repeat (first | ((first | refine wpCan_q (v := ?_) rfl rfl rfl ?_ ?_ | refine wpCan_qg (v := ?_) rfl rfl (by rfl) ?_ ?_); rotate_left; (focus (rintro W ⟨p1, p2, p3, p4, p5, p6, p7, p8⟩; go_simp; first | done | exact rfl)); simp only [Act.put, List.setIfInBounds_toArray, List.set_cons_zero, List.set_cons_succ]) | (refine wpCan_skip rfl rfl (by rfl) ?_; simp only [Act.put, List.setIfInBounds_toArray, List.set_cons_zero, List.set_cons_succ]))
      refine wpCan_e rfl rfl (fun K hK => ?_)
      go_simp
      refine (toF_any ⟨1, ui, ur, us⟩ _).mono ?_
      rintro e wf ⟨rfl, hbf⟩
      have HBf : Hid (Below wd.heap.size wd wf) := hbf
      clear hbf
      refine hK _ _ ⟨?_, ?_⟩
      · obtain ⟨q1, q2, q3, q4, q5, q6, q7, q8⟩ := HRd.out
        rw [HBf.out.cell (p := ⟨w.heap.size, 0, none⟩) (by show w.heap.size < wd.heap.size; omega), HBf.out.cell (p := ⟨w.heap.size, 1, none⟩) (by show w.heap.size < wd.heap.size; omega), HBf.out.cell (p := ⟨w.heap.size, 2, none⟩) (by show w.heap.size < wd.heap.size; omega), HBf.out.cell (p := ⟨w.heap.size, 3, none⟩) (by show w.heap.size < wd.heap.size; omega), HBf.out.cell (p := ⟨w.heap.size + 1, 0, none⟩) (by show w.heap.size + 1 < wd.heap.size; omega), HBf.out.cell (p := ⟨w.heap.size + 1, 1, none⟩) (by show w.heap.size + 1 < wd.heap.size; omega), HBf.out.cell (p := ⟨w.heap.size + 1, 2, none⟩) (by show w.heap.size + 1 < wd.heap.size; omega), HBf.out.cell (p := ⟨w.heap.size + 1, 3, none⟩) (by show w.heap.size + 1 < wd.heap.size; omega)]
        exact ⟨q1, q2, q3, q4, q5, q6, q7, q8⟩
      clear hK K
      refine wpCan_nil ?_
      try simp only [Act.put, List.setIfInBounds_toArray, List.set_cons_zero, List.set_cons_succ]
      go_wp2_with fail
      refine (toF_any ⟨1, vi, vr, vs⟩ _).mono ?_
      rintro e wg ⟨rfl, hbg⟩
      have HBg : Hid (Below w5.heap.size w5 wg) := HBd.out.trans ((HBf.out.mono hsd).trans (hbg.mono (by have := HBf.out.size; omega)))
      have hsg : w5.heap.size ≤ wg.heap.size := HBg.out.size
      clear hbg
      go_wp2_with fail
      refine (fadd_any _ _ _).mono ?_
      rintro e wh ⟨c, rfl, hfr, hbh⟩
      have HFR : Hid (fRes (FloatKind.f64.format.add (toFN ⟨1, ui, ur, us⟩) (toFN ⟨1, vi, vr, vs⟩)) c) := hfr
      have HBh : Hid (Below w5.heap.size w5 wh) := HBg.out.trans (hbh.mono hsg)
      have hsh : w5.heap.size ≤ wh.heap.size := HBh.out.size
      clear hfr hbh
      go_wp2_with fail
      refine (realV_any c _).mono ?_
      rintro e wi ⟨rfl, hbi⟩
      have HBi : Hid (Below w5.heap.size w5 wi) := HBh.out.trans (hbi.mono hsh)
      clear hbi
      rw [norm_fRes HFR.out]
      obtain ⟨u, hu⟩ : ∃ u, realR (FloatKind.f64.format.add (toFN ⟨1, ui, ur, us⟩) (toFN ⟨1, vi, vr, vs⟩)) = u := ⟨_, rfl⟩
      rw [hu]
      have HUU : Hid (realR (FloatKind.f64.format.add (toFN ⟨1, ui, ur, us⟩) (toFN ⟨1, vi, vr, vs⟩)) = u) := hu
      clear hu
      unfold V.val
      go_wp2_with (refine wpList_put (ty := 100) (g := w.heap.size + 2) rfl rfl rfl rfl size100 (by kernel_rfl) (by obtain ⟨z, h1, h2⟩ := HR5.out; exact ⟨z, (HBi.out.block _ (by omega)).trans h1, h2⟩) ?_; intro wz hz kz sz; have HNZ : Hid (wz.heap[w.heap.size + 2]? = some (.cells #[.int .u8 u.k, .int .i64 u.i, .float .f64 u.r, .string u.s] 100 (0, 0))) := hz; have HKZ : Hid (Keep (fun k => k ≠ w.heap.size + 2) wi wz) := kz; clear hz kz sz)
      refine bodyPost_ret (results_cell_row rfl _ _ _ _ _ _ _ rfl HNZ.out Yaed.underlying100 rfl size100) rfl ⟨by rw [← HRES.out]; rw [addV, HU.out, HV.out, ← HUU.out]; simp [addN, numB, HSP.out.2], ?_⟩
      exact HBW.out.trans ((HBi.out.mono (by omega)).trans (HKZ.out.below (fun k hk => by show k ≠ w.heap.size + 2; omega)))
  · go_wp2_with fail
    refine (number_any ⟨1, ui, ur, us⟩ _).mono ?_
    rintro e w6 ⟨rfl, hb6⟩
    rw [show numB 1 = true from rfl]
    have HB6 : Hid (Below w5.heap.size w5 w6) := hb6
    have hs6 := hb6.size
    clear hb6
    replace r20 : w6.cell? ⟨w.heap.size + 1, 0, none⟩ = some (.int .u8 2) := by rw [HB6.out.cell (p := ⟨w.heap.size + 1, _, none⟩) (by show w.heap.size + 1 < w5.heap.size; omega)]; exact r20
    replace r21 : w6.cell? ⟨w.heap.size + 1, 1, none⟩ = some (.int .i64 vi) := by rw [HB6.out.cell (p := ⟨w.heap.size + 1, _, none⟩) (by show w.heap.size + 1 < w5.heap.size; omega)]; exact r21
    replace r22 : w6.cell? ⟨w.heap.size + 1, 2, none⟩ = some (.float .f64 vr) := by rw [HB6.out.cell (p := ⟨w.heap.size + 1, _, none⟩) (by show w.heap.size + 1 < w5.heap.size; omega)]; exact r22
    replace r23 : w6.cell? ⟨w.heap.size + 1, 3, none⟩ = some (.string vs) := by rw [HB6.out.cell (p := ⟨w.heap.size + 1, _, none⟩) (by show w.heap.size + 1 < w5.heap.size; omega)]; exact r23
    go_wp2_with fail
    refine (number_any ⟨2, vi, vr, vs⟩ _).mono ?_
    rintro e w7 ⟨rfl, hb7⟩
    rw [show numB 2 = true from rfl]
    have HB76 : Hid (Below w6.heap.size w6 w7) := hb7
    have HB7 : Hid (Below w5.heap.size w5 w7) := HB6.out.trans (hb7.mono hs6)
    have hs7 : w5.heap.size ≤ w7.heap.size := HB7.out.size
    clear hb7
    replace r10 : w7.cell? ⟨w.heap.size, 0, none⟩ = some (.int .u8 1) := by rw [HB7.out.cell (p := ⟨w.heap.size, _, none⟩) (by show w.heap.size < w5.heap.size; omega)]; exact r10
    replace r11 : w7.cell? ⟨w.heap.size, 1, none⟩ = some (.int .i64 ui) := by rw [HB7.out.cell (p := ⟨w.heap.size, _, none⟩) (by show w.heap.size < w5.heap.size; omega)]; exact r11
    replace r12 : w7.cell? ⟨w.heap.size, 2, none⟩ = some (.float .f64 ur) := by rw [HB7.out.cell (p := ⟨w.heap.size, _, none⟩) (by show w.heap.size < w5.heap.size; omega)]; exact r12
    replace r13 : w7.cell? ⟨w.heap.size, 3, none⟩ = some (.string us) := by rw [HB7.out.cell (p := ⟨w.heap.size, _, none⟩) (by show w.heap.size < w5.heap.size; omega)]; exact r13
    replace r20 : w7.cell? ⟨w.heap.size + 1, 0, none⟩ = some (.int .u8 2) := by rw [HB76.out.cell (p := ⟨w.heap.size + 1, _, none⟩) (by show w.heap.size + 1 < w6.heap.size; omega)]; exact r20
    replace r21 : w7.cell? ⟨w.heap.size + 1, 1, none⟩ = some (.int .i64 vi) := by rw [HB76.out.cell (p := ⟨w.heap.size + 1, _, none⟩) (by show w.heap.size + 1 < w6.heap.size; omega)]; exact r21
    replace r22 : w7.cell? ⟨w.heap.size + 1, 2, none⟩ = some (.float .f64 vr) := by rw [HB76.out.cell (p := ⟨w.heap.size + 1, _, none⟩) (by show w.heap.size + 1 < w6.heap.size; omega)]; exact r22
    replace r23 : w7.cell? ⟨w.heap.size + 1, 3, none⟩ = some (.string vs) := by rw [HB76.out.cell (p := ⟨w.heap.size + 1, _, none⟩) (by show w.heap.size + 1 < w6.heap.size; omega)]; exact r23
    go_wp2_with fail
    refine wp_region_can (l := [_, _, _]) [(true, 0), (true, 2), (false, 1)] (fun W => W.cell? ⟨w.heap.size, 0, none⟩ = some (.int .u8 1) ∧ W.cell? ⟨w.heap.size, 1, none⟩ = some (.int .i64 ui) ∧ W.cell? ⟨w.heap.size, 2, none⟩ = some (.float .f64 ur) ∧ W.cell? ⟨w.heap.size, 3, none⟩ = some (.string us) ∧ W.cell? ⟨w.heap.size + 1, 0, none⟩ = some (.int .u8 2) ∧ W.cell? ⟨w.heap.size + 1, 1, none⟩ = some (.int .i64 vi) ∧ W.cell? ⟨w.heap.size + 1, 2, none⟩ = some (.float .f64 vr) ∧ W.cell? ⟨w.heap.size + 1, 3, none⟩ = some (.string vs)) (by kernel_rfl) (by kernel_rfl) ⟨r10, r11, r12, r13, r20, r21, r22, r23⟩ ?_
    generalize hwd : World.drew _ = wd
    have HBd : Hid (Below w5.heap.size w5 wd) := by rw [← hwd]; exact HB7.out.drew
    have hsd : w5.heap.size ≤ wd.heap.size := HBd.out.size
    have HRd : Hid (wd.cell? ⟨w.heap.size, 0, none⟩ = some (.int .u8 1) ∧ wd.cell? ⟨w.heap.size, 1, none⟩ = some (.int .i64 ui) ∧ wd.cell? ⟨w.heap.size, 2, none⟩ = some (.float .f64 ur) ∧ wd.cell? ⟨w.heap.size, 3, none⟩ = some (.string us) ∧ wd.cell? ⟨w.heap.size + 1, 0, none⟩ = some (.int .u8 2) ∧ wd.cell? ⟨w.heap.size + 1, 1, none⟩ = some (.int .i64 vi) ∧ wd.cell? ⟨w.heap.size + 1, 2, none⟩ = some (.float .f64 vr) ∧ wd.cell? ⟨w.heap.size + 1, 3, none⟩ = some (.string vs)) := by rw [← hwd]; exact ⟨r10, r11, r12, r13, r20, r21, r22, r23⟩
    clear hwd r10 r11 r12 r13 r20 r21 r22 r23
    repeat (first | ((first | refine wpCan_q (v := ?_) rfl rfl rfl ?_ ?_ | refine wpCan_qg (v := ?_) rfl rfl (by rfl) ?_ ?_); rotate_left; (focus (rintro W ⟨p1, p2, p3, p4, p5, p6, p7, p8⟩; go_simp; first | done | exact rfl)); simp only [Act.put, List.setIfInBounds_toArray, List.set_cons_zero, List.set_cons_succ]) | (refine wpCan_skip rfl rfl (by rfl) ?_; simp only [Act.put, List.setIfInBounds_toArray, List.set_cons_zero, List.set_cons_succ]))
    refine wpCan_e rfl rfl (fun K hK => ?_)
    go_simp
    refine (toF_any ⟨1, ui, ur, us⟩ _).mono ?_
    rintro e wf ⟨rfl, hbf⟩
    have HBf : Hid (Below wd.heap.size wd wf) := hbf
    clear hbf
    refine hK _ _ ⟨?_, ?_⟩
    · obtain ⟨q1, q2, q3, q4, q5, q6, q7, q8⟩ := HRd.out
      rw [HBf.out.cell (p := ⟨w.heap.size, 0, none⟩) (by show w.heap.size < wd.heap.size; omega), HBf.out.cell (p := ⟨w.heap.size, 1, none⟩) (by show w.heap.size < wd.heap.size; omega), HBf.out.cell (p := ⟨w.heap.size, 2, none⟩) (by show w.heap.size < wd.heap.size; omega), HBf.out.cell (p := ⟨w.heap.size, 3, none⟩) (by show w.heap.size < wd.heap.size; omega), HBf.out.cell (p := ⟨w.heap.size + 1, 0, none⟩) (by show w.heap.size + 1 < wd.heap.size; omega), HBf.out.cell (p := ⟨w.heap.size + 1, 1, none⟩) (by show w.heap.size + 1 < wd.heap.size; omega), HBf.out.cell (p := ⟨w.heap.size + 1, 2, none⟩) (by show w.heap.size + 1 < wd.heap.size; omega), HBf.out.cell (p := ⟨w.heap.size + 1, 3, none⟩) (by show w.heap.size + 1 < wd.heap.size; omega)]
      exact ⟨q1, q2, q3, q4, q5, q6, q7, q8⟩
    clear hK K
    refine wpCan_nil ?_
    try simp only [Act.put, List.setIfInBounds_toArray, List.set_cons_zero, List.set_cons_succ]
    go_wp2_with fail
    refine (toF_any ⟨2, vi, vr, vs⟩ _).mono ?_
    rintro e wg ⟨rfl, hbg⟩
    have HBg : Hid (Below w5.heap.size w5 wg) := HBd.out.trans ((HBf.out.mono hsd).trans (hbg.mono (by have := HBf.out.size; omega)))
    have hsg : w5.heap.size ≤ wg.heap.size := HBg.out.size
    clear hbg
    go_wp2_with fail
    refine (fadd_any _ _ _).mono ?_
    rintro e wh ⟨c, rfl, hfr, hbh⟩
    have HFR : Hid (fRes (FloatKind.f64.format.add (toFN ⟨1, ui, ur, us⟩) (toFN ⟨2, vi, vr, vs⟩)) c) := hfr
    have HBh : Hid (Below w5.heap.size w5 wh) := HBg.out.trans (hbh.mono hsg)
    have hsh : w5.heap.size ≤ wh.heap.size := HBh.out.size
    clear hfr hbh
    go_wp2_with fail
    refine (realV_any c _).mono ?_
    rintro e wi ⟨rfl, hbi⟩
    have HBi : Hid (Below w5.heap.size w5 wi) := HBh.out.trans (hbi.mono hsh)
    clear hbi
    rw [norm_fRes HFR.out]
    obtain ⟨u, hu⟩ : ∃ u, realR (FloatKind.f64.format.add (toFN ⟨1, ui, ur, us⟩) (toFN ⟨2, vi, vr, vs⟩)) = u := ⟨_, rfl⟩
    rw [hu]
    have HUU : Hid (realR (FloatKind.f64.format.add (toFN ⟨1, ui, ur, us⟩) (toFN ⟨2, vi, vr, vs⟩)) = u) := hu
    clear hu
    unfold V.val
    go_wp2_with (refine wpList_put (ty := 100) (g := w.heap.size + 2) rfl rfl rfl rfl size100 (by kernel_rfl) (by obtain ⟨z, h1, h2⟩ := HR5.out; exact ⟨z, (HBi.out.block _ (by omega)).trans h1, h2⟩) ?_; intro wz hz kz sz; have HNZ : Hid (wz.heap[w.heap.size + 2]? = some (.cells #[.int .u8 u.k, .int .i64 u.i, .float .f64 u.r, .string u.s] 100 (0, 0))) := hz; have HKZ : Hid (Keep (fun k => k ≠ w.heap.size + 2) wi wz) := kz; clear hz kz sz)
    refine bodyPost_ret (results_cell_row rfl _ _ _ _ _ _ _ rfl HNZ.out Yaed.underlying100 rfl size100) rfl ⟨by rw [← HRES.out]; rw [addV, HU.out, HV.out, ← HUU.out]; rfl, ?_⟩
    exact HBW.out.trans ((HBi.out.mono (by omega)).trans (HKZ.out.below (fun k hk => by show k ≠ w.heap.size + 2; omega)))
  · go_wp2_with fail
    refine (number_any ⟨1, ui, ur, us⟩ _).mono ?_
    rintro e w6 ⟨rfl, hb6⟩
    rw [show numB 1 = true from rfl]
    have HB6 : Hid (Below w5.heap.size w5 w6) := hb6
    have hs6 := hb6.size
    clear hb6
    replace r20 : w6.cell? ⟨w.heap.size + 1, 0, none⟩ = some (.int .u8 3) := by rw [HB6.out.cell (p := ⟨w.heap.size + 1, _, none⟩) (by show w.heap.size + 1 < w5.heap.size; omega)]; exact r20
    replace r21 : w6.cell? ⟨w.heap.size + 1, 1, none⟩ = some (.int .i64 vi) := by rw [HB6.out.cell (p := ⟨w.heap.size + 1, _, none⟩) (by show w.heap.size + 1 < w5.heap.size; omega)]; exact r21
    replace r22 : w6.cell? ⟨w.heap.size + 1, 2, none⟩ = some (.float .f64 vr) := by rw [HB6.out.cell (p := ⟨w.heap.size + 1, _, none⟩) (by show w.heap.size + 1 < w5.heap.size; omega)]; exact r22
    replace r23 : w6.cell? ⟨w.heap.size + 1, 3, none⟩ = some (.string vs) := by rw [HB6.out.cell (p := ⟨w.heap.size + 1, _, none⟩) (by show w.heap.size + 1 < w5.heap.size; omega)]; exact r23
    go_wp2_with fail
    refine (number_any ⟨3, vi, vr, vs⟩ _).mono ?_
    rintro e w7 ⟨rfl, hb7⟩
    rw [show numB 3 = false from rfl]
    have HB76 : Hid (Below w6.heap.size w6 w7) := hb7
    have HB7 : Hid (Below w5.heap.size w5 w7) := HB6.out.trans (hb7.mono hs6)
    have hs7 : w5.heap.size ≤ w7.heap.size := HB7.out.size
    clear hb7
    go_wp2_with (refine wpList_put (ty := 100) (g := w.heap.size + 2) rfl rfl rfl rfl size100 (by kernel_rfl) (by obtain ⟨z, h1, h2⟩ := HR5.out; exact ⟨z, (HB7.out.block _ (by omega)).trans h1, h2⟩) ?_; intro wz hz kz sz; have HNZ : Hid (wz.heap[w.heap.size + 2]? = some (.cells #[.int .u8 0, .int .i64 0, .float .f64 0, .string ⟨#[]⟩] 100 (0, 0))) := hz; have HKZ : Hid (Keep (fun k => k ≠ w.heap.size + 2) w7 wz) := kz; clear hz kz sz)
    refine bodyPost_ret (results_cell_row rfl _ _ _ _ _ _ _ rfl HNZ.out Yaed.underlying100 rfl size100) rfl ⟨by rw [← HRES.out]; rw [addV, HU.out, HV.out]; rfl, ?_⟩
    exact HBW.out.trans ((HB7.out.mono (by omega)).trans (HKZ.out.below (fun k hk => by show k ≠ w.heap.size + 2; omega)))
  · go_wp2_with fail
    refine (number_any ⟨2, ui, ur, us⟩ _).mono ?_
    rintro e w6 ⟨rfl, hb6⟩
    rw [show numB 2 = true from rfl]
    have HB6 : Hid (Below w5.heap.size w5 w6) := hb6
    have hs6 := hb6.size
    clear hb6
    replace r20 : w6.cell? ⟨w.heap.size + 1, 0, none⟩ = some (.int .u8 0) := by rw [HB6.out.cell (p := ⟨w.heap.size + 1, _, none⟩) (by show w.heap.size + 1 < w5.heap.size; omega)]; exact r20
    replace r21 : w6.cell? ⟨w.heap.size + 1, 1, none⟩ = some (.int .i64 vi) := by rw [HB6.out.cell (p := ⟨w.heap.size + 1, _, none⟩) (by show w.heap.size + 1 < w5.heap.size; omega)]; exact r21
    replace r22 : w6.cell? ⟨w.heap.size + 1, 2, none⟩ = some (.float .f64 vr) := by rw [HB6.out.cell (p := ⟨w.heap.size + 1, _, none⟩) (by show w.heap.size + 1 < w5.heap.size; omega)]; exact r22
    replace r23 : w6.cell? ⟨w.heap.size + 1, 3, none⟩ = some (.string vs) := by rw [HB6.out.cell (p := ⟨w.heap.size + 1, _, none⟩) (by show w.heap.size + 1 < w5.heap.size; omega)]; exact r23
    go_wp2_with fail
    refine (number_any ⟨0, vi, vr, vs⟩ _).mono ?_
    rintro e w7 ⟨rfl, hb7⟩
    rw [show numB 0 = false from rfl]
    have HB76 : Hid (Below w6.heap.size w6 w7) := hb7
    have HB7 : Hid (Below w5.heap.size w5 w7) := HB6.out.trans (hb7.mono hs6)
    have hs7 : w5.heap.size ≤ w7.heap.size := HB7.out.size
    clear hb7
    go_wp2_with (refine wpList_put (ty := 100) (g := w.heap.size + 2) rfl rfl rfl rfl size100 (by kernel_rfl) (by obtain ⟨z, h1, h2⟩ := HR5.out; exact ⟨z, (HB7.out.block _ (by omega)).trans h1, h2⟩) ?_; intro wz hz kz sz; have HNZ : Hid (wz.heap[w.heap.size + 2]? = some (.cells #[.int .u8 0, .int .i64 0, .float .f64 0, .string ⟨#[]⟩] 100 (0, 0))) := hz; have HKZ : Hid (Keep (fun k => k ≠ w.heap.size + 2) w7 wz) := kz; clear hz kz sz)
    refine bodyPost_ret (results_cell_row rfl _ _ _ _ _ _ _ rfl HNZ.out Yaed.underlying100 rfl size100) rfl ⟨by rw [← HRES.out]; rw [addV, HU.out, HV.out]; rfl, ?_⟩
    exact HBW.out.trans ((HB7.out.mono (by omega)).trans (HKZ.out.below (fun k hk => by show k ≠ w.heap.size + 2; omega)))
  · go_wp2_with fail
    refine (number_any ⟨2, ui, ur, us⟩ _).mono ?_
    rintro e w6 ⟨rfl, hb6⟩
    rw [show numB 2 = true from rfl]
    have HB6 : Hid (Below w5.heap.size w5 w6) := hb6
    have hs6 := hb6.size
    clear hb6
    replace r20 : w6.cell? ⟨w.heap.size + 1, 0, none⟩ = some (.int .u8 1) := by rw [HB6.out.cell (p := ⟨w.heap.size + 1, _, none⟩) (by show w.heap.size + 1 < w5.heap.size; omega)]; exact r20
    replace r21 : w6.cell? ⟨w.heap.size + 1, 1, none⟩ = some (.int .i64 vi) := by rw [HB6.out.cell (p := ⟨w.heap.size + 1, _, none⟩) (by show w.heap.size + 1 < w5.heap.size; omega)]; exact r21
    replace r22 : w6.cell? ⟨w.heap.size + 1, 2, none⟩ = some (.float .f64 vr) := by rw [HB6.out.cell (p := ⟨w.heap.size + 1, _, none⟩) (by show w.heap.size + 1 < w5.heap.size; omega)]; exact r22
    replace r23 : w6.cell? ⟨w.heap.size + 1, 3, none⟩ = some (.string vs) := by rw [HB6.out.cell (p := ⟨w.heap.size + 1, _, none⟩) (by show w.heap.size + 1 < w5.heap.size; omega)]; exact r23
    go_wp2_with fail
    refine (number_any ⟨1, vi, vr, vs⟩ _).mono ?_
    rintro e w7 ⟨rfl, hb7⟩
    rw [show numB 1 = true from rfl]
    have HB76 : Hid (Below w6.heap.size w6 w7) := hb7
    have HB7 : Hid (Below w5.heap.size w5 w7) := HB6.out.trans (hb7.mono hs6)
    have hs7 : w5.heap.size ≤ w7.heap.size := HB7.out.size
    clear hb7
    replace r10 : w7.cell? ⟨w.heap.size, 0, none⟩ = some (.int .u8 2) := by rw [HB7.out.cell (p := ⟨w.heap.size, _, none⟩) (by show w.heap.size < w5.heap.size; omega)]; exact r10
    replace r11 : w7.cell? ⟨w.heap.size, 1, none⟩ = some (.int .i64 ui) := by rw [HB7.out.cell (p := ⟨w.heap.size, _, none⟩) (by show w.heap.size < w5.heap.size; omega)]; exact r11
    replace r12 : w7.cell? ⟨w.heap.size, 2, none⟩ = some (.float .f64 ur) := by rw [HB7.out.cell (p := ⟨w.heap.size, _, none⟩) (by show w.heap.size < w5.heap.size; omega)]; exact r12
    replace r13 : w7.cell? ⟨w.heap.size, 3, none⟩ = some (.string us) := by rw [HB7.out.cell (p := ⟨w.heap.size, _, none⟩) (by show w.heap.size < w5.heap.size; omega)]; exact r13
    replace r20 : w7.cell? ⟨w.heap.size + 1, 0, none⟩ = some (.int .u8 1) := by rw [HB76.out.cell (p := ⟨w.heap.size + 1, _, none⟩) (by show w.heap.size + 1 < w6.heap.size; omega)]; exact r20
    replace r21 : w7.cell? ⟨w.heap.size + 1, 1, none⟩ = some (.int .i64 vi) := by rw [HB76.out.cell (p := ⟨w.heap.size + 1, _, none⟩) (by show w.heap.size + 1 < w6.heap.size; omega)]; exact r21
    replace r22 : w7.cell? ⟨w.heap.size + 1, 2, none⟩ = some (.float .f64 vr) := by rw [HB76.out.cell (p := ⟨w.heap.size + 1, _, none⟩) (by show w.heap.size + 1 < w6.heap.size; omega)]; exact r22
    replace r23 : w7.cell? ⟨w.heap.size + 1, 3, none⟩ = some (.string vs) := by rw [HB76.out.cell (p := ⟨w.heap.size + 1, _, none⟩) (by show w.heap.size + 1 < w6.heap.size; omega)]; exact r23
    go_wp2_with fail
    refine wp_region_can (l := [_, _, _]) [(true, 0), (true, 2), (false, 1)] (fun W => W.cell? ⟨w.heap.size, 0, none⟩ = some (.int .u8 2) ∧ W.cell? ⟨w.heap.size, 1, none⟩ = some (.int .i64 ui) ∧ W.cell? ⟨w.heap.size, 2, none⟩ = some (.float .f64 ur) ∧ W.cell? ⟨w.heap.size, 3, none⟩ = some (.string us) ∧ W.cell? ⟨w.heap.size + 1, 0, none⟩ = some (.int .u8 1) ∧ W.cell? ⟨w.heap.size + 1, 1, none⟩ = some (.int .i64 vi) ∧ W.cell? ⟨w.heap.size + 1, 2, none⟩ = some (.float .f64 vr) ∧ W.cell? ⟨w.heap.size + 1, 3, none⟩ = some (.string vs)) (by kernel_rfl) (by kernel_rfl) ⟨r10, r11, r12, r13, r20, r21, r22, r23⟩ ?_
    generalize hwd : World.drew _ = wd
    have HBd : Hid (Below w5.heap.size w5 wd) := by rw [← hwd]; exact HB7.out.drew
    have hsd : w5.heap.size ≤ wd.heap.size := HBd.out.size
    have HRd : Hid (wd.cell? ⟨w.heap.size, 0, none⟩ = some (.int .u8 2) ∧ wd.cell? ⟨w.heap.size, 1, none⟩ = some (.int .i64 ui) ∧ wd.cell? ⟨w.heap.size, 2, none⟩ = some (.float .f64 ur) ∧ wd.cell? ⟨w.heap.size, 3, none⟩ = some (.string us) ∧ wd.cell? ⟨w.heap.size + 1, 0, none⟩ = some (.int .u8 1) ∧ wd.cell? ⟨w.heap.size + 1, 1, none⟩ = some (.int .i64 vi) ∧ wd.cell? ⟨w.heap.size + 1, 2, none⟩ = some (.float .f64 vr) ∧ wd.cell? ⟨w.heap.size + 1, 3, none⟩ = some (.string vs)) := by rw [← hwd]; exact ⟨r10, r11, r12, r13, r20, r21, r22, r23⟩
    clear hwd r10 r11 r12 r13 r20 r21 r22 r23
    repeat (first | ((first | refine wpCan_q (v := ?_) rfl rfl rfl ?_ ?_ | refine wpCan_qg (v := ?_) rfl rfl (by rfl) ?_ ?_); rotate_left; (focus (rintro W ⟨p1, p2, p3, p4, p5, p6, p7, p8⟩; go_simp; first | done | exact rfl)); simp only [Act.put, List.setIfInBounds_toArray, List.set_cons_zero, List.set_cons_succ]) | (refine wpCan_skip rfl rfl (by rfl) ?_; simp only [Act.put, List.setIfInBounds_toArray, List.set_cons_zero, List.set_cons_succ]))
    refine wpCan_e rfl rfl (fun K hK => ?_)
    go_simp
    refine (toF_any ⟨2, ui, ur, us⟩ _).mono ?_
    rintro e wf ⟨rfl, hbf⟩
    have HBf : Hid (Below wd.heap.size wd wf) := hbf
    clear hbf
    refine hK _ _ ⟨?_, ?_⟩
    · obtain ⟨q1, q2, q3, q4, q5, q6, q7, q8⟩ := HRd.out
      rw [HBf.out.cell (p := ⟨w.heap.size, 0, none⟩) (by show w.heap.size < wd.heap.size; omega), HBf.out.cell (p := ⟨w.heap.size, 1, none⟩) (by show w.heap.size < wd.heap.size; omega), HBf.out.cell (p := ⟨w.heap.size, 2, none⟩) (by show w.heap.size < wd.heap.size; omega), HBf.out.cell (p := ⟨w.heap.size, 3, none⟩) (by show w.heap.size < wd.heap.size; omega), HBf.out.cell (p := ⟨w.heap.size + 1, 0, none⟩) (by show w.heap.size + 1 < wd.heap.size; omega), HBf.out.cell (p := ⟨w.heap.size + 1, 1, none⟩) (by show w.heap.size + 1 < wd.heap.size; omega), HBf.out.cell (p := ⟨w.heap.size + 1, 2, none⟩) (by show w.heap.size + 1 < wd.heap.size; omega), HBf.out.cell (p := ⟨w.heap.size + 1, 3, none⟩) (by show w.heap.size + 1 < wd.heap.size; omega)]
      exact ⟨q1, q2, q3, q4, q5, q6, q7, q8⟩
    clear hK K
    refine wpCan_nil ?_
    try simp only [Act.put, List.setIfInBounds_toArray, List.set_cons_zero, List.set_cons_succ]
    go_wp2_with fail
    refine (toF_any ⟨1, vi, vr, vs⟩ _).mono ?_
    rintro e wg ⟨rfl, hbg⟩
    have HBg : Hid (Below w5.heap.size w5 wg) := HBd.out.trans ((HBf.out.mono hsd).trans (hbg.mono (by have := HBf.out.size; omega)))
    have hsg : w5.heap.size ≤ wg.heap.size := HBg.out.size
    clear hbg
    go_wp2_with fail
    refine (fadd_any _ _ _).mono ?_
    rintro e wh ⟨c, rfl, hfr, hbh⟩
    have HFR : Hid (fRes (FloatKind.f64.format.add (toFN ⟨2, ui, ur, us⟩) (toFN ⟨1, vi, vr, vs⟩)) c) := hfr
    have HBh : Hid (Below w5.heap.size w5 wh) := HBg.out.trans (hbh.mono hsg)
    have hsh : w5.heap.size ≤ wh.heap.size := HBh.out.size
    clear hfr hbh
    go_wp2_with fail
    refine (realV_any c _).mono ?_
    rintro e wi ⟨rfl, hbi⟩
    have HBi : Hid (Below w5.heap.size w5 wi) := HBh.out.trans (hbi.mono hsh)
    clear hbi
    rw [norm_fRes HFR.out]
    obtain ⟨u, hu⟩ : ∃ u, realR (FloatKind.f64.format.add (toFN ⟨2, ui, ur, us⟩) (toFN ⟨1, vi, vr, vs⟩)) = u := ⟨_, rfl⟩
    rw [hu]
    have HUU : Hid (realR (FloatKind.f64.format.add (toFN ⟨2, ui, ur, us⟩) (toFN ⟨1, vi, vr, vs⟩)) = u) := hu
    clear hu
    unfold V.val
    go_wp2_with (refine wpList_put (ty := 100) (g := w.heap.size + 2) rfl rfl rfl rfl size100 (by kernel_rfl) (by obtain ⟨z, h1, h2⟩ := HR5.out; exact ⟨z, (HBi.out.block _ (by omega)).trans h1, h2⟩) ?_; intro wz hz kz sz; have HNZ : Hid (wz.heap[w.heap.size + 2]? = some (.cells #[.int .u8 u.k, .int .i64 u.i, .float .f64 u.r, .string u.s] 100 (0, 0))) := hz; have HKZ : Hid (Keep (fun k => k ≠ w.heap.size + 2) wi wz) := kz; clear hz kz sz)
    refine bodyPost_ret (results_cell_row rfl _ _ _ _ _ _ _ rfl HNZ.out Yaed.underlying100 rfl size100) rfl ⟨by rw [← HRES.out]; rw [addV, HU.out, HV.out, ← HUU.out]; rfl, ?_⟩
    exact HBW.out.trans ((HBi.out.mono (by omega)).trans (HKZ.out.below (fun k hk => by show k ≠ w.heap.size + 2; omega)))
  · go_wp2_with fail
    refine (number_any ⟨2, ui, ur, us⟩ _).mono ?_
    rintro e w6 ⟨rfl, hb6⟩
    rw [show numB 2 = true from rfl]
    have HB6 : Hid (Below w5.heap.size w5 w6) := hb6
    have hs6 := hb6.size
    clear hb6
    replace r20 : w6.cell? ⟨w.heap.size + 1, 0, none⟩ = some (.int .u8 2) := by rw [HB6.out.cell (p := ⟨w.heap.size + 1, _, none⟩) (by show w.heap.size + 1 < w5.heap.size; omega)]; exact r20
    replace r21 : w6.cell? ⟨w.heap.size + 1, 1, none⟩ = some (.int .i64 vi) := by rw [HB6.out.cell (p := ⟨w.heap.size + 1, _, none⟩) (by show w.heap.size + 1 < w5.heap.size; omega)]; exact r21
    replace r22 : w6.cell? ⟨w.heap.size + 1, 2, none⟩ = some (.float .f64 vr) := by rw [HB6.out.cell (p := ⟨w.heap.size + 1, _, none⟩) (by show w.heap.size + 1 < w5.heap.size; omega)]; exact r22
    replace r23 : w6.cell? ⟨w.heap.size + 1, 3, none⟩ = some (.string vs) := by rw [HB6.out.cell (p := ⟨w.heap.size + 1, _, none⟩) (by show w.heap.size + 1 < w5.heap.size; omega)]; exact r23
    go_wp2_with fail
    refine (number_any ⟨2, vi, vr, vs⟩ _).mono ?_
    rintro e w7 ⟨rfl, hb7⟩
    rw [show numB 2 = true from rfl]
    have HB76 : Hid (Below w6.heap.size w6 w7) := hb7
    have HB7 : Hid (Below w5.heap.size w5 w7) := HB6.out.trans (hb7.mono hs6)
    have hs7 : w5.heap.size ≤ w7.heap.size := HB7.out.size
    clear hb7
    replace r10 : w7.cell? ⟨w.heap.size, 0, none⟩ = some (.int .u8 2) := by rw [HB7.out.cell (p := ⟨w.heap.size, _, none⟩) (by show w.heap.size < w5.heap.size; omega)]; exact r10
    replace r11 : w7.cell? ⟨w.heap.size, 1, none⟩ = some (.int .i64 ui) := by rw [HB7.out.cell (p := ⟨w.heap.size, _, none⟩) (by show w.heap.size < w5.heap.size; omega)]; exact r11
    replace r12 : w7.cell? ⟨w.heap.size, 2, none⟩ = some (.float .f64 ur) := by rw [HB7.out.cell (p := ⟨w.heap.size, _, none⟩) (by show w.heap.size < w5.heap.size; omega)]; exact r12
    replace r13 : w7.cell? ⟨w.heap.size, 3, none⟩ = some (.string us) := by rw [HB7.out.cell (p := ⟨w.heap.size, _, none⟩) (by show w.heap.size < w5.heap.size; omega)]; exact r13
    replace r20 : w7.cell? ⟨w.heap.size + 1, 0, none⟩ = some (.int .u8 2) := by rw [HB76.out.cell (p := ⟨w.heap.size + 1, _, none⟩) (by show w.heap.size + 1 < w6.heap.size; omega)]; exact r20
    replace r21 : w7.cell? ⟨w.heap.size + 1, 1, none⟩ = some (.int .i64 vi) := by rw [HB76.out.cell (p := ⟨w.heap.size + 1, _, none⟩) (by show w.heap.size + 1 < w6.heap.size; omega)]; exact r21
    replace r22 : w7.cell? ⟨w.heap.size + 1, 2, none⟩ = some (.float .f64 vr) := by rw [HB76.out.cell (p := ⟨w.heap.size + 1, _, none⟩) (by show w.heap.size + 1 < w6.heap.size; omega)]; exact r22
    replace r23 : w7.cell? ⟨w.heap.size + 1, 3, none⟩ = some (.string vs) := by rw [HB76.out.cell (p := ⟨w.heap.size + 1, _, none⟩) (by show w.heap.size + 1 < w6.heap.size; omega)]; exact r23
    go_wp2_with fail
    refine wp_region_can (l := [_, _, _]) [(true, 0), (true, 2), (false, 1)] (fun W => W.cell? ⟨w.heap.size, 0, none⟩ = some (.int .u8 2) ∧ W.cell? ⟨w.heap.size, 1, none⟩ = some (.int .i64 ui) ∧ W.cell? ⟨w.heap.size, 2, none⟩ = some (.float .f64 ur) ∧ W.cell? ⟨w.heap.size, 3, none⟩ = some (.string us) ∧ W.cell? ⟨w.heap.size + 1, 0, none⟩ = some (.int .u8 2) ∧ W.cell? ⟨w.heap.size + 1, 1, none⟩ = some (.int .i64 vi) ∧ W.cell? ⟨w.heap.size + 1, 2, none⟩ = some (.float .f64 vr) ∧ W.cell? ⟨w.heap.size + 1, 3, none⟩ = some (.string vs)) (by kernel_rfl) (by kernel_rfl) ⟨r10, r11, r12, r13, r20, r21, r22, r23⟩ ?_
    generalize hwd : World.drew _ = wd
    have HBd : Hid (Below w5.heap.size w5 wd) := by rw [← hwd]; exact HB7.out.drew
    have hsd : w5.heap.size ≤ wd.heap.size := HBd.out.size
    have HRd : Hid (wd.cell? ⟨w.heap.size, 0, none⟩ = some (.int .u8 2) ∧ wd.cell? ⟨w.heap.size, 1, none⟩ = some (.int .i64 ui) ∧ wd.cell? ⟨w.heap.size, 2, none⟩ = some (.float .f64 ur) ∧ wd.cell? ⟨w.heap.size, 3, none⟩ = some (.string us) ∧ wd.cell? ⟨w.heap.size + 1, 0, none⟩ = some (.int .u8 2) ∧ wd.cell? ⟨w.heap.size + 1, 1, none⟩ = some (.int .i64 vi) ∧ wd.cell? ⟨w.heap.size + 1, 2, none⟩ = some (.float .f64 vr) ∧ wd.cell? ⟨w.heap.size + 1, 3, none⟩ = some (.string vs)) := by rw [← hwd]; exact ⟨r10, r11, r12, r13, r20, r21, r22, r23⟩
    clear hwd r10 r11 r12 r13 r20 r21 r22 r23
    repeat (first | ((first | refine wpCan_q (v := ?_) rfl rfl rfl ?_ ?_ | refine wpCan_qg (v := ?_) rfl rfl (by rfl) ?_ ?_); rotate_left; (focus (rintro W ⟨p1, p2, p3, p4, p5, p6, p7, p8⟩; go_simp; first | done | exact rfl)); simp only [Act.put, List.setIfInBounds_toArray, List.set_cons_zero, List.set_cons_succ]) | (refine wpCan_skip rfl rfl (by rfl) ?_; simp only [Act.put, List.setIfInBounds_toArray, List.set_cons_zero, List.set_cons_succ]))
    refine wpCan_e rfl rfl (fun K hK => ?_)
    go_simp
    refine (toF_any ⟨2, ui, ur, us⟩ _).mono ?_
    rintro e wf ⟨rfl, hbf⟩
    have HBf : Hid (Below wd.heap.size wd wf) := hbf
    clear hbf
    refine hK _ _ ⟨?_, ?_⟩
    · obtain ⟨q1, q2, q3, q4, q5, q6, q7, q8⟩ := HRd.out
      rw [HBf.out.cell (p := ⟨w.heap.size, 0, none⟩) (by show w.heap.size < wd.heap.size; omega), HBf.out.cell (p := ⟨w.heap.size, 1, none⟩) (by show w.heap.size < wd.heap.size; omega), HBf.out.cell (p := ⟨w.heap.size, 2, none⟩) (by show w.heap.size < wd.heap.size; omega), HBf.out.cell (p := ⟨w.heap.size, 3, none⟩) (by show w.heap.size < wd.heap.size; omega), HBf.out.cell (p := ⟨w.heap.size + 1, 0, none⟩) (by show w.heap.size + 1 < wd.heap.size; omega), HBf.out.cell (p := ⟨w.heap.size + 1, 1, none⟩) (by show w.heap.size + 1 < wd.heap.size; omega), HBf.out.cell (p := ⟨w.heap.size + 1, 2, none⟩) (by show w.heap.size + 1 < wd.heap.size; omega), HBf.out.cell (p := ⟨w.heap.size + 1, 3, none⟩) (by show w.heap.size + 1 < wd.heap.size; omega)]
      exact ⟨q1, q2, q3, q4, q5, q6, q7, q8⟩
    clear hK K
    refine wpCan_nil ?_
    try simp only [Act.put, List.setIfInBounds_toArray, List.set_cons_zero, List.set_cons_succ]
    go_wp2_with fail
    refine (toF_any ⟨2, vi, vr, vs⟩ _).mono ?_
    rintro e wg ⟨rfl, hbg⟩
    have HBg : Hid (Below w5.heap.size w5 wg) := HBd.out.trans ((HBf.out.mono hsd).trans (hbg.mono (by have := HBf.out.size; omega)))
    have hsg : w5.heap.size ≤ wg.heap.size := HBg.out.size
    clear hbg
    go_wp2_with fail
    refine (fadd_any _ _ _).mono ?_
    rintro e wh ⟨c, rfl, hfr, hbh⟩
    have HFR : Hid (fRes (FloatKind.f64.format.add (toFN ⟨2, ui, ur, us⟩) (toFN ⟨2, vi, vr, vs⟩)) c) := hfr
    have HBh : Hid (Below w5.heap.size w5 wh) := HBg.out.trans (hbh.mono hsg)
    have hsh : w5.heap.size ≤ wh.heap.size := HBh.out.size
    clear hfr hbh
    go_wp2_with fail
    refine (realV_any c _).mono ?_
    rintro e wi ⟨rfl, hbi⟩
    have HBi : Hid (Below w5.heap.size w5 wi) := HBh.out.trans (hbi.mono hsh)
    clear hbi
    rw [norm_fRes HFR.out]
    obtain ⟨u, hu⟩ : ∃ u, realR (FloatKind.f64.format.add (toFN ⟨2, ui, ur, us⟩) (toFN ⟨2, vi, vr, vs⟩)) = u := ⟨_, rfl⟩
    rw [hu]
    have HUU : Hid (realR (FloatKind.f64.format.add (toFN ⟨2, ui, ur, us⟩) (toFN ⟨2, vi, vr, vs⟩)) = u) := hu
    clear hu
    unfold V.val
    go_wp2_with (refine wpList_put (ty := 100) (g := w.heap.size + 2) rfl rfl rfl rfl size100 (by kernel_rfl) (by obtain ⟨z, h1, h2⟩ := HR5.out; exact ⟨z, (HBi.out.block _ (by omega)).trans h1, h2⟩) ?_; intro wz hz kz sz; have HNZ : Hid (wz.heap[w.heap.size + 2]? = some (.cells #[.int .u8 u.k, .int .i64 u.i, .float .f64 u.r, .string u.s] 100 (0, 0))) := hz; have HKZ : Hid (Keep (fun k => k ≠ w.heap.size + 2) wi wz) := kz; clear hz kz sz)
    refine bodyPost_ret (results_cell_row rfl _ _ _ _ _ _ _ rfl HNZ.out Yaed.underlying100 rfl size100) rfl ⟨by rw [← HRES.out]; rw [addV, HU.out, HV.out, ← HUU.out]; rfl, ?_⟩
    exact HBW.out.trans ((HBi.out.mono (by omega)).trans (HKZ.out.below (fun k hk => by show k ≠ w.heap.size + 2; omega)))
  · go_wp2_with fail
    refine (number_any ⟨2, ui, ur, us⟩ _).mono ?_
    rintro e w6 ⟨rfl, hb6⟩
    rw [show numB 2 = true from rfl]
    have HB6 : Hid (Below w5.heap.size w5 w6) := hb6
    have hs6 := hb6.size
    clear hb6
    replace r20 : w6.cell? ⟨w.heap.size + 1, 0, none⟩ = some (.int .u8 3) := by rw [HB6.out.cell (p := ⟨w.heap.size + 1, _, none⟩) (by show w.heap.size + 1 < w5.heap.size; omega)]; exact r20
    replace r21 : w6.cell? ⟨w.heap.size + 1, 1, none⟩ = some (.int .i64 vi) := by rw [HB6.out.cell (p := ⟨w.heap.size + 1, _, none⟩) (by show w.heap.size + 1 < w5.heap.size; omega)]; exact r21
    replace r22 : w6.cell? ⟨w.heap.size + 1, 2, none⟩ = some (.float .f64 vr) := by rw [HB6.out.cell (p := ⟨w.heap.size + 1, _, none⟩) (by show w.heap.size + 1 < w5.heap.size; omega)]; exact r22
    replace r23 : w6.cell? ⟨w.heap.size + 1, 3, none⟩ = some (.string vs) := by rw [HB6.out.cell (p := ⟨w.heap.size + 1, _, none⟩) (by show w.heap.size + 1 < w5.heap.size; omega)]; exact r23
    go_wp2_with fail
    refine (number_any ⟨3, vi, vr, vs⟩ _).mono ?_
    rintro e w7 ⟨rfl, hb7⟩
    rw [show numB 3 = false from rfl]
    have HB76 : Hid (Below w6.heap.size w6 w7) := hb7
    have HB7 : Hid (Below w5.heap.size w5 w7) := HB6.out.trans (hb7.mono hs6)
    have hs7 : w5.heap.size ≤ w7.heap.size := HB7.out.size
    clear hb7
    go_wp2_with (refine wpList_put (ty := 100) (g := w.heap.size + 2) rfl rfl rfl rfl size100 (by kernel_rfl) (by obtain ⟨z, h1, h2⟩ := HR5.out; exact ⟨z, (HB7.out.block _ (by omega)).trans h1, h2⟩) ?_; intro wz hz kz sz; have HNZ : Hid (wz.heap[w.heap.size + 2]? = some (.cells #[.int .u8 0, .int .i64 0, .float .f64 0, .string ⟨#[]⟩] 100 (0, 0))) := hz; have HKZ : Hid (Keep (fun k => k ≠ w.heap.size + 2) w7 wz) := kz; clear hz kz sz)
    refine bodyPost_ret (results_cell_row rfl _ _ _ _ _ _ _ rfl HNZ.out Yaed.underlying100 rfl size100) rfl ⟨by rw [← HRES.out]; rw [addV, HU.out, HV.out]; rfl, ?_⟩
    exact HBW.out.trans ((HB7.out.mono (by omega)).trans (HKZ.out.below (fun k hk => by show k ≠ w.heap.size + 2; omega)))
  · go_wp2_with fail
    refine (number_any ⟨3, ui, ur, us⟩ _).mono ?_
    rintro e w6 ⟨rfl, hb6⟩
    rw [show numB 3 = false from rfl]
    have HB6 : Hid (Below w5.heap.size w5 w6) := hb6
    have hs6 := hb6.size
    clear hb6
    go_wp2_with (refine wpList_put (ty := 100) (g := w.heap.size + 2) rfl rfl rfl rfl size100 (by kernel_rfl) (by obtain ⟨z, h1, h2⟩ := HR5.out; exact ⟨z, (HB6.out.block _ (by omega)).trans h1, h2⟩) ?_; intro wz hz kz sz; have HNZ : Hid (wz.heap[w.heap.size + 2]? = some (.cells #[.int .u8 0, .int .i64 0, .float .f64 0, .string ⟨#[]⟩] 100 (0, 0))) := hz; have HKZ : Hid (Keep (fun k => k ≠ w.heap.size + 2) w6 wz) := kz; clear hz kz sz)
    refine bodyPost_ret (results_cell_row rfl _ _ _ _ _ _ _ rfl HNZ.out Yaed.underlying100 rfl size100) rfl ⟨by rw [← HRES.out]; rw [addV, HU.out, HV.out]; rfl, ?_⟩
    exact HBW.out.trans ((HB6.out.mono (by omega)).trans (HKZ.out.below (fun k hk => by show k ≠ w.heap.size + 2; omega)))
  · go_wp2_with fail
    refine (number_any ⟨3, ui, ur, us⟩ _).mono ?_
    rintro e w6 ⟨rfl, hb6⟩
    rw [show numB 3 = false from rfl]
    have HB6 : Hid (Below w5.heap.size w5 w6) := hb6
    have hs6 := hb6.size
    clear hb6
    go_wp2_with (refine wpList_put (ty := 100) (g := w.heap.size + 2) rfl rfl rfl rfl size100 (by kernel_rfl) (by obtain ⟨z, h1, h2⟩ := HR5.out; exact ⟨z, (HB6.out.block _ (by omega)).trans h1, h2⟩) ?_; intro wz hz kz sz; have HNZ : Hid (wz.heap[w.heap.size + 2]? = some (.cells #[.int .u8 0, .int .i64 0, .float .f64 0, .string ⟨#[]⟩] 100 (0, 0))) := hz; have HKZ : Hid (Keep (fun k => k ≠ w.heap.size + 2) w6 wz) := kz; clear hz kz sz)
    refine bodyPost_ret (results_cell_row rfl _ _ _ _ _ _ _ rfl HNZ.out Yaed.underlying100 rfl size100) rfl ⟨by rw [← HRES.out]; rw [addV, HU.out, HV.out]; rfl, ?_⟩
    exact HBW.out.trans ((HB6.out.mono (by omega)).trans (HKZ.out.below (fun k hk => by show k ≠ w.heap.size + 2; omega)))
  · go_wp2_with fail
    refine (number_any ⟨3, ui, ur, us⟩ _).mono ?_
    rintro e w6 ⟨rfl, hb6⟩
    rw [show numB 3 = false from rfl]
    have HB6 : Hid (Below w5.heap.size w5 w6) := hb6
    have hs6 := hb6.size
    clear hb6
    go_wp2_with (refine wpList_put (ty := 100) (g := w.heap.size + 2) rfl rfl rfl rfl size100 (by kernel_rfl) (by obtain ⟨z, h1, h2⟩ := HR5.out; exact ⟨z, (HB6.out.block _ (by omega)).trans h1, h2⟩) ?_; intro wz hz kz sz; have HNZ : Hid (wz.heap[w.heap.size + 2]? = some (.cells #[.int .u8 0, .int .i64 0, .float .f64 0, .string ⟨#[]⟩] 100 (0, 0))) := hz; have HKZ : Hid (Keep (fun k => k ≠ w.heap.size + 2) w6 wz) := kz; clear hz kz sz)
    refine bodyPost_ret (results_cell_row rfl _ _ _ _ _ _ _ rfl HNZ.out Yaed.underlying100 rfl size100) rfl ⟨by rw [← HRES.out]; rw [addV, HU.out, HV.out]; rfl, ?_⟩
    exact HBW.out.trans ((HB6.out.mono (by omega)).trans (HKZ.out.below (fun k hk => by show k ≠ w.heap.size + 2; omega)))
  · go_wp2_with fail
    refine (number_any ⟨3, ui, ur, us⟩ _).mono ?_
    rintro e w6 ⟨rfl, hb6⟩
    rw [show numB 3 = false from rfl]
    have HB6 : Hid (Below w5.heap.size w5 w6) := hb6
    have hs6 := hb6.size
    clear hb6
    go_wp2_with (refine wpList_put (ty := 100) (g := w.heap.size + 2) rfl rfl rfl rfl size100 (by kernel_rfl) (by obtain ⟨z, h1, h2⟩ := HR5.out; exact ⟨z, (HB6.out.block _ (by omega)).trans h1, h2⟩) ?_; intro wz hz kz sz; have HNZ : Hid (wz.heap[w.heap.size + 2]? = some (.cells #[.int .u8 0, .int .i64 0, .float .f64 0, .string ⟨#[]⟩] 100 (0, 0))) := hz; have HKZ : Hid (Keep (fun k => k ≠ w.heap.size + 2) w6 wz) := kz; clear hz kz sz)
    refine bodyPost_ret (results_cell_row rfl _ _ _ _ _ _ _ rfl HNZ.out Yaed.underlying100 rfl size100) rfl ⟨by rw [← HRES.out]; rw [addV, HU.out, HV.out]; rfl, ?_⟩
    exact HBW.out.trans ((HB6.out.mono (by omega)).trans (HKZ.out.below (fun k hk => by show k ≠ w.heap.size + 2; omega)))
end Go.Proofs.YgdaegDoor
