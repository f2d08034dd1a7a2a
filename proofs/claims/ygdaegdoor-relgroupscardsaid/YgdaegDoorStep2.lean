import Derived.Test.YgdaegDoorStep
namespace Go.Proofs.YgdaegDoor
open Go.RowKit
set_option linter.unusedSimpArgs false
set_option linter.unusedVariables false
set_option maxRecDepth 20000 in
set_option maxHeartbeats 2000000 in
theorem step_min (a v : V) (hvk : v.k = 0 ∨ v.k = 1 ∨ v.k = 2 ∨ v.k = 3) (n : Nat) (hn : n < 1000) (w : World) : Calls Yaed.prog 241 #[.string minS, a.val, .int .i64 n, v.val] w fun r w' => r = .returned (.tuple #[(stMin a n v).1.val, .int .i64 ((stMin a n v).2 : Nat)]) ∧ Below w.heap.size w w' := by
  have hw1 : IntKind.i64.wrap ((n : Int) + 1) = n + 1 := IntWalk.i64_in _ (by omega)
  obtain ⟨⟨ra, rn⟩, hres⟩ : ∃ p, stMin a n v = p := ⟨_, rfl⟩
  rw [hres]
  obtain ⟨vk, vi, vr, vs⟩ := v
  have HRES : Hid (stMin a n ⟨vk, vi, vr, vs⟩ = (ra, rn)) := hres
  clear hres
  have HVK : Hid (vk = 0 ∨ vk = 1 ∨ vk = 2 ∨ vk = 3) := hvk
  clear hvk
  unfold V.val
  go_enter Yaed.func241, Yaed.ntmps241
  go_upto_region 1 with fail
  generalize hw0 : World.alloc (World.alloc (World.alloc _ _) _) _ = w0
  have HBW : Hid (Below w.heap.size w w0) := by rw [← hw0]; exact (below_alloc _ _).trans (((below_alloc _ _).mono (by simp)).trans ((below_alloc _ _).mono (by simp; omega)))
  have HN1 : Hid (w0.heap[w.heap.size]? = some (.cells #[.int .u8 a.k, .int .i64 a.i, .float .f64 a.r, .string a.s] 100 (0, 0))) := by rw [← hw0]; exact (heap_old (by simp; omega)).trans ((heap_old (by simp)).trans (heap_new rfl))
  have HN2 : Hid (w0.heap[w.heap.size + 1]? = some (.cells #[.int .u8 vk, .int .i64 vi, .float .f64 vr, .string vs] 100 (0, 0))) := by rw [← hw0]; exact (heap_old (by simp)).trans (heap_new (by simp))
  have HR2 : Hid (∃ z, w0.heap[w.heap.size + 2]? = some (.cells z 100 (0, 0)) ∧ z.size = 4) := by rw [← hw0]; exact ⟨_, heap_new (by simp), rfl⟩
  have hs0 : w.heap.size + 3 ≤ w0.heap.size := by rw [← hw0]; simp
  clear hw0
  have HBc : Hid (Below w0.heap.size w0 w0) := Below.refl _ _
  have r0 : w0.cell? ⟨w.heap.size + 1, 0, none⟩ = some (.int .u8 vk) := cell_of_row w0 _ 0 _ _ _ HN2.out
  rcases HVK.out with h | h | h | h <;> subst h
  · clear HVK; go_wp2_with (first | (first | (refine wpList_get (ty := 100) _ rfl rfl rfl Yaed.underlying100 rfl ((HBc.out.block _ (by omega)).trans HN1.out) size100 ?_) | (refine wpList_get (ty := 100) _ rfl rfl rfl Yaed.underlying100 rfl ((HBc.out.block _ (by omega)).trans HN2.out) size100 ?_)) | (refine wpList_put (ty := 100) (g := w.heap.size + 2) rfl rfl rfl rfl size100 (by kernel_rfl) (by obtain ⟨z, h1, h2⟩ := HR2.out; exact ⟨z, (HBc.out.block _ (by omega)).trans h1, h2⟩) ?_; intro wz hz kz sz; have HNZ : Hid (wz.heap[w.heap.size + 2]? = some (.cells #[.int .u8 (V.k a), .int .i64 (V.i a), .float .f64 (V.r a), .string (V.s a)] 100 (0, 0))) := hz; have HKZ : Hid (Keep (fun k => k ≠ w.heap.size + 2) _ wz) := kz; clear hz kz sz)); (refine bodyPost_ret (results_cell2 rfl _ _ _ _ _ _ _ rfl HNZ.out Yaed.underlying100 rfl size100) rfl ⟨by have h := HRES.out; (rw [stMin] at h); cases h; rfl, HBW.out.trans ((HBc.out.mono (by omega)).trans (HKZ.out.below (fun k hk => by show k ≠ w.heap.size + 2; omega)))⟩)
  · clear HVK
    by_cases hn0 : n = 0
    · subst hn0
      go_wp2_with (first | (first | (refine wpList_get (ty := 100) _ rfl rfl rfl Yaed.underlying100 rfl ((HBc.out.block _ (by omega)).trans HN1.out) size100 ?_) | (refine wpList_get (ty := 100) _ rfl rfl rfl Yaed.underlying100 rfl ((HBc.out.block _ (by omega)).trans HN2.out) size100 ?_)) | (refine wpList_put (ty := 100) (g := w.heap.size + 2) rfl rfl rfl rfl size100 (by kernel_rfl) (by obtain ⟨z, h1, h2⟩ := HR2.out; exact ⟨z, (HBc.out.block _ (by omega)).trans h1, h2⟩) ?_; intro wz hz kz sz; have HNZ : Hid (wz.heap[w.heap.size + 2]? = some (.cells #[.int .u8 (V.k ⟨1, vi, vr, vs⟩), .int .i64 (V.i ⟨1, vi, vr, vs⟩), .float .f64 (V.r ⟨1, vi, vr, vs⟩), .string (V.s ⟨1, vi, vr, vs⟩)] 100 (0, 0))) := hz; have HKZ : Hid (Keep (fun k => k ≠ w.heap.size + 2) _ wz) := kz; clear hz kz sz))
      (refine bodyPost_ret (results_cell2 rfl _ _ _ _ _ _ _ rfl HNZ.out Yaed.underlying100 rfl size100) rfl ⟨by have h := HRES.out; (rw [stMin] at h); cases h; rfl, HBW.out.trans ((HBc.out.mono (by omega)).trans (HKZ.out.below (fun k hk => by show k ≠ w.heap.size + 2; omega)))⟩)
    · have hn1 : ((n : Int) == 0) = false := by simpa using hn0
      have HN0 : Hid ((n == 0) = false) := (show (n == 0) = false by simpa using hn0)
      clear hn0
      have r1 : w0.cell? ⟨w.heap.size + 1, 1, none⟩ = some (.int .i64 vi) := cell_of_row w0 _ 1 _ _ _ HN2.out
      have r2 : w0.cell? ⟨w.heap.size + 1, 2, none⟩ = some (.float .f64 vr) := cell_of_row w0 _ 2 _ _ _ HN2.out
      have r3 : w0.cell? ⟨w.heap.size + 1, 3, none⟩ = some (.string vs) := cell_of_row w0 _ 3 _ _ _ HN2.out
      have q0 : w0.cell? ⟨w.heap.size, 0, none⟩ = some (.int .u8 a.k) := cell_of_row w0 _ 0 _ _ _ HN1.out
      have q1 : w0.cell? ⟨w.heap.size, 1, none⟩ = some (.int .i64 a.i) := cell_of_row w0 _ 1 _ _ _ HN1.out
      have q2 : w0.cell? ⟨w.heap.size, 2, none⟩ = some (.float .f64 a.r) := cell_of_row w0 _ 2 _ _ _ HN1.out
      have q3 : w0.cell? ⟨w.heap.size, 3, none⟩ = some (.string a.s) := cell_of_row w0 _ 3 _ _ _ HN1.out
      go_wp2_with fail
      clear r1 r2 r3 q0 q1 q2 q3
      refine (compare_any ⟨1, vi, vr, vs⟩ a _).mono ?_
      rintro e w1 ⟨rfl, hb1⟩
      have HBc : Hid (Below w0.heap.size w0 w1) := hb1
      have hs1 := hb1.size
      replace r0 : w1.cell? ⟨w.heap.size + 1, 0, none⟩ = some (.int .u8 1) := by rw [hb1.cell (p := ⟨w.heap.size + 1, _, none⟩) (by show w.heap.size + 1 < w0.heap.size; omega)]; exact r0
      clear hb1
      obtain ⟨c, hc⟩ : ∃ c, cmpV ⟨1, vi, vr, vs⟩ a = c := ⟨_, rfl⟩
      rw [hc]
      have HC : Hid (cmpV ⟨1, vi, vr, vs⟩ a = c) := hc
      clear hc
      by_cases hcc : c < 0
      · have HCC : Hid (c < 0) := hcc
        go_wp2_with (first | (first | (refine wpList_get (ty := 100) _ rfl rfl rfl Yaed.underlying100 rfl ((HBc.out.block _ (by omega)).trans HN1.out) size100 ?_) | (refine wpList_get (ty := 100) _ rfl rfl rfl Yaed.underlying100 rfl ((HBc.out.block _ (by omega)).trans HN2.out) size100 ?_)) | (refine wpList_put (ty := 100) (g := w.heap.size + 2) rfl rfl rfl rfl size100 (by kernel_rfl) (by obtain ⟨z, h1, h2⟩ := HR2.out; exact ⟨z, (HBc.out.block _ (by omega)).trans h1, h2⟩) ?_; intro wz hz kz sz; have HNZ : Hid (wz.heap[w.heap.size + 2]? = some (.cells #[.int .u8 (V.k ⟨1, vi, vr, vs⟩), .int .i64 (V.i ⟨1, vi, vr, vs⟩), .float .f64 (V.r ⟨1, vi, vr, vs⟩), .string (V.s ⟨1, vi, vr, vs⟩)] 100 (0, 0))) := hz; have HKZ : Hid (Keep (fun k => k ≠ w.heap.size + 2) _ wz) := kz; clear hz kz sz))
        (refine bodyPost_ret (results_cell2 rfl _ _ _ _ _ _ _ rfl HNZ.out Yaed.underlying100 rfl size100) rfl ⟨by have h := HRES.out; (rw [stMin, HN0.out, HC.out, decide_eq_true HCC.out] at h); cases h; rfl, HBW.out.trans ((HBc.out.mono (by omega)).trans (HKZ.out.below (fun k hk => by show k ≠ w.heap.size + 2; omega)))⟩)
      · have HCC : Hid ((c < 0) = False) := eq_false hcc
        go_wp2_with (first | (first | (refine wpList_get (ty := 100) _ rfl rfl rfl Yaed.underlying100 rfl ((HBc.out.block _ (by omega)).trans HN1.out) size100 ?_) | (refine wpList_get (ty := 100) _ rfl rfl rfl Yaed.underlying100 rfl ((HBc.out.block _ (by omega)).trans HN2.out) size100 ?_)) | (refine wpList_put (ty := 100) (g := w.heap.size + 2) rfl rfl rfl rfl size100 (by kernel_rfl) (by obtain ⟨z, h1, h2⟩ := HR2.out; exact ⟨z, (HBc.out.block _ (by omega)).trans h1, h2⟩) ?_; intro wz hz kz sz; have HNZ : Hid (wz.heap[w.heap.size + 2]? = some (.cells #[.int .u8 (V.k a), .int .i64 (V.i a), .float .f64 (V.r a), .string (V.s a)] 100 (0, 0))) := hz; have HKZ : Hid (Keep (fun k => k ≠ w.heap.size + 2) _ wz) := kz; clear hz kz sz))
        (refine bodyPost_ret (results_cell2 rfl _ _ _ _ _ _ _ rfl HNZ.out Yaed.underlying100 rfl size100) rfl ⟨by have h := HRES.out; (rw [stMin, HN0.out, HC.out, decide_eq_false (of_eq_false HCC.out)] at h); cases h; rfl, HBW.out.trans ((HBc.out.mono (by omega)).trans (HKZ.out.below (fun k hk => by show k ≠ w.heap.size + 2; omega)))⟩)
  · clear HVK
    by_cases hn0 : n = 0
    · subst hn0
      go_wp2_with (first | (first | (refine wpList_get (ty := 100) _ rfl rfl rfl Yaed.underlying100 rfl ((HBc.out.block _ (by omega)).trans HN1.out) size100 ?_) | (refine wpList_get (ty := 100) _ rfl rfl rfl Yaed.underlying100 rfl ((HBc.out.block _ (by omega)).trans HN2.out) size100 ?_)) | (refine wpList_put (ty := 100) (g := w.heap.size + 2) rfl rfl rfl rfl size100 (by kernel_rfl) (by obtain ⟨z, h1, h2⟩ := HR2.out; exact ⟨z, (HBc.out.block _ (by omega)).trans h1, h2⟩) ?_; intro wz hz kz sz; have HNZ : Hid (wz.heap[w.heap.size + 2]? = some (.cells #[.int .u8 (V.k ⟨2, vi, vr, vs⟩), .int .i64 (V.i ⟨2, vi, vr, vs⟩), .float .f64 (V.r ⟨2, vi, vr, vs⟩), .string (V.s ⟨2, vi, vr, vs⟩)] 100 (0, 0))) := hz; have HKZ : Hid (Keep (fun k => k ≠ w.heap.size + 2) _ wz) := kz; clear hz kz sz))
      (refine bodyPost_ret (results_cell2 rfl _ _ _ _ _ _ _ rfl HNZ.out Yaed.underlying100 rfl size100) rfl ⟨by have h := HRES.out; (rw [stMin] at h); cases h; rfl, HBW.out.trans ((HBc.out.mono (by omega)).trans (HKZ.out.below (fun k hk => by show k ≠ w.heap.size + 2; omega)))⟩)
    · have hn1 : ((n : Int) == 0) = false := by simpa using hn0
      have HN0 : Hid ((n == 0) = false) := (show (n == 0) = false by simpa using hn0)
      clear hn0
      have r1 : w0.cell? ⟨w.heap.size + 1, 1, none⟩ = some (.int .i64 vi) := cell_of_row w0 _ 1 _ _ _ HN2.out
      have r2 : w0.cell? ⟨w.heap.size + 1, 2, none⟩ = some (.float .f64 vr) := cell_of_row w0 _ 2 _ _ _ HN2.out
      have r3 : w0.cell? ⟨w.heap.size + 1, 3, none⟩ = some (.string vs) := cell_of_row w0 _ 3 _ _ _ HN2.out
      have q0 : w0.cell? ⟨w.heap.size, 0, none⟩ = some (.int .u8 a.k) := cell_of_row w0 _ 0 _ _ _ HN1.out
      have q1 : w0.cell? ⟨w.heap.size, 1, none⟩ = some (.int .i64 a.i) := cell_of_row w0 _ 1 _ _ _ HN1.out
      have q2 : w0.cell? ⟨w.heap.size, 2, none⟩ = some (.float .f64 a.r) := cell_of_row w0 _ 2 _ _ _ HN1.out
      have q3 : w0.cell? ⟨w.heap.size, 3, none⟩ = some (.string a.s) := cell_of_row w0 _ 3 _ _ _ HN1.out
      go_wp2_with fail
      clear r1 r2 r3 q0 q1 q2 q3
      refine (compare_any ⟨2, vi, vr, vs⟩ a _).mono ?_
      rintro e w1 ⟨rfl, hb1⟩
      have HBc : Hid (Below w0.heap.size w0 w1) := hb1
      have hs1 := hb1.size
      replace r0 : w1.cell? ⟨w.heap.size + 1, 0, none⟩ = some (.int .u8 2) := by rw [hb1.cell (p := ⟨w.heap.size + 1, _, none⟩) (by show w.heap.size + 1 < w0.heap.size; omega)]; exact r0
      clear hb1
      obtain ⟨c, hc⟩ : ∃ c, cmpV ⟨2, vi, vr, vs⟩ a = c := ⟨_, rfl⟩
      rw [hc]
      have HC : Hid (cmpV ⟨2, vi, vr, vs⟩ a = c) := hc
      clear hc
      by_cases hcc : c < 0
      · have HCC : Hid (c < 0) := hcc
        go_wp2_with (first | (first | (refine wpList_get (ty := 100) _ rfl rfl rfl Yaed.underlying100 rfl ((HBc.out.block _ (by omega)).trans HN1.out) size100 ?_) | (refine wpList_get (ty := 100) _ rfl rfl rfl Yaed.underlying100 rfl ((HBc.out.block _ (by omega)).trans HN2.out) size100 ?_)) | (refine wpList_put (ty := 100) (g := w.heap.size + 2) rfl rfl rfl rfl size100 (by kernel_rfl) (by obtain ⟨z, h1, h2⟩ := HR2.out; exact ⟨z, (HBc.out.block _ (by omega)).trans h1, h2⟩) ?_; intro wz hz kz sz; have HNZ : Hid (wz.heap[w.heap.size + 2]? = some (.cells #[.int .u8 (V.k ⟨2, vi, vr, vs⟩), .int .i64 (V.i ⟨2, vi, vr, vs⟩), .float .f64 (V.r ⟨2, vi, vr, vs⟩), .string (V.s ⟨2, vi, vr, vs⟩)] 100 (0, 0))) := hz; have HKZ : Hid (Keep (fun k => k ≠ w.heap.size + 2) _ wz) := kz; clear hz kz sz))
        (refine bodyPost_ret (results_cell2 rfl _ _ _ _ _ _ _ rfl HNZ.out Yaed.underlying100 rfl size100) rfl ⟨by have h := HRES.out; (rw [stMin, HN0.out, HC.out, decide_eq_true HCC.out] at h); cases h; rfl, HBW.out.trans ((HBc.out.mono (by omega)).trans (HKZ.out.below (fun k hk => by show k ≠ w.heap.size + 2; omega)))⟩)
      · have HCC : Hid ((c < 0) = False) := eq_false hcc
        go_wp2_with (first | (first | (refine wpList_get (ty := 100) _ rfl rfl rfl Yaed.underlying100 rfl ((HBc.out.block _ (by omega)).trans HN1.out) size100 ?_) | (refine wpList_get (ty := 100) _ rfl rfl rfl Yaed.underlying100 rfl ((HBc.out.block _ (by omega)).trans HN2.out) size100 ?_)) | (refine wpList_put (ty := 100) (g := w.heap.size + 2) rfl rfl rfl rfl size100 (by kernel_rfl) (by obtain ⟨z, h1, h2⟩ := HR2.out; exact ⟨z, (HBc.out.block _ (by omega)).trans h1, h2⟩) ?_; intro wz hz kz sz; have HNZ : Hid (wz.heap[w.heap.size + 2]? = some (.cells #[.int .u8 (V.k a), .int .i64 (V.i a), .float .f64 (V.r a), .string (V.s a)] 100 (0, 0))) := hz; have HKZ : Hid (Keep (fun k => k ≠ w.heap.size + 2) _ wz) := kz; clear hz kz sz))
        (refine bodyPost_ret (results_cell2 rfl _ _ _ _ _ _ _ rfl HNZ.out Yaed.underlying100 rfl size100) rfl ⟨by have h := HRES.out; (rw [stMin, HN0.out, HC.out, decide_eq_false (of_eq_false HCC.out)] at h); cases h; rfl, HBW.out.trans ((HBc.out.mono (by omega)).trans (HKZ.out.below (fun k hk => by show k ≠ w.heap.size + 2; omega)))⟩)
  · clear HVK
    by_cases hn0 : n = 0
    · subst hn0
      go_wp2_with (first | (first | (refine wpList_get (ty := 100) _ rfl rfl rfl Yaed.underlying100 rfl ((HBc.out.block _ (by omega)).trans HN1.out) size100 ?_) | (refine wpList_get (ty := 100) _ rfl rfl rfl Yaed.underlying100 rfl ((HBc.out.block _ (by omega)).trans HN2.out) size100 ?_)) | (refine wpList_put (ty := 100) (g := w.heap.size + 2) rfl rfl rfl rfl size100 (by kernel_rfl) (by obtain ⟨z, h1, h2⟩ := HR2.out; exact ⟨z, (HBc.out.block _ (by omega)).trans h1, h2⟩) ?_; intro wz hz kz sz; have HNZ : Hid (wz.heap[w.heap.size + 2]? = some (.cells #[.int .u8 (V.k ⟨3, vi, vr, vs⟩), .int .i64 (V.i ⟨3, vi, vr, vs⟩), .float .f64 (V.r ⟨3, vi, vr, vs⟩), .string (V.s ⟨3, vi, vr, vs⟩)] 100 (0, 0))) := hz; have HKZ : Hid (Keep (fun k => k ≠ w.heap.size + 2) _ wz) := kz; clear hz kz sz))
      (refine bodyPost_ret (results_cell2 rfl _ _ _ _ _ _ _ rfl HNZ.out Yaed.underlying100 rfl size100) rfl ⟨by have h := HRES.out; (rw [stMin] at h); cases h; rfl, HBW.out.trans ((HBc.out.mono (by omega)).trans (HKZ.out.below (fun k hk => by show k ≠ w.heap.size + 2; omega)))⟩)
    · have hn1 : ((n : Int) == 0) = false := by simpa using hn0
      have HN0 : Hid ((n == 0) = false) := (show (n == 0) = false by simpa using hn0)
      clear hn0
      have r1 : w0.cell? ⟨w.heap.size + 1, 1, none⟩ = some (.int .i64 vi) := cell_of_row w0 _ 1 _ _ _ HN2.out
      have r2 : w0.cell? ⟨w.heap.size + 1, 2, none⟩ = some (.float .f64 vr) := cell_of_row w0 _ 2 _ _ _ HN2.out
      have r3 : w0.cell? ⟨w.heap.size + 1, 3, none⟩ = some (.string vs) := cell_of_row w0 _ 3 _ _ _ HN2.out
      have q0 : w0.cell? ⟨w.heap.size, 0, none⟩ = some (.int .u8 a.k) := cell_of_row w0 _ 0 _ _ _ HN1.out
      have q1 : w0.cell? ⟨w.heap.size, 1, none⟩ = some (.int .i64 a.i) := cell_of_row w0 _ 1 _ _ _ HN1.out
      have q2 : w0.cell? ⟨w.heap.size, 2, none⟩ = some (.float .f64 a.r) := cell_of_row w0 _ 2 _ _ _ HN1.out
      have q3 : w0.cell? ⟨w.heap.size, 3, none⟩ = some (.string a.s) := cell_of_row w0 _ 3 _ _ _ HN1.out
      go_wp2_with fail
      clear r1 r2 r3 q0 q1 q2 q3
      refine (compare_any ⟨3, vi, vr, vs⟩ a _).mono ?_
      rintro e w1 ⟨rfl, hb1⟩
      have HBc : Hid (Below w0.heap.size w0 w1) := hb1
      have hs1 := hb1.size
      replace r0 : w1.cell? ⟨w.heap.size + 1, 0, none⟩ = some (.int .u8 3) := by rw [hb1.cell (p := ⟨w.heap.size + 1, _, none⟩) (by show w.heap.size + 1 < w0.heap.size; omega)]; exact r0
      clear hb1
      obtain ⟨c, hc⟩ : ∃ c, cmpV ⟨3, vi, vr, vs⟩ a = c := ⟨_, rfl⟩
      rw [hc]
      have HC : Hid (cmpV ⟨3, vi, vr, vs⟩ a = c) := hc
      clear hc
      by_cases hcc : c < 0
      · have HCC : Hid (c < 0) := hcc
        go_wp2_with (first | (first | (refine wpList_get (ty := 100) _ rfl rfl rfl Yaed.underlying100 rfl ((HBc.out.block _ (by omega)).trans HN1.out) size100 ?_) | (refine wpList_get (ty := 100) _ rfl rfl rfl Yaed.underlying100 rfl ((HBc.out.block _ (by omega)).trans HN2.out) size100 ?_)) | (refine wpList_put (ty := 100) (g := w.heap.size + 2) rfl rfl rfl rfl size100 (by kernel_rfl) (by obtain ⟨z, h1, h2⟩ := HR2.out; exact ⟨z, (HBc.out.block _ (by omega)).trans h1, h2⟩) ?_; intro wz hz kz sz; have HNZ : Hid (wz.heap[w.heap.size + 2]? = some (.cells #[.int .u8 (V.k ⟨3, vi, vr, vs⟩), .int .i64 (V.i ⟨3, vi, vr, vs⟩), .float .f64 (V.r ⟨3, vi, vr, vs⟩), .string (V.s ⟨3, vi, vr, vs⟩)] 100 (0, 0))) := hz; have HKZ : Hid (Keep (fun k => k ≠ w.heap.size + 2) _ wz) := kz; clear hz kz sz))
        (refine bodyPost_ret (results_cell2 rfl _ _ _ _ _ _ _ rfl HNZ.out Yaed.underlying100 rfl size100) rfl ⟨by have h := HRES.out; (rw [stMin, HN0.out, HC.out, decide_eq_true HCC.out] at h); cases h; rfl, HBW.out.trans ((HBc.out.mono (by omega)).trans (HKZ.out.below (fun k hk => by show k ≠ w.heap.size + 2; omega)))⟩)
      · have HCC : Hid ((c < 0) = False) := eq_false hcc
        go_wp2_with (first | (first | (refine wpList_get (ty := 100) _ rfl rfl rfl Yaed.underlying100 rfl ((HBc.out.block _ (by omega)).trans HN1.out) size100 ?_) | (refine wpList_get (ty := 100) _ rfl rfl rfl Yaed.underlying100 rfl ((HBc.out.block _ (by omega)).trans HN2.out) size100 ?_)) | (refine wpList_put (ty := 100) (g := w.heap.size + 2) rfl rfl rfl rfl size100 (by kernel_rfl) (by obtain ⟨z, h1, h2⟩ := HR2.out; exact ⟨z, (HBc.out.block _ (by omega)).trans h1, h2⟩) ?_; intro wz hz kz sz; have HNZ : Hid (wz.heap[w.heap.size + 2]? = some (.cells #[.int .u8 (V.k a), .int .i64 (V.i a), .float .f64 (V.r a), .string (V.s a)] 100 (0, 0))) := hz; have HKZ : Hid (Keep (fun k => k ≠ w.heap.size + 2) _ wz) := kz; clear hz kz sz))
        (refine bodyPost_ret (results_cell2 rfl _ _ _ _ _ _ _ rfl HNZ.out Yaed.underlying100 rfl size100) rfl ⟨by have h := HRES.out; (rw [stMin, HN0.out, HC.out, decide_eq_false (of_eq_false HCC.out)] at h); cases h; rfl, HBW.out.trans ((HBc.out.mono (by omega)).trans (HKZ.out.below (fun k hk => by show k ≠ w.heap.size + 2; omega)))⟩)
set_option maxRecDepth 20000 in
set_option maxHeartbeats 2000000 in
theorem step_max (a v : V) (hvk : v.k = 0 ∨ v.k = 1 ∨ v.k = 2 ∨ v.k = 3) (n : Nat) (hn : n < 1000) (w : World) : Calls Yaed.prog 241 #[.string maxS, a.val, .int .i64 n, v.val] w fun r w' => r = .returned (.tuple #[(stMax a n v).1.val, .int .i64 ((stMax a n v).2 : Nat)]) ∧ Below w.heap.size w w' := by
  have hw1 : IntKind.i64.wrap ((n : Int) + 1) = n + 1 := IntWalk.i64_in _ (by omega)
  obtain ⟨⟨ra, rn⟩, hres⟩ : ∃ p, stMax a n v = p := ⟨_, rfl⟩
  rw [hres]
  obtain ⟨vk, vi, vr, vs⟩ := v
  have HRES : Hid (stMax a n ⟨vk, vi, vr, vs⟩ = (ra, rn)) := hres
  clear hres
  have HVK : Hid (vk = 0 ∨ vk = 1 ∨ vk = 2 ∨ vk = 3) := hvk
  clear hvk
  unfold V.val
  go_enter Yaed.func241, Yaed.ntmps241
  go_upto_region 1 with fail
  generalize hw0 : World.alloc (World.alloc (World.alloc _ _) _) _ = w0
  have HBW : Hid (Below w.heap.size w w0) := by rw [← hw0]; exact (below_alloc _ _).trans (((below_alloc _ _).mono (by simp)).trans ((below_alloc _ _).mono (by simp; omega)))
  have HN1 : Hid (w0.heap[w.heap.size]? = some (.cells #[.int .u8 a.k, .int .i64 a.i, .float .f64 a.r, .string a.s] 100 (0, 0))) := by rw [← hw0]; exact (heap_old (by simp; omega)).trans ((heap_old (by simp)).trans (heap_new rfl))
  have HN2 : Hid (w0.heap[w.heap.size + 1]? = some (.cells #[.int .u8 vk, .int .i64 vi, .float .f64 vr, .string vs] 100 (0, 0))) := by rw [← hw0]; exact (heap_old (by simp)).trans (heap_new (by simp))
  have HR2 : Hid (∃ z, w0.heap[w.heap.size + 2]? = some (.cells z 100 (0, 0)) ∧ z.size = 4) := by rw [← hw0]; exact ⟨_, heap_new (by simp), rfl⟩
  have hs0 : w.heap.size + 3 ≤ w0.heap.size := by rw [← hw0]; simp
  clear hw0
  have HBc : Hid (Below w0.heap.size w0 w0) := Below.refl _ _
  have r0 : w0.cell? ⟨w.heap.size + 1, 0, none⟩ = some (.int .u8 vk) := cell_of_row w0 _ 0 _ _ _ HN2.out
  rcases HVK.out with h | h | h | h <;> subst h
  · clear HVK; go_wp2_with (first | (first | (refine wpList_get (ty := 100) _ rfl rfl rfl Yaed.underlying100 rfl ((HBc.out.block _ (by omega)).trans HN1.out) size100 ?_) | (refine wpList_get (ty := 100) _ rfl rfl rfl Yaed.underlying100 rfl ((HBc.out.block _ (by omega)).trans HN2.out) size100 ?_)) | (refine wpList_put (ty := 100) (g := w.heap.size + 2) rfl rfl rfl rfl size100 (by kernel_rfl) (by obtain ⟨z, h1, h2⟩ := HR2.out; exact ⟨z, (HBc.out.block _ (by omega)).trans h1, h2⟩) ?_; intro wz hz kz sz; have HNZ : Hid (wz.heap[w.heap.size + 2]? = some (.cells #[.int .u8 (V.k a), .int .i64 (V.i a), .float .f64 (V.r a), .string (V.s a)] 100 (0, 0))) := hz; have HKZ : Hid (Keep (fun k => k ≠ w.heap.size + 2) _ wz) := kz; clear hz kz sz)); (refine bodyPost_ret (results_cell2 rfl _ _ _ _ _ _ _ rfl HNZ.out Yaed.underlying100 rfl size100) rfl ⟨by have h := HRES.out; (rw [stMax] at h); cases h; rfl, HBW.out.trans ((HBc.out.mono (by omega)).trans (HKZ.out.below (fun k hk => by show k ≠ w.heap.size + 2; omega)))⟩)
  · clear HVK
    by_cases hn0 : n = 0
    · subst hn0
      go_wp2_with (first | (first | (refine wpList_get (ty := 100) _ rfl rfl rfl Yaed.underlying100 rfl ((HBc.out.block _ (by omega)).trans HN1.out) size100 ?_) | (refine wpList_get (ty := 100) _ rfl rfl rfl Yaed.underlying100 rfl ((HBc.out.block _ (by omega)).trans HN2.out) size100 ?_)) | (refine wpList_put (ty := 100) (g := w.heap.size + 2) rfl rfl rfl rfl size100 (by kernel_rfl) (by obtain ⟨z, h1, h2⟩ := HR2.out; exact ⟨z, (HBc.out.block _ (by omega)).trans h1, h2⟩) ?_; intro wz hz kz sz; have HNZ : Hid (wz.heap[w.heap.size + 2]? = some (.cells #[.int .u8 (V.k ⟨1, vi, vr, vs⟩), .int .i64 (V.i ⟨1, vi, vr, vs⟩), .float .f64 (V.r ⟨1, vi, vr, vs⟩), .string (V.s ⟨1, vi, vr, vs⟩)] 100 (0, 0))) := hz; have HKZ : Hid (Keep (fun k => k ≠ w.heap.size + 2) _ wz) := kz; clear hz kz sz))
      (refine bodyPost_ret (results_cell2 rfl _ _ _ _ _ _ _ rfl HNZ.out Yaed.underlying100 rfl size100) rfl ⟨by have h := HRES.out; (rw [stMax] at h); cases h; rfl, HBW.out.trans ((HBc.out.mono (by omega)).trans (HKZ.out.below (fun k hk => by show k ≠ w.heap.size + 2; omega)))⟩)
    · have hn1 : ((n : Int) == 0) = false := by simpa using hn0
      have HN0 : Hid ((n == 0) = false) := (show (n == 0) = false by simpa using hn0)
      clear hn0
      have r1 : w0.cell? ⟨w.heap.size + 1, 1, none⟩ = some (.int .i64 vi) := cell_of_row w0 _ 1 _ _ _ HN2.out
      have r2 : w0.cell? ⟨w.heap.size + 1, 2, none⟩ = some (.float .f64 vr) := cell_of_row w0 _ 2 _ _ _ HN2.out
      have r3 : w0.cell? ⟨w.heap.size + 1, 3, none⟩ = some (.string vs) := cell_of_row w0 _ 3 _ _ _ HN2.out
      have q0 : w0.cell? ⟨w.heap.size, 0, none⟩ = some (.int .u8 a.k) := cell_of_row w0 _ 0 _ _ _ HN1.out
      have q1 : w0.cell? ⟨w.heap.size, 1, none⟩ = some (.int .i64 a.i) := cell_of_row w0 _ 1 _ _ _ HN1.out
      have q2 : w0.cell? ⟨w.heap.size, 2, none⟩ = some (.float .f64 a.r) := cell_of_row w0 _ 2 _ _ _ HN1.out
      have q3 : w0.cell? ⟨w.heap.size, 3, none⟩ = some (.string a.s) := cell_of_row w0 _ 3 _ _ _ HN1.out
      go_wp2_with fail
      clear r1 r2 r3 q0 q1 q2 q3
      refine (compare_any ⟨1, vi, vr, vs⟩ a _).mono ?_
      rintro e w1 ⟨rfl, hb1⟩
      have HBc : Hid (Below w0.heap.size w0 w1) := hb1
      have hs1 := hb1.size
      replace r0 : w1.cell? ⟨w.heap.size + 1, 0, none⟩ = some (.int .u8 1) := by rw [hb1.cell (p := ⟨w.heap.size + 1, _, none⟩) (by show w.heap.size + 1 < w0.heap.size; omega)]; exact r0
      clear hb1
      obtain ⟨c, hc⟩ : ∃ c, cmpV ⟨1, vi, vr, vs⟩ a = c := ⟨_, rfl⟩
      rw [hc]
      have HC : Hid (cmpV ⟨1, vi, vr, vs⟩ a = c) := hc
      clear hc
      by_cases hcc : 0 < c
      · have HCC : Hid (0 < c) := hcc
        go_wp2_with (first | (first | (refine wpList_get (ty := 100) _ rfl rfl rfl Yaed.underlying100 rfl ((HBc.out.block _ (by omega)).trans HN1.out) size100 ?_) | (refine wpList_get (ty := 100) _ rfl rfl rfl Yaed.underlying100 rfl ((HBc.out.block _ (by omega)).trans HN2.out) size100 ?_)) | (refine wpList_put (ty := 100) (g := w.heap.size + 2) rfl rfl rfl rfl size100 (by kernel_rfl) (by obtain ⟨z, h1, h2⟩ := HR2.out; exact ⟨z, (HBc.out.block _ (by omega)).trans h1, h2⟩) ?_; intro wz hz kz sz; have HNZ : Hid (wz.heap[w.heap.size + 2]? = some (.cells #[.int .u8 (V.k ⟨1, vi, vr, vs⟩), .int .i64 (V.i ⟨1, vi, vr, vs⟩), .float .f64 (V.r ⟨1, vi, vr, vs⟩), .string (V.s ⟨1, vi, vr, vs⟩)] 100 (0, 0))) := hz; have HKZ : Hid (Keep (fun k => k ≠ w.heap.size + 2) _ wz) := kz; clear hz kz sz))
        (refine bodyPost_ret (results_cell2 rfl _ _ _ _ _ _ _ rfl HNZ.out Yaed.underlying100 rfl size100) rfl ⟨by have h := HRES.out; (rw [stMax, HN0.out, HC.out, decide_eq_true HCC.out] at h); cases h; rfl, HBW.out.trans ((HBc.out.mono (by omega)).trans (HKZ.out.below (fun k hk => by show k ≠ w.heap.size + 2; omega)))⟩)
      · have HCC : Hid ((0 < c) = False) := eq_false hcc
        go_wp2_with (first | (first | (refine wpList_get (ty := 100) _ rfl rfl rfl Yaed.underlying100 rfl ((HBc.out.block _ (by omega)).trans HN1.out) size100 ?_) | (refine wpList_get (ty := 100) _ rfl rfl rfl Yaed.underlying100 rfl ((HBc.out.block _ (by omega)).trans HN2.out) size100 ?_)) | (refine wpList_put (ty := 100) (g := w.heap.size + 2) rfl rfl rfl rfl size100 (by kernel_rfl) (by obtain ⟨z, h1, h2⟩ := HR2.out; exact ⟨z, (HBc.out.block _ (by omega)).trans h1, h2⟩) ?_; intro wz hz kz sz; have HNZ : Hid (wz.heap[w.heap.size + 2]? = some (.cells #[.int .u8 (V.k a), .int .i64 (V.i a), .float .f64 (V.r a), .string (V.s a)] 100 (0, 0))) := hz; have HKZ : Hid (Keep (fun k => k ≠ w.heap.size + 2) _ wz) := kz; clear hz kz sz))
        (refine bodyPost_ret (results_cell2 rfl _ _ _ _ _ _ _ rfl HNZ.out Yaed.underlying100 rfl size100) rfl ⟨by have h := HRES.out; (rw [stMax, HN0.out, HC.out, decide_eq_false (of_eq_false HCC.out)] at h); cases h; rfl, HBW.out.trans ((HBc.out.mono (by omega)).trans (HKZ.out.below (fun k hk => by show k ≠ w.heap.size + 2; omega)))⟩)
  · clear HVK
    by_cases hn0 : n = 0
    · subst hn0
      go_wp2_with (first | (first | (refine wpList_get (ty := 100) _ rfl rfl rfl Yaed.underlying100 rfl ((HBc.out.block _ (by omega)).trans HN1.out) size100 ?_) | (refine wpList_get (ty := 100) _ rfl rfl rfl Yaed.underlying100 rfl ((HBc.out.block _ (by omega)).trans HN2.out) size100 ?_)) | (refine wpList_put (ty := 100) (g := w.heap.size + 2) rfl rfl rfl rfl size100 (by kernel_rfl) (by obtain ⟨z, h1, h2⟩ := HR2.out; exact ⟨z, (HBc.out.block _ (by omega)).trans h1, h2⟩) ?_; intro wz hz kz sz; have HNZ : Hid (wz.heap[w.heap.size + 2]? = some (.cells #[.int .u8 (V.k ⟨2, vi, vr, vs⟩), .int .i64 (V.i ⟨2, vi, vr, vs⟩), .float .f64 (V.r ⟨2, vi, vr, vs⟩), .string (V.s ⟨2, vi, vr, vs⟩)] 100 (0, 0))) := hz; have HKZ : Hid (Keep (fun k => k ≠ w.heap.size + 2) _ wz) := kz; clear hz kz sz))
      (refine bodyPost_ret (results_cell2 rfl _ _ _ _ _ _ _ rfl HNZ.out Yaed.underlying100 rfl size100) rfl ⟨by have h := HRES.out; (rw [stMax] at h); cases h; rfl, HBW.out.trans ((HBc.out.mono (by omega)).trans (HKZ.out.below (fun k hk => by show k ≠ w.heap.size + 2; omega)))⟩)
    · have hn1 : ((n : Int) == 0) = false := by simpa using hn0
      have HN0 : Hid ((n == 0) = false) := (show (n == 0) = false by simpa using hn0)
      clear hn0
      have r1 : w0.cell? ⟨w.heap.size + 1, 1, none⟩ = some (.int .i64 vi) := cell_of_row w0 _ 1 _ _ _ HN2.out
      have r2 : w0.cell? ⟨w.heap.size + 1, 2, none⟩ = some (.float .f64 vr) := cell_of_row w0 _ 2 _ _ _ HN2.out
      have r3 : w0.cell? ⟨w.heap.size + 1, 3, none⟩ = some (.string vs) := cell_of_row w0 _ 3 _ _ _ HN2.out
      have q0 : w0.cell? ⟨w.heap.size, 0, none⟩ = some (.int .u8 a.k) := cell_of_row w0 _ 0 _ _ _ HN1.out
      have q1 : w0.cell? ⟨w.heap.size, 1, none⟩ = some (.int .i64 a.i) := cell_of_row w0 _ 1 _ _ _ HN1.out
      have q2 : w0.cell? ⟨w.heap.size, 2, none⟩ = some (.float .f64 a.r) := cell_of_row w0 _ 2 _ _ _ HN1.out
      have q3 : w0.cell? ⟨w.heap.size, 3, none⟩ = some (.string a.s) := cell_of_row w0 _ 3 _ _ _ HN1.out
      go_wp2_with fail
      clear r1 r2 r3 q0 q1 q2 q3
      refine (compare_any ⟨2, vi, vr, vs⟩ a _).mono ?_
      rintro e w1 ⟨rfl, hb1⟩
      have HBc : Hid (Below w0.heap.size w0 w1) := hb1
      have hs1 := hb1.size
      replace r0 : w1.cell? ⟨w.heap.size + 1, 0, none⟩ = some (.int .u8 2) := by rw [hb1.cell (p := ⟨w.heap.size + 1, _, none⟩) (by show w.heap.size + 1 < w0.heap.size; omega)]; exact r0
      clear hb1
      obtain ⟨c, hc⟩ : ∃ c, cmpV ⟨2, vi, vr, vs⟩ a = c := ⟨_, rfl⟩
      rw [hc]
      have HC : Hid (cmpV ⟨2, vi, vr, vs⟩ a = c) := hc
      clear hc
      by_cases hcc : 0 < c
      · have HCC : Hid (0 < c) := hcc
        go_wp2_with (first | (first | (refine wpList_get (ty := 100) _ rfl rfl rfl Yaed.underlying100 rfl ((HBc.out.block _ (by omega)).trans HN1.out) size100 ?_) | (refine wpList_get (ty := 100) _ rfl rfl rfl Yaed.underlying100 rfl ((HBc.out.block _ (by omega)).trans HN2.out) size100 ?_)) | (refine wpList_put (ty := 100) (g := w.heap.size + 2) rfl rfl rfl rfl size100 (by kernel_rfl) (by obtain ⟨z, h1, h2⟩ := HR2.out; exact ⟨z, (HBc.out.block _ (by omega)).trans h1, h2⟩) ?_; intro wz hz kz sz; have HNZ : Hid (wz.heap[w.heap.size + 2]? = some (.cells #[.int .u8 (V.k ⟨2, vi, vr, vs⟩), .int .i64 (V.i ⟨2, vi, vr, vs⟩), .float .f64 (V.r ⟨2, vi, vr, vs⟩), .string (V.s ⟨2, vi, vr, vs⟩)] 100 (0, 0))) := hz; have HKZ : Hid (Keep (fun k => k ≠ w.heap.size + 2) _ wz) := kz; clear hz kz sz))
        (refine bodyPost_ret (results_cell2 rfl _ _ _ _ _ _ _ rfl HNZ.out Yaed.underlying100 rfl size100) rfl ⟨by have h := HRES.out; (rw [stMax, HN0.out, HC.out, decide_eq_true HCC.out] at h); cases h; rfl, HBW.out.trans ((HBc.out.mono (by omega)).trans (HKZ.out.below (fun k hk => by show k ≠ w.heap.size + 2; omega)))⟩)
      · have HCC : Hid ((0 < c) = False) := eq_false hcc
        go_wp2_with (first | (first | (refine wpList_get (ty := 100) _ rfl rfl rfl Yaed.underlying100 rfl ((HBc.out.block _ (by omega)).trans HN1.out) size100 ?_) | (refine wpList_get (ty := 100) _ rfl rfl rfl Yaed.underlying100 rfl ((HBc.out.block _ (by omega)).trans HN2.out) size100 ?_)) | (refine wpList_put (ty := 100) (g := w.heap.size + 2) rfl rfl rfl rfl size100 (by kernel_rfl) (by obtain ⟨z, h1, h2⟩ := HR2.out; exact ⟨z, (HBc.out.block _ (by omega)).trans h1, h2⟩) ?_; intro wz hz kz sz; have HNZ : Hid (wz.heap[w.heap.size + 2]? = some (.cells #[.int .u8 (V.k a), .int .i64 (V.i a), .float .f64 (V.r a), .string (V.s a)] 100 (0, 0))) := hz; have HKZ : Hid (Keep (fun k => k ≠ w.heap.size + 2) _ wz) := kz; clear hz kz sz))
        (refine bodyPost_ret (results_cell2 rfl _ _ _ _ _ _ _ rfl HNZ.out Yaed.underlying100 rfl size100) rfl ⟨by have h := HRES.out; (rw [stMax, HN0.out, HC.out, decide_eq_false (of_eq_false HCC.out)] at h); cases h; rfl, HBW.out.trans ((HBc.out.mono (by omega)).trans (HKZ.out.below (fun k hk => by show k ≠ w.heap.size + 2; omega)))⟩)
  · clear HVK
    by_cases hn0 : n = 0
    · subst hn0
      go_wp2_with (first | (first | (refine wpList_get (ty := 100) _ rfl rfl rfl Yaed.underlying100 rfl ((HBc.out.block _ (by omega)).trans HN1.out) size100 ?_) | (refine wpList_get (ty := 100) _ rfl rfl rfl Yaed.underlying100 rfl ((HBc.out.block _ (by omega)).trans HN2.out) size100 ?_)) | (refine wpList_put (ty := 100) (g := w.heap.size + 2) rfl rfl rfl rfl size100 (by kernel_rfl) (by obtain ⟨z, h1, h2⟩ := HR2.out; exact ⟨z, (HBc.out.block _ (by omega)).trans h1, h2⟩) ?_; intro wz hz kz sz; have HNZ : Hid (wz.heap[w.heap.size + 2]? = some (.cells #[.int .u8 (V.k ⟨3, vi, vr, vs⟩), .int .i64 (V.i ⟨3, vi, vr, vs⟩), .float .f64 (V.r ⟨3, vi, vr, vs⟩), .string (V.s ⟨3, vi, vr, vs⟩)] 100 (0, 0))) := hz; have HKZ : Hid (Keep (fun k => k ≠ w.heap.size + 2) _ wz) := kz; clear hz kz sz))
      (refine bodyPost_ret (results_cell2 rfl _ _ _ _ _ _ _ rfl HNZ.out Yaed.underlying100 rfl size100) rfl ⟨by have h := HRES.out; (rw [stMax] at h); cases h; rfl, HBW.out.trans ((HBc.out.mono (by omega)).trans (HKZ.out.below (fun k hk => by show k ≠ w.heap.size + 2; omega)))⟩)
    · have hn1 : ((n : Int) == 0) = false := by simpa using hn0
      have HN0 : Hid ((n == 0) = false) := (show (n == 0) = false by simpa using hn0)
      clear hn0
      have r1 : w0.cell? ⟨w.heap.size + 1, 1, none⟩ = some (.int .i64 vi) := cell_of_row w0 _ 1 _ _ _ HN2.out
      have r2 : w0.cell? ⟨w.heap.size + 1, 2, none⟩ = some (.float .f64 vr) := cell_of_row w0 _ 2 _ _ _ HN2.out
      have r3 : w0.cell? ⟨w.heap.size + 1, 3, none⟩ = some (.string vs) := cell_of_row w0 _ 3 _ _ _ HN2.out
      have q0 : w0.cell? ⟨w.heap.size, 0, none⟩ = some (.int .u8 a.k) := cell_of_row w0 _ 0 _ _ _ HN1.out
      have q1 : w0.cell? ⟨w.heap.size, 1, none⟩ = some (.int .i64 a.i) := cell_of_row w0 _ 1 _ _ _ HN1.out
      have q2 : w0.cell? ⟨w.heap.size, 2, none⟩ = some (.float .f64 a.r) := cell_of_row w0 _ 2 _ _ _ HN1.out
      have q3 : w0.cell? ⟨w.heap.size, 3, none⟩ = some (.string a.s) := cell_of_row w0 _ 3 _ _ _ HN1.out
      go_wp2_with fail
      clear r1 r2 r3 q0 q1 q2 q3
      refine (compare_any ⟨3, vi, vr, vs⟩ a _).mono ?_
      rintro e w1 ⟨rfl, hb1⟩
      have HBc : Hid (Below w0.heap.size w0 w1) := hb1
      have hs1 := hb1.size
      replace r0 : w1.cell? ⟨w.heap.size + 1, 0, none⟩ = some (.int .u8 3) := by rw [hb1.cell (p := ⟨w.heap.size + 1, _, none⟩) (by show w.heap.size + 1 < w0.heap.size; omega)]; exact r0
      clear hb1
      obtain ⟨c, hc⟩ : ∃ c, cmpV ⟨3, vi, vr, vs⟩ a = c := ⟨_, rfl⟩
      rw [hc]
      have HC : Hid (cmpV ⟨3, vi, vr, vs⟩ a = c) := hc
      clear hc
      by_cases hcc : 0 < c
      · have HCC : Hid (0 < c) := hcc
        go_wp2_with (first | (first | (refine wpList_get (ty := 100) _ rfl rfl rfl Yaed.underlying100 rfl ((HBc.out.block _ (by omega)).trans HN1.out) size100 ?_) | (refine wpList_get (ty := 100) _ rfl rfl rfl Yaed.underlying100 rfl ((HBc.out.block _ (by omega)).trans HN2.out) size100 ?_)) | (refine wpList_put (ty := 100) (g := w.heap.size + 2) rfl rfl rfl rfl size100 (by kernel_rfl) (by obtain ⟨z, h1, h2⟩ := HR2.out; exact ⟨z, (HBc.out.block _ (by omega)).trans h1, h2⟩) ?_; intro wz hz kz sz; have HNZ : Hid (wz.heap[w.heap.size + 2]? = some (.cells #[.int .u8 (V.k ⟨3, vi, vr, vs⟩), .int .i64 (V.i ⟨3, vi, vr, vs⟩), .float .f64 (V.r ⟨3, vi, vr, vs⟩), .string (V.s ⟨3, vi, vr, vs⟩)] 100 (0, 0))) := hz; have HKZ : Hid (Keep (fun k => k ≠ w.heap.size + 2) _ wz) := kz; clear hz kz sz))
        (refine bodyPost_ret (results_cell2 rfl _ _ _ _ _ _ _ rfl HNZ.out Yaed.underlying100 rfl size100) rfl ⟨by have h := HRES.out; (rw [stMax, HN0.out, HC.out, decide_eq_true HCC.out] at h); cases h; rfl, HBW.out.trans ((HBc.out.mono (by omega)).trans (HKZ.out.below (fun k hk => by show k ≠ w.heap.size + 2; omega)))⟩)
      · have HCC : Hid ((0 < c) = False) := eq_false hcc
        go_wp2_with (first | (first | (refine wpList_get (ty := 100) _ rfl rfl rfl Yaed.underlying100 rfl ((HBc.out.block _ (by omega)).trans HN1.out) size100 ?_) | (refine wpList_get (ty := 100) _ rfl rfl rfl Yaed.underlying100 rfl ((HBc.out.block _ (by omega)).trans HN2.out) size100 ?_)) | (refine wpList_put (ty := 100) (g := w.heap.size + 2) rfl rfl rfl rfl size100 (by kernel_rfl) (by obtain ⟨z, h1, h2⟩ := HR2.out; exact ⟨z, (HBc.out.block _ (by omega)).trans h1, h2⟩) ?_; intro wz hz kz sz; have HNZ : Hid (wz.heap[w.heap.size + 2]? = some (.cells #[.int .u8 (V.k a), .int .i64 (V.i a), .float .f64 (V.r a), .string (V.s a)] 100 (0, 0))) := hz; have HKZ : Hid (Keep (fun k => k ≠ w.heap.size + 2) _ wz) := kz; clear hz kz sz))
        (refine bodyPost_ret (results_cell2 rfl _ _ _ _ _ _ _ rfl HNZ.out Yaed.underlying100 rfl size100) rfl ⟨by have h := HRES.out; (rw [stMax, HN0.out, HC.out, decide_eq_false (of_eq_false HCC.out)] at h); cases h; rfl, HBW.out.trans ((HBc.out.mono (by omega)).trans (HKZ.out.below (fun k hk => by show k ≠ w.heap.size + 2; omega)))⟩)
theorem step_any (g : Ag) (a v : V) (hvk : v.k = 0 ∨ v.k = 1 ∨ v.k = 2 ∨ v.k = 3) (n : Nat) (hn : n < 1000) (w : World) : Calls Yaed.prog 241 #[.string g.name, a.val, .int .i64 n, v.val] w fun r w' => r = .returned (.tuple #[(g.step a n v).1.val, .int .i64 ((g.step a n v).2 : Nat)]) ∧ Below w.heap.size w w' := by
  cases g
  · exact step_count a v hvk n hn w
  · exact step_sum a v hvk n hn w
  · exact step_avg a v hvk n hn w
  · exact step_min a v hvk n hn w
  · exact step_max a v hvk n hn w
end Go.Proofs.YgdaegDoor
