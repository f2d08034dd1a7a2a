import Derived.Test.YgdaegDoorAdd
import Derived.Test.YgdaegDoorDiv
import Derived.Test.YgdaegDoorAggK
namespace Go.Proofs.YgdaegDoor
open Go.RowKit
set_option linter.unusedSimpArgs false
set_option linter.unusedVariables false
/-- The five aggregates. -/
inductive Ag | count | sum | avg | min | max
def Ag.name : Ag → ByteArray
  | .count => countS
  | .sum => sumS
  | .avg => avgS
  | .min => minS
  | .max => maxS
def stC (a : V) (n : Nat) (v : V) : V × Nat := bif v.k == 0 then (a, n) else (a, n + 1)
def stS (a : V) (n : Nat) (v : V) : V × Nat := bif numB v.k then (bif n == 0 then (v, 1) else (addV a v, n + 1)) else (a, n)
def stMin (a : V) (n : Nat) (v : V) : V × Nat := bif v.k == 0 then (a, n) else bif n == 0 || decide (cmpV v a < 0) then (v, n + 1) else (a, n + 1)
def stMax (a : V) (n : Nat) (v : V) : V × Nat := bif v.k == 0 then (a, n) else bif n == 0 || decide (0 < cmpV v a) then (v, n + 1) else (a, n + 1)
def Ag.step : Ag → V → Nat → V → V × Nat
  | .count => stC
  | .sum => stS
  | .avg => stS
  | .min => stMin
  | .max => stMax
def Ag.fin : Ag → V → Nat → V
  | .count, _, n => intV n
  | .avg, a, n => bif n == 0 then V0 else divV (toRealV a) n
  | _, a, n => bif n == 0 then V0 else a


set_option maxRecDepth 20000 in
set_option maxHeartbeats 2000000 in
theorem step_count (a v : V) (hvk : v.k = 0 ∨ v.k = 1 ∨ v.k = 2 ∨ v.k = 3) (n : Nat) (hn : n < 1000) (w : World) : Calls Yaed.prog 241 #[.string countS, a.val, .int .i64 n, v.val] w fun r w' => r = .returned (.tuple #[(stC a n v).1.val, .int .i64 ((stC a n v).2 : Nat)]) ∧ Below w.heap.size w w' := by
  have hw1 : IntKind.i64.wrap ((n : Int) + 1) = n + 1 := IntWalk.i64_in _ (by omega)
  obtain ⟨⟨ra, rn⟩, hres⟩ : ∃ p, stC a n v = p := ⟨_, rfl⟩
  rw [hres]
  obtain ⟨vk, vi, vr, vs⟩ := v
  have HRES : Hid (stC a n ⟨vk, vi, vr, vs⟩ = (ra, rn)) := hres
  clear hres
  have HVK : Hid (vk = 0 ∨ vk = 1 ∨ vk = 2 ∨ vk = 3) := hvk
  clear hvk
  unfold V.val
  go_enter Yaed.func241, Yaed.ntmps241
  go_upto_region 1 with fail
  generalize hw0 : World.alloc (World.alloc (World.alloc _ _) _) _ = w0
  have HBW : Hid (Below w.heap.size w w0) := by rw [← hw0]; exact (below_alloc _ _).trans (((below_alloc _ _).mono (by simp)).trans ((below_alloc _ _).mono (by simp; omega)))
  have HN1 : Hid (w0.heap[w.heap.size]? = some (.cells #[.int .u8 a.k, .int .i64 a.i, .float .f64 a.r, .string a.s] 100 (0, 0))) := by rw [← hw0]; exact (heap_old (by simp; omega)).trans ((heap_old (by simp)).trans (heap_new rfl))
  have HN2 : Hid (w0.heap[w.heap.size + 1]? = some (.cells #[.int .u8 vk, .int .i64 vi, .float .f64 vr, .string vs] 100 (0, 0))) := by rw [← hw0]; exact (heap_old (by simp)).trans (heap_new (by simp))
  have HR2 : Hid (∃ z, w0.heap[w.heap.size + 2]? = some (.cells z 100 (0, 0)) ∧ z.size = 4) := by rw [← hw0]; exact ⟨_, heap_new (by simp), rfl⟩
  have hs0 : w.heap.size + 3 ≤ w0.heap.size := by rw [← hw0]; simp
  clear hw0
  have HBc : Hid (Below w0.heap.size w0 w0) := Below.refl _ _
  have r0 : w0.cell? ⟨w.heap.size + 1, 0, none⟩ = some (.int .u8 vk) := cell_of_row w0 _ 0 _ _ _ HN2.out
  rcases HVK.out with h | h | h | h <;> subst h <;> (clear HVK; go_wp2_with (first | (first | (refine wpList_get (ty := 100) _ rfl rfl rfl Yaed.underlying100 rfl ((HBc.out.block _ (by omega)).trans HN1.out) size100 ?_) | (refine wpList_get (ty := 100) _ rfl rfl rfl Yaed.underlying100 rfl ((HBc.out.block _ (by omega)).trans HN2.out) size100 ?_)) | (refine wpList_put (ty := 100) (g := w.heap.size + 2) rfl rfl rfl rfl size100 (by kernel_rfl) (by obtain ⟨z, h1, h2⟩ := HR2.out; exact ⟨z, (HBc.out.block _ (by omega)).trans h1, h2⟩) ?_; intro wz hz kz sz; have HNZ : Hid (wz.heap[w.heap.size + 2]? = some (.cells #[.int .u8 (V.k a), .int .i64 (V.i a), .float .f64 (V.r a), .string (V.s a)] 100 (0, 0))) := hz; have HKZ : Hid (Keep (fun k => k ≠ w.heap.size + 2) _ wz) := kz; clear hz kz sz)); (refine bodyPost_ret (results_cell2 rfl _ _ _ _ _ _ _ rfl HNZ.out Yaed.underlying100 rfl size100) rfl ⟨by have h := HRES.out; (rw [stC] at h); cases h; rfl, HBW.out.trans ((HBc.out.mono (by omega)).trans (HKZ.out.below (fun k hk => by show k ≠ w.heap.size + 2; omega)))⟩))
set_option maxRecDepth 20000 in
set_option maxHeartbeats 2000000 in
theorem step_sum (a v : V) (hvk : v.k = 0 ∨ v.k = 1 ∨ v.k = 2 ∨ v.k = 3) (n : Nat) (hn : n < 1000) (w : World) : Calls Yaed.prog 241 #[.string sumS, a.val, .int .i64 n, v.val] w fun r w' => r = .returned (.tuple #[(stS a n v).1.val, .int .i64 ((stS a n v).2 : Nat)]) ∧ Below w.heap.size w w' := by
  have hw1 : IntKind.i64.wrap ((n : Int) + 1) = n + 1 := IntWalk.i64_in _ (by omega)
  obtain ⟨⟨ra, rn⟩, hres⟩ : ∃ p, stS a n v = p := ⟨_, rfl⟩
  rw [hres]
  obtain ⟨vk, vi, vr, vs⟩ := v
  have HRES : Hid (stS a n ⟨vk, vi, vr, vs⟩ = (ra, rn)) := hres
  clear hres
  have HVK : Hid (vk = 0 ∨ vk = 1 ∨ vk = 2 ∨ vk = 3) := hvk
  clear hvk
  unfold V.val
  go_enter Yaed.func241, Yaed.ntmps241
  go_upto_region 1 with fail
  generalize hw0 : World.alloc (World.alloc (World.alloc _ _) _) _ = w0
  have HBW : Hid (Below w.heap.size w w0) := by rw [← hw0]; exact (below_alloc _ _).trans (((below_alloc _ _).mono (by simp)).trans ((below_alloc _ _).mono (by simp; omega)))
  have HN1 : Hid (w0.heap[w.heap.size]? = some (.cells #[.int .u8 a.k, .int .i64 a.i, .float .f64 a.r, .string a.s] 100 (0, 0))) := by rw [← hw0]; exact (heap_old (by simp; omega)).trans ((heap_old (by simp)).trans (heap_new rfl))
  have HN2 : Hid (w0.heap[w.heap.size + 1]? = some (.cells #[.int .u8 vk, .int .i64 vi, .float .f64 vr, .string vs] 100 (0, 0))) := by rw [← hw0]; exact (heap_old (by simp)).trans (heap_new (by simp))
  have HR2 : Hid (∃ z, w0.heap[w.heap.size + 2]? = some (.cells z 100 (0, 0)) ∧ z.size = 4) := by rw [← hw0]; exact ⟨_, heap_new (by simp), rfl⟩
  have hs0 : w.heap.size + 3 ≤ w0.heap.size := by rw [← hw0]; simp
  clear hw0
  have HBc : Hid (Below w0.heap.size w0 w0) := Below.refl _ _
  have r0 : w0.cell? ⟨w.heap.size + 1, 0, none⟩ = some (.int .u8 vk) := cell_of_row w0 _ 0 _ _ _ HN2.out
  rcases HVK.out with h | h | h | h <;> subst h
  · clear HVK; go_wp2_with (first | (first | (refine wpList_get (ty := 100) _ rfl rfl rfl Yaed.underlying100 rfl ((HBc.out.block _ (by omega)).trans HN1.out) size100 ?_) | (refine wpList_get (ty := 100) _ rfl rfl rfl Yaed.underlying100 rfl ((HBc.out.block _ (by omega)).trans HN2.out) size100 ?_)) | (refine wpList_put (ty := 100) (g := w.heap.size + 2) rfl rfl rfl rfl size100 (by kernel_rfl) (by obtain ⟨z, h1, h2⟩ := HR2.out; exact ⟨z, (HBc.out.block _ (by omega)).trans h1, h2⟩) ?_; intro wz hz kz sz; have HNZ : Hid (wz.heap[w.heap.size + 2]? = some (.cells #[.int .u8 (V.k a), .int .i64 (V.i a), .float .f64 (V.r a), .string (V.s a)] 100 (0, 0))) := hz; have HKZ : Hid (Keep (fun k => k ≠ w.heap.size + 2) _ wz) := kz; clear hz kz sz)); (refine bodyPost_ret (results_cell2 rfl _ _ _ _ _ _ _ rfl HNZ.out Yaed.underlying100 rfl size100) rfl ⟨by have h := HRES.out; (rw [stS] at h); cases h; rfl, HBW.out.trans ((HBc.out.mono (by omega)).trans (HKZ.out.below (fun k hk => by show k ≠ w.heap.size + 2; omega)))⟩)
  · clear HVK
    by_cases hn0 : n = 0
    · subst hn0
      go_wp2_with (first | (first | (refine wpList_get (ty := 100) _ rfl rfl rfl Yaed.underlying100 rfl ((HBc.out.block _ (by omega)).trans HN1.out) size100 ?_) | (refine wpList_get (ty := 100) _ rfl rfl rfl Yaed.underlying100 rfl ((HBc.out.block _ (by omega)).trans HN2.out) size100 ?_)) | (refine wpList_put (ty := 100) (g := w.heap.size + 2) rfl rfl rfl rfl size100 (by kernel_rfl) (by obtain ⟨z, h1, h2⟩ := HR2.out; exact ⟨z, (HBc.out.block _ (by omega)).trans h1, h2⟩) ?_; intro wz hz kz sz; have HNZ : Hid (wz.heap[w.heap.size + 2]? = some (.cells #[.int .u8 (V.k ⟨1, vi, vr, vs⟩), .int .i64 (V.i ⟨1, vi, vr, vs⟩), .float .f64 (V.r ⟨1, vi, vr, vs⟩), .string (V.s ⟨1, vi, vr, vs⟩)] 100 (0, 0))) := hz; have HKZ : Hid (Keep (fun k => k ≠ w.heap.size + 2) _ wz) := kz; clear hz kz sz))
      (refine bodyPost_ret (results_cell2 rfl _ _ _ _ _ _ _ rfl HNZ.out Yaed.underlying100 rfl size100) rfl ⟨by have h := HRES.out; (rw [stS] at h); cases h; rfl, HBW.out.trans ((HBc.out.mono (by omega)).trans (HKZ.out.below (fun k hk => by show k ≠ w.heap.size + 2; omega)))⟩)
    · have hn1 : ((n : Int) == 0) = false := by simpa using hn0
      have HN0 : Hid ((n == 0) = false) := (show (n == 0) = false by simpa using hn0)
      clear hn0
      go_wp2_with (first | (first | (refine wpList_get (ty := 100) _ rfl rfl rfl Yaed.underlying100 rfl ((HBc.out.block _ (by omega)).trans HN1.out) size100 ?_) | (refine wpList_get (ty := 100) _ rfl rfl rfl Yaed.underlying100 rfl ((HBc.out.block _ (by omega)).trans HN2.out) size100 ?_)))
      refine (arith_add a ⟨1, vi, vr, vs⟩ _).mono ?_
      rintro e w1 ⟨rfl, hb1⟩
      have HBc : Hid (Below w0.heap.size w0 w1) := hb1
      have hs1 := hb1.size
      clear hb1
      obtain ⟨u, hu⟩ : ∃ u, addV a ⟨1, vi, vr, vs⟩ = u := ⟨_, rfl⟩
      rw [hu]
      have HU : Hid (addV a ⟨1, vi, vr, vs⟩ = u) := hu
      clear hu
      unfold V.val
      go_wp2_with (first | (refine wpList_put (ty := 100) (g := w.heap.size + 2) rfl rfl rfl rfl size100 (by kernel_rfl) (by obtain ⟨z, h1, h2⟩ := HR2.out; exact ⟨z, (HBc.out.block _ (by omega)).trans h1, h2⟩) ?_; intro wz hz kz sz; have HNZ : Hid (wz.heap[w.heap.size + 2]? = some (.cells #[.int .u8 (V.k u), .int .i64 (V.i u), .float .f64 (V.r u), .string (V.s u)] 100 (0, 0))) := hz; have HKZ : Hid (Keep (fun k => k ≠ w.heap.size + 2) _ wz) := kz; clear hz kz sz))
      (refine bodyPost_ret (results_cell2 rfl _ _ _ _ _ _ _ rfl HNZ.out Yaed.underlying100 rfl size100) rfl ⟨by have h := HRES.out; (rw [stS, HN0.out, HU.out] at h); cases h; rfl, HBW.out.trans ((HBc.out.mono (by omega)).trans (HKZ.out.below (fun k hk => by show k ≠ w.heap.size + 2; omega)))⟩)
  · clear HVK
    by_cases hn0 : n = 0
    · subst hn0
      go_wp2_with (first | (first | (refine wpList_get (ty := 100) _ rfl rfl rfl Yaed.underlying100 rfl ((HBc.out.block _ (by omega)).trans HN1.out) size100 ?_) | (refine wpList_get (ty := 100) _ rfl rfl rfl Yaed.underlying100 rfl ((HBc.out.block _ (by omega)).trans HN2.out) size100 ?_)) | (refine wpList_put (ty := 100) (g := w.heap.size + 2) rfl rfl rfl rfl size100 (by kernel_rfl) (by obtain ⟨z, h1, h2⟩ := HR2.out; exact ⟨z, (HBc.out.block _ (by omega)).trans h1, h2⟩) ?_; intro wz hz kz sz; have HNZ : Hid (wz.heap[w.heap.size + 2]? = some (.cells #[.int .u8 (V.k ⟨2, vi, vr, vs⟩), .int .i64 (V.i ⟨2, vi, vr, vs⟩), .float .f64 (V.r ⟨2, vi, vr, vs⟩), .string (V.s ⟨2, vi, vr, vs⟩)] 100 (0, 0))) := hz; have HKZ : Hid (Keep (fun k => k ≠ w.heap.size + 2) _ wz) := kz; clear hz kz sz))
      (refine bodyPost_ret (results_cell2 rfl _ _ _ _ _ _ _ rfl HNZ.out Yaed.underlying100 rfl size100) rfl ⟨by have h := HRES.out; (rw [stS] at h); cases h; rfl, HBW.out.trans ((HBc.out.mono (by omega)).trans (HKZ.out.below (fun k hk => by show k ≠ w.heap.size + 2; omega)))⟩)
    · have hn1 : ((n : Int) == 0) = false := by simpa using hn0
      have HN0 : Hid ((n == 0) = false) := (show (n == 0) = false by simpa using hn0)
      clear hn0
      go_wp2_with (first | (first | (refine wpList_get (ty := 100) _ rfl rfl rfl Yaed.underlying100 rfl ((HBc.out.block _ (by omega)).trans HN1.out) size100 ?_) | (refine wpList_get (ty := 100) _ rfl rfl rfl Yaed.underlying100 rfl ((HBc.out.block _ (by omega)).trans HN2.out) size100 ?_)))
      refine (arith_add a ⟨2, vi, vr, vs⟩ _).mono ?_
      rintro e w1 ⟨rfl, hb1⟩
      have HBc : Hid (Below w0.heap.size w0 w1) := hb1
      have hs1 := hb1.size
      clear hb1
      obtain ⟨u, hu⟩ : ∃ u, addV a ⟨2, vi, vr, vs⟩ = u := ⟨_, rfl⟩
      rw [hu]
      have HU : Hid (addV a ⟨2, vi, vr, vs⟩ = u) := hu
      clear hu
      unfold V.val
      go_wp2_with (first | (refine wpList_put (ty := 100) (g := w.heap.size + 2) rfl rfl rfl rfl size100 (by kernel_rfl) (by obtain ⟨z, h1, h2⟩ := HR2.out; exact ⟨z, (HBc.out.block _ (by omega)).trans h1, h2⟩) ?_; intro wz hz kz sz; have HNZ : Hid (wz.heap[w.heap.size + 2]? = some (.cells #[.int .u8 (V.k u), .int .i64 (V.i u), .float .f64 (V.r u), .string (V.s u)] 100 (0, 0))) := hz; have HKZ : Hid (Keep (fun k => k ≠ w.heap.size + 2) _ wz) := kz; clear hz kz sz))
      (refine bodyPost_ret (results_cell2 rfl _ _ _ _ _ _ _ rfl HNZ.out Yaed.underlying100 rfl size100) rfl ⟨by have h := HRES.out; (rw [stS, HN0.out, HU.out] at h); cases h; rfl, HBW.out.trans ((HBc.out.mono (by omega)).trans (HKZ.out.below (fun k hk => by show k ≠ w.heap.size + 2; omega)))⟩)
  · clear HVK; go_wp2_with (first | (first | (refine wpList_get (ty := 100) _ rfl rfl rfl Yaed.underlying100 rfl ((HBc.out.block _ (by omega)).trans HN1.out) size100 ?_) | (refine wpList_get (ty := 100) _ rfl rfl rfl Yaed.underlying100 rfl ((HBc.out.block _ (by omega)).trans HN2.out) size100 ?_)) | (refine wpList_put (ty := 100) (g := w.heap.size + 2) rfl rfl rfl rfl size100 (by kernel_rfl) (by obtain ⟨z, h1, h2⟩ := HR2.out; exact ⟨z, (HBc.out.block _ (by omega)).trans h1, h2⟩) ?_; intro wz hz kz sz; have HNZ : Hid (wz.heap[w.heap.size + 2]? = some (.cells #[.int .u8 (V.k a), .int .i64 (V.i a), .float .f64 (V.r a), .string (V.s a)] 100 (0, 0))) := hz; have HKZ : Hid (Keep (fun k => k ≠ w.heap.size + 2) _ wz) := kz; clear hz kz sz)); (refine bodyPost_ret (results_cell2 rfl _ _ _ _ _ _ _ rfl HNZ.out Yaed.underlying100 rfl size100) rfl ⟨by have h := HRES.out; (rw [stS] at h); cases h; rfl, HBW.out.trans ((HBc.out.mono (by omega)).trans (HKZ.out.below (fun k hk => by show k ≠ w.heap.size + 2; omega)))⟩)
set_option maxRecDepth 20000 in
set_option maxHeartbeats 2000000 in
theorem step_avg (a v : V) (hvk : v.k = 0 ∨ v.k = 1 ∨ v.k = 2 ∨ v.k = 3) (n : Nat) (hn : n < 1000) (w : World) : Calls Yaed.prog 241 #[.string avgS, a.val, .int .i64 n, v.val] w fun r w' => r = .returned (.tuple #[(stS a n v).1.val, .int .i64 ((stS a n v).2 : Nat)]) ∧ Below w.heap.size w w' := by
  have hw1 : IntKind.i64.wrap ((n : Int) + 1) = n + 1 := IntWalk.i64_in _ (by omega)
  obtain ⟨⟨ra, rn⟩, hres⟩ : ∃ p, stS a n v = p := ⟨_, rfl⟩
  rw [hres]
  obtain ⟨vk, vi, vr, vs⟩ := v
  have HRES : Hid (stS a n ⟨vk, vi, vr, vs⟩ = (ra, rn)) := hres
  clear hres
  have HVK : Hid (vk = 0 ∨ vk = 1 ∨ vk = 2 ∨ vk = 3) := hvk
  clear hvk
  unfold V.val
  go_enter Yaed.func241, Yaed.ntmps241
  go_upto_region 1 with fail
  generalize hw0 : World.alloc (World.alloc (World.alloc _ _) _) _ = w0
  have HBW : Hid (Below w.heap.size w w0) := by rw [← hw0]; exact (below_alloc _ _).trans (((below_alloc _ _).mono (by simp)).trans ((below_alloc _ _).mono (by simp; omega)))
  have HN1 : Hid (w0.heap[w.heap.size]? = some (.cells #[.int .u8 a.k, .int .i64 a.i, .float .f64 a.r, .string a.s] 100 (0, 0))) := by rw [← hw0]; exact (heap_old (by simp; omega)).trans ((heap_old (by simp)).trans (heap_new rfl))
  have HN2 : Hid (w0.heap[w.heap.size + 1]? = some (.cells #[.int .u8 vk, .int .i64 vi, .float .f64 vr, .string vs] 100 (0, 0))) := by rw [← hw0]; exact (heap_old (by simp)).trans (heap_new (by simp))
  have HR2 : Hid (∃ z, w0.heap[w.heap.size + 2]? = some (.cells z 100 (0, 0)) ∧ z.size = 4) := by rw [← hw0]; exact ⟨_, heap_new (by simp), rfl⟩
  have hs0 : w.heap.size + 3 ≤ w0.heap.size := by rw [← hw0]; simp
  clear hw0
  have HBc : Hid (Below w0.heap.size w0 w0) := Below.refl _ _
  have r0 : w0.cell? ⟨w.heap.size + 1, 0, none⟩ = some (.int .u8 vk) := cell_of_row w0 _ 0 _ _ _ HN2.out
  rcases HVK.out with h | h | h | h <;> subst h
  · clear HVK; go_wp2_with (first | (first | (refine wpList_get (ty := 100) _ rfl rfl rfl Yaed.underlying100 rfl ((HBc.out.block _ (by omega)).trans HN1.out) size100 ?_) | (refine wpList_get (ty := 100) _ rfl rfl rfl Yaed.underlying100 rfl ((HBc.out.block _ (by omega)).trans HN2.out) size100 ?_)) | (refine wpList_put (ty := 100) (g := w.heap.size + 2) rfl rfl rfl rfl size100 (by kernel_rfl) (by obtain ⟨z, h1, h2⟩ := HR2.out; exact ⟨z, (HBc.out.block _ (by omega)).trans h1, h2⟩) ?_; intro wz hz kz sz; have HNZ : Hid (wz.heap[w.heap.size + 2]? = some (.cells #[.int .u8 (V.k a), .int .i64 (V.i a), .float .f64 (V.r a), .string (V.s a)] 100 (0, 0))) := hz; have HKZ : Hid (Keep (fun k => k ≠ w.heap.size + 2) _ wz) := kz; clear hz kz sz)); (refine bodyPost_ret (results_cell2 rfl _ _ _ _ _ _ _ rfl HNZ.out Yaed.underlying100 rfl size100) rfl ⟨by have h := HRES.out; (rw [stS] at h); cases h; rfl, HBW.out.trans ((HBc.out.mono (by omega)).trans (HKZ.out.below (fun k hk => by show k ≠ w.heap.size + 2; omega)))⟩)
  · clear HVK
    by_cases hn0 : n = 0
    · subst hn0
      go_wp2_with (first | (first | (refine wpList_get (ty := 100) _ rfl rfl rfl Yaed.underlying100 rfl ((HBc.out.block _ (by omega)).trans HN1.out) size100 ?_) | (refine wpList_get (ty := 100) _ rfl rfl rfl Yaed.underlying100 rfl ((HBc.out.block _ (by omega)).trans HN2.out) size100 ?_)) | (refine wpList_put (ty := 100) (g := w.heap.size + 2) rfl rfl rfl rfl size100 (by kernel_rfl) (by obtain ⟨z, h1, h2⟩ := HR2.out; exact ⟨z, (HBc.out.block _ (by omega)).trans h1, h2⟩) ?_; intro wz hz kz sz; have HNZ : Hid (wz.heap[w.heap.size + 2]? = some (.cells #[.int .u8 (V.k ⟨1, vi, vr, vs⟩), .int .i64 (V.i ⟨1, vi, vr, vs⟩), .float .f64 (V.r ⟨1, vi, vr, vs⟩), .string (V.s ⟨1, vi, vr, vs⟩)] 100 (0, 0))) := hz; have HKZ : Hid (Keep (fun k => k ≠ w.heap.size + 2) _ wz) := kz; clear hz kz sz))
      (refine bodyPost_ret (results_cell2 rfl _ _ _ _ _ _ _ rfl HNZ.out Yaed.underlying100 rfl size100) rfl ⟨by have h := HRES.out; (rw [stS] at h); cases h; rfl, HBW.out.trans ((HBc.out.mono (by omega)).trans (HKZ.out.below (fun k hk => by show k ≠ w.heap.size + 2; omega)))⟩)
    · have hn1 : ((n : Int) == 0) = false := by simpa using hn0
      have HN0 : Hid ((n == 0) = false) := (show (n == 0) = false by simpa using hn0)
      clear hn0
      go_wp2_with (first | (first | (refine wpList_get (ty := 100) _ rfl rfl rfl Yaed.underlying100 rfl ((HBc.out.block _ (by omega)).trans HN1.out) size100 ?_) | (refine wpList_get (ty := 100) _ rfl rfl rfl Yaed.underlying100 rfl ((HBc.out.block _ (by omega)).trans HN2.out) size100 ?_)))
      refine (arith_add a ⟨1, vi, vr, vs⟩ _).mono ?_
      rintro e w1 ⟨rfl, hb1⟩
      have HBc : Hid (Below w0.heap.size w0 w1) := hb1
      have hs1 := hb1.size
      clear hb1
      obtain ⟨u, hu⟩ : ∃ u, addV a ⟨1, vi, vr, vs⟩ = u := ⟨_, rfl⟩
      rw [hu]
      have HU : Hid (addV a ⟨1, vi, vr, vs⟩ = u) := hu
      clear hu
      unfold V.val
      go_wp2_with (first | (refine wpList_put (ty := 100) (g := w.heap.size + 2) rfl rfl rfl rfl size100 (by kernel_rfl) (by obtain ⟨z, h1, h2⟩ := HR2.out; exact ⟨z, (HBc.out.block _ (by omega)).trans h1, h2⟩) ?_; intro wz hz kz sz; have HNZ : Hid (wz.heap[w.heap.size + 2]? = some (.cells #[.int .u8 (V.k u), .int .i64 (V.i u), .float .f64 (V.r u), .string (V.s u)] 100 (0, 0))) := hz; have HKZ : Hid (Keep (fun k => k ≠ w.heap.size + 2) _ wz) := kz; clear hz kz sz))
      (refine bodyPost_ret (results_cell2 rfl _ _ _ _ _ _ _ rfl HNZ.out Yaed.underlying100 rfl size100) rfl ⟨by have h := HRES.out; (rw [stS, HN0.out, HU.out] at h); cases h; rfl, HBW.out.trans ((HBc.out.mono (by omega)).trans (HKZ.out.below (fun k hk => by show k ≠ w.heap.size + 2; omega)))⟩)
  · clear HVK
    by_cases hn0 : n = 0
    · subst hn0
      go_wp2_with (first | (first | (refine wpList_get (ty := 100) _ rfl rfl rfl Yaed.underlying100 rfl ((HBc.out.block _ (by omega)).trans HN1.out) size100 ?_) | (refine wpList_get (ty := 100) _ rfl rfl rfl Yaed.underlying100 rfl ((HBc.out.block _ (by omega)).trans HN2.out) size100 ?_)) | (refine wpList_put (ty := 100) (g := w.heap.size + 2) rfl rfl rfl rfl size100 (by kernel_rfl) (by obtain ⟨z, h1, h2⟩ := HR2.out; exact ⟨z, (HBc.out.block _ (by omega)).trans h1, h2⟩) ?_; intro wz hz kz sz; have HNZ : Hid (wz.heap[w.heap.size + 2]? = some (.cells #[.int .u8 (V.k ⟨2, vi, vr, vs⟩), .int .i64 (V.i ⟨2, vi, vr, vs⟩), .float .f64 (V.r ⟨2, vi, vr, vs⟩), .string (V.s ⟨2, vi, vr, vs⟩)] 100 (0, 0))) := hz; have HKZ : Hid (Keep (fun k => k ≠ w.heap.size + 2) _ wz) := kz; clear hz kz sz))
      (refine bodyPost_ret (results_cell2 rfl _ _ _ _ _ _ _ rfl HNZ.out Yaed.underlying100 rfl size100) rfl ⟨by have h := HRES.out; (rw [stS] at h); cases h; rfl, HBW.out.trans ((HBc.out.mono (by omega)).trans (HKZ.out.below (fun k hk => by show k ≠ w.heap.size + 2; omega)))⟩)
    · have hn1 : ((n : Int) == 0) = false := by simpa using hn0
      have HN0 : Hid ((n == 0) = false) := (show (n == 0) = false by simpa using hn0)
      clear hn0
      go_wp2_with (first | (first | (refine wpList_get (ty := 100) _ rfl rfl rfl Yaed.underlying100 rfl ((HBc.out.block _ (by omega)).trans HN1.out) size100 ?_) | (refine wpList_get (ty := 100) _ rfl rfl rfl Yaed.underlying100 rfl ((HBc.out.block _ (by omega)).trans HN2.out) size100 ?_)))
      refine (arith_add a ⟨2, vi, vr, vs⟩ _).mono ?_
      rintro e w1 ⟨rfl, hb1⟩
      have HBc : Hid (Below w0.heap.size w0 w1) := hb1
      have hs1 := hb1.size
      clear hb1
      obtain ⟨u, hu⟩ : ∃ u, addV a ⟨2, vi, vr, vs⟩ = u := ⟨_, rfl⟩
      rw [hu]
      have HU : Hid (addV a ⟨2, vi, vr, vs⟩ = u) := hu
      clear hu
      unfold V.val
      go_wp2_with (first | (refine wpList_put (ty := 100) (g := w.heap.size + 2) rfl rfl rfl rfl size100 (by kernel_rfl) (by obtain ⟨z, h1, h2⟩ := HR2.out; exact ⟨z, (HBc.out.block _ (by omega)).trans h1, h2⟩) ?_; intro wz hz kz sz; have HNZ : Hid (wz.heap[w.heap.size + 2]? = some (.cells #[.int .u8 (V.k u), .int .i64 (V.i u), .float .f64 (V.r u), .string (V.s u)] 100 (0, 0))) := hz; have HKZ : Hid (Keep (fun k => k ≠ w.heap.size + 2) _ wz) := kz; clear hz kz sz))
      (refine bodyPost_ret (results_cell2 rfl _ _ _ _ _ _ _ rfl HNZ.out Yaed.underlying100 rfl size100) rfl ⟨by have h := HRES.out; (rw [stS, HN0.out, HU.out] at h); cases h; rfl, HBW.out.trans ((HBc.out.mono (by omega)).trans (HKZ.out.below (fun k hk => by show k ≠ w.heap.size + 2; omega)))⟩)
  · clear HVK; go_wp2_with (first | (first | (refine wpList_get (ty := 100) _ rfl rfl rfl Yaed.underlying100 rfl ((HBc.out.block _ (by omega)).trans HN1.out) size100 ?_) | (refine wpList_get (ty := 100) _ rfl rfl rfl Yaed.underlying100 rfl ((HBc.out.block _ (by omega)).trans HN2.out) size100 ?_)) | (refine wpList_put (ty := 100) (g := w.heap.size + 2) rfl rfl rfl rfl size100 (by kernel_rfl) (by obtain ⟨z, h1, h2⟩ := HR2.out; exact ⟨z, (HBc.out.block _ (by omega)).trans h1, h2⟩) ?_; intro wz hz kz sz; have HNZ : Hid (wz.heap[w.heap.size + 2]? = some (.cells #[.int .u8 (V.k a), .int .i64 (V.i a), .float .f64 (V.r a), .string (V.s a)] 100 (0, 0))) := hz; have HKZ : Hid (Keep (fun k => k ≠ w.heap.size + 2) _ wz) := kz; clear hz kz sz)); (refine bodyPost_ret (results_cell2 rfl _ _ _ _ _ _ _ rfl HNZ.out Yaed.underlying100 rfl size100) rfl ⟨by have h := HRES.out; (rw [stS] at h); cases h; rfl, HBW.out.trans ((HBc.out.mono (by omega)).trans (HKZ.out.below (fun k hk => by show k ≠ w.heap.size + 2; omega)))⟩)
end Go.Proofs.YgdaegDoor
