import Derived.Test.YgdaegDoorStep
namespace Go.Proofs.YgdaegDoor
open Go.RowKit
set_option linter.unusedSimpArgs false
set_option linter.unusedVariables false
theorem norm2_kind (r : Nat) : (norm ⟨2, 0, r, ⟨#[]⟩⟩).k ≠ 1 := by
  have e : norm ⟨2, 0, r, ⟨#[]⟩⟩ = if nanB r then V0 else if nzB r then ⟨2, 0, 0, ⟨#[]⟩⟩ else ⟨2, 0, r, ⟨#[]⟩⟩ := rfl
  rw [e]
  split
  · decide
  · split
    · decide
    · show (2 : Int) ≠ 1; decide
theorem toReal_kind (a : V) : (norm (toRealV a)).k ≠ 1 := by
  unfold toRealV
  split
  · rw [norm_norm]; exact norm2_kind _
  · split
    · rename_i h; rw [norm_norm, h]; decide
    · rw [norm_V0]; decide
set_option maxRecDepth 20000 in
set_option maxHeartbeats 2000000 in
theorem final_any (g : Ag) (a : V) (n : Nat) (hn : n < 1000) (w : World) : Calls Yaed.prog 242 #[.string g.name, a.val, .int .i64 n] w fun r w' => r = .returned (g.fin a n).val ∧ Below w.heap.size w w' := by
  obtain ⟨ra, hres⟩ : ∃ p, g.fin a n = p := ⟨_, rfl⟩
  rw [hres]
  have HRES : Hid (g.fin a n = ra) := hres
  clear hres
  unfold V.val
  go_enter Yaed.func242, Yaed.ntmps242
  go_upto_region 1 with fail
  generalize hw0 : World.alloc (World.alloc _ _) _ = w0
  have HBW : Hid (Below w.heap.size w w0) := by rw [← hw0]; exact (below_alloc _ _).trans ((below_alloc _ _).mono (by simp))
  have HN1 : Hid (w0.heap[w.heap.size]? = some (.cells #[.int .u8 a.k, .int .i64 a.i, .float .f64 a.r, .string a.s] 100 (0, 0))) := by rw [← hw0]; exact (heap_old (by simp)).trans (heap_new rfl)
  have HR2 : Hid (∃ z, w0.heap[w.heap.size + 1]? = some (.cells z 100 (0, 0)) ∧ z.size = 4) := by rw [← hw0]; exact ⟨_, heap_new (by simp), rfl⟩
  have hs0 : w.heap.size + 2 ≤ w0.heap.size := by rw [← hw0]; simp
  clear hw0
  have HBc : Hid (Below w0.heap.size w0 w0) := Below.refl _ _
  by_cases hn0 : n = 0
  · subst hn0
    cases g
    · unfold Ag.name
      go_wp2_with fail
      refine (intV_any _ _).mono ?_
      rintro e w1 ⟨rfl, hb1⟩
      have HBc : Hid (Below w0.heap.size w0 w1) := hb1
      have hs1 := hb1.size
      clear hb1
      unfold V.val intV
      go_wp2_with ((refine wpList_put (ty := 100) (g := w.heap.size + 1) rfl rfl rfl rfl size100 (by kernel_rfl) (by obtain ⟨z, h1, h2⟩ := HR2.out; exact ⟨z, (HBc.out.block _ (by omega)).trans h1, h2⟩) ?_; intro wz hz kz sz; have HNZ : Hid (wz.heap[w.heap.size + 1]? = some (.cells #[.int .u8 (V.k (intV 0)), .int .i64 (V.i (intV 0)), .float .f64 (V.r (intV 0)), .string (V.s (intV 0))] 100 (0, 0))) := hz; have HKZ : Hid (Keep (fun k => k ≠ w.heap.size + 1) _ wz) := kz; clear hz kz sz))
      (refine bodyPost_ret (results_cell_row rfl _ _ _ _ _ _ _ rfl HNZ.out Yaed.underlying100 rfl size100) rfl ⟨by have h := HRES.out; (rw [Ag.fin] at h); subst h; rfl, HBW.out.trans ((HBc.out.mono (by omega)).trans (HKZ.out.below (fun k hk => by show k ≠ w.heap.size + 1; omega)))⟩)
    all_goals
      unfold Ag.name
      go_wp2_with ((refine wpList_put (ty := 100) (g := w.heap.size + 1) rfl rfl rfl rfl size100 (by kernel_rfl) (by obtain ⟨z, h1, h2⟩ := HR2.out; exact ⟨z, (HBc.out.block _ (by omega)).trans h1, h2⟩) ?_; intro wz hz kz sz; have HNZ : Hid (wz.heap[w.heap.size + 1]? = some (.cells #[.int .u8 (V.k V0), .int .i64 (V.i V0), .float .f64 (V.r V0), .string (V.s V0)] 100 (0, 0))) := hz; have HKZ : Hid (Keep (fun k => k ≠ w.heap.size + 1) _ wz) := kz; clear hz kz sz))
      (refine bodyPost_ret (results_cell_row rfl _ _ _ _ _ _ _ rfl HNZ.out Yaed.underlying100 rfl size100) rfl ⟨by have h := HRES.out; (unfold Ag.fin at h); subst h; rfl, HBW.out.trans ((HBc.out.mono (by omega)).trans (HKZ.out.below (fun k hk => by show k ≠ w.heap.size + 1; omega)))⟩)
  · have hn1 : ((n : Int) == 0) = false := by simpa using hn0
    have HN0 : Hid ((n == 0) = false) := (show (n == 0) = false by simpa using hn0)
    clear hn0
    cases g
    · unfold Ag.name
      go_wp2_with fail
      refine (intV_any _ _).mono ?_
      rintro e w1 ⟨rfl, hb1⟩
      have HBc : Hid (Below w0.heap.size w0 w1) := hb1
      have hs1 := hb1.size
      clear hb1
      unfold V.val intV
      go_wp2_with ((refine wpList_put (ty := 100) (g := w.heap.size + 1) rfl rfl rfl rfl size100 (by kernel_rfl) (by obtain ⟨z, h1, h2⟩ := HR2.out; exact ⟨z, (HBc.out.block _ (by omega)).trans h1, h2⟩) ?_; intro wz hz kz sz; have HNZ : Hid (wz.heap[w.heap.size + 1]? = some (.cells #[.int .u8 (V.k (intV n)), .int .i64 (V.i (intV n)), .float .f64 (V.r (intV n)), .string (V.s (intV n))] 100 (0, 0))) := hz; have HKZ : Hid (Keep (fun k => k ≠ w.heap.size + 1) _ wz) := kz; clear hz kz sz))
      (refine bodyPost_ret (results_cell_row rfl _ _ _ _ _ _ _ rfl HNZ.out Yaed.underlying100 rfl size100) rfl ⟨by have h := HRES.out; (rw [Ag.fin] at h); subst h; rfl, HBW.out.trans ((HBc.out.mono (by omega)).trans (HKZ.out.below (fun k hk => by show k ≠ w.heap.size + 1; omega)))⟩)
    · unfold Ag.name
      go_wp2_with (first | (refine wpList_get (ty := 100) _ rfl rfl rfl Yaed.underlying100 rfl ((HBc.out.block _ (by omega)).trans HN1.out) size100 ?_) | (refine wpList_put (ty := 100) (g := w.heap.size + 1) rfl rfl rfl rfl size100 (by kernel_rfl) (by obtain ⟨z, h1, h2⟩ := HR2.out; exact ⟨z, (HBc.out.block _ (by omega)).trans h1, h2⟩) ?_; intro wz hz kz sz; have HNZ : Hid (wz.heap[w.heap.size + 1]? = some (.cells #[.int .u8 (V.k a), .int .i64 (V.i a), .float .f64 (V.r a), .string (V.s a)] 100 (0, 0))) := hz; have HKZ : Hid (Keep (fun k => k ≠ w.heap.size + 1) _ wz) := kz; clear hz kz sz))
      (refine bodyPost_ret (results_cell_row rfl _ _ _ _ _ _ _ rfl HNZ.out Yaed.underlying100 rfl size100) rfl ⟨by have h := HRES.out; (rw [Ag.fin, HN0.out] at h <;> (try (intro h; cases h))); subst h; rfl, HBW.out.trans ((HBc.out.mono (by omega)).trans (HKZ.out.below (fun k hk => by show k ≠ w.heap.size + 1; omega)))⟩)
    · unfold Ag.name
      go_wp2_with ((refine wpList_get (ty := 100) _ rfl rfl rfl Yaed.underlying100 rfl ((HBc.out.block _ (by omega)).trans HN1.out) size100 ?_))
      refine (toReal_any a _).mono ?_
      rintro e w1 ⟨rfl, hb1⟩
      have HB1 : Hid (Below w0.heap.size w0 w1) := hb1
      have hs1 := hb1.size
      clear hb1
      go_wp2_with fail
      refine (intV_any _ _).mono ?_
      rintro e w2 ⟨rfl, hb2⟩
      have HB2 : Hid (Below w0.heap.size w0 w2) := HB1.out.trans (hb2.mono hs1)
      have hs2 : w0.heap.size ≤ w2.heap.size := HB2.out.size
      clear hb2
      go_wp2_with fail
      refine (arith_div (toRealV a) (intV n) (toReal_kind a) n rfl _).mono ?_
      rintro e w3 ⟨rfl, hb3⟩
      have HBc : Hid (Below w0.heap.size w0 w3) := HB2.out.trans (hb3.mono hs2)
      clear hb3
      obtain ⟨u, hu⟩ : ∃ u, divV (toRealV a) n = u := ⟨_, rfl⟩
      rw [hu]
      have HU : Hid (divV (toRealV a) n = u) := hu
      clear hu
      unfold V.val
      go_wp2_with ((refine wpList_put (ty := 100) (g := w.heap.size + 1) rfl rfl rfl rfl size100 (by kernel_rfl) (by obtain ⟨z, h1, h2⟩ := HR2.out; exact ⟨z, (HBc.out.block _ (by omega)).trans h1, h2⟩) ?_; intro wz hz kz sz; have HNZ : Hid (wz.heap[w.heap.size + 1]? = some (.cells #[.int .u8 (V.k u), .int .i64 (V.i u), .float .f64 (V.r u), .string (V.s u)] 100 (0, 0))) := hz; have HKZ : Hid (Keep (fun k => k ≠ w.heap.size + 1) _ wz) := kz; clear hz kz sz))
      (refine bodyPost_ret (results_cell_row rfl _ _ _ _ _ _ _ rfl HNZ.out Yaed.underlying100 rfl size100) rfl ⟨by have h := HRES.out; (rw [Ag.fin, HN0.out, HU.out] at h); subst h; rfl, HBW.out.trans ((HBc.out.mono (by omega)).trans (HKZ.out.below (fun k hk => by show k ≠ w.heap.size + 1; omega)))⟩)
    · unfold Ag.name
      go_wp2_with (first | (refine wpList_get (ty := 100) _ rfl rfl rfl Yaed.underlying100 rfl ((HBc.out.block _ (by omega)).trans HN1.out) size100 ?_) | (refine wpList_put (ty := 100) (g := w.heap.size + 1) rfl rfl rfl rfl size100 (by kernel_rfl) (by obtain ⟨z, h1, h2⟩ := HR2.out; exact ⟨z, (HBc.out.block _ (by omega)).trans h1, h2⟩) ?_; intro wz hz kz sz; have HNZ : Hid (wz.heap[w.heap.size + 1]? = some (.cells #[.int .u8 (V.k a), .int .i64 (V.i a), .float .f64 (V.r a), .string (V.s a)] 100 (0, 0))) := hz; have HKZ : Hid (Keep (fun k => k ≠ w.heap.size + 1) _ wz) := kz; clear hz kz sz))
      (refine bodyPost_ret (results_cell_row rfl _ _ _ _ _ _ _ rfl HNZ.out Yaed.underlying100 rfl size100) rfl ⟨by have h := HRES.out; (rw [Ag.fin, HN0.out] at h <;> (try (intro h; cases h))); subst h; rfl, HBW.out.trans ((HBc.out.mono (by omega)).trans (HKZ.out.below (fun k hk => by show k ≠ w.heap.size + 1; omega)))⟩)
    · unfold Ag.name
      go_wp2_with (first | (refine wpList_get (ty := 100) _ rfl rfl rfl Yaed.underlying100 rfl ((HBc.out.block _ (by omega)).trans HN1.out) size100 ?_) | (refine wpList_put (ty := 100) (g := w.heap.size + 1) rfl rfl rfl rfl size100 (by kernel_rfl) (by obtain ⟨z, h1, h2⟩ := HR2.out; exact ⟨z, (HBc.out.block _ (by omega)).trans h1, h2⟩) ?_; intro wz hz kz sz; have HNZ : Hid (wz.heap[w.heap.size + 1]? = some (.cells #[.int .u8 (V.k a), .int .i64 (V.i a), .float .f64 (V.r a), .string (V.s a)] 100 (0, 0))) := hz; have HKZ : Hid (Keep (fun k => k ≠ w.heap.size + 1) _ wz) := kz; clear hz kz sz))
      (refine bodyPost_ret (results_cell_row rfl _ _ _ _ _ _ _ rfl HNZ.out Yaed.underlying100 rfl size100) rfl ⟨by have h := HRES.out; (rw [Ag.fin, HN0.out] at h <;> (try (intro h; cases h))); subst h; rfl, HBW.out.trans ((HBc.out.mono (by omega)).trans (HKZ.out.below (fun k hk => by show k ≠ w.heap.size + 1; omega)))⟩)
end Go.Proofs.YgdaegDoor
