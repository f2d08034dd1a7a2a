import Derived.Test.YgdaegDoorNode67
namespace Go.Proofs.YgdaegDoor
open Go.RowKit
set_option linter.unusedSimpArgs false
set_option linter.unusedVariables false
set_option maxRecDepth 20000 in
set_option maxHeartbeats 4000000 in
/-- Eval at a leaf. -/
theorem eval_leaf (e : E) (ha : e.a = -1) (R : V) (b o n cap x : Nat) (hxn : x < n) (hx3 : x < 30000) (cv rv : Value) (id : Int) (w : World) (hN : NodeAt w b (o + x * 12) e)
    (hnode : ∀ vsv w1, Below w.heap.size w w1 → Calls Yaed.prog 67 #[.slice (some ⟨b, o, none⟩) n cap, vsv, .int .i16 x, .int .i64 x, cv, .int .i64 id, rv] w1 fun r w2 => r = .returned R.val ∧ Below w1.heap.size w1 w2) :
    Calls Yaed.prog 39 #[.slice (some ⟨b, o, none⟩) n cap, .int .i16 x, cv, .int .i64 id, rv] w fun r w' => r = .returned R.val ∧ Below w.heap.size w w' := by
  have HN : Hid (NodeAt w b (o + x * 12) e) := hN
  have HND : Hid (∀ vsv w1, Below w.heap.size w w1 → Calls Yaed.prog 67 #[.slice (some ⟨b, o, none⟩) n cap, vsv, .int .i16 x, .int .i64 x, cv, .int .i64 id, rv] w1 fun r w2 => r = .returned R.val ∧ Below w1.heap.size w1 w2) := hnode
  obtain ⟨_, h1, _⟩ := hN.facts
  rw [ha] at h1
  have hb := hN.1
  have hbne : ¬ b = w.heap.size := by omega
  have hx0 : ¬ (x : Int) < 0 := by omega
  have hw1 : IntKind.i64.wrap (x : Int) = x := IntWalk.i64_in _ (by omega)
  have hw2 : IntKind.i16.wrap ((x : Int) + 1) = x + 1 := IntWalk.i16_in _ (by omega)
  have hxn' : ¬ (n : Int) ≤ x := by omega
  have hxs : IntKind.i16.wrap 0 = 0 := by decide
  have hxs1 : IntKind.i16.wrap 1 = 1 := by decide
  clear hN hnode
  go_enter Yaed.func39, Yaed.ntmps39
  go_wp2_with fail
  refine wp_loop_rounds 1 ?_
  rw [rounds_succ]
  go_wp2_with (refine wpList_mk (n := 1) rfl rfl Yaed.underlying94 info100 rfl rfl (by omega) (by omega) ?_)
  intro w1 cs hcs hcz hb1 hs1 _
  have HB1 : Hid (Below w.heap.size w w1) := (below_alloc w _).trans (hb1.mono (by simp))
  have HR1 : Hid (∃ z, w1.heap[w.heap.size]? = some (.cells z 100 (0, 0)) ∧ z.size = 4) := ⟨_, (hb1.block _ (by simp)).trans (heap_alloc_new w _), rfl⟩
  have HC1 : Hid (w1.heap[w.heap.size + 1]? = some (.cells cs 100 (0, 0)) ∧ cs.size = 4) := ⟨by simpa using hcs, by simpa using hcz⟩
  have hs1' : w.heap.size + 2 ≤ w1.heap.size := by first | omega | (simp at hs1; omega)
  clear hcs hcz hb1 hs1
  go_wp2_with fail
  refine wp_loop_rounds 2 ?_
  rw [rounds_succ]
  go_wp2_with fail
  refine (HND.out _ _ HB1.out).mono ?_
  rintro e' w2 ⟨rfl, hb2⟩
  have HB2 : Hid (Below w1.heap.size w1 w2) := hb2
  clear hb2
  unfold V.val
  go_wp2_with (refine wpList_put (ty := 100) (g := w.heap.size + 1) rfl rfl rfl rfl size100 (by kernel_rfl) (by obtain ⟨h1, h2⟩ := HC1.out; exact ⟨_, (HB2.out.block _ (by omega)).trans h1, h2⟩) ?_; intro w3 h3 k3 s3; have HN3 : Hid (w3.heap[w.heap.size + 1]? = some (.cells #[.int .u8 R.k, .int .i64 R.i, .float .f64 R.r, .string R.s] 100 (0, 0))) := h3; have HK3 : Hid (Keep (fun k => k ≠ w.heap.size + 1) w2 w3) := k3; clear h3 k3 s3)
  rw [rounds_succ]
  have hs2 := HB2.out.size
  have hs3 := HK3.out.size
  go_wp2_with (first | (refine wpList_get (ty := 100) _ rfl rfl rfl Yaed.underlying100 rfl HN3.out size100 ?_) | (refine wpList_put (ty := 100) (g := w.heap.size) rfl rfl rfl rfl size100 (by kernel_rfl) (by obtain ⟨z, h1, h2⟩ := HR1.out; exact ⟨z, (HK3.out.block _ (by show w.heap.size ≠ w.heap.size + 1; omega)).trans ((HB2.out.block _ (by omega)).trans h1), h2⟩) ?_; intro w4 h4 k4 s4; have HN4 : Hid (w4.heap[w.heap.size]? = some (.cells #[.int .u8 R.k, .int .i64 R.i, .float .f64 R.r, .string R.s] 100 (0, 0))) := h4; have HK4 : Hid (Keep (fun k => k ≠ w.heap.size) w3 w4) := k4; clear h4 k4 s4))
  refine bodyPost_ret (results_cell_row rfl _ _ _ _ _ _ _ rfl HN4.out Yaed.underlying100 rfl size100) rfl ⟨rfl, ?_⟩
  exact HB1.out.trans ((HB2.out.mono (by omega)).trans ((HK3.out.below (fun k hk => by show k ≠ w.heap.size + 1; omega)).trans (HK4.out.below (fun k hk => by show k ≠ w.heap.size; omega))))
end Go.Proofs.YgdaegDoor
