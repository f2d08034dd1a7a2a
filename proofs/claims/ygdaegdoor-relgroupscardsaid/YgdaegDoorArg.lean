import Derived.Test.YgdaegDoorStore
namespace Go.Proofs.YgdaegDoor
open Go.RowKit
set_option linter.unusedSimpArgs false
set_option linter.unusedVariables false
set_option maxHeartbeats 2000000 in
/-- A child that is not there. -/
theorem arg_none (vs : Value) (f : Nat) (i : Int) (w : World) : Calls Yaed.prog 127 #[vs, .int .i16 f, .int .i16 (-1), .int .i64 i] w fun r w' => r = .returned V0.val ∧ Below w.heap.size w w' := by
  have hf : (-1 : Int) < f := by omega
  go_enter Yaed.func127, Yaed.ntmps127
  go_wp2_with (refine wpList_put (ty := 100) rfl rfl rfl rfl size100 (by kernel_rfl) ⟨_, heap_alloc_new w _, rfl⟩ ?_; intro w1 h1 k1 s1; have HN1 : Hid _ := h1; have HK1 : Hid _ := k1; clear h1 k1 s1)
  refine bodyPost_ret (results_cell_row rfl _ _ _ _ _ _ _ rfl HN1.out Yaed.underlying100 rfl size100) rfl ⟨rfl, ?_⟩
  exact (below_alloc w _).trans (HK1.out.below (fun k hk => by show k ≠ w.heap.size; omega))
set_option maxHeartbeats 2000000 in
/-- A child's value. -/
theorem arg_some (b o n cap k : Nat) (i : Nat) (hk : k < i) (hn : k < n) (hk3 : k < 128) (v : V) (w : World) (hb : b < w.heap.size)
    (h0 : w.cell? ⟨b, o + k * 4, none⟩ = some (.int .u8 v.k)) (h1 : w.cell? ⟨b, o + k * 4 + 1, none⟩ = some (.int .i64 v.i)) (h2 : w.cell? ⟨b, o + k * 4 + 2, none⟩ = some (.float .f64 v.r)) (h3 : w.cell? ⟨b, o + k * 4 + 3, none⟩ = some (.string v.s)) :
    Calls Yaed.prog 127 #[.slice (some ⟨b, o, none⟩) n cap, .int .i16 0, .int .i16 k, .int .i64 i] w fun r w' => r = .returned v.val ∧ Below w.heap.size w w' := by
  have hf : ¬ (k : Int) < 0 := by omega
  have hki : ¬ (i : Int) ≤ k := by omega
  have hw1 : IntKind.i16.wrap (k : Int) = k := IntWalk.i16_in _ (by omega)
  have hw2 : IntKind.i64.wrap (k : Int) = k := IntWalk.i64_in _ (by omega)
  have hkn : (k : Int) < n := by omega
  have hbn : ¬ b = w.heap.size := by omega
  go_enter Yaed.func127, Yaed.ntmps127
  go_wp2_with (refine wpList_put (ty := 100) rfl rfl rfl rfl size100 (by kernel_rfl) ⟨_, heap_alloc_new w _, rfl⟩ ?_; intro w1 h1 k1 s1; have HN1 : Hid _ := h1; have HK1 : Hid _ := k1; clear h1 k1 s1)
  refine bodyPost_ret (results_cell_row rfl _ _ _ _ _ _ _ rfl HN1.out Yaed.underlying100 rfl size100) rfl ⟨rfl, ?_⟩
  exact (below_alloc w _).trans (HK1.out.below (fun k hk => by show k ≠ w.heap.size; omega))
end Go.Proofs.YgdaegDoor
