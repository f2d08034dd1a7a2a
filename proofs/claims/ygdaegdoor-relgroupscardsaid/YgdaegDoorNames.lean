import Derived.Test.YgdaegDoorStmt2
import Derived.Handy
set_option linter.unusedSimpArgs false
set_option linter.unusedVariables false
namespace Go.Proofs.YgdaegDoor
open Go.RowKit
theorem ba_get (a : Array UInt8) (i : Nat) (h : i < (⟨a⟩ : ByteArray).size) : (⟨a⟩ : ByteArray)[i]'h = a[i]'h := rfl
theorem conv8 (W : World) (ns rest : List Int) (cap : Nat) (e : TypeId) :
    (convert 173 9 (.slice (some ⟨W.heap.size, 0, none⟩) ns.length cap)).run Yaed.prog (W.alloc (.cells ((ns ++ rest).map (Value.int .u8)).toArray e)) =
      .ok (.string (ns.foldl (fun r n => r.push (UInt8.ofNat n.toNat)) ByteArray.empty)) (W.alloc (.cells ((ns ++ rest).map (Value.int .u8)).toArray e)) := by
  rw [run_convert_bytes_string _ 173 9 5 _ _ _ Yaed.underlying173 Yaed.underlying5 Yaed.underlying9]
  refine run_bytesToString _ _ _ _ ns ?_
  have h := run_loadCells_list (P := Yaed.prog) (w := W.alloc (.cells ((ns ++ rest).map (Value.int .u8)).toArray e)) ⟨W.heap.size, 0, none⟩ (ns.map (Value.int .u8)) (by
    intro j v hv
    refine World.news_of_block (heap_alloc_new W _) j v ?_
    have hj : j < (ns.map (Value.int .u8)).length := by
      rcases Nat.lt_or_ge j (ns.map (Value.int .u8)).length with h | h
      · exact h
      · rw [List.getElem?_eq_none h] at hv; cases hv
    simp only [List.map_append]
    rw [List.getElem?_append_left hj]
    exact hv)
  simpa using h
attribute [local go_sem] ba_get

set_option maxHeartbeats 2000000 in
set_option maxRecDepth 10000 in
theorem isKw_t (w : World) : Calls Yaed.prog 157 #[.string ⟨#[116]⟩] w fun r w' => r = .returned (.bool false) ∧ Below w.heap.size w w' := by
  have hcv : (convert 173 9 (.slice (some ⟨w.heap.size, 0, none⟩) 1 8)).run Yaed.prog (w.alloc (.cells #[Value.int IntKind.u8 116, Value.int IntKind.u8 0, Value.int IntKind.u8 0, Value.int IntKind.u8 0, Value.int IntKind.u8 0, Value.int IntKind.u8 0, Value.int IntKind.u8 0, Value.int IntKind.u8 0] 242)) = .ok (.string ⟨#[116]⟩) _ := conv8 w [116] [0, 0, 0, 0, 0, 0, 0] 8 242
  go_enter Yaed.func157, Yaed.ntmps157
  go_wp2_with fail
  go_rounds 2
  go_ret
  exact ⟨rfl, below_alloc _ _⟩
set_option maxHeartbeats 2000000 in
set_option maxRecDepth 10000 in
theorem goodName_t (w : World) : Calls Yaed.prog 117 #[.string ⟨#[116]⟩] w fun r w' => r = .returned (.bool true) ∧ Below w.heap.size w w' := by
  go_enter Yaed.func117, Yaed.ntmps117
  go_wp2_with fail
  refine wp_loop_rounds 2 ?_
  repeat any_goals (rw [rounds_succ]; go_wp2_with (go_at_call 157; refine (isKw_t _).mono ?_; rintro e w1 ⟨rfl, hb1⟩))
  go_ret
  exact ⟨rfl, hb1⟩

set_option maxHeartbeats 2000000 in
set_option maxRecDepth 10000 in
theorem isKw_i (w : World) : Calls Yaed.prog 157 #[.string ⟨#[105]⟩] w fun r w' => r = .returned (.bool false) ∧ Below w.heap.size w w' := by
  have hcv : (convert 173 9 (.slice (some ⟨w.heap.size, 0, none⟩) 1 8)).run Yaed.prog (w.alloc (.cells #[Value.int IntKind.u8 105, Value.int IntKind.u8 0, Value.int IntKind.u8 0, Value.int IntKind.u8 0, Value.int IntKind.u8 0, Value.int IntKind.u8 0, Value.int IntKind.u8 0, Value.int IntKind.u8 0] 242)) = .ok (.string ⟨#[105]⟩) _ := conv8 w [105] [0, 0, 0, 0, 0, 0, 0] 8 242
  go_enter Yaed.func157, Yaed.ntmps157
  go_wp2_with fail
  go_rounds 2
  go_ret
  exact ⟨rfl, below_alloc _ _⟩
set_option maxHeartbeats 2000000 in
set_option maxRecDepth 10000 in
theorem goodName_i (w : World) : Calls Yaed.prog 117 #[.string ⟨#[105]⟩] w fun r w' => r = .returned (.bool true) ∧ Below w.heap.size w w' := by
  go_enter Yaed.func117, Yaed.ntmps117
  go_wp2_with fail
  refine wp_loop_rounds 2 ?_
  repeat any_goals (rw [rounds_succ]; go_wp2_with (go_at_call 157; refine (isKw_i _).mono ?_; rintro e w1 ⟨rfl, hb1⟩))
  go_ret
  exact ⟨rfl, hb1⟩

set_option maxHeartbeats 2000000 in
set_option maxRecDepth 10000 in
theorem isKw_c0 (w : World) : Calls Yaed.prog 157 #[.string ⟨#[99, 48]⟩] w fun r w' => r = .returned (.bool false) ∧ Below w.heap.size w w' := by
  have hcv : (convert 173 9 (.slice (some ⟨w.heap.size, 0, none⟩) 2 8)).run Yaed.prog (w.alloc (.cells #[Value.int IntKind.u8 99, Value.int IntKind.u8 48, Value.int IntKind.u8 0, Value.int IntKind.u8 0, Value.int IntKind.u8 0, Value.int IntKind.u8 0, Value.int IntKind.u8 0, Value.int IntKind.u8 0] 242)) = .ok (.string ⟨#[99, 48]⟩) _ := conv8 w [99, 48] [0, 0, 0, 0, 0, 0] 8 242
  go_enter Yaed.func157, Yaed.ntmps157
  go_wp2_with fail
  go_rounds 3
  go_ret
  exact ⟨rfl, below_alloc _ _⟩
set_option maxHeartbeats 2000000 in
set_option maxRecDepth 10000 in
theorem goodName_c0 (w : World) : Calls Yaed.prog 117 #[.string ⟨#[99, 48]⟩] w fun r w' => r = .returned (.bool true) ∧ Below w.heap.size w w' := by
  go_enter Yaed.func117, Yaed.ntmps117
  go_wp2_with fail
  refine wp_loop_rounds 3 ?_
  repeat any_goals (rw [rounds_succ]; go_wp2_with (go_at_call 157; refine (isKw_c0 _).mono ?_; rintro e w1 ⟨rfl, hb1⟩))
  go_ret
  exact ⟨rfl, hb1⟩

set_option maxHeartbeats 2000000 in
set_option maxRecDepth 10000 in
theorem isKw_c1 (w : World) : Calls Yaed.prog 157 #[.string ⟨#[99, 49]⟩] w fun r w' => r = .returned (.bool false) ∧ Below w.heap.size w w' := by
  have hcv : (convert 173 9 (.slice (some ⟨w.heap.size, 0, none⟩) 2 8)).run Yaed.prog (w.alloc (.cells #[Value.int IntKind.u8 99, Value.int IntKind.u8 49, Value.int IntKind.u8 0, Value.int IntKind.u8 0, Value.int IntKind.u8 0, Value.int IntKind.u8 0, Value.int IntKind.u8 0, Value.int IntKind.u8 0] 242)) = .ok (.string ⟨#[99, 49]⟩) _ := conv8 w [99, 49] [0, 0, 0, 0, 0, 0] 8 242
  go_enter Yaed.func157, Yaed.ntmps157
  go_wp2_with fail
  go_rounds 3
  go_ret
  exact ⟨rfl, below_alloc _ _⟩
set_option maxHeartbeats 2000000 in
set_option maxRecDepth 10000 in
theorem goodName_c1 (w : World) : Calls Yaed.prog 117 #[.string ⟨#[99, 49]⟩] w fun r w' => r = .returned (.bool true) ∧ Below w.heap.size w w' := by
  go_enter Yaed.func117, Yaed.ntmps117
  go_wp2_with fail
  refine wp_loop_rounds 3 ?_
  repeat any_goals (rw [rounds_succ]; go_wp2_with (go_at_call 157; refine (isKw_c1 _).mono ?_; rintro e w1 ⟨rfl, hb1⟩))
  go_ret
  exact ⟨rfl, hb1⟩

set_option maxHeartbeats 2000000 in
set_option maxRecDepth 10000 in
theorem isKw_c2 (w : World) : Calls Yaed.prog 157 #[.string ⟨#[99, 50]⟩] w fun r w' => r = .returned (.bool false) ∧ Below w.heap.size w w' := by
  have hcv : (convert 173 9 (.slice (some ⟨w.heap.size, 0, none⟩) 2 8)).run Yaed.prog (w.alloc (.cells #[Value.int IntKind.u8 99, Value.int IntKind.u8 50, Value.int IntKind.u8 0, Value.int IntKind.u8 0, Value.int IntKind.u8 0, Value.int IntKind.u8 0, Value.int IntKind.u8 0, Value.int IntKind.u8 0] 242)) = .ok (.string ⟨#[99, 50]⟩) _ := conv8 w [99, 50] [0, 0, 0, 0, 0, 0] 8 242
  go_enter Yaed.func157, Yaed.ntmps157
  go_wp2_with fail
  go_rounds 3
  go_ret
  exact ⟨rfl, below_alloc _ _⟩
set_option maxHeartbeats 2000000 in
set_option maxRecDepth 10000 in
theorem goodName_c2 (w : World) : Calls Yaed.prog 117 #[.string ⟨#[99, 50]⟩] w fun r w' => r = .returned (.bool true) ∧ Below w.heap.size w w' := by
  go_enter Yaed.func117, Yaed.ntmps117
  go_wp2_with fail
  refine wp_loop_rounds 3 ?_
  repeat any_goals (rw [rounds_succ]; go_wp2_with (go_at_call 157; refine (isKw_c2 _).mono ?_; rintro e w1 ⟨rfl, hb1⟩))
  go_ret
  exact ⟨rfl, hb1⟩

set_option maxHeartbeats 2000000 in
set_option maxRecDepth 10000 in
theorem isKw_c3 (w : World) : Calls Yaed.prog 157 #[.string ⟨#[99, 51]⟩] w fun r w' => r = .returned (.bool false) ∧ Below w.heap.size w w' := by
  have hcv : (convert 173 9 (.slice (some ⟨w.heap.size, 0, none⟩) 2 8)).run Yaed.prog (w.alloc (.cells #[Value.int IntKind.u8 99, Value.int IntKind.u8 51, Value.int IntKind.u8 0, Value.int IntKind.u8 0, Value.int IntKind.u8 0, Value.int IntKind.u8 0, Value.int IntKind.u8 0, Value.int IntKind.u8 0] 242)) = .ok (.string ⟨#[99, 51]⟩) _ := conv8 w [99, 51] [0, 0, 0, 0, 0, 0] 8 242
  go_enter Yaed.func157, Yaed.ntmps157
  go_wp2_with fail
  go_rounds 3
  go_ret
  exact ⟨rfl, below_alloc _ _⟩
set_option maxHeartbeats 2000000 in
set_option maxRecDepth 10000 in
theorem goodName_c3 (w : World) : Calls Yaed.prog 117 #[.string ⟨#[99, 51]⟩] w fun r w' => r = .returned (.bool true) ∧ Below w.heap.size w w' := by
  go_enter Yaed.func117, Yaed.ntmps117
  go_wp2_with fail
  refine wp_loop_rounds 3 ?_
  repeat any_goals (rw [rounds_succ]; go_wp2_with (go_at_call 157; refine (isKw_c3 _).mono ?_; rintro e w1 ⟨rfl, hb1⟩))
  go_ret
  exact ⟨rfl, hb1⟩

set_option maxHeartbeats 2000000 in
set_option maxRecDepth 10000 in
theorem isKw_rowid (w : World) : Calls Yaed.prog 157 #[.string ⟨#[114, 111, 119, 105, 100]⟩] w fun r w' => r = .returned (.bool false) ∧ Below w.heap.size w w' := by
  have hcv : (convert 173 9 (.slice (some ⟨w.heap.size, 0, none⟩) 5 8)).run Yaed.prog (w.alloc (.cells #[Value.int IntKind.u8 114, Value.int IntKind.u8 111, Value.int IntKind.u8 119, Value.int IntKind.u8 105, Value.int IntKind.u8 100, Value.int IntKind.u8 0, Value.int IntKind.u8 0, Value.int IntKind.u8 0] 242)) = .ok (.string ⟨#[114, 111, 119, 105, 100]⟩) _ := conv8 w [114, 111, 119, 105, 100] [0, 0, 0] 8 242
  go_enter Yaed.func157, Yaed.ntmps157
  go_wp2_with fail
  go_rounds 6
  go_ret
  exact ⟨rfl, below_alloc _ _⟩
set_option maxHeartbeats 2000000 in
set_option maxRecDepth 10000 in
theorem goodName_rowid (w : World) : Calls Yaed.prog 117 #[.string ⟨#[114, 111, 119, 105, 100]⟩] w fun r w' => r = .returned (.bool true) ∧ Below w.heap.size w w' := by
  go_enter Yaed.func117, Yaed.ntmps117
  go_wp2_with fail
  refine wp_loop_rounds 6 ?_
  repeat any_goals (rw [rounds_succ]; go_wp2_with (go_at_call 157; refine (isKw_rowid _).mono ?_; rintro e w1 ⟨rfl, hb1⟩))
  go_ret
  exact ⟨rfl, hb1⟩

set_option maxHeartbeats 2000000 in
set_option maxRecDepth 10000 in
theorem isKw_count (w : World) : Calls Yaed.prog 157 #[.string ⟨#[99, 111, 117, 110, 116]⟩] w fun r w' => r = .returned (.bool false) ∧ Below w.heap.size w w' := by
  have hcv : (convert 173 9 (.slice (some ⟨w.heap.size, 0, none⟩) 5 8)).run Yaed.prog (w.alloc (.cells #[Value.int IntKind.u8 99, Value.int IntKind.u8 111, Value.int IntKind.u8 117, Value.int IntKind.u8 110, Value.int IntKind.u8 116, Value.int IntKind.u8 0, Value.int IntKind.u8 0, Value.int IntKind.u8 0] 242)) = .ok (.string ⟨#[99, 111, 117, 110, 116]⟩) _ := conv8 w [99, 111, 117, 110, 116] [0, 0, 0] 8 242
  go_enter Yaed.func157, Yaed.ntmps157
  go_wp2_with fail
  go_rounds 6
  go_ret
  exact ⟨rfl, below_alloc _ _⟩
set_option maxHeartbeats 2000000 in
set_option maxRecDepth 10000 in
theorem goodName_count (w : World) : Calls Yaed.prog 117 #[.string ⟨#[99, 111, 117, 110, 116]⟩] w fun r w' => r = .returned (.bool true) ∧ Below w.heap.size w w' := by
  go_enter Yaed.func117, Yaed.ntmps117
  go_wp2_with fail
  refine wp_loop_rounds 6 ?_
  repeat any_goals (rw [rounds_succ]; go_wp2_with (go_at_call 157; refine (isKw_count _).mono ?_; rintro e w1 ⟨rfl, hb1⟩))
  go_ret
  exact ⟨rfl, hb1⟩

set_option maxHeartbeats 2000000 in
set_option maxRecDepth 10000 in
theorem isKw_sum (w : World) : Calls Yaed.prog 157 #[.string ⟨#[115, 117, 109]⟩] w fun r w' => r = .returned (.bool false) ∧ Below w.heap.size w w' := by
  have hcv : (convert 173 9 (.slice (some ⟨w.heap.size, 0, none⟩) 3 8)).run Yaed.prog (w.alloc (.cells #[Value.int IntKind.u8 115, Value.int IntKind.u8 117, Value.int IntKind.u8 109, Value.int IntKind.u8 0, Value.int IntKind.u8 0, Value.int IntKind.u8 0, Value.int IntKind.u8 0, Value.int IntKind.u8 0] 242)) = .ok (.string ⟨#[115, 117, 109]⟩) _ := conv8 w [115, 117, 109] [0, 0, 0, 0, 0] 8 242
  go_enter Yaed.func157, Yaed.ntmps157
  go_wp2_with fail
  go_rounds 4
  go_ret
  exact ⟨rfl, below_alloc _ _⟩
set_option maxHeartbeats 2000000 in
set_option maxRecDepth 10000 in
theorem goodName_sum (w : World) : Calls Yaed.prog 117 #[.string ⟨#[115, 117, 109]⟩] w fun r w' => r = .returned (.bool true) ∧ Below w.heap.size w w' := by
  go_enter Yaed.func117, Yaed.ntmps117
  go_wp2_with fail
  refine wp_loop_rounds 4 ?_
  repeat any_goals (rw [rounds_succ]; go_wp2_with (go_at_call 157; refine (isKw_sum _).mono ?_; rintro e w1 ⟨rfl, hb1⟩))
  go_ret
  exact ⟨rfl, hb1⟩

set_option maxHeartbeats 2000000 in
set_option maxRecDepth 10000 in
theorem isKw_avg (w : World) : Calls Yaed.prog 157 #[.string ⟨#[97, 118, 103]⟩] w fun r w' => r = .returned (.bool false) ∧ Below w.heap.size w w' := by
  have hcv : (convert 173 9 (.slice (some ⟨w.heap.size, 0, none⟩) 3 8)).run Yaed.prog (w.alloc (.cells #[Value.int IntKind.u8 97, Value.int IntKind.u8 118, Value.int IntKind.u8 103, Value.int IntKind.u8 0, Value.int IntKind.u8 0, Value.int IntKind.u8 0, Value.int IntKind.u8 0, Value.int IntKind.u8 0] 242)) = .ok (.string ⟨#[97, 118, 103]⟩) _ := conv8 w [97, 118, 103] [0, 0, 0, 0, 0] 8 242
  go_enter Yaed.func157, Yaed.ntmps157
  go_wp2_with fail
  go_rounds 4
  go_ret
  exact ⟨rfl, below_alloc _ _⟩
set_option maxHeartbeats 2000000 in
set_option maxRecDepth 10000 in
theorem goodName_avg (w : World) : Calls Yaed.prog 117 #[.string ⟨#[97, 118, 103]⟩] w fun r w' => r = .returned (.bool true) ∧ Below w.heap.size w w' := by
  go_enter Yaed.func117, Yaed.ntmps117
  go_wp2_with fail
  refine wp_loop_rounds 4 ?_
  repeat any_goals (rw [rounds_succ]; go_wp2_with (go_at_call 157; refine (isKw_avg _).mono ?_; rintro e w1 ⟨rfl, hb1⟩))
  go_ret
  exact ⟨rfl, hb1⟩

set_option maxHeartbeats 2000000 in
set_option maxRecDepth 10000 in
theorem isKw_min (w : World) : Calls Yaed.prog 157 #[.string ⟨#[109, 105, 110]⟩] w fun r w' => r = .returned (.bool false) ∧ Below w.heap.size w w' := by
  have hcv : (convert 173 9 (.slice (some ⟨w.heap.size, 0, none⟩) 3 8)).run Yaed.prog (w.alloc (.cells #[Value.int IntKind.u8 109, Value.int IntKind.u8 105, Value.int IntKind.u8 110, Value.int IntKind.u8 0, Value.int IntKind.u8 0, Value.int IntKind.u8 0, Value.int IntKind.u8 0, Value.int IntKind.u8 0] 242)) = .ok (.string ⟨#[109, 105, 110]⟩) _ := conv8 w [109, 105, 110] [0, 0, 0, 0, 0] 8 242
  go_enter Yaed.func157, Yaed.ntmps157
  go_wp2_with fail
  go_rounds 4
  go_ret
  exact ⟨rfl, below_alloc _ _⟩
set_option maxHeartbeats 2000000 in
set_option maxRecDepth 10000 in
theorem goodName_min (w : World) : Calls Yaed.prog 117 #[.string ⟨#[109, 105, 110]⟩] w fun r w' => r = .returned (.bool true) ∧ Below w.heap.size w w' := by
  go_enter Yaed.func117, Yaed.ntmps117
  go_wp2_with fail
  refine wp_loop_rounds 4 ?_
  repeat any_goals (rw [rounds_succ]; go_wp2_with (go_at_call 157; refine (isKw_min _).mono ?_; rintro e w1 ⟨rfl, hb1⟩))
  go_ret
  exact ⟨rfl, hb1⟩

set_option maxHeartbeats 2000000 in
set_option maxRecDepth 10000 in
theorem isKw_max (w : World) : Calls Yaed.prog 157 #[.string ⟨#[109, 97, 120]⟩] w fun r w' => r = .returned (.bool false) ∧ Below w.heap.size w w' := by
  have hcv : (convert 173 9 (.slice (some ⟨w.heap.size, 0, none⟩) 3 8)).run Yaed.prog (w.alloc (.cells #[Value.int IntKind.u8 109, Value.int IntKind.u8 97, Value.int IntKind.u8 120, Value.int IntKind.u8 0, Value.int IntKind.u8 0, Value.int IntKind.u8 0, Value.int IntKind.u8 0, Value.int IntKind.u8 0] 242)) = .ok (.string ⟨#[109, 97, 120]⟩) _ := conv8 w [109, 97, 120] [0, 0, 0, 0, 0] 8 242
  go_enter Yaed.func157, Yaed.ntmps157
  go_wp2_with fail
  go_rounds 4
  go_ret
  exact ⟨rfl, below_alloc _ _⟩
set_option maxHeartbeats 2000000 in
set_option maxRecDepth 10000 in
theorem goodName_max (w : World) : Calls Yaed.prog 117 #[.string ⟨#[109, 97, 120]⟩] w fun r w' => r = .returned (.bool true) ∧ Below w.heap.size w w' := by
  go_enter Yaed.func117, Yaed.ntmps117
  go_wp2_with fail
  refine wp_loop_rounds 4 ?_
  repeat any_goals (rw [rounds_succ]; go_wp2_with (go_at_call 157; refine (isKw_max _).mono ?_; rintro e w1 ⟨rfl, hb1⟩))
  go_ret
  exact ⟨rfl, hb1⟩

theorem goodName_empty (w : World) : Calls Yaed.prog 117 #[.string ⟨#[]⟩] w fun r w' => r = .returned (.bool false) ∧ w' = w := by
  go_enter Yaed.func117, Yaed.ntmps117
  go_wp2_with fail
  go_ret
  exact ⟨rfl, rfl⟩
end Go.Proofs.YgdaegDoor
