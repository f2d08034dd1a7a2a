import Derived.Test.YgdaegDoorPRow
namespace Go.Proofs.YgdaegDoor
open Go.RowKit
set_option linter.unusedSimpArgs false
set_option linter.unusedVariables false
set_option maxRecDepth 20000 in
set_option maxHeartbeats 2000000 in
/-- sameRow of two rows of the same normal values. -/
theorem sameRow_any (n : Nat) (hn : n ≤ 1000) (f : Nat → V) (hf : ∀ t, t < n → NV (f t)) (a ac b bc : Nat) (w : World) (hx : ∀ t, t < n → w.rangeAt a (t * 4) (f t).list) (hy : ∀ t, t < n → w.rangeAt b (t * 4) (f t).list) :
    Calls Yaed.prog 41 #[.slice (some ⟨a, 0, none⟩) n ac, .slice (some ⟨b, 0, none⟩) n bc] w fun r w' => r = .returned (.bool true) ∧ Below w.heap.size w w' := by
  have HF : Hid (∀ t, t < n → NV (f t)) := hf
  have HX : Hid (∀ t, t < n → w.rangeAt a (t * 4) (f t).list) := hx
  have HY : Hid (∀ t, t < n → w.rangeAt b (t * 4) (f t).list) := hy
  clear hf hx hy
  go_enter Yaed.func41, Yaed.ntmps41
  go_wp2_with fail
  go_loopw [13] (fun c wr => ∃ k : Nat, k ≤ n ∧ c = .int .i64 k ∧ Hid (wr.heap = w.heap) ∧ Hid (Below w.heap.size w wr)) (fun c _ => n - (intOf c).toNat)
  case atStart => exact ⟨0, Nat.zero_le _, rfl, rfl, Below.refl _ _⟩
  case round =>
    obtain ⟨k, hk, rfl, HH, HB⟩ := hrel
    by_cases hkn : k < n
    · have hkn' : (k : Int) < n := by omega
      obtain ⟨v, hv⟩ : ∃ v, f k = v := ⟨_, rfl⟩
      have HV : Hid (NV v) := by rw [← hv]; exact HF.out k hkn
      have hrx : wr.rangeAt a (k * 4) v.list := by
        intro j u hu
        rw [World.cell?_of_block (w := w) (a := ⟨a, _, none⟩) (by show wr.heap[a]? = w.heap[a]?; rw [HH.out])]
        exact HX.out k hkn j u (by rw [hv]; exact hu)
      have hry : wr.rangeAt b (k * 4) v.list := by
        intro j u hu
        rw [World.cell?_of_block (w := w) (a := ⟨b, _, none⟩) (by show wr.heap[b]? = w.heap[b]?; rw [HH.out])]
        exact HY.out k hkn j u (by rw [hv]; exact hu)
      have x0 := hrx 0 _ rfl
      have x1 := hrx 1 _ rfl
      have x2 := hrx 2 _ rfl
      have x3 := hrx 3 _ rfl
      have y0 := hry 0 _ rfl
      have y1 := hry 1 _ rfl
      have y2 := hry 2 _ rfl
      have y3 := hry 3 _ rfl
      simp only [Nat.add_zero] at x0 y0
      clear hrx hry hv
      go_wp2_with fail
      refine wp_region_can (l := [_, _, _, _, _, _, _, _]) [(true, 0), (true, 1), (true, 2), (true, 3), (true, 4), (true, 5), (true, 6), (true, 7)] (fun W => W.cell? ⟨a, k * 4, none⟩ = some (.int .u8 v.k) ∧ W.cell? ⟨a, k * 4 + 1, none⟩ = some (.int .i64 v.i) ∧ W.cell? ⟨a, k * 4 + 2, none⟩ = some (.float .f64 v.r) ∧ W.cell? ⟨a, k * 4 + 3, none⟩ = some (.string v.s) ∧ W.cell? ⟨b, k * 4, none⟩ = some (.int .u8 v.k) ∧ W.cell? ⟨b, k * 4 + 1, none⟩ = some (.int .i64 v.i) ∧ W.cell? ⟨b, k * 4 + 2, none⟩ = some (.float .f64 v.r) ∧ W.cell? ⟨b, k * 4 + 3, none⟩ = some (.string v.s)) (by kernel_rfl) (by kernel_rfl) ⟨x0, x1, x2, x3, y0, y1, y2, y3⟩ ?_
      repeat (first | ((first | refine wpCan_q (v := ?_) rfl rfl rfl ?_ ?_ | refine wpCan_qg (v := ?_) rfl rfl (by rfl) ?_ ?_); rotate_left; (focus (rintro W ⟨q1, q2, q3, q4, q5, q6, q7, q8⟩; go_simp; first | done | exact rfl)); simp only [Act.put, List.setIfInBounds_toArray, List.set_cons_zero, List.set_cons_succ]) | (refine wpCan_skip rfl rfl (by rfl) ?_; simp only [Act.put, List.setIfInBounds_toArray, List.set_cons_zero, List.set_cons_succ]))
      refine wpCan_nil ?_
      clear x0 x1 x2 x3 y0 y1 y2 y3
      have hvn : ∀ W : World, (binOp .neq 100 (.agg #[.int .u8 v.k, .int .i64 v.i, .float .f64 v.r, .string v.s]) (.agg #[.int .u8 v.k, .int .i64 v.i, .float .f64 v.r, .string v.s])).run Yaed.prog W = .ok (.bool false) W := by
        intro W
        have := vne_run v v W
        rw [veq_self HV.out.1 HV.out.2] at this
        exact this
      go_wp2_with fail
      go_roundw
      case rel => exact ⟨k + 1, by omega, by go_num, HH, HB.out.drew⟩
      case measure => simp [intOf]; omega
    · obtain rfl : k = n := by omega
      go_wp2_with fail
      go_ret
      exact ⟨rfl, HB.out⟩
end Go.Proofs.YgdaegDoor
