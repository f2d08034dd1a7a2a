import Derived.Test.YgdaegDoorSmall
namespace Go.Proofs.YgdaegDoor
open Go.RowKit
set_option linter.unusedSimpArgs false
set_option linter.unusedVariables false
set_option maxRecDepth 20000 in
set_option maxHeartbeats 2000000 in
/-- order without keys: nothing moves. -/
theorem order_none (n : Nat) (hn : n ≤ 1000) (ra : Option Addr) (rc kb ko kc : Nat) (dv : Value) (w : World) (hkb : kb < w.heap.size) (hk : ∀ i, i < n → ∃ a c, w.cell? ⟨kb, ko + i, none⟩ = some (.slice a 0 c)) :
    Calls Yaed.prog 237 #[.slice ra n rc, .slice (some ⟨kb, ko, none⟩) n kc, dv] w fun r w' => (∃ v, r = .returned v) ∧ Below w.heap.size w w' := by
  have HK : Hid (∀ i, i < n → ∃ a c, w.cell? ⟨kb, ko + i, none⟩ = some (.slice a 0 c)) := hk
  clear hk
  go_enter Yaed.func237, Yaed.ntmps237
  go_wp2_with fail
  go_loopw [6] (fun c wr => ∃ i : Nat, i ≤ n ∧ c = .int .i64 ((i : Int) + 1) ∧ Hid (Below w.heap.size w wr)) (fun c _ => n + 1 - (intOf c).toNat)
  case atStart => exact ⟨0, Nat.zero_le _, rfl, Below.refl _ _⟩
  case round =>
    obtain ⟨i, hi, rfl, HB⟩ := hrel
    by_cases hin : i + 1 < n
    · have hin' : (i : Int) + 1 < n := by omega
      obtain ⟨a1, c1, q1⟩ := HK.out (i + 1) hin
      obtain ⟨a0, c0, q0⟩ := HK.out i (by omega)
      have r1 : wr.cell? ⟨kb, ko + (i + 1), none⟩ = some (.slice a1 0 c1) := by rw [HB.out.cell (p := ⟨kb, _, none⟩) hkb]; exact q1
      have r0 : wr.cell? ⟨kb, ko + i, none⟩ = some (.slice a0 0 c0) := by rw [HB.out.cell (p := ⟨kb, _, none⟩) hkb]; exact q0
      clear q1 q0
      have hi0 : (0 : Int) < (i : Int) + 1 := by omega
      have hi1 : ¬ (i : Int) + 1 < 0 := by omega
      have hi2 : (i : Int) < n := by omega
      have hi3 : ¬ (i : Int) < 0 := by omega
      have ht : ((i : Int) + 1).toNat = i + 1 := by omega
      have hw1 : IntKind.i64.wrap (i : Int) = i := IntWalk.i64_in _ (by omega)
      have hw2 : IntKind.i64.wrap ((i : Int) + 1 + 1) = (i : Int) + 1 + 1 := IntWalk.i64_in _ (by omega)
      go_wp2_with fail
      refine wp_loop_rounds 1 ?_
      rw [rounds_succ]
      go_wp2_with fail
      refine wp_region_can (l := [_, _, _, _, _, _, _, _, _, _, _, _, _, _]) [(true, 0), (true, 1), (true, 2), (true, 3), (true, 4), (true, 5), (true, 6), (true, 7), (true, 8), (true, 9), (true, 10), (true, 11), (true, 12), (false, 13)] (fun W => W.cell? ⟨kb, ko + (i + 1), none⟩ = some (.slice a1 0 c1) ∧ W.cell? ⟨kb, ko + i, none⟩ = some (.slice a0 0 c0)) (by kernel_rfl) (by kernel_rfl) ⟨r1, r0⟩ ?_
      repeat (first | ((first | refine wpCan_q (v := ?_) rfl rfl rfl ?_ ?_ | refine wpCan_qg (v := ?_) rfl rfl (by rfl) ?_ ?_); rotate_left; (focus (rintro W ⟨q1, q2⟩; go_simp; first | done | exact rfl)); simp only [Act.put, List.setIfInBounds_toArray, List.set_cons_zero, List.set_cons_succ]) | (refine wpCan_skip rfl rfl (by rfl) ?_; simp only [Act.put, List.setIfInBounds_toArray, List.set_cons_zero, List.set_cons_succ]))
      refine wpCan_eg rfl (by rfl) (fun K hK => ?_)
      go_simp
      refine (before_none _ _ _ c1 a1 rfl _).mono ?_
      rintro e w2 ⟨rfl, hb2⟩
      have HB2 : Hid (Below wr.heap.size wr w2) := below_of_drew hb2
      clear hb2
      have hs2 := HB.out.size
      refine hK _ _ ⟨⟨?_, ?_⟩, ?_⟩
      · rw [HB2.out.cell (p := ⟨kb, _, none⟩) (by show kb < wr.heap.size; omega)]; exact r1
      · rw [HB2.out.cell (p := ⟨kb, _, none⟩) (by show kb < wr.heap.size; omega)]; exact r0
      clear hK K
      refine wpCan_nil ?_
      try simp only [Act.put, List.setIfInBounds_toArray, List.set_cons_zero, List.set_cons_succ]
      go_wp2_with fail
      go_roundw
      case rel => exact ⟨i + 1, by omega, by go_num, HB.out.trans (HB2.out.mono hs2)⟩
      case measure => simp [intOf]; omega
    · have hin' : ¬ (i : Int) + 1 < n := by omega
      go_wp2_with fail
      (first | (refine bodyPost_ret (results_none rfl _ _ _) rfl ?_) | ((try simp only [Exit.inBlock, Exit.then]); refine bodyPost_end (results_none rfl _ _ _) rfl ?_))
      exact ⟨⟨_, rfl⟩, HB.out⟩
set_option maxHeartbeats 1000000 in
/-- order of nothing. -/
theorem order_zero (ra : Option Addr) (rc : Nat) (kv dv : Value) (w : World) : Calls Yaed.prog 237 #[.slice ra 0 rc, kv, dv] w fun r w' => (∃ v, r = .returned v) ∧ Below w.heap.size w w' := by
  go_enter Yaed.func237, Yaed.ntmps237
  go_wp2_with fail
  refine wp_loop_rounds 1 ?_
  rw [rounds_succ]
  go_wp2_with fail
  (first | (refine bodyPost_ret (results_none rfl _ _ _) rfl ?_) | ((try simp only [Exit.inBlock, Exit.then]); refine bodyPost_end (results_none rfl _ _ _) rfl ?_))
  exact ⟨⟨_, rfl⟩, Below.refl _ _⟩
end Go.Proofs.YgdaegDoor
