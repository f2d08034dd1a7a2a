import Derived.Test.YgdaegDoorNode
namespace Go.Proofs.YgdaegDoor
open Go.RowKit
set_option linter.unusedSimpArgs false
set_option linter.unusedVariables false

theorem Arr.node {w : World} {ok : Nat → Prop} {av : Value} {es : List E} (h : Arr w ok av 12 (es.map E.list)) :
    ∃ a cap, av = .slice a es.length cap ∧ ∀ i, i < es.length → ∃ b o, a = some ⟨b, o, none⟩ ∧ ok b ∧ NodeAt w b (o + i * 12) (es.getD i (leafE 0 V0)) := by
  obtain ⟨a, cap, hv, _, h⟩ := h
  rw [List.length_map] at hv h
  refine ⟨a, cap, hv, fun i hi => ?_⟩
  obtain ⟨b, o, h1, h2, h3, h4⟩ := h i hi
  refine ⟨b, o, h1, h2, h3, fun f hf => ?_⟩
  rw [h4 f hf]
  congr 2
  simp [List.getD_eq_getElem?_getD, hi]

theorem below_any (k i : Int) (h0 : 0 ≤ k) (hk : k < i) (h16 : k < 30000) (w : World) : Calls Yaed.prog 159 #[.int .i16 k, .int .i64 i] w fun r w' => r = .returned (.bool true) ∧ w' = w := by
  go_enter Yaed.func159, Yaed.ntmps159
  go_wp2_with fail
  go_ret
  exact ⟨rfl, rfl⟩

theorem callRight_any (e : E) (hop : (e.op != 6) = true) (b off : Nat) (n : Int) (w : World) (hN : NodeAt w b off e) :
    Calls Yaed.prog 122 #[.pointer (some ⟨b, off, none⟩), .int .i64 n] w fun r w' => r = .returned (.bool true) ∧ w' = w := by
  obtain ⟨h0, _⟩ := hN.facts
  clear hN
  go_enter Yaed.func122, Yaed.ntmps122
  go_wp2_with fail
  go_ret
  exact ⟨rfl, rfl⟩

set_option maxRecDepth 20000 in
set_option maxHeartbeats 1000000 in
theorem kids_leaf (e : E) (hop : e.op = 4 ∨ e.op = 0 ∨ e.op = 5) (ha : e.a = -1) (hb' : e.b = -1) (b o i n cap : Nat) (hin : i < n) (w : World) (hN : NodeAt w b (o + i * 12) e) :
    Calls Yaed.prog 121 #[.slice (some ⟨b, o, none⟩) n cap, .int .i64 i] w fun r w' => r = .returned (.tuple #[nilS, .bool true]) ∧ Below w.heap.size w w' := by
  have HN : Hid (NodeAt w b (o + i * 12) e) := hN
  obtain ⟨h0, h1, h2, _⟩ := hN.facts
  rw [ha] at h1
  rw [hb'] at h2
  clear hN
  have hle : e.op ≤ 5 := by omega
  go_enter Yaed.func121, Yaed.ntmps121
  go_wp2_with fail
  refine wp_region_can (l := [_, _, _, _, _, _, _, _, _, _, _, _, _]) [(true, 0), (true, 1), (true, 2), (true, 3), (true, 4), (true, 5), (true, 6), (true, 7), (true, 8), (true, 9), (true, 10), (true, 11), (true, 12)]
     (fun W => NodeAt W b (o + i * 12) e) (by kernel_rfl) (by kernel_rfl) HN.out ?_
  repeat ((first | refine wpCan_q (v := ?_) rfl rfl rfl ?_ ?_ | refine wpCan_qg (v := ?_) rfl rfl (by rfl) ?_ ?_); rotate_left; (focus (intro W hW; obtain ⟨g0, g1, g2, _⟩ := hW.facts; clear hW; rw [ha] at g1; rw [hb'] at g2; go_simp; first | done | exact rfl)); simp only [Act.put, List.setIfInBounds_toArray, List.set_cons_zero, List.set_cons_succ])
  refine wpCan_nil ?_
  go_wp2_with fail
  go_ret2
  exact ⟨rfl, (Below.refl _ _).drew⟩

set_option maxRecDepth 20000 in
set_option maxHeartbeats 2000000 in
theorem kids_eq (x y : Int) (b o i n cap : Nat) (hin : i < n) (hx0 : 0 ≤ x) (hxi : x < i) (hy0 : 0 ≤ y) (hyi : y < i) (hx : x < 30000) (hy : y < 30000) (w : World) (hN : NodeAt w b (o + i * 12) (opE 11 x y)) :
    Calls Yaed.prog 121 #[.slice (some ⟨b, o, none⟩) n cap, .int .i64 i] w fun r w' => ∃ g, r = .returned (.tuple #[.slice (some ⟨g, 0, none⟩) 2 2, .bool true]) ∧
      w'.heap[g]? = some (.cells #[.int .i16 x, .int .i16 y] 35 (0, 0)) ∧ w.heap.size ≤ g ∧ Below w.heap.size w w' := by
  have HN : Hid (NodeAt w b (o + i * 12) (opE 11 x y)) := hN
  obtain ⟨h0, h1, h2, _⟩ := hN.facts
  simp only [opE] at h0 h1 h2
  clear hN
  go_enter Yaed.func121, Yaed.ntmps121
  go_wp2_with fail
  refine wp_region_to (l := [_, _, _, _, _, _, _, _, _, _, _, _, _, _, _, _, _, _, _, _, _, _, _, _]) [(true, 0), (true, 1), (true, 2), (true, 3), (true, 4), (true, 5), (true, 6), (true, 7), (true, 9), (true, 10), (true, 11), (true, 12), (true, 13)]
     (fun W => NodeAt W b (o + i * 12) (opE 11 x y)) #[true, true, true, true, true, true, true, true, false, true, true, true, true, true, false, false, false, false, false, false, false, false, false, false] (by kernel_rfl) (by kernel_rfl) HN.out ?_
  repeat ((first | refine wpCan_q (v := ?_) rfl rfl rfl ?_ ?_ | refine wpCan_qg (v := ?_) rfl rfl (by rfl) ?_ ?_); rotate_left; (focus (intro W hW; obtain ⟨g0, g1, g2, _⟩ := hW.facts; clear hW; simp only [opE] at g0 g1 g2; go_simp; first | done | exact rfl)); simp only [Act.put, List.setIfInBounds_toArray, List.set_cons_zero, List.set_cons_succ])
  refine wpCan_nil ?_
  intro hS
  refine wpAnyH_two (i := 8) (j := 14) (by kernel_rfl) rfl (by rfl) rfl (by rfl) (fun K hK => ?_) (fun K hK => ?_)
  · go_simp
    refine hK _ _ ⟨(HN.out.ext (below_alloc w _)).drew, ?_⟩
    clear hK K
    refine wpAnyH_of_can (by kernel_rfl) [(false, 14), (true, 15), (true, 16), (true, 17), (true, 18), (true, 19), (true, 20), (false, 21), (true, 22), (true, 23)] _ _ _ _ (by simp) (by kernel_rfl) ((HN.out.ext (below_alloc w _)).drew) ?_
    refine wpCan_eg rfl (by rfl) (fun K hK => ?_)
    go_simp
    refine (below_any _ _ (by omega) (by omega) (by omega) _).mono ?_
    rintro e w1 ⟨rfl, rfl⟩
    refine hK _ _ ⟨(HN.out.ext (below_alloc w _)).drew, ?_⟩
    clear hK K
    try simp only [Act.put, List.setIfInBounds_toArray, List.set_cons_zero, List.set_cons_succ]
    repeat ((first | refine wpCan_q (v := ?_) rfl rfl rfl ?_ ?_ | refine wpCan_qg (v := ?_) rfl rfl (by rfl) ?_ ?_); rotate_left; (focus (intro W hW; obtain ⟨g0, g1, g2, _⟩ := hW.facts; clear hW; simp only [opE] at g0 g1 g2; go_simp; first | done | exact rfl)); simp only [Act.put, List.setIfInBounds_toArray, List.set_cons_zero, List.set_cons_succ])
    refine wpCan_eg rfl (by rfl) (fun K hK => ?_)
    go_simp
    refine (below_any _ _ (by omega) (by omega) (by omega) _).mono ?_
    rintro e w1 ⟨rfl, rfl⟩
    refine hK _ _ ⟨(HN.out.ext (below_alloc w _)).drew, ?_⟩
    clear hK K
    try simp only [Act.put, List.setIfInBounds_toArray, List.set_cons_zero, List.set_cons_succ]
    repeat ((first | refine wpCan_q (v := ?_) rfl rfl rfl ?_ ?_ | refine wpCan_qg (v := ?_) rfl rfl (by rfl) ?_ ?_); rotate_left; (focus (intro W hW; obtain ⟨g0, g1, g2, _⟩ := hW.facts; clear hW; simp only [opE] at g0 g1 g2; go_simp; first | done | exact rfl)); simp only [Act.put, List.setIfInBounds_toArray, List.set_cons_zero, List.set_cons_succ])
    refine wpCan_nil ?_
    go_wp2_with fail
    go_ret2
    exact ⟨_, rfl, heap_new rfl, Nat.le_refl _, (below_alloc w _).drew⟩
  · go_simp
    refine (below_any _ _ (by omega) (by omega) (by omega) _).mono ?_
    rintro e w1 ⟨rfl, rfl⟩
    refine hK _ _ ⟨hS, ?_⟩
    clear hK K
    try simp only [Act.put, List.setIfInBounds_toArray, List.set_cons_zero, List.set_cons_succ]
    refine wpAnyH_to_can (fuel := 4) (by kernel_rfl) [(true, 15), (true, 16), (true, 17), (true, 18), (true, 19), (true, 20)] _ #[true, true, true, true, true, true, true, true, false, true, true, true, true, true, true, true, true, true, true, true, true, false, false, false] _ _ (by kernel_rfl) hS ?_
    repeat ((first | refine wpCan_q (v := ?_) rfl rfl rfl ?_ ?_ | refine wpCan_qg (v := ?_) rfl rfl (by rfl) ?_ ?_); rotate_left; (focus (intro W hW; obtain ⟨g0, g1, g2, _⟩ := hW.facts; clear hW; simp only [opE] at g0 g1 g2; go_simp; first | done | exact rfl)); simp only [Act.put, List.setIfInBounds_toArray, List.set_cons_zero, List.set_cons_succ])
    refine wpCan_nil ?_
    intro hS
    refine wpAnyH_two (i := 8) (j := 21) (by kernel_rfl) rfl (by rfl) rfl (by rfl) (fun K hK => ?_) (fun K hK => ?_)
    · go_simp
      refine hK _ _ ⟨(HN.out.ext (below_alloc w _)).drew, ?_⟩
      clear hK K
      refine wpAnyH_of_can (by kernel_rfl) [(false, 21), (true, 22), (true, 23)] _ _ _ _ (by simp) (by kernel_rfl) ((HN.out.ext (below_alloc w _)).drew) ?_
      refine wpCan_eg rfl (by rfl) (fun K hK => ?_)
      go_simp
      refine (below_any _ _ (by omega) (by omega) (by omega) _).mono ?_
      rintro e w1 ⟨rfl, rfl⟩
      refine hK _ _ ⟨(HN.out.ext (below_alloc w _)).drew, ?_⟩
      clear hK K
      try simp only [Act.put, List.setIfInBounds_toArray, List.set_cons_zero, List.set_cons_succ]
      repeat ((first | refine wpCan_q (v := ?_) rfl rfl rfl ?_ ?_ | refine wpCan_qg (v := ?_) rfl rfl (by rfl) ?_ ?_); rotate_left; (focus (intro W hW; obtain ⟨g0, g1, g2, _⟩ := hW.facts; clear hW; simp only [opE] at g0 g1 g2; go_simp; first | done | exact rfl)); simp only [Act.put, List.setIfInBounds_toArray, List.set_cons_zero, List.set_cons_succ])
      refine wpCan_nil ?_
      go_wp2_with fail
      go_ret2
      exact ⟨_, rfl, heap_new rfl, Nat.le_refl _, (below_alloc w _).drew⟩
    · go_simp
      refine (below_any _ _ (by omega) (by omega) (by omega) _).mono ?_
      rintro e w1 ⟨rfl, rfl⟩
      refine hK _ _ ⟨hS, ?_⟩
      clear hK K
      try simp only [Act.put, List.setIfInBounds_toArray, List.set_cons_zero, List.set_cons_succ]
      refine wpAnyH_of_can (by kernel_rfl) [(true, 22), (false, 8), (true, 23)] _ _ _ _ (by simp) (by kernel_rfl) hS ?_
      repeat ((first | refine wpCan_q (v := ?_) rfl rfl rfl ?_ ?_ | refine wpCan_qg (v := ?_) rfl rfl (by rfl) ?_ ?_); rotate_left; (focus (intro W hW; obtain ⟨g0, g1, g2, _⟩ := hW.facts; clear hW; simp only [opE] at g0 g1 g2; go_simp; first | done | exact rfl)); simp only [Act.put, List.setIfInBounds_toArray, List.set_cons_zero, List.set_cons_succ])
      refine wpCan_e rfl rfl (fun K hK => ?_)
      go_simp
      refine hK _ _ ⟨(HN.out.ext (below_alloc w _)).drew, ?_⟩
      clear hK K
      repeat ((first | refine wpCan_q (v := ?_) rfl rfl rfl ?_ ?_ | refine wpCan_qg (v := ?_) rfl rfl (by rfl) ?_ ?_); rotate_left; (focus (intro W hW; obtain ⟨g0, g1, g2, _⟩ := hW.facts; clear hW; simp only [opE] at g0 g1 g2; go_simp; first | done | exact rfl)); simp only [Act.put, List.setIfInBounds_toArray, List.set_cons_zero, List.set_cons_succ])
      refine wpCan_nil ?_
      go_wp2_with fail
      go_ret2
      exact ⟨_, rfl, heap_new rfl, Nat.le_refl _, (below_alloc w _).drew⟩
end Go.Proofs.YgdaegDoor
