import Derived.Test.YgdaegDoorKids
namespace Go.Proofs.YgdaegDoor
open Go.RowKit
set_option linter.unusedSimpArgs false
set_option linter.unusedVariables false
attribute [local go_sem] run_store_float
abbrev countS : ByteArray := ⟨#[99, 111, 117, 110, 116]⟩
abbrev sumS : ByteArray := ⟨#[115, 117, 109]⟩
abbrev avgS : ByteArray := ⟨#[97, 118, 103]⟩
abbrev minS : ByteArray := ⟨#[109, 105, 110]⟩
abbrev maxS : ByteArray := ⟨#[109, 97, 120]⟩
def AggName (n : ByteArray) : Prop := n = countS ∨ n = sumS ∨ n = avgS ∨ n = minS ∨ n = maxS
set_option maxHeartbeats 1000000 in
theorem isAgg_any (n : ByteArray) (hn : AggName n) (w : World) : Calls Yaed.prog 158 #[.string n] w fun r w' => r = .returned (.bool true) ∧ w' = w := by
  rcases hn with rfl | rfl | rfl | rfl | rfl <;> (go_enter Yaed.func158, Yaed.ntmps158; go_wp2_with fail; go_ret; exact ⟨rfl, rfl⟩)
theorem good_agg (n : ByteArray) (hn : AggName n) (w : World) : Calls Yaed.prog 117 #[.string n] w fun r w' => r = .returned (.bool true) ∧ Below w.heap.size w w' := by
  rcases hn with rfl | rfl | rfl | rfl | rfl
  · exact goodName_count w
  · exact goodName_sum w
  · exact goodName_avg w
  · exact goodName_min w
  · exact goodName_max w
set_option maxRecDepth 20000 in
set_option maxHeartbeats 2000000 in
theorem nodeRight_agg (n : ByteArray) (a : Int) (hia : ∀ w, Calls Yaed.prog 158 #[.string n] w fun r w' => r = .returned (.bool true) ∧ w' = w) (hg : ∀ w, Calls Yaed.prog 117 #[.string n] w fun r w' => r = .returned (.bool true) ∧ Below w.heap.size w w') (b off : Nat) (w : World) (hN : NodeAt w b off (aggE n a)) :
    Calls Yaed.prog 120 #[.pointer (some ⟨b, off, none⟩)] w fun r w' => r = .returned (.bool true) ∧ Below w.heap.size w w' := by
  have HN : Hid (NodeAt w b off (aggE n a)) := hN
  clear hN
  go_enter Yaed.func120, Yaed.ntmps120
  go_wp2_with fail
  refine wp_region_can (l := [_, _, _, _, _, _, _, _, _, _, _, _, _, _, _, _]) [(true, 0), (true, 1), (true, 2), (true, 3), (true, 4), (true, 5), (true, 6), (true, 7), (true, 8), (true, 9), (true, 11), (true, 12), (true, 13), (true, 14), (false, 10), (true, 15)]
     (fun W => NodeAt W b off (aggE n a)) (by kernel_rfl) (by kernel_rfl) HN.out ?_
  repeat ((first | refine wpCan_q (v := ?_) rfl rfl rfl ?_ ?_ | refine wpCan_qg (v := ?_) rfl rfl (by rfl) ?_ ?_); rotate_left; (focus (intro W hW; obtain ⟨h0, h1, h2, h3, h4, h5, h6, h7, h8, h9, h10, h11⟩ := hW.facts; clear hW; simp only [aggE, V0] at h0 h1 h2 h3 h4 h5 h6 h7 h8 h9 h10 h11; go_simp; first | done | exact rfl)); simp only [Act.put, List.setIfInBounds_toArray, List.set_cons_zero, List.set_cons_succ])
  refine wpCan_eg rfl (by rfl) (fun K hK => ?_)
  go_simp
  refine (norm_any V0 _).mono ?_
  rintro e w1 ⟨he, hb1⟩
  rw [norm_V0] at he
  unfold V.val at he
  simp only [aggE, V0] at he
  subst he
  have hb1' : Below w.heap.size w w1 := below_of_drew hb1
  have HN1 : Hid (NodeAt w1 b off (aggE n a)) := HN.out.ext hb1'
  have HB1 : Hid (Below w.heap.size w w1) := hb1'
  clear hb1 hb1'
  refine hK _ _ ⟨HN1.out, ?_⟩
  clear hK K
  have hq : ∀ W, (binOp .neq 100 (.agg #[Value.int IntKind.u8 0, Value.int IntKind.i64 0, Value.float FloatKind.f64 0, Value.string { data := #[] }]) (.agg #[Value.int IntKind.u8 0, Value.int IntKind.i64 0, Value.float FloatKind.f64 0, Value.string { data := #[] }])).run Yaed.prog W = .ok (.bool false) W := fun W => by
    have := vne_run V0 V0 W
    rw [veq_self (by show (0 : Nat) < _; decide) norm_V0] at this
    exact this
  (refine wpCan_qg (v := ?_) rfl rfl (by rfl) ?_ ?_); rotate_left
  focus (intro W hW; clear hW; go_simp; first | done | exact rfl)
  simp only [Act.put, List.setIfInBounds_toArray, List.set_cons_zero, List.set_cons_succ]
  refine wpCan_nil ?_
  obtain ⟨h0, h1, h2, h3, h4, h5, h6, h7, h8, h9, h10, h11⟩ := HN1.out.facts
  simp only [aggE, V0] at h0 h1 h2 h3 h4 h5 h6 h7 h8 h9 h10 h11
  go_wp2_with fail
  refine (hia _).mono ?_
  rintro e w1' ⟨rfl, rfl⟩
  go_wp2_with fail
  refine (hg _).mono ?_
  rintro e w2 ⟨rfl, hb2⟩
  obtain ⟨g0, _⟩ := (HN1.out.ext hb2).facts
  simp only [aggE] at g0
  clear hq h0 h1 h2 h3 h4 h5 h6 h7 h8 h9 h10 h11
  go_wp2_with fail
  go_ret
  exact ⟨rfl, HB1.out.trans (hb2.mono HB1.out.size)⟩
set_option maxRecDepth 20000 in
set_option maxHeartbeats 2000000 in
theorem kids_agg0 (n : ByteArray) (b o i m cap : Nat) (hin : i < m) (w : World) (hN : NodeAt w b (o + i * 12) (aggE n (-1))) :
    Calls Yaed.prog 121 #[.slice (some ⟨b, o, none⟩) m cap, .int .i64 i] w fun r w' => r = .returned (.tuple #[nilS, .bool true]) ∧ Below w.heap.size w w' := by
  have HN : Hid (NodeAt w b (o + i * 12) (aggE n (-1))) := hN
  obtain ⟨h0, h1, h2, _⟩ := hN.facts
  simp only [aggE] at h0 h1 h2
  clear hN
  go_enter Yaed.func121, Yaed.ntmps121
  go_wp2_with fail
  refine wp_region_can (l := [_, _, _, _, _, _]) [(true, 0), (true, 1), (true, 2), (true, 3), (true, 4), (true, 5)] (fun W => NodeAt W b (o + i * 12) (aggE n (-1))) (by kernel_rfl) (by kernel_rfl) HN.out ?_
  repeat (first | ((first | refine wpCan_q (v := ?_) rfl rfl rfl ?_ ?_ | refine wpCan_qg (v := ?_) rfl rfl (by rfl) ?_ ?_); rotate_left; (focus (intro W hW; obtain ⟨g0, g1, g2, _⟩ := hW.facts; clear hW; simp only [aggE] at g0 g1 g2; go_simp; first | done | exact rfl)); simp only [Act.put, List.setIfInBounds_toArray, List.set_cons_zero, List.set_cons_succ]) | (refine wpCan_skip rfl rfl (by rfl) ?_; simp only [Act.put, List.setIfInBounds_toArray, List.set_cons_zero, List.set_cons_succ]))
  refine wpCan_nil ?_
  go_wp2_with fail
  go_ret2
  exact ⟨rfl, (Below.refl _ _).drew⟩
set_option maxRecDepth 20000 in
set_option maxHeartbeats 2000000 in
theorem kids_agg1 (n : ByteArray) (x : Nat) (b o i m cap : Nat) (hin : i < m) (hx : x < i) (hx3 : x < 30000) (w : World) (hN : NodeAt w b (o + i * 12) (aggE n x)) :
    Calls Yaed.prog 121 #[.slice (some ⟨b, o, none⟩) m cap, .int .i64 i] w fun r w' => ∃ g, r = .returned (.tuple #[.slice (some ⟨g, 0, none⟩) 1 1, .bool true]) ∧ w'.heap[g]? = some (.cells #[.int .i16 x] 35 (0, 0)) ∧ w.heap.size ≤ g ∧ Below w.heap.size w w' := by
  have HN : Hid (NodeAt w b (o + i * 12) (aggE n x)) := hN
  obtain ⟨h0, h1, h2, _⟩ := hN.facts
  simp only [aggE] at h0 h1 h2
  clear hN
  have hx1 : ((x : Int) == -1) = false := by first | (simp; done) | (simp; omega)
  go_enter Yaed.func121, Yaed.ntmps121
  go_wp2_with fail
  refine wp_region_to (l := [_, _, _, _, _, _, _, _, _, _, _, _, _, _, _, _, _, _, _]) [(true, 0), (true, 1), (true, 2), (true, 3), (true, 5), (true, 6), (true, 7), (true, 8), (true, 9)] (fun W => NodeAt W b (o + i * 12) (aggE n x)) #[true, true, true, true, false, true, true, true, true, true, false, false, false, false, false, false, false, false, false] (by kernel_rfl) (by kernel_rfl) HN.out ?_
  repeat (first | ((first | refine wpCan_q (v := ?_) rfl rfl rfl ?_ ?_ | refine wpCan_qg (v := ?_) rfl rfl (by rfl) ?_ ?_); rotate_left; (focus (intro W hW; obtain ⟨g0, g1, g2, _⟩ := hW.facts; clear hW; simp only [aggE] at g0 g1 g2; go_simp; first | done | exact rfl)); simp only [Act.put, List.setIfInBounds_toArray, List.set_cons_zero, List.set_cons_succ]) | (refine wpCan_skip rfl rfl (by rfl) ?_; simp only [Act.put, List.setIfInBounds_toArray, List.set_cons_zero, List.set_cons_succ]))
  refine wpCan_nil ?_
  intro hS
  refine wpAnyH_two (i := 4) (j := 10) (by kernel_rfl) rfl (by rfl) rfl (by rfl) (fun K hK => ?_) (fun K hK => ?_)
  · go_simp
    refine hK _ _ ⟨(HN.out.ext (below_alloc w _)).drew, ?_⟩
    clear hK K
    refine wpAnyH_of_can (by kernel_rfl) [(false, 10), (true, 11), (true, 12), (true, 13), (true, 14), (true, 15), (true, 16), (true, 17), (true, 18)] _ _ _ _ (by simp) (by kernel_rfl) ((HN.out.ext (below_alloc w _)).drew) ?_
    refine wpCan_eg rfl (by rfl) (fun K hK => ?_)
    go_simp
    refine (below_any _ _ (by omega) (by omega) (by omega) _).mono ?_
    rintro e w1 ⟨rfl, rfl⟩
    refine hK _ _ ⟨(HN.out.ext (below_alloc w _)).drew, ?_⟩
    clear hK K
    try simp only [Act.put, List.setIfInBounds_toArray, List.set_cons_zero, List.set_cons_succ]
    repeat (first | ((first | refine wpCan_q (v := ?_) rfl rfl rfl ?_ ?_ | refine wpCan_qg (v := ?_) rfl rfl (by rfl) ?_ ?_); rotate_left; (focus (intro W hW; obtain ⟨g0, g1, g2, _⟩ := hW.facts; clear hW; simp only [aggE] at g0 g1 g2; go_simp; first | done | exact rfl)); simp only [Act.put, List.setIfInBounds_toArray, List.set_cons_zero, List.set_cons_succ]) | (refine wpCan_skip rfl rfl (by rfl) ?_; simp only [Act.put, List.setIfInBounds_toArray, List.set_cons_zero, List.set_cons_succ]))
    refine wpCan_nil ?_
    go_wp2_with fail
    go_ret2
    exact ⟨_, rfl, heap_new rfl, Nat.le_refl _, (below_alloc w _).drew⟩
  · go_simp
    refine (below_any _ _ (by omega) (by omega) (by omega) _).mono ?_
    rintro e w1 ⟨rfl, rfl⟩
    refine hK _ _ ⟨hS, ?_⟩
    clear hK K
    try simp only [Act.put, List.setIfInBounds_toArray, List.set_cons_zero, List.set_cons_succ]
    refine wpAnyH_of_can (by kernel_rfl) [(true, 11), (true, 12), (true, 13), (true, 14), (true, 15), (true, 16), (true, 17), (false, 4), (true, 18)] _ _ _ _ (by simp) (by kernel_rfl) hS ?_
    repeat (first | ((first | refine wpCan_q (v := ?_) rfl rfl rfl ?_ ?_ | refine wpCan_qg (v := ?_) rfl rfl (by rfl) ?_ ?_); rotate_left; (focus (intro W hW; obtain ⟨g0, g1, g2, _⟩ := hW.facts; clear hW; simp only [aggE] at g0 g1 g2; go_simp; first | done | exact rfl)); simp only [Act.put, List.setIfInBounds_toArray, List.set_cons_zero, List.set_cons_succ]) | (refine wpCan_skip rfl rfl (by rfl) ?_; simp only [Act.put, List.setIfInBounds_toArray, List.set_cons_zero, List.set_cons_succ]))
    refine wpCan_e rfl rfl (fun K hK => ?_)
    go_simp
    refine hK _ _ ⟨(HN.out.ext (below_alloc w _)).drew, ?_⟩
    clear hK K
    try simp only [Act.put, List.setIfInBounds_toArray, List.set_cons_zero, List.set_cons_succ]
    repeat (first | ((first | refine wpCan_q (v := ?_) rfl rfl rfl ?_ ?_ | refine wpCan_qg (v := ?_) rfl rfl (by rfl) ?_ ?_); rotate_left; (focus (intro W hW; obtain ⟨g0, g1, g2, _⟩ := hW.facts; clear hW; simp only [aggE] at g0 g1 g2; go_simp; first | done | exact rfl)); simp only [Act.put, List.setIfInBounds_toArray, List.set_cons_zero, List.set_cons_succ]) | (refine wpCan_skip rfl rfl (by rfl) ?_; simp only [Act.put, List.setIfInBounds_toArray, List.set_cons_zero, List.set_cons_succ]))
    refine wpCan_nil ?_
    go_wp2_with fail
    go_ret2
    exact ⟨_, rfl, heap_new rfl, Nat.le_refl _, (below_alloc w _).drew⟩
end Go.Proofs.YgdaegDoor
