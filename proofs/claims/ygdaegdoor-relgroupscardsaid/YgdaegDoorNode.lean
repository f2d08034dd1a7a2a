import Derived.Test.YgdaegDoorFlt
import Derived.Test.YgdaegDoorNames
import Derived.Deep.DeepMust
namespace Go.Proofs.YgdaegDoor
open Go.RowKit
set_option linter.unusedSimpArgs false
set_option linter.unusedVariables false
attribute [local go_sem] run_store_float

/-- The node e lies at this place. -/
def NodeAt (w : World) (b off : Nat) (e : E) : Prop := b < w.heap.size ∧ ∀ f, f < 12 → w.cell? ⟨b, off + f, none⟩ = some (e.list.getD f undef)
theorem NodeAt.ext {w w' : World} {b off : Nat} {e : E} (h : NodeAt w b off e) (hb : Below w.heap.size w w') : NodeAt w' b off e :=
  ⟨Nat.lt_of_lt_of_le h.1 hb.size, fun f hf => by rw [hb.cell (p := ⟨b, _, none⟩) h.1]; exact h.2 f hf⟩
theorem NodeAt.drew {w : World} {b off : Nat} {e : E} (h : NodeAt w b off e) : NodeAt w.drew b off e := h
theorem below_of_drew {w w1 : World} (h : Below w.drew.heap.size w.drew w1) : Below w.heap.size w w1 := ⟨h.os, h.tape, h.output, h.size, h.block⟩
theorem NodeAt.facts {w : World} {b off : Nat} {e : E} (h : NodeAt w b off e) :
    w.cell? ⟨b, off, none⟩ = some (.int .u8 e.op) ∧ w.cell? ⟨b, off + 1, none⟩ = some (.int .i16 e.a) ∧ w.cell? ⟨b, off + 2, none⟩ = some (.int .i16 e.b) ∧ w.cell? ⟨b, off + 3, none⟩ = some (.int .i16 e.c) ∧
    w.cell? ⟨b, off + 4, none⟩ = some (.int .u8 e.v.k) ∧ w.cell? ⟨b, off + 4 + 1, none⟩ = some (.int .i64 e.v.i) ∧ w.cell? ⟨b, off + 4 + 2, none⟩ = some (.float .f64 e.v.r) ∧ w.cell? ⟨b, off + 4 + 3, none⟩ = some (.string e.v.s) ∧
    w.cell? ⟨b, off + 8, none⟩ = some (.int .u64 e.man) ∧ w.cell? ⟨b, off + 9, none⟩ = some (.int .i8 e.q) ∧ w.cell? ⟨b, off + 10, none⟩ = some (.string e.name) ∧ w.cell? ⟨b, off + 11, none⟩ = some (.string e.table) :=
  ⟨h.2 0 (by omega), h.2 1 (by omega), h.2 2 (by omega), h.2 3 (by omega), h.2 4 (by omega), h.2 5 (by omega), h.2 6 (by omega), h.2 7 (by omega), h.2 8 (by omega), h.2 9 (by omega), h.2 10 (by omega), h.2 11 (by omega)⟩

set_option maxRecDepth 20000 in
set_option maxHeartbeats 1000000 in
theorem nodeRight_param (v : V) (hok : v.ok) (hv : norm v = v) (b off : Nat) (w : World) (hN : NodeAt w b off (leafE 4 v)) :
    Calls Yaed.prog 120 #[.pointer (some ⟨b, off, none⟩)] w fun r w' => r = .returned (.bool true) ∧ Below w.heap.size w w' := by
  have HV : Hid (norm v = v) := hv
  have HN : Hid (NodeAt w b off (leafE 4 v)) := hN
  clear hv hN
  go_enter Yaed.func120, Yaed.ntmps120
  go_wp2_with fail
  refine wp_region_can (l := [_, _, _, _, _, _, _, _, _, _, _, _, _, _, _, _]) [(true, 0), (true, 1), (true, 2), (true, 3), (true, 4), (true, 5), (true, 6), (true, 7), (true, 8), (true, 9), (true, 11), (true, 12), (true, 13), (true, 14), (false, 10), (true, 15)]
     (fun W => NodeAt W b off (leafE 4 v)) (by kernel_rfl) (by kernel_rfl) HN.out ?_
  repeat ((first | refine wpCan_q (v := ?_) rfl rfl rfl ?_ ?_ | refine wpCan_qg (v := ?_) rfl rfl (by rfl) ?_ ?_); rotate_left; (focus (intro W hW; obtain ⟨h0, h1, h2, h3, h4, h5, h6, h7, h8, h9, h10, h11⟩ := hW.facts; clear hW; simp only [leafE] at h0 h1 h2 h3 h4 h5 h6 h7 h8 h9 h10 h11; go_simp; first | done | exact rfl)); simp only [Act.put, List.setIfInBounds_toArray, List.set_cons_zero, List.set_cons_succ])
  refine wpCan_eg rfl (by rfl) (fun K hK => ?_)
  go_simp
  refine (norm_any v _).mono ?_
  rintro e w1 ⟨he, hb1⟩
  rw [HV.out] at he
  unfold V.val at he
  subst he
  have hb1' : Below w.heap.size w w1 := below_of_drew hb1
  have HN1 : Hid (NodeAt w1 b off (leafE 4 v)) := HN.out.ext hb1'
  have HB1 : Hid (Below w.heap.size w w1) := hb1'
  clear hb1 hb1'
  refine hK _ _ ⟨HN1.out, ?_⟩
  clear hK K
  have hq : ∀ W, (binOp .neq 100 (.agg #[Value.int IntKind.u8 v.k, Value.int IntKind.i64 v.i, Value.float FloatKind.f64 v.r, Value.string v.s]) (.agg #[Value.int IntKind.u8 v.k, Value.int IntKind.i64 v.i, Value.float FloatKind.f64 v.r, Value.string v.s])).run Yaed.prog W = .ok (.bool false) W := fun W => by
    have := vne_run v v W
    rw [veq_self hok HV.out] at this
    exact this
  (refine wpCan_qg (v := ?_) rfl rfl (by rfl) ?_ ?_); rotate_left
  focus (intro W hW; clear hW; go_simp; first | done | exact rfl)
  simp only [Act.put, List.setIfInBounds_toArray, List.set_cons_zero, List.set_cons_succ]
  refine wpCan_nil ?_
  clear hq
  obtain ⟨h0, h1, h2, h3, h4, h5, h6, h7, h8, h9, h10, h11⟩ := HN1.out.facts
  simp only [leafE] at h0 h1 h2 h3 h4 h5 h6 h7 h8 h9 h10 h11
  go_wp2_with (go_at_call 117; refine (goodName_empty _).mono ?_; rintro e w2 ⟨rfl, rfl⟩)
  go_ret
  exact ⟨rfl, HB1.out⟩

set_option maxRecDepth 20000 in
set_option maxHeartbeats 2000000 in
theorem nodeRight_int (n : Int) (hn : 0 ≤ n) (b off : Nat) (w : World) (hN : NodeAt w b off (leafE 0 (intV n))) :
    Calls Yaed.prog 120 #[.pointer (some ⟨b, off, none⟩)] w fun r w' => r = .returned (.bool true) ∧ Below w.heap.size w w' := by
  have HN : Hid (NodeAt w b off (leafE 0 (intV n))) := hN
  clear hN
  go_enter Yaed.func120, Yaed.ntmps120
  go_wp2_with fail
  refine wp_region_can (l := [_, _, _, _, _, _, _, _, _, _, _, _, _, _, _, _]) [(true, 0), (true, 1), (true, 2), (true, 3), (true, 4), (true, 5), (true, 6), (true, 7), (true, 8), (true, 9), (true, 11), (true, 12), (true, 13), (true, 14), (false, 10), (true, 15)]
     (fun W => NodeAt W b off (leafE 0 (intV n))) (by kernel_rfl) (by kernel_rfl) HN.out ?_
  repeat ((first | refine wpCan_q (v := ?_) rfl rfl rfl ?_ ?_ | refine wpCan_qg (v := ?_) rfl rfl (by rfl) ?_ ?_); rotate_left; (focus (intro W hW; obtain ⟨h0, h1, h2, h3, h4, h5, h6, h7, h8, h9, h10, h11⟩ := hW.facts; clear hW; simp only [leafE, intV] at h0 h1 h2 h3 h4 h5 h6 h7 h8 h9 h10 h11; go_simp; first | done | exact rfl)); simp only [Act.put, List.setIfInBounds_toArray, List.set_cons_zero, List.set_cons_succ])
  refine wpCan_eg rfl (by rfl) (fun K hK => ?_)
  go_simp
  refine (norm_any (intV n) _).mono ?_
  rintro e w1 ⟨he, hb1⟩
  rw [(show norm (intV n) = intV n from rfl)] at he
  unfold V.val at he
  simp only [leafE, intV] at he
  subst he
  have hb1' : Below w.heap.size w w1 := below_of_drew hb1
  have HN1 : Hid (NodeAt w1 b off (leafE 0 (intV n))) := HN.out.ext hb1'
  have HB1 : Hid (Below w.heap.size w w1) := hb1'
  clear hb1 hb1'
  refine hK _ _ ⟨HN1.out, ?_⟩
  clear hK K
  have hq : ∀ W, (binOp .neq 100 (.agg #[Value.int IntKind.u8 1, Value.int IntKind.i64 n, Value.float FloatKind.f64 0, Value.string { data := #[] }]) (.agg #[Value.int IntKind.u8 1, Value.int IntKind.i64 n, Value.float FloatKind.f64 0, Value.string { data := #[] }])).run Yaed.prog W = .ok (.bool false) W := fun W => by
    have := vne_run (intV n) (intV n) W
    rw [veq_self (by show (0 : Nat) < _; decide) (show norm (intV n) = intV n from rfl)] at this
    exact this
  (refine wpCan_qg (v := ?_) rfl rfl (by rfl) ?_ ?_); rotate_left
  focus (intro W hW; clear hW; go_simp; first | done | exact rfl)
  simp only [Act.put, List.setIfInBounds_toArray, List.set_cons_zero, List.set_cons_succ]
  refine wpCan_nil ?_
  obtain ⟨h0, h1, h2, h3, h4, h5, h6, h7, h8, h9, h10, h11⟩ := HN1.out.facts
  simp only [leafE, intV] at h0 h1 h2 h3 h4 h5 h6 h7 h8 h9 h10 h11
  go_wp2_with (go_at_call 117; refine (goodName_empty _).mono ?_; rintro e w2 ⟨rfl, rfl⟩)
  go_ret
  exact ⟨rfl, HB1.out⟩

set_option maxRecDepth 20000 in
set_option maxHeartbeats 2000000 in
theorem nodeRight_op (x y : Int) (b off : Nat) (w : World) (hN : NodeAt w b off (opE 11 x y)) :
    Calls Yaed.prog 120 #[.pointer (some ⟨b, off, none⟩)] w fun r w' => r = .returned (.bool true) ∧ Below w.heap.size w w' := by
  have HN : Hid (NodeAt w b off (opE 11 x y)) := hN
  clear hN
  go_enter Yaed.func120, Yaed.ntmps120
  go_wp2_with fail
  refine wp_region_can (l := [_, _, _, _, _, _, _, _, _, _, _, _, _, _, _, _]) [(true, 0), (true, 1), (true, 2), (true, 3), (true, 4), (true, 5), (true, 6), (true, 7), (true, 8), (true, 9), (true, 11), (true, 12), (true, 13), (true, 14), (false, 10), (true, 15)]
     (fun W => NodeAt W b off (opE 11 x y)) (by kernel_rfl) (by kernel_rfl) HN.out ?_
  repeat ((first | refine wpCan_q (v := ?_) rfl rfl rfl ?_ ?_ | refine wpCan_qg (v := ?_) rfl rfl (by rfl) ?_ ?_); rotate_left; (focus (intro W hW; obtain ⟨h0, h1, h2, h3, h4, h5, h6, h7, h8, h9, h10, h11⟩ := hW.facts; clear hW; simp only [opE, V0] at h0 h1 h2 h3 h4 h5 h6 h7 h8 h9 h10 h11; go_simp; first | done | exact rfl)); simp only [Act.put, List.setIfInBounds_toArray, List.set_cons_zero, List.set_cons_succ])
  refine wpCan_eg rfl (by rfl) (fun K hK => ?_)
  go_simp
  refine (norm_any V0 _).mono ?_
  rintro e w1 ⟨he, hb1⟩
  rw [norm_V0] at he
  unfold V.val at he
  simp only [opE, V0] at he
  subst he
  have hb1' : Below w.heap.size w w1 := below_of_drew hb1
  have HN1 : Hid (NodeAt w1 b off (opE 11 x y)) := HN.out.ext hb1'
  have HB1 : Hid (Below w.heap.size w w1) := hb1'
  clear hb1 hb1'
  refine hK _ _ ⟨HN1.out, ?_⟩
  clear hK K
  have hq : ∀ W, (binOp .neq 100 (.agg #[Value.int IntKind.u8 0, Value.int IntKind.i64 0, Value.float FloatKind.f64 0, Value.string { data := #[] }]) (.agg #[Value.int IntKind.u8 0, Value.int IntKind.i64 0, Value.float FloatKind.f64 0, Value.string { data := #[] }])).run Yaed.prog W = .ok (.bool false) W := fun W => by
    have := vne_run V0 V0 W
    rw [veq_self (by show (0 : Nat) < _; decide) norm_V0] at this
    exact this
  (refine wpCan_qg (v := ?_) rfl rfl (by rfl) ?_ ?_); rotate_left
  focus (intro W hW; clear hW; go_simp; first | done | exact rfl)
  simp only [Act.put, List.setIfInBounds_toArray, List.set_cons_zero, List.set_cons_succ]
  refine wpCan_nil ?_
  obtain ⟨h0, h1, h2, h3, h4, h5, h6, h7, h8, h9, h10, h11⟩ := HN1.out.facts
  simp only [opE, V0] at h0 h1 h2 h3 h4 h5 h6 h7 h8 h9 h10 h11
  go_wp2_with (go_at_call 117; refine (goodName_empty _).mono ?_; rintro e w2 ⟨rfl, rfl⟩)
  go_ret
  exact ⟨rfl, HB1.out⟩

set_option maxRecDepth 20000 in
set_option maxHeartbeats 2000000 in
theorem nodeRight_col (n : ByteArray) (hg : ∀ w, Calls Yaed.prog 117 #[.string n] w fun r w' => r = .returned (.bool true) ∧ Below w.heap.size w w') (b off : Nat) (w : World) (hN : NodeAt w b off (colE n)) :
    Calls Yaed.prog 120 #[.pointer (some ⟨b, off, none⟩)] w fun r w' => r = .returned (.bool true) ∧ Below w.heap.size w w' := by
  have HN : Hid (NodeAt w b off (colE n)) := hN
  clear hN
  go_enter Yaed.func120, Yaed.ntmps120
  go_wp2_with fail
  refine wp_region_can (l := [_, _, _, _, _, _, _, _, _, _, _, _, _, _, _, _]) [(true, 0), (true, 1), (true, 2), (true, 3), (true, 4), (true, 5), (true, 6), (true, 7), (true, 8), (true, 9), (true, 11), (true, 12), (true, 13), (true, 14), (false, 10), (true, 15)]
     (fun W => NodeAt W b off (colE n)) (by kernel_rfl) (by kernel_rfl) HN.out ?_
  repeat ((first | refine wpCan_q (v := ?_) rfl rfl rfl ?_ ?_ | refine wpCan_qg (v := ?_) rfl rfl (by rfl) ?_ ?_); rotate_left; (focus (intro W hW; obtain ⟨h0, h1, h2, h3, h4, h5, h6, h7, h8, h9, h10, h11⟩ := hW.facts; clear hW; simp only [colE, V0] at h0 h1 h2 h3 h4 h5 h6 h7 h8 h9 h10 h11; go_simp; first | done | exact rfl)); simp only [Act.put, List.setIfInBounds_toArray, List.set_cons_zero, List.set_cons_succ])
  refine wpCan_eg rfl (by rfl) (fun K hK => ?_)
  go_simp
  refine (norm_any V0 _).mono ?_
  rintro e w1 ⟨he, hb1⟩
  rw [norm_V0] at he
  unfold V.val at he
  simp only [colE, V0] at he
  subst he
  have hb1' : Below w.heap.size w w1 := below_of_drew hb1
  have HN1 : Hid (NodeAt w1 b off (colE n)) := HN.out.ext hb1'
  have HB1 : Hid (Below w.heap.size w w1) := hb1'
  clear hb1 hb1'
  refine hK _ _ ⟨HN1.out, ?_⟩
  clear hK K
  have hq : ∀ W, (binOp .neq 100 (.agg #[Value.int IntKind.u8 0, Value.int IntKind.i64 0, Value.float FloatKind.f64 0, Value.string { data := #[] }]) (.agg #[Value.int IntKind.u8 0, Value.int IntKind.i64 0, Value.float FloatKind.f64 0, Value.string { data := #[] }])).run Yaed.prog W = .ok (.bool false) W := fun W => by
    have := vne_run V0 V0 W
    rw [veq_self (by show (0 : Nat) < _; decide) norm_V0] at this
    exact this
  (refine wpCan_qg (v := ?_) rfl rfl (by rfl) ?_ ?_); rotate_left
  focus (intro W hW; clear hW; go_simp; first | done | exact rfl)
  simp only [Act.put, List.setIfInBounds_toArray, List.set_cons_zero, List.set_cons_succ]
  refine wpCan_nil ?_
  obtain ⟨h0, h1, h2, h3, h4, h5, h6, h7, h8, h9, h10, h11⟩ := HN1.out.facts
  simp only [colE, V0] at h0 h1 h2 h3 h4 h5 h6 h7 h8 h9 h10 h11
  go_wp2_with fail
  refine (hg _).mono ?_
  rintro e w2 ⟨rfl, hb2⟩
  obtain ⟨g0, _⟩ := (HN1.out.ext hb2).facts
  simp only [colE] at g0
  clear hq h0 h1 h2 h3 h4 h5 h6 h7 h8 h9 h10 h11
  go_wp2_with fail
  go_ret
  exact ⟨rfl, HB1.out.trans (hb2.mono HB1.out.size)⟩
end Go.Proofs.YgdaegDoor
