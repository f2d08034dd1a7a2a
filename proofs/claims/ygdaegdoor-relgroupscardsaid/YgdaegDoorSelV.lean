import Derived.Test.YgdaegDoorSelG
import Derived.Test.YgdaegDoorSelN
namespace Go.Proofs.YgdaegDoor
open Go.RowKit
set_option linter.unusedSimpArgs false
set_option linter.unusedVariables false
set_option maxRecDepth 20000 in
set_option maxHeartbeats 2000000 in
/-- selOn of a grouping SELECT. -/
theorem selOn_via (ps bd bt : Nat) (ga : Option Addr) (gl gc : Nat) (hgl : 0 < gl) (n N : Nat) (Rw : Nat → Nat → V) (w : World) (hps : ps < w.heap.size) (h4 : w.cell? ⟨ps, 4, none⟩ = some (.slice ga gl gc))
    (hsg : ∀ W, Below w.heap.size w W → Calls Yaed.prog 227 #[.pointer (some ⟨bd, 0, none⟩), .pointer (some ⟨ps, 0, none⟩), .pointer (some ⟨bt, 0, none⟩)] W fun r w' => ∃ ov, r = .returned (resV 0 0 ov) ∧ Res W.heap.size ov n N Rw w' ∧ Below W.heap.size W w') :
    Calls Yaed.prog 215 #[.pointer (some ⟨bd, 0, none⟩), .pointer (some ⟨ps, 0, none⟩), .pointer (some ⟨bt, 0, none⟩)] w fun r w' => ∃ ov, r = .returned (resV 0 0 ov) ∧ Res w.heap.size ov n N Rw w' ∧ Below w.heap.size w w' := by
  have HSG : Hid (∀ W, Below w.heap.size w W → Calls Yaed.prog 227 #[.pointer (some ⟨bd, 0, none⟩), .pointer (some ⟨ps, 0, none⟩), .pointer (some ⟨bt, 0, none⟩)] W fun r w' => ∃ ov, r = .returned (resV 0 0 ov) ∧ Res W.heap.size ov n N Rw w' ∧ Below W.heap.size W w') := hsg
  clear hsg
  go_enter Yaed.func215, Yaed.ntmps215
  go_wp2_with fail
  generalize hw0 : World.alloc _ _ = w0
  have HB0 : Hid (Below w.heap.size w w0 ∧ ∃ z, w0.heap[w.heap.size]? = some (.cells z 76 (0, 0)) ∧ z.size = 3) := by rw [← hw0]; exact ⟨below_alloc _ _, _, heap_alloc_new _ _, rfl⟩
  have hs0 : w.heap.size + 1 ≤ w0.heap.size := by rw [← hw0]; simp
  clear hw0
  refine (grouped_yes ps ga gl gc hgl w0 (by rw [HB0.out.1.cell (p := ⟨ps, _, none⟩) hps]; exact h4)).mono ?_
  rintro e w1 ⟨rfl, rfl⟩
  go_wp2_with fail
  refine (HSG.out w1 HB0.out.1).mono ?_
  rintro e w2 ⟨ov, rfl, hres, hb2⟩
  obtain ⟨ova, ovc, rfl⟩ := hres.shape
  have HRES : Hid (Res w1.heap.size (.slice ova n ovc) n N Rw w2) := hres
  have HB2 : Hid (Below w1.heap.size w1 w2) := hb2
  clear hb2 hres h4
  unfold resV
  go_wp2_with (refine wpList_put (ty := 76) rfl rfl rfl rfl size76 (by kernel_rfl) ?_ ?_)
  · obtain ⟨z, h1, h2⟩ := HB0.out.2
    exact ⟨z, (HB2.out.block _ (by omega)).trans h1, h2⟩
  intro w5 h5 k5 s5
  have HN5 : Hid (w5.heap[w.heap.size]? = some (.cells #[.int .u8 0, .slice ova n ovc, .int .i64 0] 76 (0, 0))) := h5
  have HK5 : Hid (Keep (fun k => k ≠ w.heap.size) w2 w5) := k5
  clear h5 k5 s5
  go_wp2_with fail
  refine bodyPost_ret (results_cell_row rfl _ _ _ _ _ _ _ rfl HN5.out Yaed.underlying76 rfl size76) rfl ⟨_, rfl, ?_, ?_⟩
  · exact (HRES.out.keep HK5.out (fun k hk _ => by show k ≠ w.heap.size; omega)).lower (by omega)
  · exact HB0.out.1.trans ((HB2.out.mono (by omega)).trans (HK5.out.below (fun k hk => by show k ≠ w.heap.size; omega)))
set_option maxRecDepth 20000 in
set_option maxHeartbeats 2000000 in
/-- sel of a grouping SELECT. -/
theorem sel_via (ps bd bt tc : Nat) (t : T) (b o an acap : Nat) (han : an < 30000) (n N : Nat) (Rw : Nat → Nat → V) (w : World) (hps : ps < w.heap.size) (h18 : w.cell? ⟨ps, 18, none⟩ = some (.slice (some ⟨b, o, none⟩) an acap)) (hdb : DB1 w bd bt tc t)
    (hce : ∀ W, Below w.heap.size w W → Calls Yaed.prog 224 #[.slice (some ⟨b, o, none⟩) an acap, .int .i64 0, .int .i64 ((an : Int) - 1), .slice t.cols.a t.cols.n t.cols.c, .bool true] W fun r w' => r = .returned (.int .u8 0) ∧ Below W.heap.size W w')
    (hsg : ∀ W, Below w.heap.size w W → Calls Yaed.prog 215 #[.pointer (some ⟨bd, 0, none⟩), .pointer (some ⟨ps, 0, none⟩), .pointer (some ⟨bt, 0, none⟩)] W fun r w' => ∃ ov, r = .returned (resV 0 0 ov) ∧ Res W.heap.size ov n N Rw w' ∧ Below W.heap.size W w') :
    Calls Yaed.prog 217 #[.pointer (some ⟨bd, 0, none⟩), .pointer (some ⟨ps, 0, none⟩), .int .i64 0] w fun r w' => ∃ ov, r = .returned (resV 0 0 ov) ∧ Res w.heap.size ov n N Rw w' ∧ Below w.heap.size w w' := by
  have HSG : Hid (∀ W, Below w.heap.size w W → Calls Yaed.prog 215 #[.pointer (some ⟨bd, 0, none⟩), .pointer (some ⟨ps, 0, none⟩), .pointer (some ⟨bt, 0, none⟩)] W fun r w' => ∃ ov, r = .returned (resV 0 0 ov) ∧ Res W.heap.size ov n N Rw w' ∧ Below W.heap.size W w') := hsg
  have HCE : Hid (∀ W, Below w.heap.size w W → Calls Yaed.prog 224 #[.slice (some ⟨b, o, none⟩) an acap, .int .i64 0, .int .i64 ((an : Int) - 1), .slice t.cols.a t.cols.n t.cols.c, .bool true] W fun r w' => r = .returned (.int .u8 0) ∧ Below W.heap.size W w') := hce
  have HDB : Hid (DB1 w bd bt tc t) := hdb
  have hbd := hdb.lt
  have hbt := hdb.lt'
  have hbd' : ¬ bd = w.heap.size := by omega
  obtain ⟨d0, _⟩ := hdb.dfacts
  clear hdb hce hsg
  go_enter Yaed.func217, Yaed.ntmps217
  go_wp2_with fail
  generalize hw0 : World.alloc _ _ = w0
  have HB0 : Hid (Below w.heap.size w w0 ∧ ∃ z, w0.heap[w.heap.size]? = some (.cells z 76 (0, 0)) ∧ z.size = 3) := by rw [← hw0]; exact ⟨below_alloc _ _, _, heap_alloc_new _ _, rfl⟩
  have hs0 : w.heap.size + 1 ≤ w0.heap.size := by rw [← hw0]; simp
  clear hw0 d0
  have e18 : w0.cell? ⟨ps, 18, none⟩ = some (.slice (some ⟨b, o, none⟩) an acap) := by rw [HB0.out.1.cell (p := ⟨ps, _, none⟩) hps]; exact h18
  obtain ⟨t0, t1, _⟩ := (HDB.out.ext HB0.out.1).tfacts
  have hwm : IntKind.i64.wrap ((an : Int) - 1) = (an : Int) - 1 := IntWalk.i64_in _ (by omega)
  refine wp_region_can (l := [_, _, _, _, _, _, _, _, _, _, _, _, _, _]) [(true, 0), (true, 1), (true, 2), (true, 3), (true, 4), (true, 5), (true, 6), (true, 7), (true, 8), (true, 9), (true, 10), (true, 11), (true, 12), (true, 13)] (fun W => W.cell? ⟨ps, 18, none⟩ = some (.slice (some ⟨b, o, none⟩) an acap) ∧ W.cell? ⟨bt, 1, none⟩ = some (.slice t.cols.a t.cols.n t.cols.c)) (by kernel_rfl) (by kernel_rfl) ⟨e18, t1⟩ ?_
  repeat (first | ((first | refine wpCan_q (v := ?_) rfl rfl rfl ?_ ?_ | refine wpCan_qg (v := ?_) rfl rfl (by rfl) ?_ ?_); rotate_left; (focus (rintro W ⟨q1, q2⟩; go_simp; first | done | exact rfl)); simp only [Act.put, List.setIfInBounds_toArray, List.set_cons_zero, List.set_cons_succ]) | (refine wpCan_skip rfl rfl (by rfl) ?_; simp only [Act.put, List.setIfInBounds_toArray, List.set_cons_zero, List.set_cons_succ]))
  refine wpCan_nil ?_
  generalize hw1 : World.drew _ = w1
  have HB1 : Hid (Below w.heap.size w w1 ∧ ∃ z, w1.heap[w.heap.size]? = some (.cells z 76 (0, 0)) ∧ z.size = 3) := by rw [← hw1]; exact ⟨HB0.out.1.drew, HB0.out.2⟩
  have hs1 : w.heap.size + 1 ≤ w1.heap.size := by rw [← hw1]; exact hs0
  clear hw1 HB0 e18 t0 t1
  go_wp2_with fail
  refine (HCE.out w1 HB1.out.1).mono ?_
  rintro e w2 ⟨rfl, hb2⟩
  have HB2 : Hid (Below w1.heap.size w1 w2) := hb2
  have hs2 := hb2.size
  clear hb2
  have HB02 : Hid (Below w.heap.size w w2) := HB1.out.1.trans (HB2.out.mono (by omega))
  go_wp2_with fail
  refine (HSG.out w2 HB02.out).mono ?_
  rintro e w3 ⟨ov, rfl, hres, hb3⟩
  obtain ⟨ova, ovc, rfl⟩ := hres.shape
  have HRES : Hid (Res w2.heap.size (.slice ova n ovc) n N Rw w3) := hres
  have HB3 : Hid (Below w2.heap.size w2 w3) := hb3
  clear hb3 hres
  unfold resV
  go_wp2_with (refine wpList_put (ty := 76) rfl rfl rfl rfl size76 (by kernel_rfl) ?_ ?_)
  · obtain ⟨z, h1, h2⟩ := HB1.out.2
    exact ⟨z, (HB3.out.block _ (by omega)).trans ((HB2.out.block _ (by omega)).trans h1), h2⟩
  intro w5 h5 k5 s5
  have HN5 : Hid (w5.heap[w.heap.size]? = some (.cells #[.int .u8 0, .slice ova n ovc, .int .i64 0] 76 (0, 0))) := h5
  have HK5 : Hid (Keep (fun k => k ≠ w.heap.size) w3 w5) := k5
  clear h5 k5 s5
  go_wp2_with fail
  refine bodyPost_ret (results_cell_row rfl _ _ _ _ _ _ _ rfl HN5.out Yaed.underlying76 rfl size76) rfl ⟨_, rfl, ?_, ?_⟩
  · exact (HRES.out.keep HK5.out (fun k hk _ => by show k ≠ w.heap.size; omega)).lower (by omega)
  · exact HB02.out.trans ((HB3.out.mono (by omega)).trans (HK5.out.below (fun k hk => by show k ≠ w.heap.size; omega)))
end Go.Proofs.YgdaegDoor
