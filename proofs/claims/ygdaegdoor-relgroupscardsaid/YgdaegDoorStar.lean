import Derived.Test.YgdaegDoorExec1
namespace Go.Proofs.YgdaegDoor
open Go.RowKit
set_option linter.unusedSimpArgs false
set_option linter.unusedVariables false

set_option maxHeartbeats 1000000 in
theorem joined_nil (ps : Nat) (s : St) (aa : Option Addr) (ac : Nat) (ha : s.arena = .slice aa 0 ac) (w : World) (h : StAt w ps s) : Calls Yaed.prog 213 #[.pointer (some ⟨ps, 0, none⟩)] w fun r w' => r = .returned (.bool false) ∧ w' = w := by
  obtain ⟨f0, f3, f4, f5, f9, f10, f11, f13, f14, f18⟩ := h.facts
  rw [ha] at f18
  clear h f0 f4 f5 f9 f10 f11 f13 f14
  go_enter Yaed.func213, Yaed.ntmps213
  go_wp2_with fail
  refine wp_loop_rounds 1 ?_
  rw [rounds_succ]
  go_wp2_with fail
  go_ret
  exact ⟨rfl, rfl⟩
set_option maxHeartbeats 1000000 in
theorem grouped_nil (ps : Nat) (s : St) (aa : Option Addr) (ac : Nat) (ha : s.arena = .slice aa 0 ac) (hg : s.groups = nilS) (w : World) (h : StAt w ps s) : Calls Yaed.prog 226 #[.pointer (some ⟨ps, 0, none⟩)] w fun r w' => r = .returned (.bool false) ∧ w' = w := by
  obtain ⟨f0, f3, f4, f5, f9, f10, f11, f13, f14, f18⟩ := h.facts
  rw [ha] at f18
  rw [hg] at f4
  clear h f0 f3 f5 f9 f10 f11 f13 f14
  go_enter Yaed.func226, Yaed.ntmps226
  go_wp2_with fail
  refine wp_loop_rounds 1 ?_
  rw [rounds_succ]
  go_wp2_with fail
  go_ret
  exact ⟨rfl, rfl⟩
set_option maxHeartbeats 1000000 in
theorem checkExprs_nil (aa : Option Addr) (ac : Nat) (l : Int) (hl : l = -1) (cv : Value) (b : Bool) (w : World) : Calls Yaed.prog 224 #[.slice aa 0 ac, .int .i64 0, .int .i64 l, cv, .bool b] w fun r w' => r = .returned (.int .u8 0) ∧ w' = w := by
  subst hl
  go_enter Yaed.func224, Yaed.ntmps224
  go_wp2_with fail
  refine wp_loop_rounds 1 ?_
  rw [rounds_succ]
  go_wp2_with fail
  go_ret
  exact ⟨rfl, rfl⟩
set_option maxHeartbeats 1000000 in
theorem matches_nil (ps bt : Nat) (ra : Option Addr) (rc : Nat) (w : World) (h4 : w.cell? ⟨bt, 4, none⟩ = some (.slice ra 0 rc)) : Calls Yaed.prog 228 #[.pointer (some ⟨ps, 0, none⟩), .pointer (some ⟨bt, 0, none⟩)] w fun r w' => r = .returned nilS ∧ w' = w := by
  go_enter Yaed.func228, Yaed.ntmps228
  go_wp2_with fail
  refine wp_loop_rounds 1 ?_
  rw [rounds_succ]
  go_wp2_with fail
  go_ret
  exact ⟨rfl, rfl⟩
set_option maxHeartbeats 1000000 in
theorem window_all (v : Value) (o : Int) (w : World) : Calls Yaed.prog 239 #[v, .int .i64 (-1), .int .i64 o] w fun r w' => r = .returned v ∧ w' = w := by
  go_enter Yaed.func239, Yaed.ntmps239
  go_wp2_with fail
  go_ret
  exact ⟨rfl, rfl⟩

set_option maxRecDepth 20000 in
set_option maxHeartbeats 2000000 in
theorem finish_nil (ps : Nat) (s : St) (w : World) (h : StAt w ps s) : Calls Yaed.prog 231 #[.pointer (some ⟨ps, 0, none⟩), nilS] w fun r w' => r = .returned (resV 0 0 nilS) ∧ Below w.heap.size w w' := by
  have HST : Hid (StAt w ps s) := h
  have f2 : w.cell? ⟨ps, 2, none⟩ = some (.bool false) := h.cell 2
  have hps := h.lt
  have hps' : ¬ ps = w.heap.size := by omega
  clear h
  go_enter Yaed.func231, Yaed.ntmps231
  go_wp2_with (refine wpList_mk (n := 0) rfl rfl Yaed.underlying119 info3 rfl rfl (by omega) (by omega) ?_)
  intro w1 cs _ _ hb hs _
  have HB1 : Hid (Below w.heap.size w w1 ∧ ∃ z, w1.heap[w.heap.size]? = some (.cells z 76 (0, 0)) ∧ z.size = 3) := by
    refine ⟨(below_alloc w _).trans (hb.mono (by simp)), _, (hb.block _ (by simp)).trans (heap_alloc_new w _), rfl⟩
  have hs1 : w.heap.size + 1 ≤ w1.heap.size := by have := hb.size; simp at this; omega
  clear hb hs
  go_wp2_with fail
  refine wp_loop_rounds 1 ?_
  rw [rounds_succ]
  go_wp2_with fail
  have e15 : w1.cell? ⟨ps, 15, none⟩ = some (.int .i64 (-1)) := (HST.out.ext HB1.out.1).cell 15
  have e16 : w1.cell? ⟨ps, 16, none⟩ = some (.int .i64 0) := (HST.out.ext HB1.out.1).cell 16
  refine wp_region_can (l := [_, _, _, _, _, _, _, _, _, _, _, _]) [(true, 0), (true, 1), (true, 2), (true, 3), (true, 4), (true, 5), (true, 6), (true, 7), (true, 8), (true, 11), (false, 9), (true, 10)] (fun W => W.cell? ⟨ps, 15, none⟩ = some (.int .i64 (-1)) ∧ W.cell? ⟨ps, 16, none⟩ = some (.int .i64 0)) (by kernel_rfl) (by kernel_rfl) ⟨e15, e16⟩ ?_
  repeat (first | ((first | refine wpCan_q (v := ?_) rfl rfl rfl ?_ ?_ | refine wpCan_qg (v := ?_) rfl rfl (by rfl) ?_ ?_); rotate_left; (focus (rintro W ⟨q1, q2⟩; go_simp; first | done | exact rfl)); simp only [Act.put, List.setIfInBounds_toArray, List.set_cons_zero, List.set_cons_succ]) | (refine wpCan_skip rfl rfl (by rfl) ?_; simp only [Act.put, List.setIfInBounds_toArray, List.set_cons_zero, List.set_cons_succ]))
  refine wpCan_e rfl rfl (fun K hK => ?_)
  go_simp
  refine (window_all _ _ _).mono ?_
  rintro e w2 ⟨rfl, rfl⟩
  refine hK _ _ ⟨⟨e15, e16⟩, ?_⟩
  clear hK K
  repeat (first | ((first | refine wpCan_q (v := ?_) rfl rfl rfl ?_ ?_ | refine wpCan_qg (v := ?_) rfl rfl (by rfl) ?_ ?_); rotate_left; (focus (rintro W ⟨q1, q2⟩; go_simp; first | done | exact rfl)); simp only [Act.put, List.setIfInBounds_toArray, List.set_cons_zero, List.set_cons_succ]) | (refine wpCan_skip rfl rfl (by rfl) ?_; simp only [Act.put, List.setIfInBounds_toArray, List.set_cons_zero, List.set_cons_succ]))
  refine wpCan_nil ?_
  go_wp2_with fail
  refine wp_loop_rounds 1 ?_
  rw [rounds_succ]
  go_wp2_with (refine wpList_put (ty := 76) rfl rfl rfl rfl size76 (by kernel_rfl) ?_ ?_)
  · exact HB1.out.2
  intro w3 h3 k3 s3
  go_wp2_with fail
  refine bodyPost_ret (results_cell_row rfl _ _ _ _ _ _ _ rfl h3 Yaed.underlying76 rfl size76) rfl ⟨rfl, ?_⟩
  exact HB1.out.1.drew.trans (k3.below (fun k hk => by show k ≠ w.heap.size; omega))

set_option maxRecDepth 20000 in
set_option maxHeartbeats 2000000 in
theorem selOn_nil (ps bd bt : Nat) (s : St) (aa : Option Addr) (ac : Nat) (ha : s.arena = .slice aa 0 ac) (hg : s.groups = nilS) (w : World) (h : StAt w ps s) (ra : Option Addr) (rc : Nat) (h4 : w.cell? ⟨bt, 4, none⟩ = some (.slice ra 0 rc)) (hbt : bt < w.heap.size) :
    Calls Yaed.prog 215 #[.pointer (some ⟨bd, 0, none⟩), .pointer (some ⟨ps, 0, none⟩), .pointer (some ⟨bt, 0, none⟩)] w fun r w' => r = .returned (resV 0 0 nilS) ∧ Below w.heap.size w w' := by
  have HST : Hid (StAt w ps s) := h
  have hps := h.lt
  have hps' : ¬ ps = w.heap.size := by omega
  clear h
  go_enter Yaed.func215, Yaed.ntmps215
  go_wp2_with fail
  generalize hw0 : World.alloc _ _ = w0
  have HB0 : Hid (Below w.heap.size w w0 ∧ ∃ z, w0.heap[w.heap.size]? = some (.cells z 76 (0, 0)) ∧ z.size = 3) := by rw [← hw0]; exact ⟨below_alloc _ _, _, heap_alloc_new _ _, rfl⟩
  have hs0 : w.heap.size + 1 ≤ w0.heap.size := by rw [← hw0]; simp
  clear hw0
  refine (grouped_nil ps s aa ac ha hg w0 (HST.out.ext HB0.out.1)).mono ?_
  rintro e w1 ⟨rfl, rfl⟩
  go_wp2_with fail
  refine (matches_nil ps bt ra rc w1 (by rw [HB0.out.1.cell (p := ⟨bt, _, none⟩) hbt]; exact h4)).mono ?_
  rintro e w2 ⟨rfl, rfl⟩
  go_wp2_with (refine wpList_mk (n := 0) rfl rfl Yaed.underlying22 info94 rfl rfl (by omega) (by omega) ?_; intro w3 cs _ _ hb3 _ _; have HB3 : Hid (Below w2.heap.size w2 w3) := hb3; clear hb3)
  refine wp_loop_rounds 1 ?_
  rw [rounds_succ]
  go_wp2_with fail
  refine wp_loop_rounds 1 ?_
  rw [rounds_succ]
  go_wp2_with fail
  refine wp_loop_rounds 1 ?_
  rw [rounds_succ]
  go_wp2_with fail
  refine (finish_nil ps s w3 ((HST.out.ext HB0.out.1).ext HB3.out)).mono ?_
  rintro e w4 ⟨rfl, hb4⟩
  have HB4 : Hid (Below w3.heap.size w3 w4) := hb4
  clear hb4
  have hs3 := HB3.out.size
  unfold resV
  go_wp2_with (refine wpList_put (ty := 76) rfl rfl rfl rfl size76 (by kernel_rfl) ?_ ?_)
  · obtain ⟨z, h1, h2⟩ := HB0.out.2
    exact ⟨z, (HB4.out.block _ (by omega)).trans ((HB3.out.block _ (by omega)).trans h1), h2⟩
  intro w5 h5 k5 s5
  go_wp2_with fail
  refine bodyPost_ret (results_cell_row rfl _ _ _ _ _ _ _ rfl h5 Yaed.underlying76 rfl size76) rfl ⟨rfl, ?_⟩
  exact HB0.out.1.trans ((HB3.out.mono (by omega)).trans ((HB4.out.mono (by omega)).trans (k5.below (fun k hk => by show k ≠ w.heap.size; omega))))

set_option maxRecDepth 20000 in
set_option maxHeartbeats 2000000 in
theorem sel_nil (ps bd bt tc : Nat) (t : T) (s : St) (aa : Option Addr) (ac : Nat) (ha : s.arena = .slice aa 0 ac) (hg : s.groups = nilS) (w : World) (h : StAt w ps s) (hdb : DB1 w bd bt tc t) (hr : t.rows.n = 0) :
    Calls Yaed.prog 217 #[.pointer (some ⟨bd, 0, none⟩), .pointer (some ⟨ps, 0, none⟩), .int .i64 0] w fun r w' => r = .returned (resV 0 0 nilS) ∧ Below w.heap.size w w' := by
  have HST : Hid (StAt w ps s) := h
  have HDB : Hid (DB1 w bd bt tc t) := hdb
  have hps := h.lt
  have hbd := hdb.lt
  have hbt := hdb.lt'
  have hbd' : ¬ bd = w.heap.size := by omega
  obtain ⟨d0, _⟩ := hdb.dfacts
  clear h hdb
  go_enter Yaed.func217, Yaed.ntmps217
  go_wp2_with fail
  generalize hw0 : World.alloc _ _ = w0
  have HB0 : Hid (Below w.heap.size w w0 ∧ ∃ z, w0.heap[w.heap.size]? = some (.cells z 76 (0, 0)) ∧ z.size = 3) := by rw [← hw0]; exact ⟨below_alloc _ _, _, heap_alloc_new _ _, rfl⟩
  have hs0 : w.heap.size + 1 ≤ w0.heap.size := by rw [← hw0]; simp
  clear hw0 d0
  have e18 : w0.cell? ⟨ps, 18, none⟩ = some (.slice aa 0 ac) := by rw [← ha]; exact (HST.out.ext HB0.out.1).cell 18
  obtain ⟨t0, t1, _⟩ := (HDB.out.ext HB0.out.1).tfacts
  have hwm : IntKind.i64.wrap (-1) = -1 := by decide
  refine wp_region_can (l := [_, _, _, _, _, _, _, _, _, _, _, _, _, _]) [(true, 0), (true, 1), (true, 2), (true, 3), (true, 4), (true, 5), (true, 6), (true, 7), (true, 8), (true, 9), (true, 10), (true, 11), (true, 12), (true, 13)] (fun W => W.cell? ⟨ps, 18, none⟩ = some (.slice aa 0 ac) ∧ W.cell? ⟨bt, 1, none⟩ = some (.slice t.cols.a t.cols.n t.cols.c)) (by kernel_rfl) (by kernel_rfl) ⟨e18, t1⟩ ?_
  repeat (first | ((first | refine wpCan_q (v := ?_) rfl rfl rfl ?_ ?_ | refine wpCan_qg (v := ?_) rfl rfl (by rfl) ?_ ?_); rotate_left; (focus (rintro W ⟨q1, q2⟩; go_simp; first | done | exact rfl)); simp only [Act.put, List.setIfInBounds_toArray, List.set_cons_zero, List.set_cons_succ]) | (refine wpCan_skip rfl rfl (by rfl) ?_; simp only [Act.put, List.setIfInBounds_toArray, List.set_cons_zero, List.set_cons_succ]))
  refine wpCan_nil ?_
  generalize hw1 : World.drew _ = w1
  have HB1 : Hid (Below w.heap.size w w1 ∧ ∃ z, w1.heap[w.heap.size]? = some (.cells z 76 (0, 0)) ∧ z.size = 3) := by rw [← hw1]; exact ⟨HB0.out.1.drew, HB0.out.2⟩
  have hs1 : w.heap.size + 1 ≤ w1.heap.size := by rw [← hw1]; exact hs0
  clear hw1 HB0 e18 t0 t1
  go_wp2_with fail
  refine (checkExprs_nil _ _ _ (by rfl) _ _ _).mono ?_
  rintro e w2 ⟨rfl, rfl⟩
  go_wp2_with fail
  have h4 : w2.cell? ⟨bt, 4, none⟩ = some (.slice t.rows.a 0 t.rows.c) := by
    obtain ⟨_, _, _, _, h, _⟩ := (HDB.out.ext HB1.out.1).tfacts
    rw [hr] at h
    exact h
  refine (selOn_nil ps bd bt s aa ac ha hg w2 (HST.out.ext HB1.out.1) _ _ h4 (by omega)).mono ?_
  rintro e w3 ⟨rfl, hb3⟩
  have HB3 : Hid (Below w2.heap.size w2 w3) := hb3
  clear hb3
  unfold resV
  go_wp2_with (refine wpList_put (ty := 76) rfl rfl rfl rfl size76 (by kernel_rfl) ?_ ?_)
  · obtain ⟨z, h1, h2⟩ := HB1.out.2
    exact ⟨z, (HB3.out.block _ (by omega)).trans h1, h2⟩
  intro w5 h5 k5 s5
  go_wp2_with fail
  refine bodyPost_ret (results_cell_row rfl _ _ _ _ _ _ _ rfl h5 Yaed.underlying76 rfl size76) rfl ⟨rfl, ?_⟩
  exact HB1.out.1.trans ((HB3.out.mono (by omega)).trans (k5.below (fun k hk => by show k ≠ w.heap.size; omega)))

set_option maxRecDepth 20000 in
set_option maxHeartbeats 4000000 in
theorem exec_star0 {w : World} {ok : Nat → Prop} {ps bd : Nat} {s : St} (h : SAt w ok ps s [] [] []) (hf : Fine s [] []) (hk : s.kind = 5) (hw : s.wher = -1) (hdb : DB0 w bd) :
    Calls Yaed.prog 207 #[.pointer (some ⟨bd, 0, none⟩), .pointer (some ⟨ps, 0, none⟩)] w fun r w' => r = .returned (resV 3 0 nilS) ∧ Below w.heap.size w w' := by
  have H : Hid (SAt w ok ps s [] [] []) := h
  have HF : Hid (Fine s [] []) := hf
  have HDB : Hid (DB0 w bd) := hdb
  have hps := h.at_.lt
  have hbd := hdb.lt
  have ht : s.table = tS := by rcases hf.table with h | h; exact h.2; rw [hk] at h; cases h.1
  have HWL : Hid (whL s = []) := by show whL s = []; simp [whL, hw]
  obtain ⟨aa, ac, hav, _⟩ := h.arena
  clear h hf hdb
  go_enter Yaed.func207, Yaed.ntmps207
  go_wp2_with fail
  generalize hw0 : World.alloc _ _ = w0
  have HB0 : Hid (Below w.heap.size w w0 ∧ ∃ z, w0.heap[w.heap.size]? = some (.cells z 76 (0, 0)) ∧ z.size = 3) := by rw [← hw0]; exact ⟨below_alloc _ _, _, heap_alloc_new _ _, rfl⟩
  have hs0 : w.heap.size + 1 ≤ w0.heap.size := by rw [← hw0]; simp
  clear hw0
  refine (check_any (H.out.ext HB0.out.1) HF.out (by rw [HWL.out]; exact Arena.nil)).mono ?_
  rintro e w1 ⟨rfl, hb1⟩
  have HB1 : Hid (Below w0.heap.size w0 w1) := hb1
  have HBW : Hid (Below w.heap.size w w1) := HB0.out.1.trans (HB1.out.mono (by omega))
  have hs1 := hb1.size
  have HS1 : Hid (StAt w1 ps s) := (H.out.ext HBW.out).at_
  have f0 := HS1.out.facts.1
  have f6 : w1.cell? ⟨ps, 6, none⟩ = some (.string s.table) := HS1.out.cell 6
  rw [hk] at f0
  rw [ht] at f6
  clear hb1
  go_wp2_with fail
  refine (joined_nil ps s aa ac (by simpa using hav) w1 HS1.out).mono ?_
  rintro e w2 ⟨rfl, rfl⟩
  go_wp2_with fail
  refine (table_empty bd _ w2 (HDB.out.ext HBW.out)).mono ?_
  rintro e w3 ⟨rfl, rfl⟩
  go_wp2_with fail
  refine (fail_any _ _).mono ?_
  rintro e w4 ⟨rfl, hb4⟩
  have HB4 : Hid (Below w3.heap.size w3 w4) := hb4
  clear hb4
  unfold resV
  go_wp2_with (refine wpList_put (ty := 76) rfl rfl rfl rfl size76 (by kernel_rfl) ?_ ?_)
  · obtain ⟨z, h1, h2⟩ := HB0.out.2
    exact ⟨z, (HB4.out.block _ (by omega)).trans ((HB1.out.block _ (by omega)).trans h1), h2⟩
  intro w5 h5 k5 s5
  go_wp2_with fail
  refine bodyPost_ret (results_cell_row rfl _ _ _ _ _ _ _ rfl h5 Yaed.underlying76 rfl size76) rfl ⟨rfl, ?_⟩
  exact HBW.out.trans ((HB4.out.mono (by omega)).trans (k5.below (fun k hk => by show k ≠ w.heap.size; omega)))

set_option maxRecDepth 20000 in
set_option maxHeartbeats 4000000 in
theorem exec_star1 {w : World} {ok : Nat → Prop} {ps bd bt tc : Nat} {t : T} {s : St} (h : SAt w ok ps s [] [] []) (hf : Fine s [] []) (hk : s.kind = 5) (hw : s.wher = -1) (hdb : DB1 w bd bt tc t) (htn : t.name = tS) (hr : t.rows.n = 0) :
    Calls Yaed.prog 207 #[.pointer (some ⟨bd, 0, none⟩), .pointer (some ⟨ps, 0, none⟩)] w fun r w' => r = .returned (resV 0 0 nilS) ∧ Below w.heap.size w w' := by
  have H : Hid (SAt w ok ps s [] [] []) := h
  have HF : Hid (Fine s [] []) := hf
  have HDB : Hid (DB1 w bd bt tc t) := hdb
  have hps := h.at_.lt
  have hbd := hdb.lt
  have ht : s.table = tS := by rcases hf.table with h | h; exact h.2; rw [hk] at h; cases h.1
  have HWL : Hid (whL s = []) := by show whL s = []; simp [whL, hw]
  obtain ⟨aa, ac, hav, _⟩ := h.arena
  clear h hf hdb
  go_enter Yaed.func207, Yaed.ntmps207
  go_wp2_with fail
  generalize hw0 : World.alloc _ _ = w0
  have HB0 : Hid (Below w.heap.size w w0 ∧ ∃ z, w0.heap[w.heap.size]? = some (.cells z 76 (0, 0)) ∧ z.size = 3) := by rw [← hw0]; exact ⟨below_alloc _ _, _, heap_alloc_new _ _, rfl⟩
  have hs0 : w.heap.size + 1 ≤ w0.heap.size := by rw [← hw0]; simp
  clear hw0
  refine (check_any (H.out.ext HB0.out.1) HF.out (by rw [HWL.out]; exact Arena.nil)).mono ?_
  rintro e w1 ⟨rfl, hb1⟩
  have HB1 : Hid (Below w0.heap.size w0 w1) := hb1
  have HBW : Hid (Below w.heap.size w w1) := HB0.out.1.trans (HB1.out.mono (by omega))
  have hs1 := hb1.size
  have HS1 : Hid (StAt w1 ps s) := (H.out.ext HBW.out).at_
  have f0 := HS1.out.facts.1
  have f6 : w1.cell? ⟨ps, 6, none⟩ = some (.string s.table) := HS1.out.cell 6
  rw [hk] at f0
  rw [ht] at f6
  clear hb1
  go_wp2_with fail
  refine (joined_nil ps s aa ac (by simpa using hav) w1 HS1.out).mono ?_
  rintro e w2 ⟨rfl, rfl⟩
  go_wp2_with fail
  refine (table_t bd bt tc t htn w2 (HDB.out.ext HBW.out)).mono ?_
  rintro e w3 ⟨rfl, rfl⟩
  go_wp2_with fail
  refine (sel_nil ps bd bt tc t s aa ac (by simpa using hav) H.out.groups w3 HS1.out (HDB.out.ext HBW.out) hr).mono ?_
  rintro e w4 ⟨rfl, hb4⟩
  have HB4 : Hid (Below w3.heap.size w3 w4) := hb4
  clear hb4
  unfold resV
  go_wp2_with (refine wpList_put (ty := 76) rfl rfl rfl rfl size76 (by kernel_rfl) ?_ ?_)
  · obtain ⟨z, h1, h2⟩ := HB0.out.2
    exact ⟨z, (HB4.out.block _ (by omega)).trans ((HB1.out.block _ (by omega)).trans h1), h2⟩
  intro w5 h5 k5 s5
  go_wp2_with fail
  refine bodyPost_ret (results_cell_row rfl _ _ _ _ _ _ _ rfl h5 Yaed.underlying76 rfl size76) rfl ⟨rfl, ?_⟩
  exact HBW.out.trans ((HB4.out.mono (by omega)).trans (k5.below (fun k hk => by show k ≠ w.heap.size; omega)))
end Go.Proofs.YgdaegDoor
