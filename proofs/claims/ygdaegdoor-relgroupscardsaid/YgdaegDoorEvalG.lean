import Derived.Test.YgdaegDoorAggW
namespace Go.Proofs.YgdaegDoor
open Go.RowKit
set_option linter.unusedSimpArgs false
set_option linter.unusedVariables false
set_option maxRecDepth 20000 in
set_option maxHeartbeats 4000000 in
theorem evalGroup_col (c : Nat) (n : Nat) (h4 : n ≤ 4) (b o an acap : Nat) (y : Nat) (hy : y < an) (han : an < 30000) (bt : Nat) (cv : Value) (da do_ dc qa qo qc : Nat) (rs : List (List V)) (hrl : rs.length ≤ 32) (g : List Nat) (hg : ∀ k ∈ g, k < rs.length) (hgl : g.length ≤ 32) (hg0 : 0 < g.length) (gv : Value) (okg : Nat → Prop) (w : World)
    (hGT : GT w bt cv da do_ dc qa qo qc n rs) (hc : c < n) (hgv : Arr w okg gv 1 (i64L g)) (hNy : NodeAt w b (o + y * 12) (colE (cname c))) :
    Calls Yaed.prog 235 #[.slice (some ⟨b, o, none⟩) an acap, .int .i16 y, .pointer (some ⟨bt, 0, none⟩), gv] w fun r w' => r = .returned (cellV rs c (g.headD 0)).val ∧ Below w.heap.size w w' := by
  have HNY : Hid (NodeAt w b (o + y * 12) (colE (cname c))) := hNy
  have hbl := hNy.1
  clear hNy
  obtain ⟨res, hres⟩ : ∃ res, cellV rs c (g.headD 0) = res := ⟨_, rfl⟩
  rw [hres]
  have HRES : Hid (cellV rs c (g.headD 0) = res) := hres
  clear hres
  have HGV : Hid (Arr w okg gv 1 (i64L g)) := hgv
  obtain ⟨ga, gc, rfl, hgc⟩ := i64_at hgv
  have HGT : Hid (GT w bt cv da do_ dc qa qo qc n rs) := hGT
  have HG : Hid (∀ k ∈ g, k < rs.length) := hg
  obtain ⟨gb, go, rfl, _, hgb, hcell⟩ := hgc 0 hg0
  obtain ⟨k, hk⟩ : ∃ k, g[0] = k := ⟨_, rfl⟩
  have hkr : k < rs.length := hg k (by rw [← hk]; exact List.getElem_mem _)
  have HK : Hid (g.headD 0 = k) := by rw [← hk]; exact (show g.headD 0 = g[0] by cases g with | nil => cases hg0 | cons a l => rfl)
  rw [hk, Nat.add_zero] at hcell
  clear hk
  obtain ⟨rb, ro, rc, e5, hrb, hcells⟩ := hGT.rows k hkr
  have e1 := hGT.c1
  have e2 := hGT.c3
  have e3 := hGT.c4
  have e4 := hGT.ids k hkr
  have HCELLS : Hid (∀ c, c < n → w.rangeAt rb (ro + c * 4) ((rs.getD k []).getD c V0).list) := hcells
  obtain ⟨id, hid⟩ : ∃ id : Int, ((k + 1 : Nat) : Int) = id := ⟨_, rfl⟩
  rw [hid] at e4
  have hkm : (k : Int) < rs.length := by omega
  have hk0 : ¬ (k : Int) < 0 := by omega
  have hgl0 : (0 : Int) < g.length := by omega
  have hgl1 : ((g.length : Int) == 0) = false := by first | (simp; omega) | simpa using (by omega : g.length ≠ 0)
  have hbt := hGT.lt
  have hda := hGT.dalt
  have hqa := hGT.qalt
  have hbtne : ¬ bt = w.heap.size := by omega
  clear hid hcells hGT hgv hgc hg

  have hbne : ¬ b = w.heap.size := by omega
  have hy0 : ¬ (y : Int) < 0 := by omega
  have hyn : (y : Int) < an := by omega
  have hyn' : ¬ (an : Int) ≤ y := by omega
  have hw1 : IntKind.i64.wrap (y : Int) = y := IntWalk.i64_in _ (by omega)
  have hw2 : IntKind.i16.wrap ((y : Int) + 1) = y + 1 := IntWalk.i16_in _ (by omega)
  have hxs : IntKind.i16.wrap 0 = 0 := by decide
  have hxs1 : IntKind.i16.wrap 1 = 1 := by decide
  go_enter Yaed.func235, Yaed.ntmps235
  go_wp2_with fail
  generalize hw0 : World.alloc _ _ = w0
  have HB0 : Hid (Below w.heap.size w w0) := by rw [← hw0]; exact (below_alloc _ _)
  have HR0 : Hid (∃ z, w0.heap[w.heap.size]? = some (.cells z 100 (0, 0)) ∧ z.size = 4) := by rw [← hw0]; exact ⟨_, heap_new rfl, rfl⟩
  have hs0 : w.heap.size + 1 ≤ w0.heap.size := by rw [← hw0]; simp
  have r2 : w0.cell? ⟨bt, 3, none⟩ = some (.slice (some ⟨da, do_, none⟩) rs.length dc) := by rw [HB0.out.cell (p := ⟨bt, _, none⟩) hbt]; exact e2
  have r3 : w0.cell? ⟨bt, 4, none⟩ = some (.slice (some ⟨qa, qo, none⟩) rs.length qc) := by rw [HB0.out.cell (p := ⟨bt, _, none⟩) hbt]; exact e3
  have r4 : w0.cell? ⟨da, do_ + k, none⟩ = some (.int .i64 id) := by rw [HB0.out.cell (p := ⟨da, _, none⟩) hda]; exact e4
  have r5 : w0.cell? ⟨qa, qo + k, none⟩ = some (.slice (some ⟨rb, ro, none⟩) n rc) := by rw [HB0.out.cell (p := ⟨qa, _, none⟩) hqa]; exact e5
  have r6 : w0.cell? ⟨gb, go, none⟩ = some (.int .i64 k) := by rw [HB0.out.cell (p := ⟨gb, _, none⟩) hgb]; exact hcell
  clear hw0 e1 e2 e3 e4 e5 hcell
  refine wp_region_can (l := [_, _, _, _, _, _, _, _, _, _, _, _, _, _, _, _, _, _, _]) [(true, 0), (true, 1), (true, 2), (true, 3), (true, 4), (true, 5), (true, 6), (true, 7), (true, 8), (true, 9), (true, 10), (true, 11), (true, 12), (true, 13), (true, 14), (true, 15), (true, 16), (true, 17), (true, 18)] (fun W => W.cell? ⟨bt, 3, none⟩ = some (.slice (some ⟨da, do_, none⟩) rs.length dc) ∧ W.cell? ⟨bt, 4, none⟩ = some (.slice (some ⟨qa, qo, none⟩) rs.length qc) ∧ W.cell? ⟨da, do_ + k, none⟩ = some (.int .i64 id) ∧ W.cell? ⟨qa, qo + k, none⟩ = some (.slice (some ⟨rb, ro, none⟩) n rc) ∧ W.cell? ⟨gb, go, none⟩ = some (.int .i64 k)) (by kernel_rfl) (by kernel_rfl) ⟨r2, r3, r4, r5, r6⟩ ?_
  repeat ((refine wpCan_q (v := ?_) rfl rfl rfl ?_ ?_); rotate_left; (focus (rintro W ⟨q2, q3, q4, q5, q6⟩; go_simp; first | done | exact rfl)); simp only [Act.put, List.setIfInBounds_toArray, List.set_cons_zero, List.set_cons_succ])
  refine wpCan_nil ?_
  generalize hwd : World.drew _ = w1
  have HB1 : Hid (Below w.heap.size w w1) := by rw [← hwd]; exact HB0.out.drew
  have HR1 : Hid (∃ z, w1.heap[w.heap.size]? = some (.cells z 100 (0, 0)) ∧ z.size = 4) := by rw [← hwd]; exact HR0.out
  have hs1 : w.heap.size + 1 ≤ w1.heap.size := by rw [← hwd]; exact hs0
  clear hwd r2 r3 r4 r5 r6 HB0 HR0 hs0
  obtain ⟨n0, n1, _⟩ := (HNY.out.ext HB1.out).facts
  simp only [aggE, colE] at n0 n1
  go_wp2_with fail
  refine wp_loop_rounds 1 ?_
  rw [rounds_succ]
  go_wp2_with (refine wpList_mk (n := 1) rfl rfl Yaed.underlying94 info100 rfl rfl (by omega) (by omega) ?_)
  intro w2 cs hcs hcz hb2 hs2 _
  obtain ⟨VB, hVB⟩ : ∃ VB, w1.heap.size = VB := ⟨_, rfl⟩
  rw [hVB] at hcs ⊢
  have HB2 : Hid (Below w.heap.size w w2) := HB1.out.trans (hb2.mono (by omega))
  have HR2 : Hid (∃ z, w2.heap[w.heap.size]? = some (.cells z 100 (0, 0)) ∧ z.size = 4) := by obtain ⟨z, h1, h2⟩ := HR1.out; exact ⟨z, (hb2.block _ (by omega)).trans h1, h2⟩
  have HC2 : Hid (w2.heap[VB]? = some (.cells cs 100 (0, 0)) ∧ cs.size = 4) := ⟨hcs, by simpa using hcz⟩
  have hVB1 : w.heap.size + 1 ≤ VB := by omega
  have hVB2 : VB < w2.heap.size := block_lt hcs
  clear hcs hcz hb2 hs2 hVB HB1 HR1 n0 n1
  obtain ⟨n0, n1, _⟩ := (HNY.out.ext HB2.out).facts
  simp only [aggE, colE] at n0 n1
  have c1 := (HGT.out.ext HB2.out).c1
  go_wp2_with fail
  refine wp_loop_rounds 2 ?_
  rw [rounds_succ]
  go_wp2_with fail
  refine (node_col (colE (cname c)) V0 V0 ((rs.getD k []).getD c V0) b o an acap y (by omega) _ cv y id c rb ro n rc hc (by omega) w2 (HNY.out.ext HB2.out) (fun w2 _ => arg_none _ y _ w2) (fun w2 _ => arg_none _ y _ w2) rfl (cname_rowid c (by omega))
      (fun w3 h3 => by
        obtain ⟨ok, ha⟩ := (HGT.out.ext HB2.out).cols
        exact colIndex_any (nsN n) (cname c) c (by rw [nsN_len]; exact hc) (by rw [nsN_len]; exact h4) (nsN_get hc) (fun j hj => by rw [nsN_get (by omega)]; exact cname_ne c j (by omega) hj) cv w3 ok (ha.ext h3)) (Nat.lt_of_lt_of_le hrb HB2.out.size) (range_ext (HCELLS.out c hc) HB2.out hrb)).mono ?_
  rw [show norm ((rs.getD k []).getD c V0) = cellV rs c (g.headD 0) by rw [HK.out]; rfl]
  rintro e' w3 ⟨rfl, hb3⟩
  have HB3 : Hid (Below w2.heap.size w2 w3) := hb3
  have hs3 := hb3.size
  clear hb3
  try rw [HRES.out]
  unfold V.val
  go_wp2_with (refine wpList_put (ty := 100) (g := VB) rfl rfl rfl rfl size100 (by kernel_rfl) (by obtain ⟨h1, h2⟩ := HC2.out; exact ⟨_, (HB3.out.block _ (by omega)).trans h1, h2⟩) ?_; intro w4 h4 k4 s4; have HN4 : Hid (w4.heap[VB]? = some (.cells #[.int .u8 res.k, .int .i64 res.i, .float .f64 res.r, .string res.s] 100 (0, 0))) := h4; have HK4 : Hid (Keep (fun k => k ≠ VB) w3 w4) := k4; clear h4 k4 s4)
  rw [rounds_succ]
  have hs4 := HK4.out.size
  go_wp2_with (first | (refine wpList_get (ty := 100) _ rfl rfl rfl Yaed.underlying100 rfl HN4.out size100 ?_) | (refine wpList_put (ty := 100) (g := w.heap.size) rfl rfl rfl rfl size100 (by kernel_rfl) (by obtain ⟨z, h1, h2⟩ := HR2.out; exact ⟨z, (HK4.out.block _ (by show w.heap.size ≠ VB; omega)).trans ((HB3.out.block _ (by omega)).trans h1), h2⟩) ?_; intro w5 h5 k5 s5; have HN5 : Hid (w5.heap[w.heap.size]? = some (.cells #[.int .u8 res.k, .int .i64 res.i, .float .f64 res.r, .string res.s] 100 (0, 0))) := h5; have HK5 : Hid (Keep (fun k => k ≠ w.heap.size) w4 w5) := k5; clear h5 k5 s5))
  refine bodyPost_ret (results_cell_row rfl _ _ _ _ _ _ _ rfl HN5.out Yaed.underlying100 rfl size100) rfl ⟨rfl, ?_⟩
  exact HB2.out.trans ((HB3.out.mono (by omega)).trans ((HK4.out.below (fun k hk => by show k ≠ VB; omega)).trans (HK5.out.below (fun k hk => by show k ≠ w.heap.size; omega))))
set_option maxRecDepth 20000 in
set_option maxHeartbeats 4000000 in
theorem evalGroup_all (nm : ByteArray) (n : Nat) (h4 : n ≤ 4) (b o an acap : Nat) (y : Nat) (hy : y < an) (han : an < 30000) (bt : Nat) (cv : Value) (da do_ dc qa qo qc : Nat) (rs : List (List V)) (hrl : rs.length ≤ 32) (g : List Nat) (hg : ∀ k ∈ g, k < rs.length) (hgl : g.length ≤ 32) (hg0 : 0 < g.length) (gv : Value) (okg : Nat → Prop) (w : World)
    (hGT : GT w bt cv da do_ dc qa qo qc n rs) (hgv : Arr w okg gv 1 (i64L g)) (hNy : NodeAt w b (o + y * 12) (aggE nm (-1))) :
    Calls Yaed.prog 235 #[.slice (some ⟨b, o, none⟩) an acap, .int .i16 y, .pointer (some ⟨bt, 0, none⟩), gv] w fun r w' => r = .returned (intV g.length).val ∧ Below w.heap.size w w' := by
  have HNY : Hid (NodeAt w b (o + y * 12) (aggE nm (-1))) := hNy
  have hbl := hNy.1
  clear hNy
  obtain ⟨res, hres⟩ : ∃ res, intV g.length = res := ⟨_, rfl⟩
  rw [hres]
  have HRES : Hid (intV g.length = res) := hres
  clear hres
  have HGV : Hid (Arr w okg gv 1 (i64L g)) := hgv
  obtain ⟨ga, gc, rfl, hgc⟩ := i64_at hgv
  have HGT : Hid (GT w bt cv da do_ dc qa qo qc n rs) := hGT
  have HG : Hid (∀ k ∈ g, k < rs.length) := hg
  obtain ⟨gb, go, rfl, _, hgb, hcell⟩ := hgc 0 hg0
  obtain ⟨k, hk⟩ : ∃ k, g[0] = k := ⟨_, rfl⟩
  have hkr : k < rs.length := hg k (by rw [← hk]; exact List.getElem_mem _)
  have HK : Hid (g.headD 0 = k) := by rw [← hk]; exact (show g.headD 0 = g[0] by cases g with | nil => cases hg0 | cons a l => rfl)
  rw [hk, Nat.add_zero] at hcell
  clear hk
  obtain ⟨rb, ro, rc, e5, hrb, hcells⟩ := hGT.rows k hkr
  have e1 := hGT.c1
  have e2 := hGT.c3
  have e3 := hGT.c4
  have e4 := hGT.ids k hkr
  have HCELLS : Hid (∀ c, c < n → w.rangeAt rb (ro + c * 4) ((rs.getD k []).getD c V0).list) := hcells
  obtain ⟨id, hid⟩ : ∃ id : Int, ((k + 1 : Nat) : Int) = id := ⟨_, rfl⟩
  rw [hid] at e4
  have hkm : (k : Int) < rs.length := by omega
  have hk0 : ¬ (k : Int) < 0 := by omega
  have hgl0 : (0 : Int) < g.length := by omega
  have hgl1 : ((g.length : Int) == 0) = false := by first | (simp; omega) | simpa using (by omega : g.length ≠ 0)
  have hbt := hGT.lt
  have hda := hGT.dalt
  have hqa := hGT.qalt
  have hbtne : ¬ bt = w.heap.size := by omega
  clear hid hcells hGT hgv hgc hg

  have hbne : ¬ b = w.heap.size := by omega
  have hy0 : ¬ (y : Int) < 0 := by omega
  have hyn : (y : Int) < an := by omega
  have hyn' : ¬ (an : Int) ≤ y := by omega
  have hw1 : IntKind.i64.wrap (y : Int) = y := IntWalk.i64_in _ (by omega)
  have hw2 : IntKind.i16.wrap ((y : Int) + 1) = y + 1 := IntWalk.i16_in _ (by omega)
  have hxs : IntKind.i16.wrap 0 = 0 := by decide
  have hxs1 : IntKind.i16.wrap 1 = 1 := by decide
  go_enter Yaed.func235, Yaed.ntmps235
  go_wp2_with fail
  generalize hw0 : World.alloc _ _ = w0
  have HB0 : Hid (Below w.heap.size w w0) := by rw [← hw0]; exact (below_alloc _ _)
  have HR0 : Hid (∃ z, w0.heap[w.heap.size]? = some (.cells z 100 (0, 0)) ∧ z.size = 4) := by rw [← hw0]; exact ⟨_, heap_new rfl, rfl⟩
  have hs0 : w.heap.size + 1 ≤ w0.heap.size := by rw [← hw0]; simp
  have r2 : w0.cell? ⟨bt, 3, none⟩ = some (.slice (some ⟨da, do_, none⟩) rs.length dc) := by rw [HB0.out.cell (p := ⟨bt, _, none⟩) hbt]; exact e2
  have r3 : w0.cell? ⟨bt, 4, none⟩ = some (.slice (some ⟨qa, qo, none⟩) rs.length qc) := by rw [HB0.out.cell (p := ⟨bt, _, none⟩) hbt]; exact e3
  have r4 : w0.cell? ⟨da, do_ + k, none⟩ = some (.int .i64 id) := by rw [HB0.out.cell (p := ⟨da, _, none⟩) hda]; exact e4
  have r5 : w0.cell? ⟨qa, qo + k, none⟩ = some (.slice (some ⟨rb, ro, none⟩) n rc) := by rw [HB0.out.cell (p := ⟨qa, _, none⟩) hqa]; exact e5
  have r6 : w0.cell? ⟨gb, go, none⟩ = some (.int .i64 k) := by rw [HB0.out.cell (p := ⟨gb, _, none⟩) hgb]; exact hcell
  clear hw0 e1 e2 e3 e4 e5 hcell
  refine wp_region_can (l := [_, _, _, _, _, _, _, _, _, _, _, _, _, _, _, _, _, _, _]) [(true, 0), (true, 1), (true, 2), (true, 3), (true, 4), (true, 5), (true, 6), (true, 7), (true, 8), (true, 9), (true, 10), (true, 11), (true, 12), (true, 13), (true, 14), (true, 15), (true, 16), (true, 17), (true, 18)] (fun W => W.cell? ⟨bt, 3, none⟩ = some (.slice (some ⟨da, do_, none⟩) rs.length dc) ∧ W.cell? ⟨bt, 4, none⟩ = some (.slice (some ⟨qa, qo, none⟩) rs.length qc) ∧ W.cell? ⟨da, do_ + k, none⟩ = some (.int .i64 id) ∧ W.cell? ⟨qa, qo + k, none⟩ = some (.slice (some ⟨rb, ro, none⟩) n rc) ∧ W.cell? ⟨gb, go, none⟩ = some (.int .i64 k)) (by kernel_rfl) (by kernel_rfl) ⟨r2, r3, r4, r5, r6⟩ ?_
  repeat ((refine wpCan_q (v := ?_) rfl rfl rfl ?_ ?_); rotate_left; (focus (rintro W ⟨q2, q3, q4, q5, q6⟩; go_simp; first | done | exact rfl)); simp only [Act.put, List.setIfInBounds_toArray, List.set_cons_zero, List.set_cons_succ])
  refine wpCan_nil ?_
  generalize hwd : World.drew _ = w1
  have HB1 : Hid (Below w.heap.size w w1) := by rw [← hwd]; exact HB0.out.drew
  have HR1 : Hid (∃ z, w1.heap[w.heap.size]? = some (.cells z 100 (0, 0)) ∧ z.size = 4) := by rw [← hwd]; exact HR0.out
  have hs1 : w.heap.size + 1 ≤ w1.heap.size := by rw [← hwd]; exact hs0
  clear hwd r2 r3 r4 r5 r6 HB0 HR0 hs0
  obtain ⟨n0, n1, _⟩ := (HNY.out.ext HB1.out).facts
  simp only [aggE, colE] at n0 n1
  go_wp2_with fail
  refine wp_loop_rounds 1 ?_
  rw [rounds_succ]
  go_wp2_with (refine wpList_mk (n := 1) rfl rfl Yaed.underlying94 info100 rfl rfl (by omega) (by omega) ?_)
  intro w2 cs hcs hcz hb2 hs2 _
  obtain ⟨VB, hVB⟩ : ∃ VB, w1.heap.size = VB := ⟨_, rfl⟩
  rw [hVB] at hcs ⊢
  have HB2 : Hid (Below w.heap.size w w2) := HB1.out.trans (hb2.mono (by omega))
  have HR2 : Hid (∃ z, w2.heap[w.heap.size]? = some (.cells z 100 (0, 0)) ∧ z.size = 4) := by obtain ⟨z, h1, h2⟩ := HR1.out; exact ⟨z, (hb2.block _ (by omega)).trans h1, h2⟩
  have HC2 : Hid (w2.heap[VB]? = some (.cells cs 100 (0, 0)) ∧ cs.size = 4) := ⟨hcs, by simpa using hcz⟩
  have hVB1 : w.heap.size + 1 ≤ VB := by omega
  have hVB2 : VB < w2.heap.size := block_lt hcs
  clear hcs hcz hb2 hs2 hVB HB1 HR1 n0 n1
  obtain ⟨n0, n1, _⟩ := (HNY.out.ext HB2.out).facts
  simp only [aggE, colE] at n0 n1
  have c1 := (HGT.out.ext HB2.out).c1
  go_wp2_with fail
  refine wp_loop_rounds 2 ?_
  rw [rounds_succ]
  go_wp2_with fail
  refine (aggregate_all nm b o an acap y hy han bt _ _ _ w2 (HNY.out.ext HB2.out)).mono ?_
  rintro e' w3 ⟨rfl, hb3⟩
  have HB3 : Hid (Below w2.heap.size w2 w3) := hb3
  have hs3 := hb3.size
  clear hb3
  try rw [HRES.out]
  unfold V.val
  go_wp2_with (refine wpList_put (ty := 100) (g := VB) rfl rfl rfl rfl size100 (by kernel_rfl) (by obtain ⟨h1, h2⟩ := HC2.out; exact ⟨_, (HB3.out.block _ (by omega)).trans h1, h2⟩) ?_; intro w4 h4 k4 s4; have HN4 : Hid (w4.heap[VB]? = some (.cells #[.int .u8 res.k, .int .i64 res.i, .float .f64 res.r, .string res.s] 100 (0, 0))) := h4; have HK4 : Hid (Keep (fun k => k ≠ VB) w3 w4) := k4; clear h4 k4 s4)
  rw [rounds_succ]
  have hs4 := HK4.out.size
  go_wp2_with (first | (refine wpList_get (ty := 100) _ rfl rfl rfl Yaed.underlying100 rfl HN4.out size100 ?_) | (refine wpList_put (ty := 100) (g := w.heap.size) rfl rfl rfl rfl size100 (by kernel_rfl) (by obtain ⟨z, h1, h2⟩ := HR2.out; exact ⟨z, (HK4.out.block _ (by show w.heap.size ≠ VB; omega)).trans ((HB3.out.block _ (by omega)).trans h1), h2⟩) ?_; intro w5 h5 k5 s5; have HN5 : Hid (w5.heap[w.heap.size]? = some (.cells #[.int .u8 res.k, .int .i64 res.i, .float .f64 res.r, .string res.s] 100 (0, 0))) := h5; have HK5 : Hid (Keep (fun k => k ≠ w.heap.size) w4 w5) := k5; clear h5 k5 s5))
  refine bodyPost_ret (results_cell_row rfl _ _ _ _ _ _ _ rfl HN5.out Yaed.underlying100 rfl size100) rfl ⟨rfl, ?_⟩
  exact HB2.out.trans ((HB3.out.mono (by omega)).trans ((HK4.out.below (fun k hk => by show k ≠ VB; omega)).trans (HK5.out.below (fun k hk => by show k ≠ w.heap.size; omega))))
end Go.Proofs.YgdaegDoor
