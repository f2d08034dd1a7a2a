import Derived.Test.YgdaegDoorAggW
namespace Go.Proofs.YgdaegDoor
open Go.RowKit
set_option linter.unusedSimpArgs false
set_option linter.unusedVariables false
set_option maxRecDepth 20000 in
set_option maxHeartbeats 4000000 in
theorem evalGroup_agg (ag : Ag) (c x y : Nat) (n : Nat) (h4 : n ≤ 4) (b o an acap : Nat) (hx : x < an) (hy : y < an) (hxy : x + 1 = y) (han : an < 30000) (bt : Nat) (cv : Value) (da do_ dc qa qo qc : Nat) (rs : List (List V)) (hrl : rs.length ≤ 32) (g : List Nat) (hg : ∀ k ∈ g, k < rs.length) (hgl : g.length ≤ 32) (hg0 : 0 < g.length) (gv : Value) (okg : Nat → Prop) (w : World)
    (hGT : GT w bt cv da do_ dc qa qo qc n rs) (hgv : Arr w okg gv 1 (i64L g)) (hc : c < n) (hNx : NodeAt w b (o + x * 12) (colE (cname c))) (hNy : NodeAt w b (o + y * 12) (aggE ag.name x)) :
    Calls Yaed.prog 235 #[.slice (some ⟨b, o, none⟩) an acap, .int .i16 y, .pointer (some ⟨bt, 0, none⟩), gv] w fun r w' => r = .returned (aggV ag (g.map (cellV rs c))).val ∧ Below w.heap.size w w' := by
  have HNX : Hid (NodeAt w b (o + x * 12) (colE (cname c))) := hNx
  have HNY : Hid (NodeAt w b (o + y * 12) (aggE ag.name x)) := hNy
  have hbl := hNy.1
  clear hNy hNx
  obtain ⟨res, hres⟩ : ∃ res, aggV ag (g.map (cellV rs c)) = res := ⟨_, rfl⟩
  rw [hres]
  have HRES : Hid (aggV ag (g.map (cellV rs c)) = res) := hres
  clear hres
  have HGV : Hid (Arr w okg gv 1 (i64L g)) := hgv
  obtain ⟨ga, gc, rfl, hgc⟩ := i64_at hgv
  have HGT : Hid (GT w bt cv da do_ dc qa qo qc n rs) := hGT
  have HG : Hid (∀ k ∈ g, k < rs.length) := hg
  obtain ⟨gb, go, rfl, _, hgb, hcell⟩ := hgc 0 hg0
  obtain ⟨k, hk⟩ : ∃ k, g[0] = k := ⟨_, rfl⟩
  have hkr : k < rs.length := hg k (by rw [← hk]; exact List.getElem_mem _)
  have HK : Hid (g.headD 0 = k) := by rw [← hk]; exact (show g.headD 0 = g[0] by cases g with | nil => cases hg0 | cons a l => rfl)
  rw [hk, Nat.add_zero] at hcell
  clear hk
  obtain ⟨rb, ro, rc, e5, hrb, hcells⟩ := hGT.rows k hkr
  have e1 := hGT.c1
  have e2 := hGT.c3
  have e3 := hGT.c4
  have e4 := hGT.ids k hkr
  have HCELLS : Hid (∀ c, c < n → w.rangeAt rb (ro + c * 4) ((rs.getD k []).getD c V0).list) := hcells
  obtain ⟨id, hid⟩ : ∃ id : Int, ((k + 1 : Nat) : Int) = id := ⟨_, rfl⟩
  rw [hid] at e4
  have hkm : (k : Int) < rs.length := by omega
  have hk0 : ¬ (k : Int) < 0 := by omega
  have hgl0 : (0 : Int) < g.length := by omega
  have hgl1 : ((g.length : Int) == 0) = false := by first | (simp; omega) | simpa using (by omega : g.length ≠ 0)
  have hbt := hGT.lt
  have hda := hGT.dalt
  have hqa := hGT.qalt
  have hbtne : ¬ bt = w.heap.size := by omega
  clear hid hcells hGT hgv hgc hg

  have hbne : ¬ b = w.heap.size := by omega
  have hy0 : ¬ (y : Int) < 0 := by omega
  have hyn : (y : Int) < an := by omega
  have hyn' : ¬ (an : Int) ≤ y := by omega
  have hx0 : ¬ (x : Int) < 0 := by omega
  have hxn : (x : Int) < an := by omega
  have hxn' : ¬ (an : Int) ≤ x := by omega
  have hxly : (x : Int) < y := by omega
  have hxley : (x : Int) ≤ y := by omega
  have hw1 : IntKind.i64.wrap (y : Int) = y := IntWalk.i64_in _ (by omega)
  have hw1' : IntKind.i64.wrap (x : Int) = x := IntWalk.i64_in _ (by omega)
  have hw2 : IntKind.i16.wrap ((y : Int) + 1) = y + 1 := IntWalk.i16_in _ (by omega)
  have hw3 : IntKind.i16.wrap ((x : Int) + 1) = y := by rw [show (x : Int) + 1 = y by omega]; exact IntWalk.i16_in _ (by omega)
  have hw4 : IntKind.i16.wrap ((y : Int) - x) = 1 := by rw [show (y : Int) - x = 1 by omega]; decide
  have hxs : IntKind.i16.wrap 0 = 0 := by decide
  have hxs1 : IntKind.i16.wrap 1 = 1 := by decide
  have hxs2 : IntKind.i16.wrap 2 = 2 := by decide
  clear hxy
  go_enter Yaed.func235, Yaed.ntmps235
  go_wp2_with fail
  generalize hw0 : World.alloc _ _ = w0
  have HB0 : Hid (Below w.heap.size w w0) := by rw [← hw0]; exact (below_alloc _ _)
  have HR0 : Hid (∃ z, w0.heap[w.heap.size]? = some (.cells z 100 (0, 0)) ∧ z.size = 4) := by rw [← hw0]; exact ⟨_, heap_new rfl, rfl⟩
  have hs0 : w.heap.size + 1 ≤ w0.heap.size := by rw [← hw0]; simp
  have r2 : w0.cell? ⟨bt, 3, none⟩ = some (.slice (some ⟨da, do_, none⟩) rs.length dc) := by rw [HB0.out.cell (p := ⟨bt, _, none⟩) hbt]; exact e2
  have r3 : w0.cell? ⟨bt, 4, none⟩ = some (.slice (some ⟨qa, qo, none⟩) rs.length qc) := by rw [HB0.out.cell (p := ⟨bt, _, none⟩) hbt]; exact e3
  have r4 : w0.cell? ⟨da, do_ + k, none⟩ = some (.int .i64 id) := by rw [HB0.out.cell (p := ⟨da, _, none⟩) hda]; exact e4
  have r5 : w0.cell? ⟨qa, qo + k, none⟩ = some (.slice (some ⟨rb, ro, none⟩) n rc) := by rw [HB0.out.cell (p := ⟨qa, _, none⟩) hqa]; exact e5
  have r6 : w0.cell? ⟨gb, go, none⟩ = some (.int .i64 k) := by rw [HB0.out.cell (p := ⟨gb, _, none⟩) hgb]; exact hcell
  clear hw0 e1 e2 e3 e4 e5 hcell
  refine wp_region_can (l := [_, _, _, _, _, _, _, _, _, _, _, _, _, _, _, _, _, _, _]) [(true, 0), (true, 1), (true, 2), (true, 3), (true, 4), (true, 5), (true, 6), (true, 7), (true, 8), (true, 9), (true, 10), (true, 11), (true, 12), (true, 13), (true, 14), (true, 15), (true, 16), (true, 17), (true, 18)] (fun W => W.cell? ⟨bt, 3, none⟩ = some (.slice (some ⟨da, do_, none⟩) rs.length dc) ∧ W.cell? ⟨bt, 4, none⟩ = some (.slice (some ⟨qa, qo, none⟩) rs.length qc) ∧ W.cell? ⟨da, do_ + k, none⟩ = some (.int .i64 id) ∧ W.cell? ⟨qa, qo + k, none⟩ = some (.slice (some ⟨rb, ro, none⟩) n rc) ∧ W.cell? ⟨gb, go, none⟩ = some (.int .i64 k)) (by kernel_rfl) (by kernel_rfl) ⟨r2, r3, r4, r5, r6⟩ ?_
  repeat ((refine wpCan_q (v := ?_) rfl rfl rfl ?_ ?_); rotate_left; (focus (rintro W ⟨q2, q3, q4, q5, q6⟩; go_simp; first | done | exact rfl)); simp only [Act.put, List.setIfInBounds_toArray, List.set_cons_zero, List.set_cons_succ])
  refine wpCan_nil ?_
  generalize hwd : World.drew _ = w1
  have HB1 : Hid (Below w.heap.size w w1) := by rw [← hwd]; exact HB0.out.drew
  have HR1 : Hid (∃ z, w1.heap[w.heap.size]? = some (.cells z 100 (0, 0)) ∧ z.size = 4) := by rw [← hwd]; exact HR0.out
  have hs1 : w.heap.size + 1 ≤ w1.heap.size := by rw [← hwd]; exact hs0
  clear hwd r2 r3 r4 r5 r6 HB0 HR0 hs0
  obtain ⟨n0, n1, _⟩ := (HNY.out.ext HB1.out).facts
  obtain ⟨m0, m1, _⟩ := (HNX.out.ext HB1.out).facts
  simp only [aggE, colE] at n0 n1 m0 m1
  go_wp2_with fail
  refine wp_loop_rounds 2 ?_
  rw [rounds_succ]
  go_wp2_with fail
  rw [rounds_succ]
  go_wp2_with (refine wpList_mk (n := 2) rfl rfl Yaed.underlying94 info100 rfl rfl (by omega) (by omega) ?_)
  intro w2 cs hcs hcz hb2 hs2 _
  obtain ⟨VB, hVB⟩ : ∃ VB, w1.heap.size = VB := ⟨_, rfl⟩
  rw [hVB] at hcs ⊢
  have HB2 : Hid (Below w.heap.size w w2) := HB1.out.trans (hb2.mono (by omega))
  have HR2 : Hid (∃ z, w2.heap[w.heap.size]? = some (.cells z 100 (0, 0)) ∧ z.size = 4) := by obtain ⟨z, h1, h2⟩ := HR1.out; exact ⟨z, (hb2.block _ (by omega)).trans h1, h2⟩
  have HC2 : Hid (w2.there VB 0 8) := there_block hcs 0 8 (by first | omega | (simp at hcz; omega))
  have hVB1 : w.heap.size + 1 ≤ VB := by omega
  have hVB2 : VB < w2.heap.size := block_lt hcs
  clear hcs hcz hb2 hs2 hVB HB1 HR1 n0 n1 m0 m1
  obtain ⟨n0, n1, _⟩ := (HNY.out.ext HB2.out).facts
  obtain ⟨m0, m1, _⟩ := (HNX.out.ext HB2.out).facts
  simp only [aggE, colE] at n0 n1 m0 m1
  have c1 := (HGT.out.ext HB2.out).c1
  go_wp2_with fail
  refine wp_loop_rounds 3 ?_
  rw [rounds_succ]
  go_wp2_with fail
  refine (node_col (colE (cname c)) V0 V0 ((rs.getD k []).getD c V0) b o an acap x (by omega) _ cv x id c rb ro n rc hc (by omega) w2 (HNX.out.ext HB2.out) (fun w2 _ => arg_none _ x _ w2) (fun w2 _ => arg_none _ x _ w2) rfl (cname_rowid c (by omega))
      (fun w3 h3 => by
        obtain ⟨ok, ha⟩ := (HGT.out.ext HB2.out).cols
        exact colIndex_any (nsN n) (cname c) c (by rw [nsN_len]; exact hc) (by rw [nsN_len]; exact h4) (nsN_get hc) (fun j hj => by rw [nsN_get (by omega)]; exact cname_ne c j (by omega) hj) cv w3 ok (ha.ext h3)) (Nat.lt_of_lt_of_le hrb HB2.out.size) (range_ext (HCELLS.out c hc) HB2.out hrb)).mono ?_
  rintro e' w3 ⟨rfl, hb3⟩
  obtain ⟨u, hu⟩ : ∃ u, norm ((rs.getD k []).getD c V0) = u := ⟨_, rfl⟩
  rw [hu]
  clear hu
  have HB3 : Hid (Below w.heap.size w w3) := HB2.out.trans (hb3.mono (by omega))
  have HR3 : Hid (∃ z, w3.heap[w.heap.size]? = some (.cells z 100 (0, 0)) ∧ z.size = 4) := by obtain ⟨z, h1, h2⟩ := HR2.out; exact ⟨z, (hb3.block _ (by omega)).trans h1, h2⟩
  have HC3 : Hid (w3.there VB 0 8) := there_ext HC2.out hb3 (by omega)
  have hs3 : VB < w3.heap.size := Nat.lt_of_lt_of_le hVB2 hb3.size
  clear hb3 HB2 HR2 HC2 hVB2 n0 n1 m0 m1 c1
  unfold V.val
  go_wp2_with (refine wpList_putM (ty := 100) (b := VB) (o := 0) rfl rfl rfl rfl (fun j hj => HC3.out j (by simp at hj; omega)) size100 (by kernel_rfl) ?_; intro w4 k3 s3 r3 a3 t3; have HK4 : Hid (Keep (fun k => k ≠ VB) w3 w4) := k3; have HC4 : Hid (w4.there VB 0 8) := t3 _ _ HC3.out; have hs4 : VB < w4.heap.size := Nat.lt_of_lt_of_le hs3 k3.size; clear k3 s3 r3 a3 t3)
  have HB4 : Hid (Below w.heap.size w w4) := HB3.out.trans (HK4.out.below (fun k hk => by show k ≠ VB; omega))
  have HR4 : Hid (∃ z, w4.heap[w.heap.size]? = some (.cells z 100 (0, 0)) ∧ z.size = 4) := by obtain ⟨z, h1, h2⟩ := HR3.out; exact ⟨z, (HK4.out.block _ (by show w.heap.size ≠ VB; omega)).trans h1, h2⟩
  clear HB3 HR3 HC3 hs3 HK4
  obtain ⟨n0, n1, _⟩ := (HNY.out.ext HB4.out).facts
  simp only [aggE] at n0 n1
  rw [rounds_succ]
  go_wp2_with fail
  refine (aggregate_col ag n c hc h4 b o an acap x y hx hy han bt cv da do_ dc qa qo qc rs hrl g HG.out hgl _ okg w4 (HGT.out.ext HB4.out) (HNX.out.ext HB4.out) (HNY.out.ext HB4.out) (HGV.out.ext HB4.out)).mono ?_
  rintro e' w5 ⟨rfl, hb5⟩
  rw [HRES.out]
  have HB5 : Hid (Below w.heap.size w w5) := HB4.out.trans (hb5.mono (by omega))
  have HR5 : Hid (∃ z, w5.heap[w.heap.size]? = some (.cells z 100 (0, 0)) ∧ z.size = 4) := by obtain ⟨z, h1, h2⟩ := HR4.out; exact ⟨z, (hb5.block _ (by omega)).trans h1, h2⟩
  have HC5 : Hid (w5.there VB 0 8) := there_ext HC4.out hb5 (by omega)
  have hs5 : VB < w5.heap.size := Nat.lt_of_lt_of_le hs4 hb5.size
  clear hb5 HB4 HR4 HC4 hs4 n0 n1
  unfold V.val
  go_wp2_with (refine wpList_putM (ty := 100) (b := VB) (o := 4) rfl rfl rfl rfl (fun j hj => by have := HC5.out (4 + j) (by simp at hj; omega); rw [Nat.zero_add] at this; exact this) size100 (by kernel_rfl) ?_; intro w6 k3 s3 r3 a3 t3; have HK6 : Hid (Keep (fun k => k ≠ VB) w5 w6) := k3; have HRG6 : Hid (w6.rangeAt VB 4 res.list) := r3; clear k3 s3 r3 a3 t3)
  have HB6 : Hid (Below w.heap.size w w6) := HB5.out.trans (HK6.out.below (fun k hk => by show k ≠ VB; omega))
  have HR6 : Hid (∃ z, w6.heap[w.heap.size]? = some (.cells z 100 (0, 0)) ∧ z.size = 4) := by obtain ⟨z, h1, h2⟩ := HR5.out; exact ⟨z, (HK6.out.block _ (by show w.heap.size ≠ VB; omega)).trans h1, h2⟩
  obtain ⟨c0, c1, c2, c3⟩ := cells4 HRG6.out
  simp only [Nat.reduceAdd] at c0 c1 c2 c3
  clear HB5 HR5 HC5 hs5
  rw [rounds_succ]
  go_wp2_with (refine wpList_put (ty := 100) (g := w.heap.size) rfl rfl rfl rfl size100 (by kernel_rfl) HR6.out ?_; intro w7 h5 k5 s5; have HN7 : Hid (w7.heap[w.heap.size]? = some (.cells #[.int .u8 res.k, .int .i64 res.i, .float .f64 res.r, .string res.s] 100 (0, 0))) := h5; have HK7 : Hid (Keep (fun k => k ≠ w.heap.size) w6 w7) := k5; clear h5 k5 s5)
  refine bodyPost_ret (results_cell_row rfl _ _ _ _ _ _ _ rfl HN7.out Yaed.underlying100 rfl size100) rfl ⟨rfl, ?_⟩
  exact HB6.out.trans (HK7.out.below (fun k hk => by show k ≠ w.heap.size; omega))
end Go.Proofs.YgdaegDoor
