import Derived.Test.YgdaegDoorExec1
namespace Go.Proofs.YgdaegDoor
open Go.RowKit
set_option linter.unusedSimpArgs false
set_option linter.unusedVariables false

theorem size138 : (Yaed.prog.info? 138).map (·.size) = some 4 := by kernel_rfl
def ixL (n c : ByteArray) : List Value := [.string n, .string c, .bool false, .string eS]

set_option maxHeartbeats 2000000 in
theorem unique_plain (cv rv : Value) (g o cap : Nat) (n c : ByteArray) (w : World) (h0 : w.cell? ⟨g, o, none⟩ = some (.string n)) (h1 : w.cell? ⟨g, o + 1, none⟩ = some (.string c)) (h2 : w.cell? ⟨g, o + 2, none⟩ = some (.bool false)) (h3 : w.cell? ⟨g, o + 3, none⟩ = some (.string eS)) :
    Calls Yaed.prog 221 #[cv, rv, .slice (some ⟨g, o, none⟩) 1 cap] w fun r w' => r = .returned (.bool true) ∧ Below w.heap.size w w' := by
  go_enter Yaed.func221, Yaed.ntmps221
  go_wp2_with fail
  refine wp_loop_rounds 2 ?_
  rw [rounds_succ]
  go_wp2_with fail
  rw [rounds_succ]
  go_wp2_with fail
  go_ret
  exact ⟨rfl, by go_grown⟩
set_option maxHeartbeats 2000000 in
theorem unique_none (cv rv : Value) (a : Option Addr) (cap : Nat) (w : World) :
    Calls Yaed.prog 221 #[cv, rv, .slice a 0 cap] w fun r w' => r = .returned (.bool true) ∧ Below w.heap.size w w' := by
  go_enter Yaed.func221, Yaed.ntmps221
  go_wp2_with fail
  refine wp_loop_rounds 1 ?_
  rw [rounds_succ]
  go_wp2_with fail
  go_ret
  exact ⟨rfl, by go_grown⟩

set_option maxRecDepth 20000 in
set_option maxHeartbeats 4000000 in
theorem createIndex_any (s : St) (ps bd bt tc : Nat) (t : T) (c : ByteArray) (cns : List ByteArray) (hc0 : cns.getD 0 eS = c) (hcn : 0 < cns.length) (hcn4 : cns.length ≤ 4) (w : World) (ok okc : Nat → Prop) (hst : StAt w ps s) (hnm : s.table = tS) (hix : s.index = iS) (hc : Arr w ok s.cols 3 ([c].map colL))
    (hdb : DB1 w bd bt tc t) (htn : t.name = tS) (htc : Arr w okc t.cols.v 3 (cns.map colL)) (hin : t.idx.n = 0) (hic : t.idx.c = 0) :
    Calls Yaed.prog 210 #[.pointer (some ⟨bd, 0, none⟩), .pointer (some ⟨ps, 0, none⟩)] w fun r w' => ∃ g gc, r = .returned (resV 0 0 nilS) ∧ DB1 w' bd bt tc { t with idx := ⟨some ⟨g, 0, none⟩, 1, gc⟩ } ∧
      Arr w' (fun b => w.heap.size ≤ b) (.slice (some ⟨g, 0, none⟩) 1 gc) 4 [ixL iS c] ∧ 1 ≤ gc ∧ w.heap.size ≤ g ∧ g < w'.heap.size ∧ Keep (fun k => k < w.heap.size ∧ k ≠ bd ∧ k ≠ bt) w w' := by
  have HST : Hid (StAt w ps s) := hst
  have HDB : Hid (DB1 w bd bt tc t) := hdb
  have HTC : Hid (Arr w okc t.cols.v 3 (cns.map colL)) := htc
  obtain ⟨ca, cc, hcv, hcc⟩ := hc.shape
  rw [hcv] at hc
  have HC : Hid (Arr w ok (.slice ca [c].length cc) 3 ([c].map colL)) := by exact (show Arr w ok (.slice ca [c].length cc) 3 ([c].map colL) by simpa using hc)
  obtain ⟨b, o, rfl, _, hb, g0, g1, g2⟩ := colAt HC.out 0 (by simp)
  simp only [Nat.zero_mul, Nat.add_zero, List.getElem_cons_zero] at g0 g1 g2
  have f6 : w.cell? ⟨ps, 6, none⟩ = some (.string s.table) := hst.cell 6
  have hps := hst.lt
  have hbd := hdb.lt
  have hbt := hdb.lt'
  have htc1 := hdb.cap
  have hcv' : s.cols = .slice (some ⟨b, o, none⟩) 1 cc := by simpa using hcv
  have HF : Hid (s.table = tS ∧ s.index = iS ∧ s.cols = .slice (some ⟨b, o, none⟩) 1 cc) := ⟨hnm, hix, hcv'⟩
  rw [hnm] at f6
  have hps' : ¬ ps = w.heap.size := by omega
  clear hst hdb htc hc hcv hcv' hnm hix
  go_enter Yaed.func210, Yaed.ntmps210
  go_wp2_with fail
  generalize hw0 : World.alloc _ _ = w0
  have HB0 : Hid (Below w.heap.size w w0 ∧ ∃ z, w0.heap[w.heap.size]? = some (.cells z 76 (0, 0)) ∧ z.size = 3) := by rw [← hw0]; exact ⟨below_alloc _ _, _, heap_alloc_new _ _, rfl⟩
  have hs0 : w0.heap.size = w.heap.size + 1 := by rw [← hw0]; simp
  clear hw0
  have HD0 : Hid (DB1 w0 bd bt tc t) := HDB.out.ext HB0.out.1
  refine (table_t bd bt tc t htn _ HD0.out).mono ?_
  rintro e w1 ⟨rfl, rfl⟩
  have f7 : w1.cell? ⟨ps, 7, none⟩ = some (.string iS) := by rw [← HF.out.2.1]; exact (HST.out.ext HB0.out.1).cell 7
  go_wp2_with fail
  refine (nameUsed_i bd bt tc t htn hin _ HD0.out).mono ?_
  rintro e w2 ⟨rfl, rfl⟩
  have f8 : w2.cell? ⟨ps, 8, none⟩ = some (.slice (some ⟨b, o, none⟩) 1 cc) := by rw [← HF.out.2.2]; exact (HST.out.ext HB0.out.1).cell 8
  go_wp2_with fail
  refine wp_region_can (l := [_, _, _, _, _, _, _, _, _, _, _, _, _, _, _, _, _, _, _, _, _, _]) [(true, 0), (true, 1), (true, 2), (true, 3), (true, 4), (true, 5), (true, 6), (true, 7), (true, 8), (true, 9), (true, 10), (true, 11), (true, 12), (true, 13), (true, 14), (true, 15), (true, 16), (true, 17), (true, 18), (true, 19), (true, 20), (true, 21)] (fun W => W.cell? ⟨ps, 8, none⟩ = some (.slice (some ⟨b, o, none⟩) 1 cc)) (by kernel_rfl) (by kernel_rfl) f8 ?_
  repeat (first | ((first | refine wpCan_q (v := ?_) rfl rfl rfl ?_ ?_ | refine wpCan_qg (v := ?_) rfl rfl (by rfl) ?_ ?_); rotate_left; (focus (rintro W q1; go_simp; first | done | exact rfl)); simp only [Act.put, List.setIfInBounds_toArray, List.set_cons_zero, List.set_cons_succ]) | (refine wpCan_skip rfl rfl (by rfl) ?_; simp only [Act.put, List.setIfInBounds_toArray, List.set_cons_zero, List.set_cons_succ]))
  refine wpCan_nil ?_
  generalize hw3 : World.drew _ = w3
  have HB3 : Hid (Below w2.heap.size w2 w3) := by rw [← hw3]; exact (Below.refl _ _).drew
  have hs3 : w3.heap.size = w2.heap.size := by rw [← hw3]; rfl
  replace f8 : w3.cell? ⟨ps, 8, none⟩ = some (.slice (some ⟨b, o, none⟩) 1 cc) := by rw [← hw3]; exact f8
  clear hw3 f7
  have HBW3 : Hid (Below w.heap.size w w3) := HB0.out.1.trans (HB3.out.mono (by omega))
  rw [← HBW3.out.cell (p := ⟨b, _, none⟩) hb] at g0 g1 g2
  go_wp2_with fail
  refine wp_loop_rounds 2 ?_
  rw [rounds_succ]
  obtain ⟨d0, d1, d2, d3⟩ := (HDB.out.ext HBW3.out).dfacts
  obtain ⟨t0, t1, t2, t3, t4, t5, tf⟩ := (HDB.out.ext HBW3.out).tfacts
  have hbd3 : bd < w3.heap.size := by omega
  have hbt3 : bt < w3.heap.size := by omega
  clear d1 d2 d3 t0 t2 t3 t4 t5 tf
  go_wp2_with fail
  generalize hw4 : World.alloc _ _ = w4
  have HB4 : Hid (Below w3.heap.size w3 w4) := by rw [← hw4]; exact below_alloc _ _
  have hs4 : w4.heap.size = w3.heap.size + 1 := by rw [← hw4]; simp
  have hs34 : w3.heap.size = w.heap.size + 1 := by omega
  have n0 : w4.cell? ⟨w.heap.size + 1, 0, none⟩ = some (.string c) := by rw [← hw4, ← hs34]; simp [go_sem]
  clear hw4
  replace d0 : w4.cell? ⟨bd, 0, none⟩ = some (.slice (some ⟨bt, 0, none⟩) 1 tc) := by rw [HB4.out.cell (p := ⟨bd, _, none⟩) hbd3]; exact d0
  replace t1 : w4.cell? ⟨bt, 1, none⟩ = some (.slice t.cols.a t.cols.n t.cols.c) := by rw [HB4.out.cell (p := ⟨bt, _, none⟩) hbt3]; exact t1
  refine wp_region_can (l := [_, _, _, _, _, _, _, _, _, _]) [(true, 0), (true, 1), (true, 2), (true, 3), (true, 4), (true, 5), (true, 6), (true, 7), (true, 8), (true, 9)] (fun W => W.cell? ⟨bd, 0, none⟩ = some (.slice (some ⟨bt, 0, none⟩) 1 tc) ∧ W.cell? ⟨bt, 1, none⟩ = some (.slice t.cols.a t.cols.n t.cols.c) ∧ W.cell? ⟨w.heap.size + 1, 0, none⟩ = some (.string c)) (by kernel_rfl) (by kernel_rfl) ⟨d0, t1, n0⟩ ?_
  repeat (first | ((first | refine wpCan_q (v := ?_) rfl rfl rfl ?_ ?_ | refine wpCan_qg (v := ?_) rfl rfl (by rfl) ?_ ?_); rotate_left; (focus (rintro W ⟨q1, q2, q3⟩; go_simp; first | done | exact rfl)); simp only [Act.put, List.setIfInBounds_toArray, List.set_cons_zero, List.set_cons_succ]) | (refine wpCan_skip rfl rfl (by rfl) ?_; simp only [Act.put, List.setIfInBounds_toArray, List.set_cons_zero, List.set_cons_succ]))
  refine wpCan_nil ?_
  generalize hw5 : World.drew _ = w5
  have HB5 : Hid (Below w.heap.size w w5) := by rw [← hw5]; exact (HBW3.out.trans (HB4.out.mono (by omega))).drew
  have hs5 : w5.heap.size = w.heap.size + 2 := by rw [← hw5]; show w4.heap.size = _; omega
  have HR5 : Hid (∃ z, w5.heap[w.heap.size]? = some (.cells z 76 (0, 0)) ∧ z.size = 3) := by
    obtain ⟨z, h1, h2⟩ := HB0.out.2
    exact ⟨z, by rw [← hw5]; show w4.heap[w.heap.size]? = _; rw [HB4.out.block _ (by omega), HB3.out.block _ (by omega)]; exact h1, h2⟩
  clear hw5 HB4 HB3 HBW3 d0 t1 n0
  go_wp2_with fail
  refine (colIndex_any cns c 0 hcn hcn4 hc0 (fun j hj => absurd hj (Nat.not_lt_zero _)) _ w5 okc (HTC.out.ext HB5.out)).mono ?_
  rintro e w6 ⟨rfl, hb6⟩
  have HB6 : Hid (Below w.heap.size w w6) := HB5.out.trans (hb6.mono HB5.out.size)
  have HR6 : Hid (∃ z, w6.heap[w.heap.size]? = some (.cells z 76 (0, 0)) ∧ z.size = 3) := by
    obtain ⟨z, h1, h2⟩ := HR5.out
    exact ⟨z, (hb6.block _ (by omega)).trans h1, h2⟩
  have hs6 : w.heap.size + 2 ≤ w6.heap.size := by have := hb6.size; omega
  clear hb6 HR5 HB5 g0 g1 g2
  go_wp2_with fail
  rw [rounds_succ]
  go_wp2_with fail
  refine (indexCount_one bd bt tc t 0 hin (by omega) w6 (HDB.out.ext HB6.out)).mono ?_
  rintro e w7 ⟨rfl, hb7⟩
  have HB7 : Hid (Below w.heap.size w w7) := HB6.out.trans (hb7.mono HB6.out.size)
  have HR7 : Hid (∃ z, w7.heap[w.heap.size]? = some (.cells z 76 (0, 0)) ∧ z.size = 3) := by
    obtain ⟨z, h1, h2⟩ := HR6.out
    exact ⟨z, (hb7.block _ (by omega)).trans h1, h2⟩
  have hs7 : w.heap.size + 2 ≤ w7.heap.size := by have := hb7.size; omega
  clear hb7 HR6 HB6
  have HST7 : Hid (StAt w7 ps s) := HST.out.ext HB7.out
  have e1 : w7.cell? ⟨ps, 1, none⟩ = some (.bool false) := HST7.out.cell 1
  have e7 : w7.cell? ⟨ps, 7, none⟩ = some (.string iS) := by rw [← HF.out.2.1]; exact HST7.out.cell 7
  have e8 : w7.cell? ⟨ps, 8, none⟩ = some (.slice (some ⟨b, o, none⟩) 1 cc) := by rw [← HF.out.2.2]; exact HST7.out.cell 8
  have g0 : w7.cell? ⟨b, o, none⟩ = some (.string c) := by
    obtain ⟨b', o', he, _, _, h, _⟩ := colAt (HC.out.ext HB7.out) 0 (by simp)
    obtain ⟨rfl, rfl⟩ : b = b' ∧ o = o' := by simpa using he
    simpa using h
  go_wp2_with fail
  refine wp_region_can (l := [_, _, _, _, _, _, _, _, _, _, _, _, _, _, _, _, _]) [(true, 0), (true, 1), (true, 2), (true, 3), (true, 4), (true, 5), (true, 6), (true, 7), (true, 8), (true, 9), (true, 10), (true, 11), (true, 12), (true, 13), (true, 14), (true, 15), (false, 16)] (fun W => W.cell? ⟨ps, 1, none⟩ = some (.bool false) ∧ W.cell? ⟨ps, 7, none⟩ = some (.string iS) ∧ W.cell? ⟨ps, 8, none⟩ = some (.slice (some ⟨b, o, none⟩) 1 cc) ∧ W.cell? ⟨b, o, none⟩ = some (.string c)) (by kernel_rfl) (by kernel_rfl) ⟨e1, e7, e8, g0⟩ ?_
  repeat (first | ((first | refine wpCan_q (v := ?_) rfl rfl rfl ?_ ?_ | refine wpCan_qg (v := ?_) rfl rfl (by rfl) ?_ ?_); rotate_left; (focus (rintro W ⟨q1, q2, q3, q4⟩; go_simp; first | done | exact rfl)); simp only [Act.put, List.setIfInBounds_toArray, List.set_cons_zero, List.set_cons_succ]) | (refine wpCan_skip rfl rfl (by rfl) ?_; simp only [Act.put, List.setIfInBounds_toArray, List.set_cons_zero, List.set_cons_succ]))
  refine wpCan_e rfl rfl (fun K hK => ?_)
  go_simp
  generalize hw8 : World.drew _ = w8
  have hgen : w8.heap[w7.heap.size]? = some (.cells #[.string ⟨#[]⟩, .string ⟨#[]⟩, .bool false, .string ⟨#[]⟩] 138 (0, 0)) ∧ Below w7.heap.size w7 w8 ∧ w8.heap.size = w7.heap.size + 1 := by
    rw [← hw8]
    exact ⟨heap_alloc_new w7 _, (below_alloc w7 _).drew, by simp⟩
  have HN8 : Hid _ := hgen.1
  have HB8 : Hid (Below w7.heap.size w7 w8) := hgen.2.1
  have hs8 : w7.heap.size + 1 ≤ w8.heap.size := Nat.le_of_eq hgen.2.2.symm
  clear hw8 hgen
  have hps7 : ps < w7.heap.size := by omega
  have hb7 : b < w7.heap.size := by omega
  refine hK _ _ ⟨⟨?_, ?_, ?_, ?_⟩, ?_⟩
  · rw [HB8.out.cell (p := ⟨ps, _, none⟩) hps7]; exact e1
  · rw [HB8.out.cell (p := ⟨ps, _, none⟩) hps7]; exact e7
  · rw [HB8.out.cell (p := ⟨ps, _, none⟩) hps7]; exact e8
  · rw [HB8.out.cell (p := ⟨b, _, none⟩) hb7]; exact g0
  clear hK K
  refine wpCan_nil ?_
  go_wp2_with (refine wpList_put (ty := 138) rfl rfl rfl rfl size138 (by kernel_rfl) ⟨_, HN8.out, rfl⟩ ?_; intro w9 h9 k9 s9; have s9' : w8.heap.size ≤ w9.heap.size := Nat.le_of_eq s9.symm; clear s9; have HN9 : Hid _ := h9; have HK9 : Hid _ := k9; have e89 : w9.cell? ⟨ps, 8, none⟩ = some (.slice (some ⟨b, o, none⟩) 1 cc) := (by rw [World.cell?_of_block (k9.block ps (by show ps ≠ w7.heap.size; omega)), HB8.out.cell (p := ⟨ps, _, none⟩) hps7]; exact e8); clear h9 k9 e1 e7 e8 g0)
  have HB9 : Hid (Below w7.heap.size w7 w9) := HB8.out.trans (HK9.out.below (fun k hk => by show k ≠ w7.heap.size; omega))
  have hs9 : w7.heap.size + 1 ≤ w9.heap.size := by omega
  have HBW9 : Hid (Below w.heap.size w w9) := HB7.out.trans (HB9.out.mono (by omega))
  have HD9 : Hid (DB1 w9 bd bt tc t) := HDB.out.ext HBW9.out
  obtain ⟨d0, d1, d2, d3⟩ := HD9.out.dfacts
  obtain ⟨t0, t1, t2, t3, t4, t5, tf⟩ := HD9.out.tfacts
  clear d1 d2 d3 t0 t3 t5 tf e89
  refine wp_region_can (l := [_, _, _, _, _, _, _, _, _, _, _, _, _, _, _, _, _, _, _, _]) [(true, 0), (true, 1), (true, 2), (true, 3), (true, 4), (true, 5), (true, 6), (true, 7), (true, 8), (true, 9), (true, 10), (true, 11), (true, 12), (true, 13), (true, 14), (true, 15), (true, 16), (false, 17), (false, 18), (true, 19)] (fun W => W.cell? ⟨bd, 0, none⟩ = some (.slice (some ⟨bt, 0, none⟩) 1 tc) ∧ W.cell? ⟨bt, 1, none⟩ = some (.slice t.cols.a t.cols.n t.cols.c) ∧ W.cell? ⟨bt, 4, none⟩ = some (.slice t.rows.a t.rows.n t.rows.c) ∧ W.heap[w7.heap.size]? = some (.cells #[.string iS, .string c, .bool false, .string eS] 138 (0, 0))) (by kernel_rfl) (by kernel_rfl) ⟨d0, t1, t4, HN9.out⟩ ?_
  repeat (first | ((first | refine wpCan_q (v := ?_) rfl rfl rfl ?_ ?_ | refine wpCan_qg (v := ?_) rfl rfl (by rfl) ?_ ?_); rotate_left; (focus (rintro W ⟨q1, q2, q3, qn⟩; have hr := fun j => cell_of_row W _ j _ _ _ qn; clear qn; go_simp; first | done | exact rfl)); simp only [Act.put, List.setIfInBounds_toArray, List.set_cons_zero, List.set_cons_succ]) | (refine wpCan_skip rfl rfl (by rfl) ?_; simp only [Act.put, List.setIfInBounds_toArray, List.set_cons_zero, List.set_cons_succ]))
  refine wpCan_e rfl rfl (fun K hK => ?_)
  go_simp
  generalize hw10 : World.drew _ = w10
  have hgen : w10.heap[w9.heap.size]? = some (.cells #[.string iS, .string c, .bool false, .string eS] 138 (0, 0)) ∧ Below w9.heap.size w9 w10 ∧ w10.heap.size = w9.heap.size + 1 := by
    rw [← hw10]
    exact ⟨heap_alloc_new w9 _, (below_alloc w9 _).drew, by simp⟩
  have HN10 : Hid _ := hgen.1
  have HB10 : Hid (Below w9.heap.size w9 w10) := hgen.2.1
  have hs10 : w9.heap.size + 1 ≤ w10.heap.size := Nat.le_of_eq hgen.2.2.symm
  clear hw10 hgen
  have hbd9 : bd < w9.heap.size := by omega
  have hbt9 : bt < w9.heap.size := by omega
  refine hK _ _ ⟨⟨?_, ?_, ?_, ?_⟩, ?_⟩
  · rw [HB10.out.cell (p := ⟨bd, _, none⟩) hbd9]; exact d0
  · rw [HB10.out.cell (p := ⟨bt, _, none⟩) hbt9]; exact t1
  · rw [HB10.out.cell (p := ⟨bt, _, none⟩) hbt9]; exact t4
  · rw [HB10.out.block _ (by omega)]; exact HN9.out
  clear hK K
  refine wpCan_e rfl rfl (fun K hK => ?_)
  go_simp
  refine (unique_plain _ _ w9.heap.size 0 1 iS c w10 (cell_of_row w10 _ 0 _ _ _ HN10.out) (cell_of_row w10 _ 1 _ _ _ HN10.out) (cell_of_row w10 _ 2 _ _ _ HN10.out) (cell_of_row w10 _ 3 _ _ _ HN10.out)).mono ?_
  rintro e w11 ⟨rfl, hb11⟩
  have HB11 : Hid (Below w9.heap.size w9 w11) := HB10.out.trans (hb11.mono (by omega))
  clear hb11 HB10 HN10
  refine hK _ _ ⟨⟨?_, ?_, ?_, ?_⟩, ?_⟩
  · rw [HB11.out.cell (p := ⟨bd, _, none⟩) hbd9]; exact d0
  · rw [HB11.out.cell (p := ⟨bt, _, none⟩) hbt9]; exact t1
  · rw [HB11.out.cell (p := ⟨bt, _, none⟩) hbt9]; exact t4
  · rw [HB11.out.block _ (by omega)]; exact HN9.out
  clear hK K
  repeat (first | ((first | refine wpCan_q (v := ?_) rfl rfl rfl ?_ ?_ | refine wpCan_qg (v := ?_) rfl rfl (by rfl) ?_ ?_); rotate_left; (focus (rintro W ⟨q1, q2, q3, qn⟩; have hr := fun j => cell_of_row W _ j _ _ _ qn; clear qn; go_simp; first | done | exact rfl)); simp only [Act.put, List.setIfInBounds_toArray, List.set_cons_zero, List.set_cons_succ]) | (refine wpCan_skip rfl rfl (by rfl) ?_; simp only [Act.put, List.setIfInBounds_toArray, List.set_cons_zero, List.set_cons_succ]))
  refine wpCan_nil ?_
  have HD11 : Hid (DB1 w11 bd bt tc t) := HD9.out.ext HB11.out
  have HN11 : Hid (w11.heap[w7.heap.size]? = some (.cells #[.string iS, .string c, .bool false, .string eS] 138 (0, 0))) := by
    show w11.heap[w7.heap.size]? = _
    rw [HB11.out.block _ (by omega)]; exact HN9.out
  clear d0 t1 t2 t4
  obtain ⟨d0, d1, d2, d3⟩ := HD11.out.dfacts
  obtain ⟨t0, t1, t2, t3, t4, t5, tf⟩ := HD11.out.tfacts
  have tf2 := tf 2
  rw [hin, hic] at t2
  clear d1 d2 d3 t0 t1 t3 t4 t5 tf
  have hs11 := HB11.out.size
  go_wp2_with fail
  refine wp_region_can (l := [_, _, _, _, _, _, _, _, _, _, _, _, _, _, _, _]) [(true, 0), (true, 1), (true, 2), (true, 3), (true, 4), (true, 5), (true, 6), (true, 7), (true, 8), (true, 9), (true, 10), (true, 11), (true, 12), (true, 13), (false, 14), (false, 15)] (fun W => W.cell? ⟨bd, 0, none⟩ = some (.slice (some ⟨bt, 0, none⟩) 1 tc) ∧ W.cell? ⟨bt, 2, none⟩ = some (.slice t.idx.a 0 0) ∧ W.heap[w7.heap.size]? = some (.cells #[.string iS, .string c, .bool false, .string eS] 138 (0, 0))) (by kernel_rfl) (by kernel_rfl) ⟨d0, t2, HN11.out⟩ ?_
  repeat (first | ((first | refine wpCan_q (v := ?_) rfl rfl rfl ?_ ?_ | refine wpCan_qg (v := ?_) rfl rfl (by rfl) ?_ ?_); rotate_left; (focus (rintro W ⟨q1, q2, qn⟩; have hr := fun j => cell_of_row W _ j _ _ _ qn; clear qn; go_simp; first | done | exact rfl)); simp only [Act.put, List.setIfInBounds_toArray, List.set_cons_zero, List.set_cons_succ]) | (refine wpCan_skip rfl rfl (by rfl) ?_; simp only [Act.put, List.setIfInBounds_toArray, List.set_cons_zero, List.set_cons_succ]))
  refine wpCan_e rfl rfl (fun K hK => ?_)
  go_simp
  generalize hw12 : World.drew _ = w12
  have hgen : w12.heap[w11.heap.size]? = some (.cells #[.string iS, .string c, .bool false, .string eS] 138 (0, 0)) ∧ Below w11.heap.size w11 w12 ∧ w12.heap.size = w11.heap.size + 1 := by
    rw [← hw12]
    exact ⟨heap_alloc_new w11 _, (below_alloc w11 _).drew, by simp⟩
  have HN12 : Hid _ := hgen.1
  have HB12 : Hid (Below w11.heap.size w11 w12) := hgen.2.1
  have hs12 : w11.heap.size + 1 ≤ w12.heap.size := Nat.le_of_eq hgen.2.2.symm
  clear hw12 hgen
  have hbd11 : bd < w11.heap.size := by omega
  have hbt11 : bt < w11.heap.size := by omega
  refine hK _ _ ⟨⟨?_, ?_, ?_⟩, ?_⟩
  · rw [HB12.out.cell (p := ⟨bd, _, none⟩) hbd11]; exact d0
  · rw [HB12.out.cell (p := ⟨bt, _, none⟩) hbt11]; exact t2
  · rw [HB12.out.block _ (by omega)]; exact HN11.out
  clear hK K
  refine wpCan_e rfl rfl (fun K hK => ?_)
  refine wp_app0 (ta := t.idx.a) rfl Yaed.underlying135 info138 rfl rfl HN12.out rfl ?_ (by omega) ?_
  · intro u hu; simp at hu; rcases hu with rfl | rfl | rfl | rfl <;> rfl
  intro gc w13 hown13 hb13 hs13e
  have hs13 : w12.heap.size + 1 ≤ w13.heap.size := Nat.le_of_eq hs13e.symm
  clear hs13e
  have HO13 : Hid (w13.ownsRow w12.heap.size 138 4 (.slice (some ⟨w12.heap.size, 0, none⟩) 1 gc) 1 (ixL iS c)) := hown13
  have HB13 : Hid (Below w11.heap.size w11 w13) := HB12.out.trans (hb13.mono (by omega))
  clear hown13 hb13 HN12 HB12
  refine hK _ _ ⟨⟨?_, ?_, ?_⟩, ?_⟩
  · rw [HB13.out.cell (p := ⟨bd, _, none⟩) hbd11]; exact d0
  · rw [HB13.out.cell (p := ⟨bt, _, none⟩) hbt11]; exact t2
  · rw [HB13.out.block _ (by omega)]; exact HN11.out
  clear hK K
  refine wpCan_nil ?_
  simp only [Act.put, List.setIfInBounds_toArray, List.set_cons_zero, List.set_cons_succ]
  replace t2 : w13.cell? ⟨bt, 2, none⟩ = some (.slice t.idx.a 0 0) := by rw [HB13.out.cell (p := ⟨bt, _, none⟩) hbt11]; exact t2
  replace tf2 : w13.frozen? ⟨bt, 2, none⟩ = false := by rw [HB13.out.frozen (p := ⟨bt, _, none⟩) hbt11]; exact tf2
  clear d0
  have HB913 : Hid (Below w9.heap.size w9 w13) := HB11.out.trans (HB13.out.mono HB11.out.size)
  go_wp2_with (refine wpList_put (ty := 76) rfl rfl rfl rfl size76 (by kernel_rfl) ?_ ?_)
  · obtain ⟨z, h1, h2⟩ := HR7.out
    refine ⟨z, ?_, h2⟩
    refine (heap_set_ne (w := w13) (b := bt) (o := 2) (by omega) _).trans ?_
    rw [HB913.out.block _ (by omega), HB9.out.block _ (by omega)]
    exact h1
  intro w14 h14 k14 s14
  go_wp2_with fail
  have HD13 : Hid (DB1 w13 bd bt tc t) := HD11.out.ext HB13.out
  refine bodyPost_ret (results_cell_row rfl _ _ _ _ _ _ _ rfl h14 Yaed.underlying76 rfl size76) rfl ⟨w12.heap.size, gc, rfl, ?_, ?_, ?_, by omega, ?_, ?_⟩
  · refine ⟨(k14.block _ (by show bd ≠ w.heap.size; omega)).trans ((heap_set_ne (w := w13) HD13.out.ne _).trans HD13.out.db), ?_, HD13.out.ne, HD13.out.cap⟩
    obtain ⟨cur, h1, h2⟩ := HD13.out.tb
    refine ⟨_, (k14.block _ (by show bt ≠ w.heap.size; omega)).trans (heap_set (w := w13) h1 _), ?_⟩
    exact take6_set h2 2 (by omega) _ rfl
  · have h1 : Arr w13 (fun b => w12.heap.size ≤ b) (.slice (some ⟨w12.heap.size, 0, none⟩) 1 gc) 4 [ixL iS c] := by
      refine (Arr.of_owns (rows := [ixL iS c]) (by simpa using HO13.out) (by intro r hr; simp at hr; subst hr; rfl)).mono (own_ge HO13.out)
    refine (h1.keep (X := fun b => w12.heap.size ≤ b) ?_ (fun b hb => hb)).mono (fun b hb => by show w.heap.size ≤ b; omega)
    exact ⟨k14.os, k14.tape, k14.output, by simpa using k14.size, fun k hk => by rw [k14.block k (by show k ≠ w.heap.size; omega)]; exact heap_set_ne (w := w13) (by omega) _⟩
  · have := HO13.out.2
    rcases this with h | ⟨g, cap, cur, he, _, _, hc, _⟩
    · cases h.1
    · obtain ⟨_, rfl⟩ : _ ∧ gc = cap := by simpa using he
      exact hc
  · have := k14.size
    simp at this
    omega
  · have h1 : Keep (fun k => k < w.heap.size ∧ k ≠ bd ∧ k ≠ bt) w w13 := Keep.of_below (HBW9.out.trans (HB913.out.mono HBW9.out.size)) (fun k hk => hk.1)
    exact (h1.setCell (fun h => h.2.2 rfl) _).trans (k14.mono (fun k hk => by show k ≠ w.heap.size; omega))

set_option maxRecDepth 20000 in
set_option maxHeartbeats 4000000 in
theorem exec_index {w : World} {ok okc : Nat → Prop} {ps bd bt tc : Nat} {t : T} {s : St} {c : ByteArray} {cns : List ByteArray} (h : SAt w ok ps s [] [] [c]) (hf : Fine s [] [c]) (hk : s.kind = 1) (hw : s.wher = -1) (hc0 : cns.getD 0 eS = c) (hcn : 0 < cns.length) (hcn4 : cns.length ≤ 4)
    (hdb : DB1 w bd bt tc t) (htn : t.name = tS) (htc : Arr w okc t.cols.v 3 (cns.map colL)) (hin : t.idx.n = 0) (hic : t.idx.c = 0) :
    Calls Yaed.prog 207 #[.pointer (some ⟨bd, 0, none⟩), .pointer (some ⟨ps, 0, none⟩)] w fun r w' => ∃ g gc, r = .returned (resV 0 0 nilS) ∧ DB1 w' bd bt tc { t with idx := ⟨some ⟨g, 0, none⟩, 1, gc⟩ } ∧
      Arr w' (fun b => w.heap.size ≤ b) (.slice (some ⟨g, 0, none⟩) 1 gc) 4 [ixL iS c] ∧ 1 ≤ gc ∧ w.heap.size ≤ g ∧ g < w'.heap.size ∧ Keep (fun k => k < w.heap.size ∧ k ≠ bd ∧ k ≠ bt) w w' := by
  have H : Hid (SAt w ok ps s [] [] [c]) := h
  have HF : Hid (Fine s [] [c]) := hf
  have HDB : Hid (DB1 w bd bt tc t) := hdb
  have HTC : Hid (Arr w okc t.cols.v 3 (cns.map colL)) := htc
  have hps := h.at_.lt
  have hbd := hdb.lt
  have hbt := hdb.lt'
  have ht : s.table = tS := by rcases hf.table with h | h; exact h.2; rw [hk] at h; cases h.1
  have hi : s.index = iS := by rcases hf.index with h | h; exact h.2; rw [hk] at h; cases h.1
  have HWL : Hid (whL s = []) := by show whL s = []; simp [whL, hw]
  clear h hf hdb htc
  go_enter Yaed.func207, Yaed.ntmps207
  go_wp2_with fail
  generalize hw0 : World.alloc _ _ = w0
  have HB0 : Hid (Below w.heap.size w w0 ∧ ∃ z, w0.heap[w.heap.size]? = some (.cells z 76 (0, 0)) ∧ z.size = 3) := by rw [← hw0]; exact ⟨below_alloc _ _, _, heap_alloc_new _ _, rfl⟩
  have hs0 : w.heap.size + 1 ≤ w0.heap.size := by rw [← hw0]; simp
  clear hw0
  refine (check_any (H.out.ext HB0.out.1) HF.out (by rw [HWL.out]; exact Arena.nil)).mono ?_
  rintro e w1 ⟨rfl, hb1⟩
  have HB1 : Hid (Below w0.heap.size w0 w1) := hb1
  have HBW : Hid (Below w.heap.size w w1) := HB0.out.1.trans (HB1.out.mono (by omega))
  have hs1 := hb1.size
  have f0 := (H.out.ext HBW.out).at_.facts.1
  rw [hk] at f0
  clear hb1
  go_wp2_with fail
  have H1 : Hid (SAt w1 ok ps s [] [] [c]) := H.out.ext HBW.out
  refine (createIndex_any s ps bd bt tc t c cns hc0 hcn hcn4 w1 ok okc H1.out.at_ ht hi H1.out.cols (HDB.out.ext HBW.out) htn (HTC.out.ext HBW.out) hin hic).mono ?_
  rintro e w2 ⟨g, gc, rfl, hdb2, harr2, hgc, hg1, hg2, hk2⟩
  have HDB2 : Hid (DB1 w2 bd bt tc { t with idx := ⟨some ⟨g, 0, none⟩, 1, gc⟩ }) := hdb2
  have HAR2 : Hid (Arr w2 (fun b => w1.heap.size ≤ b) (.slice (some ⟨g, 0, none⟩) 1 gc) 4 [ixL iS c]) := harr2
  have HK2 : Hid _ := hk2
  clear hdb2 harr2 hk2
  unfold resV
  go_wp2_with (refine wpList_put (ty := 76) rfl rfl rfl rfl size76 (by kernel_rfl) ?_ ?_)
  · obtain ⟨z, h1, h2⟩ := HB0.out.2
    refine ⟨z, ?_, h2⟩
    rw [HK2.out.block _ (by show w.heap.size < w1.heap.size ∧ w.heap.size ≠ bd ∧ w.heap.size ≠ bt; omega), HB1.out.block _ (by omega)]
    exact h1
  intro w3 h3 k3 s3
  go_wp2_with fail
  refine bodyPost_ret (results_cell_row rfl _ _ _ _ _ _ _ rfl h3 Yaed.underlying76 rfl size76) rfl ⟨g, gc, rfl, ?_, ?_, hgc, by omega, by omega, ?_⟩
  · refine ⟨(k3.block _ (by show bd ≠ w.heap.size; omega)).trans HDB2.out.db, ?_, HDB2.out.ne, HDB2.out.cap⟩
    obtain ⟨cur, h1, h2⟩ := HDB2.out.tb
    exact ⟨cur, (k3.block _ (by show bt ≠ w.heap.size; omega)).trans h1, h2⟩
  · exact (HAR2.out.keep k3 (fun b hb => by show b ≠ w.heap.size; omega)).mono (fun b hb => by show w.heap.size ≤ b; omega)
  · have h1 : Keep (fun k => k < w.heap.size ∧ k ≠ bd ∧ k ≠ bt) w w1 := Keep.of_below HBW.out (fun k hk => hk.1)
    exact h1.trans ((HK2.out.mono (fun k hk => ⟨by omega, hk.2⟩)).trans (k3.mono (fun k hk => by show k ≠ w.heap.size; omega)))
end Go.Proofs.YgdaegDoor
