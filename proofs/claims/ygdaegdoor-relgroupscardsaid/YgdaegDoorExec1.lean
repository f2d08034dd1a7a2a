import Derived.Test.YgdaegDoorCreate
namespace Go.Proofs.YgdaegDoor
open Go.RowKit
set_option linter.unusedSimpArgs false
set_option linter.unusedVariables false

set_option maxRecDepth 20000 in
set_option maxHeartbeats 4000000 in
theorem exec_create {w : World} {ok : Nat → Prop} {ps bd : Nat} {s : St} {ns : List ByteArray} (h : SAt w ok ps s [] [] ns) (hf : Fine s [] ns) (hk : s.kind = 0) (hw : s.wher = -1) (hd : Dist ns) (h4 : ns.length ≤ 4) (hdb : DB0 w bd) :
    Calls Yaed.prog 207 #[.pointer (some ⟨bd, 0, none⟩), .pointer (some ⟨ps, 0, none⟩)] w fun r w' => ∃ bt tc cs, r = .returned (resV 0 0 nilS) ∧ DB1 w' bd bt tc ⟨tS, cs, nilSl, nilSl, nilSl⟩ ∧
      Arr w' (fun b => w.heap.size ≤ b ∧ b < bt) cs.v 3 (ns.map colL) ∧ w.heap.size ≤ bt ∧ Keep (fun k => k < w.heap.size ∧ k ≠ bd) w w' := by
  have H : Hid (SAt w ok ps s [] [] ns) := h
  have HF : Hid (Fine s [] ns) := hf
  have HDB : Hid (DB0 w bd) := hdb
  have HD : Hid (Dist ns) := hd
  have hps := h.at_.lt
  have hbd := hdb.lt
  have ht : s.table = tS := by rcases hf.table with h | h; exact h.2; rw [hk] at h; cases h.1
  have HWL : Hid (whL s = []) := by show whL s = []; simp [whL, hw]
  clear h hf hdb hd
  go_enter Yaed.func207, Yaed.ntmps207
  go_wp2_with fail
  generalize hw0 : World.alloc _ _ = w0
  have HB0 : Hid (Below w.heap.size w w0 ∧ ∃ z, w0.heap[w.heap.size]? = some (.cells z 76 (0, 0)) ∧ z.size = 3) := by rw [← hw0]; exact ⟨below_alloc _ _, _, heap_alloc_new _ _, rfl⟩
  have hs0 : w0.heap.size = w.heap.size + 1 := by rw [← hw0]; simp
  clear hw0
  refine (check_any (H.out.ext HB0.out.1) HF.out (by rw [HWL.out]; exact Arena.nil)).mono ?_
  rintro e w1 ⟨rfl, hb1⟩
  have HB1 : Hid (Below w0.heap.size w0 w1) := hb1
  have HBW : Hid (Below w.heap.size w w1) := HB0.out.1.trans (HB1.out.mono (by omega))
  have hs1 := hb1.size
  have f0 := (H.out.ext HBW.out).at_.facts.1
  rw [hk] at f0
  clear hb1
  go_wp2_with fail
  have H1 : Hid (SAt w1 ok ps s [] [] ns) := H.out.ext HBW.out
  refine (createTable_any s ps bd ns HD.out h4 w1 ok H1.out.at_ ht H1.out.cols (HDB.out.ext HBW.out)).mono ?_
  rintro e w2 ⟨bt, tc, cs, rfl, hdb2, harr2, hbt, hk2⟩
  have HDB2 : Hid _ := hdb2
  have HAR2 : Hid (Arr w2 (fun b => w1.heap.size ≤ b ∧ b < bt) cs.v 3 (ns.map colL)) := harr2
  have HK2 : Hid _ := hk2
  clear hdb2 harr2 hk2
  unfold resV
  go_wp2_with (refine wpList_put (ty := 76) rfl rfl rfl rfl size76 (by kernel_rfl) ?_ ?_)
  · obtain ⟨z, h1, h2⟩ := HB0.out.2
    refine ⟨z, ?_, h2⟩
    rw [HK2.out.block _ (by show w.heap.size < w1.heap.size ∧ w.heap.size ≠ bd; omega), HB1.out.block _ (by omega)]
    exact h1
  intro w3 h3 k3 s3
  go_wp2_with fail
  refine bodyPost_ret (results_cell_row rfl _ _ _ _ _ _ _ rfl h3 Yaed.underlying76 rfl size76) rfl ⟨bt, tc, cs, rfl, ?_, ?_, by omega, ?_⟩
  · refine ⟨(k3.block _ (by show bd ≠ w.heap.size; omega)).trans HDB2.out.db, ?_, HDB2.out.ne, HDB2.out.cap⟩
    obtain ⟨cur, h1, h2⟩ := HDB2.out.tb
    exact ⟨cur, (k3.block _ (by show bt ≠ w.heap.size; omega)).trans h1, h2⟩
  · exact (HAR2.out.keep k3 (fun b hb => by show b ≠ w.heap.size; omega)).mono (fun b hb => ⟨by omega, hb.2⟩)
  · have h1 : Keep (fun k => k < w.heap.size ∧ k ≠ bd) w w1 := Keep.of_below HBW.out (fun k hk => hk.1)
    exact h1.trans ((HK2.out.mono (fun k hk => ⟨by omega, hk.2⟩)).trans (k3.mono (fun k hk => by show k ≠ w.heap.size; omega)))

/-- One cell of the six is set. -/
theorem take6_set {cur : Array Value} {l l' : List Value} (h : cur.toList.take 6 = l) (k : Nat) (hk : k < 6) (v : Value) (hl : l.set k v = l') : (cur.setIfInBounds k v).toList.take 6 = l' := by
  rw [Array.toList_setIfInBounds, List.take_set, h, hl]
section
variable {P : Program} {w : World} {o : Oper} {a : Act} {Q : Exit → Act → World → Prop} {s x : Operand} {t : TypeId} {e : TypeId} {size bytes : Nat} {ta xa : Option Addr} {n c xc : Nat}
/-- append of nothing. -/
theorem wp_appN {K : Act → World → Prop} (ho : o.op = .call { callee := .builtin .append, args := #[s, x], argTypes := #[t, t] })
    (ht : P.underlying t = some (.slice e)) (hinfo : infoTest P e size bytes = true) (hs : a.eval s = .slice ta n c) (hx : a.eval x = .slice xa 0 xc) (hn : n ≤ c)
    (h : K (a.put o.dst (.slice ta n c)) w) : o.wp P a w K Q := by
  obtain ⟨ii, z, hi, hz, hsi, hbi, hzs⟩ := info_of hinfo
  have hr := run_append_nothing (P := P) w t t o.type e ii ht hi ta n c hn (.slice xa 0 xc) (by
    cases xa with
    | none => exact Src.ofNil w ht xc
    | some ad => exact Src.ofSlice w ht ad 0 xc [] (by simp) (fun j u h => by simp at h) (fun u h => by simp at h))
  unfold Oper.wp execOp
  simp only [ho, resolve, invoke, builtin, Sem.run_bind, Sem.run_pure, Result.andThen_ok, List.map_toArray, List.map_cons, List.map_nil, hs, hx, hr]
  exact h
end

set_option maxRecDepth 20000 in
set_option maxHeartbeats 4000000 in
theorem exec_dropT {w : World} {ok : Nat → Prop} {ps bd bt tc : Nat} {t : T} {s : St} (h : SAt w ok ps s [] [] []) (hf : Fine s [] []) (hk : s.kind = 2) (hw : s.wher = -1) (htn : t.name = tS) (hdb : DB1 w bd bt tc t) (hok : ps ≠ bd) :
    Calls Yaed.prog 207 #[.pointer (some ⟨bd, 0, none⟩), .pointer (some ⟨ps, 0, none⟩)] w fun r w' => r = .returned (resV 0 0 nilS) ∧ DB0 w' bd ∧ Keep (fun k => k < w.heap.size ∧ k ≠ bd) w w' := by
  have H : Hid (SAt w ok ps s [] [] []) := h
  have HF : Hid (Fine s [] []) := hf
  have HDB : Hid (DB1 w bd bt tc t) := hdb
  have hps := h.at_.lt
  have hbd := hdb.lt
  have htc := hdb.cap
  have ht : s.table = tS := by rcases hf.table with h | h; exact h.2; rw [hk] at h; cases h.1
  have HWL : Hid (whL s = []) := by show whL s = []; simp [whL, hw]
  clear h hf hdb
  go_enter Yaed.func207, Yaed.ntmps207
  go_wp2_with fail
  generalize hw0 : World.alloc _ _ = w0
  have HB0 : Hid (Below w.heap.size w w0 ∧ ∃ z, w0.heap[w.heap.size]? = some (.cells z 76 (0, 0)) ∧ z.size = 3) := by rw [← hw0]; exact ⟨below_alloc _ _, _, heap_alloc_new _ _, rfl⟩
  have hs0 : w0.heap.size = w.heap.size + 1 := by rw [← hw0]; simp
  clear hw0
  refine (check_any (H.out.ext HB0.out.1) HF.out (by rw [HWL.out]; exact Arena.nil)).mono ?_
  rintro e w1 ⟨rfl, hb1⟩
  have HB1 : Hid (Below w0.heap.size w0 w1) := hb1
  have HBW : Hid (Below w.heap.size w w1) := HB0.out.1.trans (HB1.out.mono (by omega))
  have hs1 := hb1.size
  have f0 := (H.out.ext HBW.out).at_.facts.1
  have f6 : w1.cell? ⟨ps, 6, none⟩ = some (.string s.table) := (H.out.ext HBW.out).at_.cell 6
  rw [hk] at f0
  rw [ht] at f6
  clear hb1
  go_wp2_with fail
  have HDB1 : Hid (DB1 w1 bd bt tc t) := HDB.out.ext HBW.out
  refine (table_t bd bt tc t htn w1 HDB1.out).mono ?_
  rintro e w2 ⟨rfl, rfl⟩
  obtain ⟨d0, d1, d2, d3⟩ := HDB1.out.dfacts
  clear d1 d2
  have htci : (1 : Int) ≤ tc := by omega
  have htci0 : (0 : Int) ≤ tc := by omega
  have hwz : IntKind.i64.wrap 1 = 1 := by decide
  go_wp2_with fail
  refine wp_region_can (l := [_, _, _, _, _, _, _, _, _, _, _, _, _, _, _, _]) [(true, 0), (true, 1), (true, 2), (true, 3), (true, 4), (true, 5), (true, 6), (true, 7), (true, 8), (true, 9), (true, 10), (true, 11), (true, 12), (true, 13), (true, 14), (false, 15)] (fun W => W.cell? ⟨bd, 0, none⟩ = some (.slice (some ⟨bt, 0, none⟩) 1 tc)) (by kernel_rfl) (by kernel_rfl) d0 ?_
  repeat ((first | refine wpCan_q (v := ?_) rfl rfl rfl ?_ ?_ | refine wpCan_qg (v := ?_) rfl rfl (by rfl) ?_ ?_); rotate_left; (focus (rintro W q1; go_simp; first | done | exact rfl)); simp only [Act.put, List.setIfInBounds_toArray, List.set_cons_zero, List.set_cons_succ])
  refine wpCan_e rfl rfl (fun K hK => ?_)
  refine wp_appN rfl Yaed.underlying114 info137 rfl rfl (by omega) ?_
  simp only [Act.put, List.setIfInBounds_toArray, List.set_cons_zero, List.set_cons_succ]
  refine hK _ _ ⟨d0, ?_⟩
  clear hK K
  refine wpCan_nil ?_
  generalize (if tc = 1 then some (⟨bt, 0, none⟩ : Addr) else some ⟨bt, 6, none⟩) = xa
  go_wp2_with (refine wpList_put (ty := 76) rfl rfl rfl rfl size76 (by kernel_rfl) ?_ ?_)
  · obtain ⟨z, h1, h2⟩ := HB0.out.2
    refine ⟨z, ?_, h2⟩
    refine (heap_set_ne (w := w2) (b := bd) (o := 0) (by omega) _).trans ?_
    exact (HB1.out.block _ (by omega)).trans h1
  intro w3 h3 k3 s3
  go_wp2_with fail
  refine bodyPost_ret (results_cell_row rfl _ _ _ _ _ _ _ rfl h3 Yaed.underlying76 rfl size76) rfl ⟨rfl, ?_, ?_⟩
  · refine ⟨_, (k3.block _ (by show bd ≠ w.heap.size; omega)).trans ((heap_set (w := w2.drew) HDB1.out.db _).trans rfl)⟩
  · have h1 : Keep (fun k => k < w.heap.size ∧ k ≠ bd) w w2 := Keep.of_below HBW.out (fun k hk => hk.1)
    exact (h1.drew.setCell (fun h => h.2 rfl) _).trans (k3.mono (fun k hk => by show k ≠ w.heap.size; omega))

set_option maxRecDepth 20000 in
set_option maxHeartbeats 4000000 in
theorem exec_dropI {w : World} {ok : Nat → Prop} {ps bd bt tc bi oi : Nat} {t : T} {s : St} (h : SAt w ok ps s [] [] []) (hf : Fine s [] []) (hk : s.kind = 3) (hw : s.wher = -1) (hdb : DB1 w bd bt tc t) (hi : t.idx.n = 1) (hia : t.idx.a = some ⟨bi, oi, none⟩) (hic : 1 ≤ t.idx.c)
    (hin : w.cell? ⟨bi, oi, none⟩ = some (.string iS)) (hbi : bi < w.heap.size) (hok : ps ≠ bd) :
    Calls Yaed.prog 207 #[.pointer (some ⟨bd, 0, none⟩), .pointer (some ⟨ps, 0, none⟩)] w fun r w' => r = .returned (resV 0 0 nilS) ∧ DB1 w' bd bt tc { t with idx := ⟨some ⟨bi, oi, none⟩, 0, 0⟩ } ∧ Keep (fun k => k < w.heap.size ∧ k ≠ bd ∧ k ≠ bt) w w' := by
  have H : Hid (SAt w ok ps s [] [] []) := h
  have HF : Hid (Fine s [] []) := hf
  have HDB : Hid (DB1 w bd bt tc t) := hdb
  have hps := h.at_.lt
  have hbd := hdb.lt
  have hbt := hdb.lt'
  have htc := hdb.cap
  have ht : s.index = iS := by rcases hf.index with h | h; exact h.2; rw [hk] at h; cases h.1
  have HWL : Hid (whL s = []) := by show whL s = []; simp [whL, hw]
  clear h hf hdb
  go_enter Yaed.func207, Yaed.ntmps207
  go_wp2_with fail
  generalize hw0 : World.alloc _ _ = w0
  have HB0 : Hid (Below w.heap.size w w0 ∧ ∃ z, w0.heap[w.heap.size]? = some (.cells z 76 (0, 0)) ∧ z.size = 3) := by rw [← hw0]; exact ⟨below_alloc _ _, _, heap_alloc_new _ _, rfl⟩
  have hs0 : w0.heap.size = w.heap.size + 1 := by rw [← hw0]; simp
  clear hw0
  refine (check_any (H.out.ext HB0.out.1) HF.out (by rw [HWL.out]; exact Arena.nil)).mono ?_
  rintro e w1 ⟨rfl, hb1⟩
  have HB1 : Hid (Below w0.heap.size w0 w1) := hb1
  have HBW : Hid (Below w.heap.size w w1) := HB0.out.1.trans (HB1.out.mono (by omega))
  have hs1 := hb1.size
  have f0 := (H.out.ext HBW.out).at_.facts.1
  have f7 : w1.cell? ⟨ps, 7, none⟩ = some (.string s.index) := (H.out.ext HBW.out).at_.cell 7
  rw [hk] at f0
  rw [ht] at f7
  clear hb1
  go_wp2_with fail
  have HDB1 : Hid (DB1 w1 bd bt tc t) := HDB.out.ext HBW.out
  refine (index_i bd bt tc t bi oi hi hia w1 HDB1.out (by rw [HBW.out.cell (p := ⟨bi, _, none⟩) hbi]; exact hin)).mono ?_
  rintro e w2 ⟨rfl, rfl⟩
  obtain ⟨d0, d1, d2, d3⟩ := HDB1.out.dfacts
  obtain ⟨t0, t1, t2, t3, t4, t5, tf⟩ := HDB1.out.tfacts
  have tf2 := tf 2
  rw [hi, hia] at t2
  clear d1 d2 tf t0 t1 t3 t4 t5
  generalize hcc : t.idx.c = ic at *
  have htci : (1 : Int) ≤ tc := by omega
  have hici : (1 : Int) ≤ ic := by omega
  have hici0 : (0 : Int) ≤ ic := by omega
  have hwz : IntKind.i64.wrap 1 = 1 := by decide
  go_wp2_with fail
  refine wp_region_can (l := [_, _, _, _, _, _, _, _, _, _, _, _, _, _]) [(true, 0), (true, 1), (true, 2), (true, 3), (true, 4), (true, 5), (true, 6), (true, 7), (true, 8), (true, 9), (true, 10), (true, 11), (true, 12), (false, 13)] (fun W => W.cell? ⟨bd, 0, none⟩ = some (.slice (some ⟨bt, 0, none⟩) 1 tc)) (by kernel_rfl) (by kernel_rfl) d0 ?_
  repeat ((first | refine wpCan_q (v := ?_) rfl rfl rfl ?_ ?_ | refine wpCan_qg (v := ?_) rfl rfl (by rfl) ?_ ?_); rotate_left; (focus (rintro W q1; go_simp; first | done | exact rfl)); simp only [Act.put, List.setIfInBounds_toArray, List.set_cons_zero, List.set_cons_succ])
  refine wpCan_e rfl rfl (fun K hK => ?_)
  refine wp_appN rfl Yaed.underlying135 info138 rfl rfl (by omega) ?_
  simp only [Act.put, List.setIfInBounds_toArray, List.set_cons_zero, List.set_cons_succ]
  refine hK _ _ ⟨d0, ?_⟩
  clear hK K
  refine wpCan_nil ?_
  generalize (if ic = 1 then some (⟨bi, oi, none⟩ : Addr) else some ⟨bi, oi + 4, none⟩) = xa
  go_wp2_with (refine wpList_put (ty := 76) rfl rfl rfl rfl size76 (by kernel_rfl) ?_ ?_)
  · obtain ⟨z, h1, h2⟩ := HB0.out.2
    refine ⟨z, ?_, h2⟩
    refine (heap_set_ne (w := w2) (b := bt) (o := 2) (by omega) _).trans ?_
    exact (HB1.out.block _ (by omega)).trans h1
  intro w3 h3 k3 s3
  go_wp2_with fail
  refine bodyPost_ret (results_cell_row rfl _ _ _ _ _ _ _ rfl h3 Yaed.underlying76 rfl size76) rfl ⟨rfl, ?_, ?_⟩
  · refine ⟨(k3.block _ (by show bd ≠ w.heap.size; omega)).trans ((heap_set_ne (w := w2.drew) HDB1.out.ne _).trans HDB1.out.db), ?_, HDB1.out.ne, HDB1.out.cap⟩
    obtain ⟨cur, h1, h2⟩ := HDB1.out.tb
    refine ⟨_, (k3.block _ (by show bt ≠ w.heap.size; omega)).trans (heap_set (w := w2.drew) h1 _), ?_⟩
    exact take6_set h2 2 (by omega) _ rfl
  · have h1 : Keep (fun k => k < w.heap.size ∧ k ≠ bd ∧ k ≠ bt) w w2 := Keep.of_below HBW.out (fun k hk => hk.1)
    exact (h1.drew.setCell (fun h => h.2.2 rfl) _).trans (k3.mono (fun k hk => by show k ≠ w.heap.size; omega))
end Go.Proofs.YgdaegDoor
