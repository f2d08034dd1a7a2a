import Derived.Test.YgdaegDoorGt
import Derived.Test.YgdaegDoorStep2
import Derived.Test.YgdaegDoorFin
import Derived.Test.YgdaegDoorCanst
namespace Go.Proofs.YgdaegDoor
open Go.RowKit
set_option linter.unusedSimpArgs false
set_option linter.unusedVariables false
def i64L (l : List Nat) : List (List Value) := l.map fun (n : Nat) => [Value.int .i64 (n : Int)]
/-- An aggregate's state over values. -/
def foldA (ag : Ag) (vs : List V) : V × Nat := vs.foldl (fun p v => ag.step p.1 p.2 v) (V0, 0)
def aggV (ag : Ag) (vs : List V) : V := ag.fin (foldA ag vs).1 (foldA ag vs).2
theorem step_le (ag : Ag) (a : V) (n : Nat) (v : V) : (ag.step a n v).2 ≤ n + 1 := by
  cases ag <;> simp only [Ag.step, stC, stS, stMin, stMax]
  · cases v.k == 0 <;> simp
  · cases numB v.k <;> simp; cases n == 0 <;> simp
  · cases numB v.k <;> simp; cases n == 0 <;> simp
  · cases v.k == 0 <;> simp; cases (n == 0 || decide (cmpV v a < 0)) <;> simp
  · cases v.k == 0 <;> simp; cases (n == 0 || decide (0 < cmpV v a)) <;> simp
theorem foldA_snoc (ag : Ag) (vs : List V) (v : V) : foldA ag (vs ++ [v]) = ag.step (foldA ag vs).1 (foldA ag vs).2 v := by simp [foldA]
theorem foldA_le (ag : Ag) (vs : List V) : (foldA ag vs).2 ≤ vs.length := by
  unfold foldA
  have : ∀ (vs : List V) (p : V × Nat), (vs.foldl (fun p v => ag.step p.1 p.2 v) p).2 ≤ p.2 + vs.length := by
    intro vs
    induction vs with
    | nil => intro p; simp
    | cons v vs ih =>
      intro p
      have h1 := ih (ag.step p.1 p.2 v)
      have h2 := step_le ag p.1 p.2 v
      simp only [List.foldl_cons, List.length_cons] at *
      omega
  simpa using this vs (V0, 0)
theorem i64_at {w : World} {ok : Nat → Prop} {gv : Value} {g : List Nat} (h : Arr w ok gv 1 (i64L g)) : ∃ a cap, gv = .slice a g.length cap ∧ ∀ j (hj : j < g.length), ∃ b o, a = some ⟨b, o, none⟩ ∧ ok b ∧ b < w.heap.size ∧ w.cell? ⟨b, o + j, none⟩ = some (.int .i64 (g[j] : Nat)) := by
  obtain ⟨a, cap, h1, _, h2⟩ := h
  have hl : (i64L g).length = g.length := by simp [i64L]
  rw [hl] at h1
  refine ⟨a, cap, h1, fun j hj => ?_⟩
  obtain ⟨b, o, h3, h4, h5, h6⟩ := h2 j (by omega)
  refine ⟨b, o, h3, h4, h5, ?_⟩
  have := h6 0 (by omega)
  simpa [i64L, List.getD_eq_getElem?_getD, hj] using this
set_option maxRecDepth 20000 in
set_option maxHeartbeats 4000000 in
/-- aggregate over a column. -/
theorem aggregate_col (ag : Ag) (n c : Nat) (hc : c < n) (h4 : n ≤ 4) (b o an acap x y : Nat) (hx : x < an) (hy : y < an) (han : an < 30000) (bt : Nat) (cv : Value) (da do_ dc qa qo qc : Nat) (rs : List (List V)) (hrl : rs.length ≤ 32) (g : List Nat) (hg : ∀ k ∈ g, k < rs.length) (hgl : g.length ≤ 32) (gv : Value) (okg : Nat → Prop) (w : World)
    (hGT : GT w bt cv da do_ dc qa qo qc n rs) (hNx : NodeAt w b (o + x * 12) (colE (cname c))) (hNy : NodeAt w b (o + y * 12) (aggE ag.name x)) (hgv : Arr w okg gv 1 (i64L g)) :
    Calls Yaed.prog 240 #[.slice (some ⟨b, o, none⟩) an acap, .int .i16 y, .pointer (some ⟨bt, 0, none⟩), gv] w fun r w' => r = .returned (aggV ag (g.map (cellV rs c))).val ∧ Below w.heap.size w w' := by
  obtain ⟨ga, gc, rfl, hgc⟩ := i64_at hgv
  obtain ⟨res, hres⟩ : ∃ res, aggV ag (g.map (cellV rs c)) = res := ⟨_, rfl⟩
  rw [hres]
  have HRES : Hid (aggV ag (g.map (cellV rs c)) = res) := hres
  have HGT : Hid (GT w bt cv da do_ dc qa qo qc n rs) := hGT
  have HNX : Hid (NodeAt w b (o + x * 12) (colE (cname c))) := hNx
  have HNY : Hid (NodeAt w b (o + y * 12) (aggE ag.name x)) := hNy
  have HGC : Hid (∀ j (hj : j < g.length), ∃ b o, ga = some ⟨b, o, none⟩ ∧ okg b ∧ b < w.heap.size ∧ w.cell? ⟨b, o + j, none⟩ = some (.int .i64 (g[j] : Nat))) := hgc
  have HG : Hid (∀ k ∈ g, k < rs.length) := hg
  obtain ⟨_, f1, _⟩ := hNy.facts
  simp only [aggE] at f1
  have hbl := hNy.1
  have hbne : ¬ b = w.heap.size := by omega
  have hx0 : ¬ (x : Int) < 0 := by omega
  have hyn : (y : Int) < an := by omega
  have hy0 : ¬ (y : Int) < 0 := by omega
  clear hres hGT hNx hNy hgc hgv hg
  rename_i hd1 hd2
  clear hd1 hd2
  go_enter Yaed.func240, Yaed.ntmps240
  go_upto_region 7 with fail
  generalize hw0 : World.alloc (World.alloc _ _) _ = w0
  have HB0 : Hid (Below w.heap.size w w0) := by rw [← hw0]; exact (below_alloc _ _).trans ((below_alloc _ _).mono (by simp))
  have HR0 : Hid (∃ z, w0.heap[w.heap.size]? = some (.cells z 100 (0, 0)) ∧ z.size = 4) := by rw [← hw0]; exact ⟨_, (heap_old (by simp)).trans (heap_new rfl), rfl⟩
  have HA0 : Hid (w0.heap[w.heap.size + 1]? = some (.cells #[.int .u8 0, .int .i64 0, .float .f64 0, .string ⟨#[]⟩] 100 (0, 0))) := by rw [← hw0]; exact heap_new (by simp)
  have hs0 : w.heap.size + 2 ≤ w0.heap.size := by rw [← hw0]; simp
  clear hw0 f1
  go_loopw [28, 11] (fun cj cn wr => ∃ j : Nat, j ≤ g.length ∧ cj = .int .i64 j ∧ ∃ (p : V) (pn : Nat), cn = .int .i64 pn ∧ Hid (foldA ag ((g.take j).map (cellV rs c)) = (p, pn)) ∧ Hid (Below w.heap.size w wr) ∧ w.heap.size + 2 ≤ wr.heap.size ∧ Hid (∃ z, wr.heap[w.heap.size]? = some (.cells z 100 (0, 0)) ∧ z.size = 4) ∧ Hid (wr.heap[w.heap.size + 1]? = some (.cells #[.int .u8 p.k, .int .i64 p.i, .float .f64 p.r, .string p.s] 100 (0, 0)))) (fun cj _ _ => g.length - (intOf cj).toNat)
  case atStart => exact ⟨0, Nat.zero_le _, rfl, V0, 0, rfl, rfl, HB0, hs0, HR0, HA0⟩
  case round =>
    clear HB0 HR0 HA0 hs0
    obtain ⟨j, hj, rfl, p, pn, rfl, HF, HB, hsr, HR, HA⟩ := hrel
    have hpn : pn ≤ j := by
      have h := foldA_le ag ((g.take j).map (cellV rs c))
      rw [HF.out, List.length_map, List.length_take] at h
      simp only at h
      omega
    by_cases hjn : j < g.length
    · obtain ⟨gb, go, rfl, _, hgb, hcell⟩ := HGC.out j hjn
      obtain ⟨k, hk⟩ : ∃ k, g[j] = k := ⟨_, rfl⟩
      have hkr : k < rs.length := HG.out k (by rw [← hk]; exact List.getElem_mem _)
      have HTK : Hid ((g.take (j + 1)).map (cellV rs c) = (g.take j).map (cellV rs c) ++ [cellV rs c k]) := by
        rw [← hk]
        exact (show (g.take (j + 1)).map (cellV rs c) = (g.take j).map (cellV rs c) ++ [cellV rs c g[j]] by rw [List.take_add_one, List.getElem?_eq_getElem hjn, List.map_append]; rfl)
      rw [hk] at hcell
      have hg1 : wr.cell? ⟨gb, go + j, none⟩ = some (.int .i64 k) := by rw [HB.out.cell (p := ⟨gb, _, none⟩) hgb]; exact hcell
      clear hk hcell
      have HGTr : Hid (GT wr bt cv da do_ dc qa qo qc n rs) := HGT.out.ext HB.out
      obtain ⟨rb, ro, rc, e5, hrb, hcells⟩ := HGTr.out.rows k hkr
      have e1 := HGTr.out.c1
      have e2 := HGTr.out.c3
      have e3 := HGTr.out.c4
      have e4 := HGTr.out.ids k hkr
      obtain ⟨v0, hv0⟩ : ∃ v0, (rs.getD k []).getD c V0 = v0 := ⟨_, rfl⟩
      have HCELL : Hid (wr.rangeAt rb (ro + c * 4) v0.list) := by rw [← hv0]; exact hcells c hc
      have HV0 : Hid (cellV rs c k = norm v0) := by rw [← hv0]; rfl
      clear hv0 hcells
      obtain ⟨id, hid⟩ : ∃ id : Int, ((k + 1 : Nat) : Int) = id := ⟨_, rfl⟩
      rw [hid] at e4
      clear hid
      have e6 := (HNY.out.ext HB.out).facts.2.1
      simp only [aggE] at e6
      have hkm : (k : Int) < rs.length := by omega
      have hk0 : ¬ (k : Int) < 0 := by omega
      have hjg : (j : Int) < g.length := by omega
      go_wp2_with fail
      refine wp_region_to (l := [_, _, _, _, _, _, _, _, _, _, _, _, _, _, _, _, _, _, _, _, _, _, _, _, _]) [(true, 0), (true, 1), (true, 2), (true, 3), (true, 4), (true, 5), (true, 6), (true, 7), (true, 8), (true, 9), (true, 10), (true, 11), (true, 12), (true, 13), (true, 14), (true, 15), (true, 16), (true, 17), (true, 18), (true, 19), (true, 20), (true, 21), (true, 22)] (fun W => W.cell? ⟨b, o + y * 12 + 1, none⟩ = some (.int .i16 x) ∧ W.cell? ⟨bt, 1, none⟩ = some cv ∧ W.cell? ⟨bt, 3, none⟩ = some (.slice (some ⟨da, do_, none⟩) rs.length dc) ∧ W.cell? ⟨bt, 4, none⟩ = some (.slice (some ⟨qa, qo, none⟩) rs.length qc) ∧ W.cell? ⟨da, do_ + k, none⟩ = some (.int .i64 id) ∧ W.cell? ⟨qa, qo + k, none⟩ = some (.slice (some ⟨rb, ro, none⟩) n rc)) #[true, true, true, true, true, true, true, true, true, true, true, true, true, true, true, true, true, true, true, true, true, true, true, false, false] (by kernel_rfl) (by kernel_rfl) ⟨e6, e1, e2, e3, e4, e5⟩ ?_
      repeat (first | ((first | refine wpCan_q (v := ?_) rfl rfl rfl ?_ ?_ | refine wpCan_qg (v := ?_) rfl rfl (by rfl) ?_ ?_); rotate_left; (focus (rintro W ⟨q1, q2, q3, q4, q5, q6⟩; go_simp; first | done | exact rfl)); simp only [Act.put, List.setIfInBounds_toArray, List.set_cons_zero, List.set_cons_succ]) | (refine wpCan_skip rfl rfl (by rfl) ?_; simp only [Act.put, List.setIfInBounds_toArray, List.set_cons_zero, List.set_cons_succ]))
      refine wpCan_nil ?_
      intro hS
      have HSD : Hid (∀ W, Below wr.heap.size wr W → W.cell? ⟨b, o + y * 12 + 1, none⟩ = some (.int .i16 x) ∧ W.cell? ⟨bt, 1, none⟩ = some cv ∧ W.cell? ⟨bt, 3, none⟩ = some (.slice (some ⟨da, do_, none⟩) rs.length dc) ∧ W.cell? ⟨bt, 4, none⟩ = some (.slice (some ⟨qa, qo, none⟩) rs.length qc) ∧ W.cell? ⟨da, do_ + k, none⟩ = some (.int .i64 id) ∧ W.cell? ⟨qa, qo + k, none⟩ = some (.slice (some ⟨rb, ro, none⟩) n rc)) := by
        intro W hW
        have h1 := HGTr.out.lt
        have h2 := HGTr.out.dalt
        have h3 := HGTr.out.qalt
        rw [hW.cell (p := ⟨b, _, none⟩) (by show b < _; omega), hW.cell (p := ⟨bt, 1, none⟩) h1, hW.cell (p := ⟨bt, 3, none⟩) h1, hW.cell (p := ⟨bt, 4, none⟩) h1, hW.cell (p := ⟨da, _, none⟩) h2, hW.cell (p := ⟨qa, _, none⟩) h3]
        exact ⟨e6, e1, e2, e3, e4, e5⟩
      clear e1 e2 e3 e4 e5 e6 hS hg1
      have HEV : Hid (∀ W, Below wr.heap.size wr W → Calls Yaed.prog 39 #[.slice (some ⟨b, o, none⟩) an acap, .int .i16 x, cv, .int .i64 id, .slice (some ⟨rb, ro, none⟩) n rc] W fun r w' => r = .returned (norm v0).val ∧ Below W.heap.size W w') := fun W hW =>
        eval_col n c hc h4 b o an acap x hx (by omega) cv v0 rb ro rc id W ((HNX.out.ext HB.out).ext hW) (HGTr.out.ext hW).cols (Nat.lt_of_lt_of_le hrb hW.size) (range_ext HCELL.out hW hrb)
      have HBd : Hid (Below wr.heap.size wr wr.drew) := (Below.refl _ _).drew
      obtain ⟨u, hu⟩ : ∃ u, norm v0 = u := ⟨_, rfl⟩
      rw [hu] at HEV HV0
      have HUK : Hid (u.k = 0 ∨ u.k = 1 ∨ u.k = 2 ∨ u.k = 3) := by rw [← hu]; exact norm_kind v0
      clear hu HCELL HGTr
      refine wpAnyH_two (i := 23) (j := 24) (by kernel_rfl) rfl (by rfl) rfl (by rfl) (fun K hK => ?_) (fun K hK => ?_)
      · go_simp
        refine (HEV.out _ HBd.out).mono ?_
        rintro e w1 ⟨rfl, hb1⟩
        have HB1 : Hid (Below wr.heap.size wr w1) := HBd.out.trans hb1
        clear hb1
        refine hK _ _ ⟨HSD.out _ HB1.out, ?_⟩
        clear hK K
        try simp only [Act.put, List.setIfInBounds_toArray, List.set_cons_zero, List.set_cons_succ]
        refine wpAnyH_of_can (by kernel_rfl) [(false, 24)] _ _ _ _ (by simp) (by kernel_rfl) (HSD.out _ HB1.out) ?_
        refine wpCan_e rfl rfl (fun K hK => ?_)
        go_simp
        have hs1 := HB1.out.size
        refine hK _ _ ⟨HSD.out _ (HB1.out.trans ((below_alloc w1 _).mono hs1)), ?_⟩
        clear hK K
        try simp only [Act.put, List.setIfInBounds_toArray, List.set_cons_zero, List.set_cons_succ]
        refine wpCan_nil ?_
        generalize hw2 : World.alloc _ _ = w2
        have HB2 : Hid (Below wr.heap.size wr w2) := by rw [← hw2]; exact HB1.out.trans ((below_alloc w1 _).mono hs1)
        obtain ⟨G, hG⟩ : ∃ G, w1.heap.size = G := ⟨_, rfl⟩
        rw [hG]
        have HZ2 : Hid (∃ z, w2.heap[G]? = some (.cells z 100 (0, 0)) ∧ z.size = 4) := by rw [← hw2, ← hG]; exact ⟨_, heap_new rfl, rfl⟩
        have hG1 : wr.heap.size ≤ G := by omega
        clear hw2 hG hs1 HB1
        unfold V.val
        go_upto_region 10 with (refine wpList_put (ty := 100) (g := G) rfl rfl rfl rfl size100 (by kernel_rfl) HZ2.out ?_; intro w3 h3 k3 s3; have HN3 : Hid (w3.heap[G]? = some (.cells #[.int .u8 u.k, .int .i64 u.i, .float .f64 u.r, .string u.s] 100 (0, 0))) := h3; have HK3 : Hid (Keep (fun k => k ≠ G) w2 w3) := k3; clear h3 k3 s3)
        have HB3 : Hid (Below wr.heap.size wr w3) := HB2.out.trans (HK3.out.below (fun k hk => by show k ≠ G; omega))
        have hs3 : wr.heap.size ≤ w3.heap.size := HB3.out.size
        have HA3 : Hid (w3.heap[w.heap.size + 1]? = some (.cells #[.int .u8 p.k, .int .i64 p.i, .float .f64 p.r, .string p.s] 100 (0, 0))) := (HB3.out.block _ (by omega)).trans HA.out
        have e10 : w3.cell? ⟨b, o + y * 12 + 10, none⟩ = some (.string ag.name) := ((HNY.out.ext HB.out).ext HB3.out).facts.2.2.2.2.2.2.2.2.2.2.1
        clear HB2 HK3 HZ2 HSD
        refine wp_region_canG (l := [_, _, _, _, _, _, _, _, _, _, _, _]) 11 [(true, 0), (true, 1), (true, 2), (true, 3), (true, 4), (true, 5), (true, 6), (false, 7), (true, 8), (true, 9), (true, 10), (false, 11)] (fun W => W.cell? ⟨b, o + y * 12 + 10, none⟩ = some (.string ag.name) ∧ W.heap[w.heap.size + 1]? = some (.cells #[.int .u8 p.k, .int .i64 p.i, .float .f64 p.r, .string p.s] 100 (0, 0)) ∧ W.heap[G]? = some (.cells #[.int .u8 u.k, .int .i64 u.i, .float .f64 u.r, .string u.s] 100 (0, 0))) (by kernel_rfl) (by kernel_rfl) ⟨e10, HA3.out, HN3.out⟩ ?_
        repeat (first | ((refine wpCanG_q (v := ?_) rfl rfl rfl ?_ ?_); rotate_left; (focus (intro W; go_simp; first | done | exact rfl)); simp only [Act.put, List.setIfInBounds_toArray, List.set_cons_zero, List.set_cons_succ]) | ((refine wpCanG_s (v := ?_) rfl rfl rfl (by kernel_rfl) ?_ ?_); rotate_left; (focus (rintro W ⟨q0, q1, q2⟩; have a0 := cell_of_row W _ 0 _ _ _ q1; have a1 := cell_of_row W _ 1 _ _ _ q1; have a2 := cell_of_row W _ 2 _ _ _ q1; have a3 := cell_of_row W _ 3 _ _ _ q1; have b0 := cell_of_row W _ 0 _ _ _ q2; have b1 := cell_of_row W _ 1 _ _ _ q2; have b2 := cell_of_row W _ 2 _ _ _ q2; have b3 := cell_of_row W _ 3 _ _ _ q2; simp only [List.getElem?_toArray, List.getElem?_cons_zero, List.getElem?_cons_succ] at a0 a1 a2 a3 b0 b1 b2 b3; clear q1 q2; go_simp; first | done | exact rfl)); simp only [Act.put, List.setIfInBounds_toArray, List.set_cons_zero, List.set_cons_succ]))
        refine wpCanG_e rfl rfl (fun K hK => ?_)
        go_simp
        refine (step_any ag p u HUK.out pn (by omega) _).mono ?_
        rintro e w4 ⟨rfl, hb4⟩
        have HB4 : Hid (Below w3.heap.size w3 w4) := below_of_drew hb4
        clear hb4
        obtain ⟨⟨p', pn'⟩, hp'⟩ : ∃ q, ag.step p pn u = q := ⟨_, rfl⟩
        rw [hp']
        have HF' : Hid (foldA ag ((g.take (j + 1)).map (cellV rs c)) = (p', pn')) := by rw [HTK.out, foldA_snoc, HF.out, HV0.out]; exact hp'
        clear hp'
        refine hK _ _ ⟨?_, ?_⟩
        · have hG3 := block_lt HN3.out
          have hA3 := block_lt HA3.out
          refine ⟨?_, (HB4.out.block _ hA3).trans HA3.out, (HB4.out.block _ hG3).trans HN3.out⟩
          rw [HB4.out.cell (p := ⟨b, _, none⟩) (by show b < w3.heap.size; omega)]; exact e10
        clear hK K e10
        unfold V.val
        try simp only [Act.put, List.setIfInBounds_toArray, List.set_cons_zero, List.set_cons_succ]
        repeat ((refine wpCanG_q (v := ?_) rfl rfl rfl ?_ ?_); rotate_left; (focus (intro W; go_simp; first | done | exact rfl)); simp only [Act.put, List.setIfInBounds_toArray, List.set_cons_zero, List.set_cons_succ])
        refine wpCanG_st rfl rfl (fun K hK => ?_)
        refine wp_put (ty := 100) (g := w.heap.size + 1) rfl rfl rfl size100 (by kernel_rfl) ⟨_, (HB4.out.block _ (block_lt HA3.out)).trans HA3.out, rfl⟩ ?_
        intro w5 h5 k5 s5
        refine hK _ _ ?_
        clear hK K
        have HA5 : Hid (w5.heap[w.heap.size + 1]? = some (.cells #[.int .u8 p'.k, .int .i64 p'.i, .float .f64 p'.r, .string p'.s] 100 (0, 0))) := h5
        have HK5 : Hid (Keep (fun k => k ≠ w.heap.size + 1) w4 w5) := k5
        clear h5 k5 s5
        refine wpCanG_nil ?_
        try simp only [Act.put, List.setIfInBounds_toArray, List.set_cons_zero, List.set_cons_succ]
        have hs4 := HB4.out.size
        have hs5 := HK5.out.size
        have HB5 : Hid (Below w.heap.size w w5) := HB.out.trans ((HB3.out.mono (by omega)).trans ((HB4.out.mono (by omega)).trans (HK5.out.below (fun k hk => by show k ≠ w.heap.size + 1; omega))))
        have HR5 : Hid (∃ z, w5.heap[w.heap.size]? = some (.cells z 100 (0, 0)) ∧ z.size = 4) := by
          obtain ⟨z, h1, h2⟩ := HR.out
          exact ⟨z, (HK5.out.block _ (by show w.heap.size ≠ w.heap.size + 1; omega)).trans ((HB4.out.block _ (by omega)).trans ((HB3.out.block _ (by omega)).trans h1)), h2⟩
        go_wp2_with fail
        go_roundw
        case rel => exact ⟨j + 1, by omega, by go_num, p', pn', rfl, HF', HB5, by omega, HR5, HA5⟩
        case measure => simp [intOf]; omega
      · go_simp
        refine hK _ _ ⟨HSD.out _ (HBd.out.trans (below_alloc wr.drew _)), ?_⟩
        clear hK K
        try simp only [Act.put, List.setIfInBounds_toArray, List.set_cons_zero, List.set_cons_succ]
        refine wpAnyH_of_can (by kernel_rfl) [(false, 23)] _ _ _ _ (by simp) (by kernel_rfl) (HSD.out _ (HBd.out.trans (below_alloc wr.drew _))) ?_
        refine wpCan_e rfl rfl (fun K hK => ?_)
        go_simp
        refine (HEV.out _ (HBd.out.trans (below_alloc wr.drew _))).mono ?_
        rintro e w2 ⟨rfl, hb2⟩
        have HB2 : Hid (Below wr.heap.size wr w2) := (HBd.out.trans (below_alloc wr.drew _)).trans (hb2.mono (by simp))
        obtain ⟨G, hG⟩ : ∃ G, wr.heap.size = G := ⟨_, rfl⟩
        have HZ2 : Hid (∃ z, w2.heap[G]? = some (.cells z 100 (0, 0)) ∧ z.size = 4) := by rw [← hG]; exact ⟨_, (hb2.block _ (by simp)).trans (heap_alloc_new wr.drew _), rfl⟩
        clear hb2
        refine hK _ _ ⟨HSD.out _ HB2.out, ?_⟩
        clear hK K
        try simp only [Act.put, List.setIfInBounds_toArray, List.set_cons_zero, List.set_cons_succ]
        refine wpCan_nil ?_
        have hG1 : wr.heap.size ≤ G := by omega
        try rw [hG]
        clear hG
        unfold V.val
        go_upto_region 10 with (refine wpList_put (ty := 100) (g := G) rfl rfl rfl rfl size100 (by kernel_rfl) HZ2.out ?_; intro w3 h3 k3 s3; have HN3 : Hid (w3.heap[G]? = some (.cells #[.int .u8 u.k, .int .i64 u.i, .float .f64 u.r, .string u.s] 100 (0, 0))) := h3; have HK3 : Hid (Keep (fun k => k ≠ G) w2 w3) := k3; clear h3 k3 s3)
        have HB3 : Hid (Below wr.heap.size wr w3) := HB2.out.trans (HK3.out.below (fun k hk => by show k ≠ G; omega))
        have hs3 : wr.heap.size ≤ w3.heap.size := HB3.out.size
        have HA3 : Hid (w3.heap[w.heap.size + 1]? = some (.cells #[.int .u8 p.k, .int .i64 p.i, .float .f64 p.r, .string p.s] 100 (0, 0))) := (HB3.out.block _ (by omega)).trans HA.out
        have e10 : w3.cell? ⟨b, o + y * 12 + 10, none⟩ = some (.string ag.name) := ((HNY.out.ext HB.out).ext HB3.out).facts.2.2.2.2.2.2.2.2.2.2.1
        clear HB2 HK3 HZ2 HSD
        refine wp_region_canG (l := [_, _, _, _, _, _, _, _, _, _, _, _]) 11 [(true, 0), (true, 1), (true, 2), (true, 3), (true, 4), (true, 5), (true, 6), (false, 7), (true, 8), (true, 9), (true, 10), (false, 11)] (fun W => W.cell? ⟨b, o + y * 12 + 10, none⟩ = some (.string ag.name) ∧ W.heap[w.heap.size + 1]? = some (.cells #[.int .u8 p.k, .int .i64 p.i, .float .f64 p.r, .string p.s] 100 (0, 0)) ∧ W.heap[G]? = some (.cells #[.int .u8 u.k, .int .i64 u.i, .float .f64 u.r, .string u.s] 100 (0, 0))) (by kernel_rfl) (by kernel_rfl) ⟨e10, HA3.out, HN3.out⟩ ?_
        repeat (first | ((refine wpCanG_q (v := ?_) rfl rfl rfl ?_ ?_); rotate_left; (focus (intro W; go_simp; first | done | exact rfl)); simp only [Act.put, List.setIfInBounds_toArray, List.set_cons_zero, List.set_cons_succ]) | ((refine wpCanG_s (v := ?_) rfl rfl rfl (by kernel_rfl) ?_ ?_); rotate_left; (focus (rintro W ⟨q0, q1, q2⟩; have a0 := cell_of_row W _ 0 _ _ _ q1; have a1 := cell_of_row W _ 1 _ _ _ q1; have a2 := cell_of_row W _ 2 _ _ _ q1; have a3 := cell_of_row W _ 3 _ _ _ q1; have b0 := cell_of_row W _ 0 _ _ _ q2; have b1 := cell_of_row W _ 1 _ _ _ q2; have b2 := cell_of_row W _ 2 _ _ _ q2; have b3 := cell_of_row W _ 3 _ _ _ q2; simp only [List.getElem?_toArray, List.getElem?_cons_zero, List.getElem?_cons_succ] at a0 a1 a2 a3 b0 b1 b2 b3; clear q1 q2; go_simp; first | done | exact rfl)); simp only [Act.put, List.setIfInBounds_toArray, List.set_cons_zero, List.set_cons_succ]))
        refine wpCanG_e rfl rfl (fun K hK => ?_)
        go_simp
        refine (step_any ag p u HUK.out pn (by omega) _).mono ?_
        rintro e w4 ⟨rfl, hb4⟩
        have HB4 : Hid (Below w3.heap.size w3 w4) := below_of_drew hb4
        clear hb4
        obtain ⟨⟨p', pn'⟩, hp'⟩ : ∃ q, ag.step p pn u = q := ⟨_, rfl⟩
        rw [hp']
        have HF' : Hid (foldA ag ((g.take (j + 1)).map (cellV rs c)) = (p', pn')) := by rw [HTK.out, foldA_snoc, HF.out, HV0.out]; exact hp'
        clear hp'
        refine hK _ _ ⟨?_, ?_⟩
        · have hG3 := block_lt HN3.out
          have hA3 := block_lt HA3.out
          refine ⟨?_, (HB4.out.block _ hA3).trans HA3.out, (HB4.out.block _ hG3).trans HN3.out⟩
          rw [HB4.out.cell (p := ⟨b, _, none⟩) (by show b < w3.heap.size; omega)]; exact e10
        clear hK K e10
        unfold V.val
        try simp only [Act.put, List.setIfInBounds_toArray, List.set_cons_zero, List.set_cons_succ]
        repeat ((refine wpCanG_q (v := ?_) rfl rfl rfl ?_ ?_); rotate_left; (focus (intro W; go_simp; first | done | exact rfl)); simp only [Act.put, List.setIfInBounds_toArray, List.set_cons_zero, List.set_cons_succ])
        refine wpCanG_st rfl rfl (fun K hK => ?_)
        refine wp_put (ty := 100) (g := w.heap.size + 1) rfl rfl rfl size100 (by kernel_rfl) ⟨_, (HB4.out.block _ (block_lt HA3.out)).trans HA3.out, rfl⟩ ?_
        intro w5 h5 k5 s5
        refine hK _ _ ?_
        clear hK K
        have HA5 : Hid (w5.heap[w.heap.size + 1]? = some (.cells #[.int .u8 p'.k, .int .i64 p'.i, .float .f64 p'.r, .string p'.s] 100 (0, 0))) := h5
        have HK5 : Hid (Keep (fun k => k ≠ w.heap.size + 1) w4 w5) := k5
        clear h5 k5 s5
        refine wpCanG_nil ?_
        try simp only [Act.put, List.setIfInBounds_toArray, List.set_cons_zero, List.set_cons_succ]
        have hs4 := HB4.out.size
        have hs5 := HK5.out.size
        have HB5 : Hid (Below w.heap.size w w5) := HB.out.trans ((HB3.out.mono (by omega)).trans ((HB4.out.mono (by omega)).trans (HK5.out.below (fun k hk => by show k ≠ w.heap.size + 1; omega))))
        have HR5 : Hid (∃ z, w5.heap[w.heap.size]? = some (.cells z 100 (0, 0)) ∧ z.size = 4) := by
          obtain ⟨z, h1, h2⟩ := HR.out
          exact ⟨z, (HK5.out.block _ (by show w.heap.size ≠ w.heap.size + 1; omega)).trans ((HB4.out.block _ (by omega)).trans ((HB3.out.block _ (by omega)).trans h1)), h2⟩
        go_wp2_with fail
        go_roundw
        case rel => exact ⟨j + 1, by omega, by go_num, p', pn', rfl, HF', HB5, by omega, HR5, HA5⟩
        case measure => simp [intOf]; omega
    · obtain rfl : j = g.length := by omega
      rw [List.take_length] at HF
      have hjg : ¬ (g.length : Int) < g.length := by omega
      have e10 : wr.cell? ⟨b, o + y * 12 + 10, none⟩ = some (.string ag.name) := (HNY.out.ext HB.out).facts.2.2.2.2.2.2.2.2.2.2.1
      go_wp2_with fail
      refine wp_region_can (l := [_, _, _, _, _, _]) [(true, 0), (true, 1), (true, 2), (true, 3), (true, 4), (true, 5)] (fun W => W.cell? ⟨b, o + y * 12 + 10, none⟩ = some (.string ag.name) ∧ W.heap[w.heap.size + 1]? = some (.cells #[.int .u8 p.k, .int .i64 p.i, .float .f64 p.r, .string p.s] 100 (0, 0))) (by kernel_rfl) (by kernel_rfl) ⟨e10, HA.out⟩ ?_
      repeat ((refine wpCan_q (v := ?_) rfl rfl rfl ?_ ?_); rotate_left; (focus (rintro W ⟨q0, q1⟩; have a0 := cell_of_row W _ 0 _ _ _ q1; have a1 := cell_of_row W _ 1 _ _ _ q1; have a2 := cell_of_row W _ 2 _ _ _ q1; have a3 := cell_of_row W _ 3 _ _ _ q1; simp only [List.getElem?_toArray, List.getElem?_cons_zero, List.getElem?_cons_succ] at a0 a1 a2 a3; clear q1; go_simp; first | done | exact rfl)); simp only [Act.put, List.setIfInBounds_toArray, List.set_cons_zero, List.set_cons_succ])
      refine wpCan_nil ?_
      generalize hwd : World.drew _ = wd
      have HBd : Hid (Below wr.heap.size wr wd) := by rw [← hwd]; exact (Below.refl _ _).drew
      have hsd := HBd.out.size
      clear hwd e10
      go_wp2_with fail
      refine (final_any ag p pn (by omega) _).mono ?_
      rintro e w1 ⟨rfl, hb1⟩
      have HB1 : Hid (Below wr.heap.size wr w1) := HBd.out.trans (hb1.mono hsd)
      clear hb1
      obtain ⟨u, hu⟩ : ∃ u, ag.fin p pn = u := ⟨_, rfl⟩
      rw [hu]
      have HU : Hid (res = u) := by rw [← HRES.out, ← hu, aggV, HF.out]; rfl
      clear hu
      unfold V.val
      go_wp2_with (refine wpList_put (ty := 100) (g := w.heap.size) rfl rfl rfl rfl size100 (by kernel_rfl) (by obtain ⟨z, h1, h2⟩ := HR.out; exact ⟨z, (HB1.out.block _ (by omega)).trans h1, h2⟩) ?_; intro wz hz kz sz; have HNZ : Hid (wz.heap[w.heap.size]? = some (.cells #[.int .u8 u.k, .int .i64 u.i, .float .f64 u.r, .string u.s] 100 (0, 0))) := hz; have HKZ : Hid (Keep (fun k => k ≠ w.heap.size) w1 wz) := kz; clear hz kz sz)
      refine bodyPost_ret (results_cell_row rfl _ _ _ _ _ _ _ rfl HNZ.out Yaed.underlying100 rfl size100) rfl ⟨by rw [HU.out]; rfl, ?_⟩
      exact HB.out.trans ((HB1.out.mono (by omega)).trans (HKZ.out.below (fun k hk => by show k ≠ w.heap.size; omega)))
set_option maxRecDepth 20000 in
set_option maxHeartbeats 2000000 in
/-- count of all rows. -/
theorem aggregate_all (nm : ByteArray) (b o an acap y : Nat) (hy : y < an) (han : an < 30000) (bt : Nat) (gl : Nat) (ga : Option Addr) (gc : Nat) (w : World) (hNy : NodeAt w b (o + y * 12) (aggE nm (-1))) :
    Calls Yaed.prog 240 #[.slice (some ⟨b, o, none⟩) an acap, .int .i16 y, .pointer (some ⟨bt, 0, none⟩), .slice ga gl gc] w fun r w' => r = .returned (intV gl).val ∧ Below w.heap.size w w' := by
  obtain ⟨_, f1, _⟩ := hNy.facts
  simp only [aggE] at f1
  have hbl := hNy.1
  have hbne : ¬ b = w.heap.size := by omega
  have hyn : (y : Int) < an := by omega
  have hy0 : ¬ (y : Int) < 0 := by omega
  clear hNy
  go_enter Yaed.func240, Yaed.ntmps240
  go_wp2_with fail
  generalize hw0 : World.alloc _ _ = w0
  have HB0 : Hid (Below w.heap.size w w0) := by rw [← hw0]; exact (below_alloc _ _)
  have HR0 : Hid (∃ z, w0.heap[w.heap.size]? = some (.cells z 100 (0, 0)) ∧ z.size = 4) := by rw [← hw0]; exact ⟨_, heap_new rfl, rfl⟩
  have hs0 : w.heap.size + 1 ≤ w0.heap.size := by rw [← hw0]; simp
  clear hw0 f1
  refine (intV_any _ _).mono ?_
  rintro e w1 ⟨rfl, hb1⟩
  have HB1 : Hid (Below w0.heap.size w0 w1) := hb1
  clear hb1
  unfold V.val intV
  go_wp2_with (refine wpList_put (ty := 100) (g := w.heap.size) rfl rfl rfl rfl size100 (by kernel_rfl) (by obtain ⟨z, h1, h2⟩ := HR0.out; exact ⟨z, (HB1.out.block _ (by omega)).trans h1, h2⟩) ?_; intro wz hz kz sz; have HNZ : Hid (wz.heap[w.heap.size]? = some (.cells #[.int .u8 1, .int .i64 gl, .float .f64 0, .string ⟨#[]⟩] 100 (0, 0))) := hz; have HKZ : Hid (Keep (fun k => k ≠ w.heap.size) w1 wz) := kz; clear hz kz sz)
  refine bodyPost_ret (results_cell_row rfl _ _ _ _ _ _ _ rfl HNZ.out Yaed.underlying100 rfl size100) rfl ⟨rfl, ?_⟩
  exact HB0.out.trans ((HB1.out.mono (by omega)).trans (HKZ.out.below (fun k hk => by show k ≠ w.heap.size; omega)))
end Go.Proofs.YgdaegDoor
