import Derived.Test.YgdaegDoorGroups
import Derived.Test.YgdaegDoorSo
import Derived.Test.YgdaegDoorFinish
import Derived.Test.YgdaegDoorOrd
import Derived.Test.YgdaegDoorNormRow
namespace Go.Proofs.YgdaegDoor
open Go.RowKit
set_option linter.unusedSimpArgs false
set_option linter.unusedVariables false
/-- Rows of a Result: n rows of N values. -/
def Res (B : Nat) (ov : Value) (n N : Nat) (Rw : Nat → Nat → V) (w : World) : Prop :=
  ∃ xs, w.ownsRow B 94 1 ov n xs ∧ ∀ i, i < n → ∃ g, xs.getD i undef = .slice (some ⟨g, 0, none⟩) N N ∧ B ≤ g ∧ g < w.heap.size ∧ ∀ t, t < N → w.rangeAt g (t * 4) (Rw i t).list
theorem Res.keep {B n N : Nat} {ov : Value} {Rw : Nat → Nat → V} {w w' : World} {X : Nat → Prop} (h : Res B ov n N Rw w) (hk : Keep X w w') (hX : ∀ k, B ≤ k → k < w.heap.size → X k) : Res B ov n N Rw w' := by
  obtain ⟨xs, h1, h2⟩ := h
  refine ⟨xs, ownsRow_blk h1 (fun g hg => hk.block g (hX g (h1.lt g hg).1 (h1.lt g hg).2)), fun i hi => ?_⟩
  obtain ⟨g, a1, a2, a3, a4⟩ := h2 i hi
  exact ⟨g, a1, a2, Nat.lt_of_lt_of_le a3 hk.size, fun t ht => range_keep (a4 t ht) hk (hX g a2 a3)⟩
theorem Res.ext {B n N : Nat} {ov : Value} {Rw : Nat → Nat → V} {w w' : World} (h : Res B ov n N Rw w) (hb : Below w.heap.size w w') : Res B ov n N Rw w' :=
  h.keep (X := fun k => k < w.heap.size) (Keep.of_below hb (fun _ h => h)) (fun _ _ h => h)
theorem Res.lower {B B' n N : Nat} {ov : Value} {Rw : Nat → Nat → V} {w : World} (h : Res B ov n N Rw w) (hB : B' ≤ B) : Res B' ov n N Rw w := by
  obtain ⟨xs, h1, h2⟩ := h
  refine ⟨xs, ⟨h1.1, ?_⟩, fun i hi => ?_⟩
  · rcases h1.2 with a | ⟨g, cap, cur, a1, a2, a3⟩
    · exact .inl a
    · exact .inr ⟨g, cap, cur, a1, Nat.le_trans hB a2, a3⟩
  · obtain ⟨g, a1, a2, a3⟩ := h2 i hi
    exact ⟨g, a1, Nat.le_trans hB a2, a3⟩
theorem Res.shape {B n N : Nat} {ov : Value} {Rw : Nat → Nat → V} {w : World} (h : Res B ov n N Rw w) : ∃ a c, ov = .slice a n c := by
  obtain ⟨xs, h1, _⟩ := h
  exact own_shape h1
/-- A slice of one value is built. -/
theorem wp_bs1 {o : Oper} {a : Act} {w : World} {K : Act → World → Prop} {Q : Exit → Act → World → Prop} {x : Operand} (u : V)
    (ho : o.op = .buildSlice 94 1 #[(0, x)]) (hx : a.eval x = .agg #[.int .u8 u.k, .int .i64 u.i, .float .f64 u.r, .string u.s])
    (h : K (a.put o.dst (.slice (some ⟨w.heap.size, 0, none⟩) 1 1)) (w.alloc (Obj.cells #[.int .u8 u.k, .int .i64 u.i, .float .f64 u.r, .string u.s] 100))) : o.wp Yaed.prog a w K Q := by
  obtain ⟨op, dst, c3, c4, c5⟩ := o
  simp only at ho h
  subst ho
  unfold Oper.wp
  generalize a.eval = ev at hx ⊢
  go_simp
  exact h
theorem call235 : ∀ args w, (callFunc 235 args).run Yaed.prog w = .ok (.enter 235 args) w := by intro args w; go_simp
set_option maxRecDepth 20000 in
set_option maxHeartbeats 8000000 in
/-- selGroups of a SELECT with GROUP BY one column, items, and nothing else. -/
theorem selGroups_any (n c : Nat) (hc : c < n) (h4 : n ≤ 4) (b o an acap x : Nat) (hx : x < an) (hx3 : x < 30000) (ps ga go gc bd bt : Nat) (cv : Value) (da do_ dc qa qo qc : Nat) (rs : List (List V)) (hrl : rs.length ≤ 32) (s : St) (w : World)
    (hst : StAt w ps s) (hstar : s.star = false) (hS : SG w ps b o an acap ga go gc x) (hGT : GT w bt cv da do_ dc qa qo qc n rs) (hN : NodeAt w b (o + x * 12) (colE (cname c))) (kf : Nat → V) (hkf : ∀ k, kf k = cellV rs c k) (cp : Nat → Nat → Int) (hcp : ∀ i j, cp i j = cmpV (kf i) (kf j))
    (its : List Nat) (hit0 : 0 < its.length) (hit1 : its.length ≤ 100) (ib io ic : Nat) (hib : ib < w.heap.size) (hits : s.items = .slice (some ⟨ib, io, none⟩) its.length ic) (hicell : ∀ t (ht : t < its.length), w.cell? ⟨ib, io + t, none⟩ = some (.int .i16 (its[t] : Nat)))
    (F : Nat → List Nat → V) (hev : ∀ t (ht : t < its.length) (W : World) (p : Gr) (gv : Value) (okg : Nat → Prop), Below w.heap.size w W → GOk rs.length p → Arr W okg gv 1 (i64L p.2) → Calls Yaed.prog 235 #[.slice (some ⟨b, o, none⟩) an acap, .int .i16 (its[t] : Nat), .pointer (some ⟨bt, 0, none⟩), gv] W fun r w' => r = .returned (F t p.2).val ∧ Below W.heap.size W w') :
    Calls Yaed.prog 227 #[.pointer (some ⟨bd, 0, none⟩), .pointer (some ⟨ps, 0, none⟩), .pointer (some ⟨bt, 0, none⟩)] w fun r w' => ∃ ov, r = .returned (resV 0 0 ov) ∧ Res w.heap.size ov (allG cp rs.length).length its.length (fun i t => norm (F t (gAt (allG cp rs.length) i).2)) w' ∧ Below w.heap.size w w' := by
  have HST : Hid (StAt w ps s) := hst
  have HS : Hid (SG w ps b o an acap ga go gc x) := hS
  have HGT : Hid (GT w bt cv da do_ dc qa qo qc n rs) := hGT
  have HN : Hid (NodeAt w b (o + x * 12) (colE (cname c))) := hN
  have HEV : Hid (∀ t (ht : t < its.length) (W : World) (p : Gr) (gv : Value) (okg : Nat → Prop), Below w.heap.size w W → GOk rs.length p → Arr W okg gv 1 (i64L p.2) → Calls Yaed.prog 235 #[.slice (some ⟨b, o, none⟩) an acap, .int .i16 (its[t] : Nat), .pointer (some ⟨bt, 0, none⟩), gv] W fun r w' => r = .returned (F t p.2).val ∧ Below W.heap.size W w') := hev
  have HIC : Hid (∀ t (ht : t < its.length), w.cell? ⟨ib, io + t, none⟩ = some (.int .i16 (its[t] : Nat))) := hicell
  have HKF : Hid (∀ k, kf k = cellV rs c k) := hkf
  have HCP : Hid (∀ i j, cp i j = cmpV (kf i) (kf j)) := hcp
  have HCell : Hid (∀ W, Below w.heap.size w W → W.cell? ⟨ps, 5, none⟩ = some nilS ∧ W.cell? ⟨ps, 10, none⟩ = some (.slice (some ⟨ib, io, none⟩) its.length ic) ∧ W.cell? ⟨ps, 11, none⟩ = some nilS ∧ W.cell? ⟨ps, 12, none⟩ = some nilS ∧ W.cell? ⟨ps, 17, none⟩ = some (.bool false) ∧ W.cell? ⟨ps, 18, none⟩ = some (.slice (some ⟨b, o, none⟩) an acap)) := fun W hW => by
    have h1 := hst.ext hW
    have h2 : W.cell? ⟨ps, 10, none⟩ = some s.items := h1.cell 10
    have h3 : W.cell? ⟨ps, 17, none⟩ = some (.bool s.star) := h1.cell 17
    rw [hits] at h2
    rw [hstar] at h3
    exact ⟨h1.cell 5, h2, h1.cell 11, h1.cell 12, h3, (hS.ext hW).c18⟩
  obtain ⟨L, hL⟩ : ∃ L, allG cp rs.length = L := ⟨_, rfl⟩
  have HL : Hid (allG cp rs.length = L) := hL
  have HLOK : Hid (∀ p ∈ L, GOk rs.length p) := by rw [← hL]; exact allG_ok cp _
  have hLl : L.length ≤ 32 := by rw [← hL]; exact Nat.le_trans (allG_len cp _) hrl
  rw [hL]
  obtain ⟨N, hNn⟩ : ∃ N, its.length = N := ⟨_, rfl⟩
  have HNN : Hid (its.length = N) := hNn
  rw [hNn] at hit0 hit1 ⊢
  rw [hNn] at HCell
  have hps := hst.lt
  clear hst hS hGT hN hev hicell hkf hcp hits hstar hL hNn
  go_enter Yaed.func227, Yaed.ntmps227
  go_wp2_with fail
  generalize hw0 : World.alloc _ _ = w0
  have HB0 : Hid (Below w.heap.size w w0) := by rw [← hw0]; exact (below_alloc _ _)
  have HR0 : Hid (∃ z, w0.heap[w.heap.size]? = some (.cells z 76 (0, 0)) ∧ z.size = 3) := by rw [← hw0]; exact ⟨_, heap_new rfl, rfl⟩
  have hs0 : w.heap.size < w0.heap.size := by rw [← hw0]; simp
  clear hw0
  refine (groups_any n c hc h4 b o an acap x hx hx3 ps ga go gc bt cv da do_ dc qa qo qc rs hrl w0 (HS.out.ext HB0.out) (HGT.out.ext HB0.out) (HN.out.ext HB0.out) kf HKF.out cp HCP.out).mono ?_
  rintro e w1 ⟨B0, gv, gxs, rfl, _, hgs, hb1⟩
  rw [HL.out] at hgs
  obtain ⟨gva, gvc, rfl⟩ := hgs.shape
  have HGS : Hid (Gs B0 kf (.slice gva L.length gvc) gxs L w1) := hgs
  have HB1 : Hid (Below w.heap.size w w1) := HB0.out.trans (hb1.mono HB0.out.size)
  have HR1 : Hid (∃ z, w1.heap[w.heap.size]? = some (.cells z 76 (0, 0)) ∧ z.size = 3) := by
    obtain ⟨z, a1, a2⟩ := HR0.out
    exact ⟨z, (hb1.block _ hs0).trans a1, a2⟩
  have hs1 : w.heap.size < w1.heap.size := by have := hb1.size; omega
  clear hgs hb1 HB0 HR0 hs0
  go_wp2_with fail
  go_loopw [22, 7, 8] (fun cq ov kv wr => ∃ q : Nat, q ≤ L.length ∧ cq = .int .i64 q ∧ ∃ oa oc ka kc, ov = .slice oa q oc ∧ kv = .slice ka q kc ∧ w1.heap.size ≤ wr.heap.size ∧ Hid (Below w1.heap.size w1 wr) ∧ Hid (∃ M xs ks, So w1.heap.size N (fun i t => norm (F t (gAt L i).2)) M (.slice oa q oc) xs (.slice ka q kc) ks q q wr)) (fun cq _ _ _ => L.length - (intOf cq).toNat)
  case atStart => exact ⟨0, Nat.zero_le _, rfl, none, 0, none, 0, rfl, rfl, Nat.le_refl _, Below.refl _ _, _, [], [], So.nil _ _ _ _⟩
  case round =>
    obtain ⟨q, hq, rfl, oa, oc, ka, kc, rfl, rfl, hsr, HBr, HSO⟩ := hrel
    by_cases hql : q < L.length
    · obtain ⟨gb, gcap, hgv, hgb1, hgb2, _, _, _, hgc⟩ := HGS.out.gat (by omega)
      have hgva : gva = some ⟨gb, 0, none⟩ := by simp at hgv; exact hgv.1
      have hc12 := hgc q hql
      have hent := HGS.out.ent q hql
      obtain ⟨⟨kb, kkc, kz, hk1, _, _⟩, hrow⟩ := hent
      obtain ⟨rva, rvc, hrv⟩ := own_shape hrow
      rw [hk1, hrv] at hc12
      have HARR : Hid (Arr w1 (fun b => B0 ≤ b) (.slice rva (gAt L q).2.length rvc) 1 (i64L (gAt L q).2)) := by
        have h1 := arr_own (l := (gAt L q).2) (v := (pAt gxs q).2) (e := 3) hrow
        rw [hrv] at h1
        exact h1
      have HPOK : Hid (GOk rs.length (gAt L q)) := HLOK.out _ (gAt_mem hql)
      obtain ⟨rn, hrn⟩ : ∃ rn, (gAt L q).2.length = rn := ⟨_, rfl⟩
      rw [hrn] at HARR hc12
      subst hgva
      have e1 : wr.cell? ⟨gb, q * 2, none⟩ = some (.slice (some ⟨kb, 0, none⟩) 1 kkc) := by rw [HBr.out.cell (p := ⟨gb, _, none⟩) hgb2]; exact hc12.1
      have e2 : wr.cell? ⟨gb, q * 2 + 1, none⟩ = some (.slice rva rn rvc) := by rw [HBr.out.cell (p := ⟨gb, _, none⟩) hgb2]; exact hc12.2
      clear hgv hgc hc12 hrow hk1 hrv hrn
      have hql' : (q : Int) < L.length := by omega
      have hq0 : ¬ (q : Int) < 0 := by omega
      go_wp2_with (refine wpList_put (ty := 284) (g := wr.heap.size) rfl rfl rfl rfl size284 (by kernel_rfl) ⟨_, heap_new rfl, rfl⟩ ?_; intro w2 h2 k2 s2; have HN2 : Hid (w2.heap[wr.heap.size]? = some (.cells #[.slice (some ⟨kb, 0, none⟩) 1 kkc, .slice rva rn rvc] 284 (0, 0))) := h2; have HB2 : Hid (Below wr.heap.size wr w2) := (below_alloc _ _).trans (k2.below (fun k hk => by show k ≠ wr.heap.size; omega)); clear h2 k2 s2)
      obtain ⟨GP, hGP⟩ : ∃ GP, wr.heap.size = GP := ⟨_, rfl⟩
      rw [hGP]
      rw [hGP] at HN2
      have hGP1 : w1.heap.size ≤ GP ∧ GP < w2.heap.size := ⟨by omega, by have := block_lt HN2.out; omega⟩
      have HB12 : Hid (Below w1.heap.size w1 w2) := HBr.out.trans (HB2.out.mono hsr)
      have HSO2 : Hid (∃ M xs ks, So w1.heap.size N (fun i t => norm (F t (gAt L i).2)) M (.slice oa q oc) xs (.slice ka q kc) ks q q w2) := by
        obtain ⟨M, xs, ks, h1⟩ := HSO.out
        exact ⟨M, xs, ks, h1.ext HB2.out⟩
      clear hGP e1 e2 HBr HB2 HSO hgb2
      have HBw2 : Hid (Below w.heap.size w w2) := HB1.out.trans (HB12.out.mono HB1.out.size)
      obtain ⟨f5, f10, f11, f12, f17, f18⟩ := HCell.out w2 HBw2.out
      refine wp_region_can (l := [_, _, _, _, _, _, _, _, _, _, _, _, _, _, _, _, _, _, _, _, _, _, _]) [(true, 0), (true, 1), (true, 2), (true, 3), (true, 4), (true, 5), (true, 6), (true, 7), (true, 8), (true, 9), (true, 10), (true, 11), (true, 12), (true, 13), (true, 14), (true, 15), (true, 16), (true, 17), (true, 18), (true, 19), (true, 20), (true, 21), (true, 22)] (fun W => W.cell? ⟨ps, 5, none⟩ = some nilS) (by kernel_rfl) (by kernel_rfl) f5 ?_
      repeat (first | ((first | refine wpCan_q (v := ?_) rfl rfl rfl ?_ ?_ | refine wpCan_qg (v := ?_) rfl rfl (by rfl) ?_ ?_); rotate_left; (focus (intro W q1; go_simp; first | done | exact rfl)); simp only [Act.put, List.setIfInBounds_toArray, List.set_cons_zero, List.set_cons_succ]) | (refine wpCan_skip rfl rfl (by rfl) ?_; simp only [Act.put, List.setIfInBounds_toArray, List.set_cons_zero, List.set_cons_succ]))
      refine wpCan_nil ?_
      generalize hwd : World.drew _ = wd
      have HBd : Hid (Below w2.heap.size w2 wd) := by rw [← hwd]; exact (Below.refl _ _).drew
      clear hwd f5 f10 f11 f12 f17 f18
      have HBwd : Hid (Below w.heap.size w wd) := HBw2.out.trans (HBd.out.mono HBw2.out.size)
      obtain ⟨f5, f10, f11, f12, f17, f18⟩ := HCell.out wd HBwd.out
      go_wp2_with (refine wpList_mk (n := 0) rfl rfl Yaed.underlying94 info100 rfl rfl (by omega) (by omega) ?_)
      intro w3 cs _ _ hb3 hs3 _
      obtain ⟨KG, hKG⟩ : ∃ KG, wd.heap.size = KG := ⟨_, rfl⟩
      rw [hKG]
      have HB23 : Hid (Below w2.heap.size w2 w3) := HBd.out.trans (hb3.mono HBd.out.size)
      clear hb3 hs3 hKG f5 f10 f11 f12 f17 f18 HBd HBwd
      have HB13 : Hid (Below w1.heap.size w1 w3) := HB12.out.trans (HB23.out.mono HB12.out.size)
      have HBw3 : Hid (Below w.heap.size w w3) := HB1.out.trans (HB13.out.mono HB1.out.size)
      have HN3 : Hid (w3.heap[GP]? = some (.cells #[.slice (some ⟨kb, 0, none⟩) 1 kkc, .slice rva rn rvc] 284 (0, 0))) := (HB23.out.block _ hGP1.2).trans HN2.out
      have HSO3 : Hid (∃ M xs ks, So w1.heap.size N (fun i t => norm (F t (gAt L i).2)) M (.slice oa q oc) xs (.slice ka q kc) ks q q w3) := by
        obtain ⟨M, xs, ks, h1⟩ := HSO2.out
        exact ⟨M, xs, ks, h1.ext HB23.out⟩
      have hGP3 : GP < w3.heap.size := block_lt HN3.out
      have hs13 : w1.heap.size ≤ w3.heap.size := HB13.out.size
      clear HN2 HSO2 HB12 HBw2 HB23
      obtain ⟨f5, f10, f11, f12, f17, f18⟩ := HCell.out w3 HBw3.out
      go_wp2_with fail
      refine wp_loop_rounds 1 ?_
      rw [rounds_succ]
      go_wp2_with fail
      clear f5 f10 f11 f12 f17 f18
      go_loopw [116, 14] (fun ct iv wt => ∃ t : Nat, t ≤ N ∧ ct = .int .i64 t ∧ ∃ ia' ic', iv = .slice ia' t ic' ∧ w3.heap.size ≤ wt.heap.size ∧ Hid (Below w3.heap.size w3 wt) ∧ Hid (wt.ownsRow w3.heap.size 100 4 (.slice ia' t ic') t (flatV (fun t => F t (gAt L q).2) t))) (fun ct _ _ => N - (intOf ct).toNat)
      case atStart => exact ⟨0, Nat.zero_le _, rfl, none, 0, rfl, Nat.le_refl _, Below.refl _ _, World.ownsRow_nil _ _ _ _⟩
      case round =>
        obtain ⟨t, ht, rfl, ia', ic', rfl, hst3, HBt, HOt⟩ := hrel
        by_cases htn : t < N
        · have htn' : (t : Int) < N := by omega
          have htl : t < its.length := by rw [HNN.out]; exact htn
          obtain ⟨y, hy⟩ : ∃ y : Nat, its[t] = y := ⟨_, rfl⟩
          have HBwt : Hid (Below w.heap.size w wr) := HBw3.out.trans (HBt.out.mono HBw3.out.size)
          have ei : wr.cell? ⟨ib, io + t, none⟩ = some (.int .i16 (y : Nat)) := by rw [HBwt.out.cell (p := ⟨ib, _, none⟩) hib, ← hy]; exact HIC.out t htl
          have HEVt : Hid (∀ (W : World), Below w.heap.size w W → Below w1.heap.size w1 W → Calls Yaed.prog 235 #[.slice (some ⟨b, o, none⟩) an acap, .int .i16 (y : Nat), .pointer (some ⟨bt, 0, none⟩), .slice rva rn rvc] W fun r w' => r = .returned (F t (gAt L q).2).val ∧ Below W.heap.size W w') := fun W hW1 hW2 => by
            have h1 := HEV.out t htl W (gAt L q) (.slice rva rn rvc) _ hW1 HPOK.out (HARR.out.ext hW2)
            rw [hy] at h1
            exact h1
          clear hy
          go_wp2_with fail
          obtain ⟨f5, f10, f11, f12, f17, f18⟩ := HCell.out wr HBwt.out
          have eg : wr.cell? ⟨GP, 1, none⟩ = some (.slice rva rn rvc) := by rw [HBt.out.cell (p := ⟨GP, _, none⟩) hGP3, cell_of_row w3 GP 1 _ _ _ HN3.out]; rfl
          clear f5 f10 f11 f12 f17 ei
          refine wp_region_can (l := [_, _, _, _, _, _, _, _, _, _, _]) [(true, 0), (true, 1), (true, 2), (true, 3), (true, 4), (true, 5), (true, 6), (true, 7), (true, 8), (false, 9), (false, 10)] (fun W => W.cell? ⟨ps, 18, none⟩ = some (.slice (some ⟨b, o, none⟩) an acap) ∧ W.cell? ⟨GP, 1, none⟩ = some (.slice rva rn rvc)) (by kernel_rfl) (by kernel_rfl) ⟨f18, eg⟩ ?_
          repeat (first | ((first | refine wpCan_q (v := ?_) rfl rfl rfl ?_ ?_ | refine wpCan_qg (v := ?_) rfl rfl (by rfl) ?_ ?_); rotate_left; (focus (rintro W ⟨q1, q2⟩; go_simp; first | done | exact rfl)); simp only [Act.put, List.setIfInBounds_toArray, List.set_cons_zero, List.set_cons_succ]) | (refine wpCan_skip rfl rfl (by rfl) ?_; simp only [Act.put, List.setIfInBounds_toArray, List.set_cons_zero, List.set_cons_succ]))
          refine wpCan_e rfl rfl (fun K hK => ?_)
          refine wp_call4 call235 rfl rfl rfl rfl rfl ?_
          have HB1t : Hid (Below w1.heap.size w1 wr) := HB13.out.trans (HBt.out.mono HB13.out.size)
          refine (HEVt.out _ HBwt.out.drew HB1t.out.drew).mono ?_
          rintro e w5 ⟨rfl, hb5⟩
          have HB5 : Hid (Below wr.heap.size wr w5) := below_of_drew hb5
          clear hb5
          have hpsr : ps < wr.heap.size ∧ GP < wr.heap.size := by have h1 := HBwt.out.size; have h2 := HBt.out.size; omega
          have g18 : w5.cell? ⟨ps, 18, none⟩ = some (.slice (some ⟨b, o, none⟩) an acap) := by rw [HB5.out.cell (p := ⟨ps, _, none⟩) hpsr.1]; exact f18
          have gg : w5.cell? ⟨GP, 1, none⟩ = some (.slice rva rn rvc) := by rw [HB5.out.cell (p := ⟨GP, _, none⟩) hpsr.2]; exact eg
          have hs5 := HB5.out.size
          refine ⟨_, rfl, hK _ _ ⟨⟨g18, gg⟩, ?_⟩⟩
          clear hK K f18 eg
          try simp only [Act.put, List.setIfInBounds_toArray, List.set_cons_zero, List.set_cons_succ]
          obtain ⟨u, hu⟩ : ∃ u, F t (gAt L q).2 = u := ⟨_, rfl⟩
          have HU : Hid (F t (gAt L q).2 = u) := hu
          rw [hu]
          clear hu
          unfold V.val
          refine wpCan_e rfl rfl (fun K hK => ?_)
          refine wp_bs1 u rfl rfl ?_
          refine hK _ _ ⟨⟨by rw [(below_alloc w5 _).cell (p := ⟨ps, _, none⟩) (by show ps < w5.heap.size; omega)]; exact g18, by rw [(below_alloc w5 _).cell (p := ⟨GP, _, none⟩) (by show GP < w5.heap.size; omega)]; exact gg⟩, ?_⟩
          clear hK K g18 gg
          try simp only [Act.put, List.setIfInBounds_toArray, List.set_cons_zero, List.set_cons_succ]
          refine wpCan_nil ?_
          have HO5 : Hid (w5.ownsRow w3.heap.size 100 4 (.slice ia' t ic') t (flatV (fun t => F t (gAt L q).2) t)) := ownsRow_ext HOt.out HB5.out
          have HB35 : Hid (Below w3.heap.size w3 w5) := HBt.out.trans (HB5.out.mono hst3)
          have hs35 : w3.heap.size ≤ w5.heap.size := HB35.out.size
          clear HB5 HOt HBt HBwt HB1t HEVt hpsr hs5 hst3
          go_wp2_with (at_builtin; go_must (refine wpList_app1 w3.heap.size rfl rfl Yaed.underlying94 info100 rfl rfl (HO5.out.alloc _) (by exact heap_new rfl) (by rfl) (by intro u hu; simp at hu; rcases hu with rfl | rfl | rfl | rfl <;> rfl) (by omega) (by omega) (by omega) (by simp; omega) ?_))
          intro g6 cap6 w6 hown6 hgrow6 hat6 hlt6
          have HB6 : Hid (Below w3.heap.size w3 w6) := (HB35.out.trans ((below_alloc w5 _).mono hs35)).trans (below_grown (HO5.out.alloc _) hgrow6 (by simp; omega))
          have HO6 : Hid (w6.ownsRow w3.heap.size 100 4 (.slice (some ⟨g6, 0, none⟩) (t + 1) cap6) (t + 1) (flatV (fun t => F t (gAt L q).2) (t + 1))) := by
            have h9 : flatV (fun t => F t (gAt L q).2) (t + 1) = flatV (fun t => F t (gAt L q).2) t ++ u.list := by rw [← HU.out]; rfl
            rw [h9]; exact hown6
          have hs6 : w3.heap.size ≤ w6.heap.size := HB6.out.size
          clear hown6 hgrow6 hat6 hlt6 HO5 HB35 hs35
          go_wp2_with fail
          go_roundw
          case rel => exact ⟨t + 1, by omega, by go_num, _, _, rfl, hs6, HB6, HO6⟩
          case measure => simp [intOf]; omega
        · obtain rfl : t = N := by omega
          obtain ⟨ig, hig⟩ : ∃ ig, ia' = some ⟨ig, 0, none⟩ := by
            rcases HOt.out.2 with ⟨_, h1⟩ | ⟨g, cap, cur, h1, _⟩
            · omega
            · simp at h1; exact ⟨g, h1.1⟩
          subst hig
          have HRG : Hid (∀ t', t' < t → wr.rangeAt ig (t' * 4) (F t' (gAt L q).2).list) := own_range HOt.out
          have hig2 := HOt.out.lt ig rfl
          have HSOr : Hid (∃ M xs ks, So w1.heap.size t (fun i t => norm (F t (gAt L i).2)) M (.slice oa q oc) xs (.slice ka q kc) ks q q wr) := by
            obtain ⟨M, xs, ks, h1⟩ := HSO3.out
            exact ⟨M, xs, ks, h1.ext HBt.out⟩
          have HB1t : Hid (Below w1.heap.size w1 wr) := HB13.out.trans (HBt.out.mono HB13.out.size)
          have hsr1 : w1.heap.size ≤ wr.heap.size := HB1t.out.size
          go_wp2_with fail
          refine (normRow_any t (by omega) (fun t' => F t' (gAt L q).2) ig ic' wr hig2.2 HRG.out).mono ?_
          rintro e w5 ⟨nb, rfl, hnb1, hnb2, hnr, hb5⟩
          obtain ⟨M, xs, ks, hso⟩ := HSOr.out
          have HSO5 : Hid (So w1.heap.size t (fun i t => norm (F t (gAt L i).2)) (fun k => M k ∨ k = nb) (.slice oa q oc) xs (.slice ka q kc) ks q q w5) := (hso.ext hb5).more nb (by omega) hnb2 (fun e => by have := (hso.oown.lt nb e).2; omega) (fun e => by have := (hso.kown.lt nb e).2; omega)
          have HNR : Hid (nb < w5.heap.size ∧ ∀ i, i < t → w5.rangeAt nb (i * 4) (norm (F i (gAt L q).2)).list) := ⟨hnb2, hnr⟩
          have HB15 : Hid (Below w1.heap.size w1 w5) := HB1t.out.trans (hb5.mono hsr1)
          have hs15 : w1.heap.size ≤ w5.heap.size := HB15.out.size
          clear hso hb5 hnr hnb1 hnb2 HSOr HB1t HRG HOt HBt hst3
          go_wp2_with (at_builtin; go_must (refine wpList_app1 w1.heap.size rfl rfl Yaed.underlying22 info94 rfl rfl (HSO5.out.oown.alloc _) (by exact heap_new rfl) (by rfl) (by intro u hu; simp at hu; subst hu; rfl) (by omega) (by omega) (by omega) (by simp; omega) ?_))
          intro g6 cap6 w6 hown6 hgrow6 hat6 hlt6
          have HSO6 : Hid (∃ xs, So w1.heap.size t (fun i t => norm (F t (gAt L i).2)) (fun k => M k ∨ k = nb) (.slice (some ⟨g6, 0, none⟩) (q + 1) cap6) xs (.slice ka q kc) ks (q + 1) q w6) := by
            have h1 := HSO5.out.ext (below_alloc w5 (Obj.cells #[Value.slice (some ⟨nb, 0, none⟩) t t] 94))
            exact ⟨_, h1.appO (g := g6) (cap := cap6) (rb := nb) (w' := w6) (.inr rfl) (fun t' ht' => range_ext (HNR.out.2 t' ht') (below_alloc w5 _) HNR.out.1) hown6 hgrow6 (by rcases hat6 with h | h; exact .inl h; exact .inr (by rw [World.size_alloc]; omega))⟩
          have HB16 : Hid (Below w1.heap.size w1 w6) := (HB15.out.trans ((below_alloc w5 _).mono hs15)).trans (below_grown (HSO5.out.oown.alloc _) hgrow6 (by simp; omega))
          have hs16 : w1.heap.size ≤ w6.heap.size := HB16.out.size
          clear hown6 hgrow6 hat6 hlt6 HSO5 HNR HB15 hs15
          obtain ⟨xs6, hso6⟩ := HSO6.out
          have HSO7 : Hid (So w1.heap.size t (fun i t => norm (F t (gAt L i).2)) (fun k => M k ∨ k = nb) (.slice (some ⟨g6, 0, none⟩) (q + 1) cap6) xs6 (.slice ka q kc) ks (q + 1) q w6) := hso6
          clear hso6 HSO6
          go_wp2_with (at_builtin; go_must (refine wpList_app1 w1.heap.size rfl rfl Yaed.underlying22 info94 rfl rfl (HSO7.out.kown.alloc _) (by exact heap_new rfl) (by rfl) (by intro u hu; simp at hu; subst hu; rfl) (by omega) (by omega) (by omega) (by simp; omega) ?_))
          intro g8 cap8 w8 hown8 hgrow8 hat8 hlt8
          have HSO8 : Hid (∃ M xs ks, So w1.heap.size t (fun i t => norm (F t (gAt L i).2)) M (.slice (some ⟨g6, 0, none⟩) (q + 1) cap6) xs (.slice (some ⟨g8, 0, none⟩) (q + 1) cap8) ks (q + 1) (q + 1) w8) := by
            have h1 := HSO7.out.ext (below_alloc w6 (Obj.cells #[Value.slice (some ⟨KG, 0, none⟩) 0 0] 94))
            exact ⟨_, _, _, h1.appK (g := g8) (cap := cap8) (w' := w8) hown8 hgrow8 (by rcases hat8 with h | h; exact .inl h; exact .inr (by rw [World.size_alloc]; omega))⟩
          have HB18 : Hid (Below w1.heap.size w1 w8) := (HB16.out.trans ((below_alloc w6 _).mono hs16)).trans (below_grown (HSO7.out.kown.alloc _) hgrow8 (by simp; omega))
          have hs18 : w1.heap.size ≤ w8.heap.size := HB18.out.size
          clear hown8 hgrow8 hat8 hlt8 HSO7 HB16 hs16
          go_wp2_with fail
          go_roundw
          case rel => exact ⟨q + 1, by omega, by go_num, _, _, _, _, rfl, rfl, hs18, HB18, HSO8⟩
          case measure => simp [intOf]; omega
    · obtain rfl : q = L.length := by omega
      obtain ⟨M, xs, ks, hso⟩ := HSO.out
      have HSOx : Hid (So w1.heap.size N (fun i t => norm (F t (gAt L i).2)) M (.slice oa L.length oc) xs (.slice ka L.length kc) ks L.length L.length wr) := hso
      have HBw : Hid (Below w.heap.size w wr) := HB1.out.trans (HBr.out.mono HB1.out.size)
      have hsw : w.heap.size < wr.heap.size := by omega
      have HRr : Hid (∃ z, wr.heap[w.heap.size]? = some (.cells z 76 (0, 0)) ∧ z.size = 3) := by
        obtain ⟨z, a1, a2⟩ := HR1.out
        exact ⟨z, (HBr.out.block _ hs1).trans a1, a2⟩
      clear hso HSO
      obtain ⟨f5, f10, f11, f12, f17, f18⟩ := HCell.out wr HBw.out
      have HORD : Hid (Calls Yaed.prog 237 #[.slice oa L.length oc, .slice ka L.length kc, nilS] wr fun r w' => (∃ v, r = .returned v) ∧ Below wr.heap.size wr w') := by
        rcases HSOx.out.kown.2 with ⟨h1, h2⟩ | ⟨g, cap, cur, h1, h2, h3, h4⟩
        · rw [h2] at h1 ⊢
          simp only [Value.slice.injEq] at h1
          obtain ⟨rfl, _, rfl⟩ := h1
          exact order_zero _ _ _ _ _
        · simp only [Value.slice.injEq] at h1
          obtain ⟨rfl, _, rfl⟩ := h1
          refine order_none L.length (by omega) oa oc g 0 kc nilS wr (block_lt h3) (fun i hi => ?_)
          obtain ⟨a, c, h6⟩ := HSOx.out.keys i hi
          have hl : ks.length = L.length := by have := HSOx.out.kown.1; simpa using this
          refine ⟨a, c, ?_⟩
          have h7 := HSOx.out.kown.cells (g := g) rfl i (ks.getD i undef) (by rw [List.getD_eq_getElem?_getD, List.getElem?_eq_getElem (by omega)]; rfl)
          rw [Addr.add_mid] at h7
          rw [h7, h6]
      clear f5 f10 f11 f17 f18
      go_wp2_with fail
      refine HORD.out.mono ?_
      rintro e w2 ⟨⟨v, rfl⟩, hb2⟩
      have HSO2 : Hid (So w1.heap.size N (fun i t => norm (F t (gAt L i).2)) M (.slice oa L.length oc) xs (.slice ka L.length kc) ks L.length L.length w2) := HSOx.out.ext hb2
      have HBw2 : Hid (Below w.heap.size w w2) := HBw.out.trans (hb2.mono HBw.out.size)
      have HR2 : Hid (∃ z, w2.heap[w.heap.size]? = some (.cells z 76 (0, 0)) ∧ z.size = 3) := by
        obtain ⟨z, a1, a2⟩ := HRr.out
        exact ⟨z, (hb2.block _ hsw).trans a1, a2⟩
      have hsw2 : w.heap.size < w2.heap.size := by have := hb2.size; omega
      clear hb2 HORD HSOx HRr HBw f12
      have hxl : xs.length = L.length := by have := HSO2.out.oown.1; simpa using this
      have HXL : Hid (xs.length = L.length) := hxl
      have HFI : Hid (Calls Yaed.prog 231 #[.pointer (some ⟨ps, 0, none⟩), .slice oa L.length oc] w2 fun r w' => ∃ ov, r = .returned (resV 0 0 ov) ∧ w'.ownsRow w2.heap.size 94 1 ov L.length xs ∧ Below w2.heap.size w2 w') := by
        have h1 := finish_any ps s xs (by omega) (fun x hx => by
          obtain ⟨i, hi, rfl⟩ := List.getElem_of_mem hx
          obtain ⟨g, h1, _⟩ := HSO2.out.rows i (by omega)
          rw [List.getD_eq_getElem?_getD, List.getElem?_eq_getElem hi] at h1
          exact ⟨_, _, _, h1⟩) oa oc w2 (HST.out.ext HBw2.out) (fun i hi => by
          rcases HSO2.out.oown.2 with ⟨h1, h2⟩ | ⟨g, cap, cur, h1, h2, h3, h4⟩
          · omega
          · simp only [Value.slice.injEq] at h1
            obtain ⟨rfl, _, rfl⟩ := h1
            refine ⟨g, 0, rfl, block_lt h3, ?_⟩
            have h7 := HSO2.out.oown.cells (g := g) rfl i (xs.getD i undef) (by rw [List.getD_eq_getElem?_getD, List.getElem?_eq_getElem (by omega)]; rfl)
            rw [Addr.add_mid] at h7
            exact h7)
        rw [hxl] at h1
        exact h1
      clear hxl
      go_wp2_with fail
      refine HFI.out.mono ?_
      rintro e w3 ⟨ov, rfl, hov, hb3⟩
      have HSO3 : Hid (So w1.heap.size N (fun i t => norm (F t (gAt L i).2)) M (.slice oa L.length oc) xs (.slice ka L.length kc) ks L.length L.length w3) := HSO2.out.ext hb3
      have HBw3 : Hid (Below w.heap.size w w3) := HBw2.out.trans (hb3.mono HBw2.out.size)
      have HR3 : Hid (∃ z, w3.heap[w.heap.size]? = some (.cells z 76 (0, 0)) ∧ z.size = 3) := by
        obtain ⟨z, a1, a2⟩ := HR2.out
        exact ⟨z, (hb3.block _ hsw2).trans a1, a2⟩
      have HOV : Hid (w3.ownsRow w2.heap.size 94 1 ov L.length xs) := hov
      obtain ⟨ova, ovc, rfl⟩ := own_shape hov
      clear hov hb3 HFI HSO2 HR2 HBw2
      unfold resV
      go_wp2_with (refine wpList_put (ty := 76) rfl rfl rfl rfl size76 (by kernel_rfl) HR3.out ?_)
      intro w4 h4' k4 s4
      have HN4 : Hid (w4.heap[w.heap.size]? = some (.cells #[.int .u8 0, .slice ova L.length ovc, .int .i64 0] 76 (0, 0))) := h4'
      have HK4 : Hid (Keep (fun k => k ≠ w.heap.size) w3 w4) := k4
      clear h4' k4 s4
      go_wp2_with fail
      refine bodyPost_ret (results_cell_row rfl _ _ _ _ _ _ _ rfl HN4.out Yaed.underlying76 rfl size76) rfl ⟨_, rfl, ⟨xs, ?_, ?_⟩, ?_⟩
      · have ho := ownsRow_blk HOV.out (w' := w4) (fun g hg => HK4.out.block g (by have := HOV.out.lt g hg; show g ≠ w.heap.size; omega))
        refine ⟨ho.1, ?_⟩
        rcases ho.2 with a | ⟨g, cap, cur, a1, a2, a3⟩
        · exact .inl a
        · exact .inr ⟨g, cap, cur, a1, by omega, a3⟩
      · intro i hi
        obtain ⟨g, a1, a2, a3⟩ := HSO3.out.rows i hi
        have hg3 := HSO3.out.old g a2
        have hgw : g ≠ w.heap.size := by have := HSO3.out.lo g a2; omega
        exact ⟨g, a1, by have := HSO3.out.lo g a2; omega, Nat.lt_of_lt_of_le hg3 HK4.out.size, fun t ht => range_keep (a3 t ht) HK4.out hgw⟩
      · exact HBw3.out.trans (HK4.out.below (fun k hk => by show k ≠ w.heap.size; omega))
end Go.Proofs.YgdaegDoor
