import Derived.Test.YgdaegDoorMatches
import Derived.Test.YgdaegDoorInsMore
namespace Go.Proofs.YgdaegDoor
open Go.RowKit
set_option linter.unusedSimpArgs false
set_option linter.unusedVariables false
set_option maxRecDepth 20000 in
set_option maxHeartbeats 8000000 in
/-- DELETE WHERE rowid = 1 of the rows 1 .. m + 1. -/
theorem delete_del {ok okc : Nat → Prop} (m : Nat) (hm : m + 1 ≤ 32) (rs0 : List (List V)) (hL : rs0.length = m + 1) (ps bd bt tc : Nat) (t : T) (s : St) (w : World)
    (hst : StAt w ps s) (hwh : s.wher = 2) (har : Arr w ok s.arena 12 (delE.map E.list)) (hdb : DB1 w bd bt tc t) (hti : Arr w okc t.ids.v 1 (idsL (idsN 1 (m + 1)))) (htr : Arr2 w okc t.rows.v 4 (rowsL rs0)) (hokc : ∀ b, okc b → b ≠ bt) :
    Calls Yaed.prog 219 #[.pointer (some ⟨bd, 0, none⟩), .pointer (some ⟨ps, 0, none⟩), .int .i64 0] w fun r w' => ∃ ds rr : Sl, r = .returned (resV 0 1 nilS) ∧ DB1 w' bd bt tc { t with ids := ds, rows := rr } ∧
      Arr w' (fun b => w.heap.size ≤ b) ds.v 1 (idsL (idsN 2 m)) ∧ Arr2 w' (fun b => okc b ∨ w.heap.size ≤ b) rr.v 4 (rowsL (rs0.drop 1)) ∧ Keep (fun k => k < w.heap.size ∧ k ≠ bt) w w' := by
  obtain ⟨tn, ⟨ca, cn, cc⟩, ⟨ia, il, ic⟩, ⟨da, dn, dc⟩, ⟨qa, qn, qc⟩⟩ := t
  simp only [Sl.v] at hti htr
  obtain ⟨ib, io, rfl, rfl, hib, hidc⟩ : ∃ ib io, da = some ⟨ib, io, none⟩ ∧ dn = m + 1 ∧ ib < w.heap.size ∧ ∀ k, k < m + 1 → w.cell? ⟨ib, io + k, none⟩ = some (.int .i64 ((k + 1 : Nat) : Int)) := by
    obtain ⟨a, c, he, _, hcell⟩ := hti
    have hlen : (idsL (idsN 1 (m + 1))).length = m + 1 := by simp [idsL, idsN]
    rw [hlen] at he hcell
    obtain ⟨rfl, hdn, rfl⟩ : da = a ∧ dn = m + 1 ∧ dc = c := by simpa using he
    obtain ⟨b, o, rfl, _, hb, _⟩ := hcell 0 (by omega)
    refine ⟨b, o, rfl, hdn, hb, fun k hk => ?_⟩
    obtain ⟨b', o', e, _, _, hcc⟩ := hcell k hk
    obtain ⟨rfl, rfl⟩ : b = b' ∧ o = o' := by simpa using e
    have h0 := hcc 0 (by omega)
    rw [show ((k + 1 : Nat) : Int) = 1 + (k : Int) by omega]
    simpa [idsL, idsN, List.getD_eq_getElem?_getD, hk] using h0
  obtain ⟨vs, hvl, hva, hvi⟩ := htr
  have hvl' : vs.length = m + 1 := by rw [hvl, rowsL, List.length_map, hL]
  obtain ⟨qb, qo, rfl, rfl, hqb, hrc⟩ : ∃ qb qo, qa = some ⟨qb, qo, none⟩ ∧ qn = m + 1 ∧ qb < w.heap.size ∧ ∀ k, k < m + 1 → w.cell? ⟨qb, qo + k, none⟩ = some (vs.getD k undef) := by
    obtain ⟨a, c, he, _, hcell⟩ := hva
    rw [List.length_map, hvl'] at he hcell
    obtain ⟨rfl, hdn, rfl⟩ : qa = a ∧ qn = m + 1 ∧ qc = c := by simpa using he
    obtain ⟨b, o, rfl, _, hb, _⟩ := hcell 0 (by omega)
    refine ⟨b, o, rfl, hdn, hb, fun k hk => ?_⟩
    obtain ⟨b', o', e, _, _, hcc⟩ := hcell k hk
    obtain ⟨rfl, rfl⟩ : b = b' ∧ o = o' := by simpa using e
    have h0 := hcc 0 (by omega)
    simpa [List.getD_eq_getElem?_getD, hvl', hk] using h0
  have HVI : Hid (∀ k, k < m + 1 → ∃ a c, vs.getD k undef = .slice a (rs0.getD k []).length c ∧ Arr w (fun b => okc b ∧ b < w.heap.size) (vs.getD k undef) 4 ((rs0.getD k []).map V.list)) := by
    intro k hk
    have h1 := hvi k (by simp [rowsL, hL]; omega)
    have e3 : (rowsL rs0).getD k [] = (rs0.getD k []).map V.list := by simp [rowsL, List.getD_eq_getElem?_getD, hL, hk]
    rw [e3] at h1
    obtain ⟨a, c, he, _⟩ := h1.shape
    exact ⟨a, c, by simpa using he, h1.inb⟩
  have HIDC : Hid (∀ k, k < m + 1 → w.cell? ⟨ib, io + k, none⟩ = some (.int .i64 ((k + 1 : Nat) : Int))) := hidc
  have HRC : Hid (∀ k, k < m + 1 → w.cell? ⟨qb, qo + k, none⟩ = some (vs.getD k undef)) := hrc
  have HDB : Hid (DB1 w bd bt tc ⟨tn, ⟨ca, cn, cc⟩, ⟨ia, il, ic⟩, ⟨some ⟨ib, io, none⟩, m + 1, dc⟩, ⟨some ⟨qb, qo, none⟩, m + 1, qc⟩⟩) := hdb
  have HOKC : Hid (∀ b, okc b → b ≠ bt) := hokc
  have HL : Hid (rs0.length = m + 1) := hL
  obtain ⟨aa, acap, harn, hnode⟩ := har.node
  have hd3 : delE.length = 3 := rfl
  rw [hd3] at harn hnode
  obtain ⟨ab, ao, rfl, _, hn0⟩ := hnode 0 (by omega)
  have hn1 : NodeAt w ab (ao + 1 * 12) (leafE 0 (intV 1)) := by
    obtain ⟨b, o, e, _, h⟩ := hnode 1 (by omega)
    obtain ⟨rfl, rfl⟩ : ab = b ∧ ao = o := by simpa using e
    exact h
  have hn2 : NodeAt w ab (ao + 2 * 12) (opE 11 0 1) := by
    obtain ⟨b, o, e, _, h⟩ := hnode 2 (by omega)
    obtain ⟨rfl, rfl⟩ : ab = b ∧ ao = o := by simpa using e
    exact h
  have HND : Hid (NodeAt w ab (ao + 0 * 12) (colE rowidS) ∧ NodeAt w ab (ao + 1 * 12) (leafE 0 (intV 1)) ∧ NodeAt w ab (ao + 2 * 12) (opE 11 0 1)) := ⟨hn0, hn1, hn2⟩
  have hsp := hst.lt
  have hbd := hdb.lt
  have hbt := hdb.lt'
  have hbdn : ¬ bd = w.heap.size := by omega
  have hpsn : ¬ ps = w.heap.size := by omega
  have hbtn : ¬ bt = w.heap.size := by omega
  have e18 : w.cell? ⟨ps, 18, none⟩ = some (.slice (some ⟨ab, ao, none⟩) 3 acap) := by rw [← harn]; exact hst.cell 18
  have e14 : w.cell? ⟨ps, 14, none⟩ = some (.int .i16 2) := by rw [← hwh]; exact hst.cell 14
  have HE : Hid (w.cell? ⟨ps, 14, none⟩ = some (.int .i16 2) ∧ w.cell? ⟨ps, 18, none⟩ = some (.slice (some ⟨ab, ao, none⟩) 3 acap)) := ⟨e14, e18⟩
  obtain ⟨d0, _⟩ := hdb.dfacts
  obtain ⟨t0, t1, t2, t3, t4, t5, _⟩ := hdb.tfacts
  simp only at t0 t1 t2 t3 t4
  have HT : Hid (w.cell? ⟨bt, 1, none⟩ = some (.slice ca cn cc) ∧ w.cell? ⟨bt, 3, none⟩ = some (.slice (some ⟨ib, io, none⟩) (m + 1) dc) ∧ w.cell? ⟨bt, 4, none⟩ = some (.slice (some ⟨qb, qo, none⟩) (m + 1) qc)) := ⟨t1, t3, t4⟩
  clear hst hwh har hdb hti hvl hva hvi hvl' hidc hrc hokc hL harn hnode hn0 hn1 hn2 hd3 t0 t1 t2 t3 t4 t5 e14 e18
  go_enter Yaed.func219, Yaed.ntmps219
  go_wp2_with fail
  clear d0
  generalize hw0 : World.alloc _ _ = w0
  have HB0 : Hid (Below w.heap.size w w0 ∧ ∃ z, w0.heap[w.heap.size]? = some (.cells z 76 (0, 0)) ∧ z.size = 3) := by rw [← hw0]; exact ⟨below_alloc _ _, _, heap_alloc_new _ _, rfl⟩
  have hs0 : w.heap.size + 1 ≤ w0.heap.size := by rw [← hw0]; simp
  clear hw0
  have e18 : w0.cell? ⟨ps, 18, none⟩ = some (.slice (some ⟨ab, ao, none⟩) 3 acap) := by rw [HB0.out.1.cell (p := ⟨ps, _, none⟩) hsp]; exact HE.out.2
  have e1 : w0.cell? ⟨bt, 1, none⟩ = some (.slice ca cn cc) := by rw [HB0.out.1.cell (p := ⟨bt, _, none⟩) hbt]; exact HT.out.1
  refine wp_region_can (l := [_, _, _, _, _, _, _, _, _, _, _, _, _, _]) [(true, 0), (true, 1), (true, 2), (true, 3), (true, 4), (true, 5), (true, 6), (true, 7), (true, 8), (true, 9), (true, 10), (true, 11), (true, 12), (true, 13)] (fun W => W.cell? ⟨ps, 18, none⟩ = some (.slice (some ⟨ab, ao, none⟩) 3 acap) ∧ W.cell? ⟨bt, 1, none⟩ = some (.slice ca cn cc)) (by kernel_rfl) (by kernel_rfl) ⟨e18, e1⟩ ?_
  repeat (first | ((first | refine wpCan_q (v := ?_) rfl rfl rfl ?_ ?_ | refine wpCan_qg (v := ?_) rfl rfl (by rfl) ?_ ?_); rotate_left; (focus (rintro W ⟨q1, q2⟩; go_simp; first | done | exact rfl)); simp only [Act.put, List.setIfInBounds_toArray, List.set_cons_zero, List.set_cons_succ]) | (refine wpCan_skip rfl rfl (by rfl) ?_; simp only [Act.put, List.setIfInBounds_toArray, List.set_cons_zero, List.set_cons_succ]))
  refine wpCan_nil ?_
  generalize hw1 : World.drew _ = w1
  have HB1 : Hid (Below w.heap.size w w1 ∧ ∃ z, w1.heap[w.heap.size]? = some (.cells z 76 (0, 0)) ∧ z.size = 3) := by rw [← hw1]; exact ⟨HB0.out.1.drew, HB0.out.2⟩
  have hs1 : w.heap.size + 1 ≤ w1.heap.size := by rw [← hw1]; exact hs0
  clear hw1 HB0 e18 e1 hs0
  go_wp2_with fail
  refine (checkExprs_del ab ao acap _ w1 (HND.out.1.ext HB1.out.1) (HND.out.2.1.ext HB1.out.1) (HND.out.2.2.ext HB1.out.1)).mono ?_
  rintro e w2 ⟨rfl, hb2⟩
  have HB2 : Hid (Below w.heap.size w w2 ∧ ∃ z, w2.heap[w.heap.size]? = some (.cells z 76 (0, 0)) ∧ z.size = 3) := by
    obtain ⟨h1, z, h2, h3⟩ := HB1.out
    exact ⟨h1.trans (hb2.mono (by omega)), z, (hb2.block _ (by omega)).trans h2, h3⟩
  have hs2 : w.heap.size + 1 ≤ w2.heap.size := Nat.le_trans hs1 hb2.size
  clear hb2 HB1 hs1
  go_wp2_with fail
  have HCL : Hid (∀ W, Below w.heap.size w W → W.cell? ⟨ps, 14, none⟩ = some (.int .i16 2) ∧ W.cell? ⟨ps, 18, none⟩ = some (.slice (some ⟨ab, ao, none⟩) 3 acap) ∧ W.cell? ⟨bt, 1, none⟩ = some (.slice ca cn cc) ∧ W.cell? ⟨bt, 3, none⟩ = some (.slice (some ⟨ib, io, none⟩) (m + 1) dc) ∧ W.cell? ⟨bt, 4, none⟩ = some (.slice (some ⟨qb, qo, none⟩) (m + 1) qc)) := by
    intro W hW
    rw [hW.cell (p := ⟨ps, 14, none⟩) hsp, hW.cell (p := ⟨ps, 18, none⟩) hsp, hW.cell (p := ⟨bt, 1, none⟩) hbt, hW.cell (p := ⟨bt, 3, none⟩) hbt, hW.cell (p := ⟨bt, 4, none⟩) hbt]
    exact ⟨HE.out.1, HE.out.2, HT.out⟩
  have hcl := HCL.out w2 HB2.out.1
  refine (matches_del ps bt ab ao acap (m + 1) (by omega) hm w2 ib io dc qb qo qc (.slice ca cn cc) (by omega) (by omega) (by omega) (by omega) hcl.1 hcl.2.1 hcl.2.2.1 hcl.2.2.2.1 hcl.2.2.2.2 (fun k hk => by rw [HB2.out.1.cell (p := ⟨ib, _, none⟩) hib]; exact HIDC.out k hk) (fun k hk => ⟨_, by rw [HB2.out.1.cell (p := ⟨qb, _, none⟩) hqb]; exact HRC.out k hk⟩) (HND.out.1.ext HB2.out.1) (HND.out.2.1.ext HB2.out.1) (HND.out.2.2.ext HB2.out.1)).mono ?_
  rintro e w3 ⟨g, gcap, rfl, hg1, hg2, hg3, hb3⟩
  have HB3 : Hid (Below w.heap.size w w3 ∧ ∃ z, w3.heap[w.heap.size]? = some (.cells z 76 (0, 0)) ∧ z.size = 3) := by
    obtain ⟨h1, z, h2, h3⟩ := HB2.out
    exact ⟨h1.trans (hb3.mono (by omega)), z, (hb3.block _ (by omega)).trans h2, h3⟩
  have HG3 : Hid (w3.cell? ⟨g, 0, none⟩ = some (.int .i64 0)) := hg3
  have hs3 : w.heap.size + 1 ≤ w3.heap.size := Nat.le_trans hs2 hb3.size
  have hgs : w.heap.size + 1 ≤ g := Nat.le_trans hs2 hg1
  clear hb3 HB2 hs2 hcl hg1 hg3
  have e4 := (HCL.out w3 HB3.out.1).2.2.2.2
  go_wp2_with fail
  clear e4
  go_loopw [47, 12, 10, 11] (fun c kk iv rv wr => ∃ i : Nat, i ≤ m + 1 ∧ c = .int .i64 i ∧ Hid (Below w3.heap.size w3 wr) ∧ ((i = 0 ∧ kk = .int .i64 0 ∧ iv = .slice none 0 0 ∧ rv = .slice none 0 0) ∨
      (∃ i', i = i' + 1 ∧ kk = .int .i64 1 ∧ ∃ ra rl rc ja jl jc, rv = .slice ra rl rc ∧ iv = .slice ja jl jc ∧ rl ≤ 100 ∧ jl ≤ 100 ∧ Hid (∃ xs, Two w3.heap.size w3 (fun k => okc k ∧ k < w.heap.size) (.slice ra rl rc) xs (.slice ja jl jc) (idsN 2 i') ((rs0.drop 1).take i') wr ∧ rl = ((rs0.drop 1).take i').length ∧ jl = (idsN 2 i').length)))) (fun c _ _ _ _ => m + 1 - (intOf c).toNat)
  case atStart => exact ⟨0, Nat.zero_le _, rfl, Below.refl _ _, .inl ⟨rfl, rfl, rfl, rfl⟩⟩
  case round =>
    obtain ⟨i, hi, rfl, HB, hcase⟩ := hrel
    have HBW : Hid (Below w.heap.size w wr) := HB3.out.1.trans (HB.out.mono (by omega))
    have hsr := HB.out.size
    by_cases him : i < m + 1
    · rcases hcase with ⟨rfl, rfl, rfl, rfl⟩ | ⟨i', rfl, rfl, ra, rl, rc, ja, jl, jc, rfl, rfl, hrl, hjl, HTW⟩
      · have eg : wr.cell? ⟨g, 0, none⟩ = some (.int .i64 0) := by rw [HB.out.cell (p := ⟨g, _, none⟩) hg2]; exact HG3.out
        go_wp2_with fail
        go_roundw
        case rel =>
          refine ⟨1, by omega, by go_num, HB, .inr ⟨0, rfl, rfl, none, 0, 0, none, 0, 0, rfl, rfl, by omega, by omega, [], ?_, by simp, rfl⟩⟩
          have e0 : (rs0.drop 1).take 0 = [] := List.take_zero
          rw [e0]
          exact ⟨fun k hk => by omega, World.ownsRow_nil _ _ _ _, World.ownsRow_nil _ _ _ _, fun g hg => by simp [Value.ownBlock] at hg, fun g hg => by simp [Value.ownBlock] at hg, fun g hg => by simp [Value.ownBlock] at hg, fun k hk => absurd hk (Nat.not_lt_zero _), HB.out⟩
        case measure => first | (simp [intOf]; done) | (simp [intOf]; omega)
      · obtain ⟨_, _, _, c3, c4⟩ := HCL.out wr HBW.out
        have hid := HIDC.out (i' + 1) him
        have hrv := HRC.out (i' + 1) him
        rw [← HBW.out.cell (p := ⟨ib, _, none⟩) hib] at hid
        rw [← HBW.out.cell (p := ⟨qb, _, none⟩) hqb] at hrv
        obtain ⟨va, vc, hv1, hv2⟩ := HVI.out (i' + 1) him
        obtain ⟨vn, hvn⟩ : ∃ vn, (rs0.getD (i' + 1) []).length = vn := ⟨_, rfl⟩
        rw [hvn] at hv1
        rw [hv1] at hrv hv2
        have HROW : Hid (Arr wr (fun b => okc b ∧ b < w.heap.size) (.slice va vn vc) 4 ((rs0.getD (i' + 1) []).map V.list)) := hv2.ext HBW.out
        clear hv1 hv2 hvn
        obtain ⟨id, hidd⟩ : ∃ id : Int, ((i' + 1 + 1 : Nat) : Int) = id := ⟨_, rfl⟩
        rw [hidd] at hid
        have HID : Hid (((i' + 1 + 1 : Nat) : Int) = id) := hidd
        obtain ⟨q, hq⟩ : ∃ q, i' + 1 = q := ⟨_, rfl⟩
        clear hidd
        rw [hq] at hid hrv him
        have HQ : Hid (i' + 1 = q) := hq
        have hqq : (q : Int) < m + 1 := by omega
        have hqc : ((i' + 1 : Nat) : Int) = (q : Int) := by omega
        rw [hqc]
        clear hqc hq
        go_upto_region 14 with fail
        have HS : Hid (∀ W, Below w.heap.size w W → W.cell? ⟨bt, 3, none⟩ = some (.slice (some ⟨ib, io, none⟩) (m + 1) dc) ∧ W.cell? ⟨bt, 4, none⟩ = some (.slice (some ⟨qb, qo, none⟩) (m + 1) qc) ∧ W.cell? ⟨ib, io + q, none⟩ = some (.int .i64 id) ∧ W.cell? ⟨qb, qo + q, none⟩ = some (.slice va vn vc)) := by
          intro W hW
          rw [hW.cell (p := ⟨bt, 3, none⟩) hbt, hW.cell (p := ⟨bt, 4, none⟩) hbt, hW.cell (p := ⟨ib, io + q, none⟩) hib, hW.cell (p := ⟨qb, qo + q, none⟩) hqb]
          rw [HBW.out.cell (p := ⟨ib, _, none⟩) hib] at hid
          rw [HBW.out.cell (p := ⟨qb, _, none⟩) hqb] at hrv
          exact ⟨HT.out.2.1, HT.out.2.2, hid, hrv⟩
        clear c3 c4 hid hrv
        obtain ⟨xs, hTW, hrl', hjl'⟩ := HTW.out
        have HLL : Hid (rl = ((rs0.drop 1).take i').length ∧ jl = (idsN 2 i').length) := ⟨hrl', hjl'⟩
        have HTW' : Hid (Two w3.heap.size w3 (fun k => okc k ∧ k < w.heap.size) (.slice ra rl rc) xs (.slice ja jl jc) (idsN 2 i') ((rs0.drop 1).take i') wr) := hTW
        clear hTW hrl' hjl' HTW
        refine wp_region_to (l := [_, _, _, _, _, _, _, _, _, _, _, _, _, _, _, _, _, _, _]) [(true, 0), (true, 1), (true, 2), (true, 3), (true, 4), (true, 5), (true, 6), (true, 7), (true, 10), (true, 11), (true, 12), (true, 13), (true, 14), (true, 15), (true, 16), (true, 17)] (fun W => W.cell? ⟨bt, 3, none⟩ = some (.slice (some ⟨ib, io, none⟩) (m + 1) dc) ∧ W.cell? ⟨bt, 4, none⟩ = some (.slice (some ⟨qb, qo, none⟩) (m + 1) qc) ∧ W.cell? ⟨ib, io + q, none⟩ = some (.int .i64 id) ∧ W.cell? ⟨qb, qo + q, none⟩ = some (.slice va vn vc)) #[true, true, true, true, true, true, true, true, false, false, true, true, true, true, true, true, true, true, false] (by kernel_rfl) (by kernel_rfl) (HS.out _ HBW.out.drew) ?_
        generalize hwd : World.drew _ = wd
        have HTd : Hid (Two w3.heap.size w3 (fun k => okc k ∧ k < w.heap.size) (.slice ra rl rc) xs (.slice ja jl jc) (idsN 2 i') ((rs0.drop 1).take i') wd ∧ Arr wd (fun b => okc b ∧ b < w.heap.size) (.slice va vn vc) 4 ((rs0.getD (i' + 1) []).map V.list)) := by rw [← hwd]; exact ⟨HTW'.out.ext hsr (Below.refl _ _).drew, HROW.out.ext (Below.refl _ _).drew⟩
        have HBd : Hid (Below w.heap.size w wd) := by rw [← hwd]; exact HBW.out.drew
        have hsd : w3.heap.size ≤ wd.heap.size := by rw [← hwd]; exact hsr
        clear hwd HTW' HROW HBW HB hsr
        repeat (first | ((first | refine wpCan_q (v := ?_) rfl rfl rfl ?_ ?_ | refine wpCan_qg (v := ?_) rfl rfl (by rfl) ?_ ?_); rotate_left; (focus (rintro W ⟨q1, q2, q3, q4⟩; go_simp; first | done | exact rfl)); simp only [Act.put, List.setIfInBounds_toArray, List.set_cons_zero, List.set_cons_succ]) | (refine wpCan_skip rfl rfl (by rfl) ?_; simp only [Act.put, List.setIfInBounds_toArray, List.set_cons_zero, List.set_cons_succ]))
        refine wpCan_nil ?_
        intro hS
        clear hS
        refine wpAnyH_two (i := 8) (j := 18) (by kernel_rfl) rfl (by rfl) rfl (by rfl) (fun K hK => ?_) (fun K hK => ?_)
        · have HBWwd : Hid (Below w.heap.size w wd) := HBd
          have HTwd := HTd
          go_simp
          generalize hww4 : World.alloc _ _ = w4
          have HN1 : Hid (w4.heap[wd.heap.size]? = some (.cells #[.int .i64 id] 2 (0, 0))) := by rw [← hww4]; exact heap_alloc_new _ _
          have HBw4 : Hid (Below wd.heap.size wd w4) := by rw [← hww4]; exact below_alloc _ _
          have hsw4 : wd.heap.size + 1 ≤ w4.heap.size := by rw [← hww4]; simp
          clear hww4
          have HTw4 : Hid (Two w3.heap.size w3 (fun k => okc k ∧ k < w.heap.size) (.slice ra rl rc) xs (.slice ja jl jc) (idsN 2 i') ((rs0.drop 1).take i') w4 ∧ Arr w4 (fun b => okc b ∧ b < w.heap.size) (.slice va vn vc) 4 ((rs0.getD (i' + 1) []).map V.list)) := ⟨HTwd.out.1.ext (by omega) HBw4.out, HTwd.out.2.ext HBw4.out⟩
          have HBWw4 : Hid (Below w.heap.size w w4) := HBWwd.out.trans (HBw4.out.mono HBWwd.out.size)
          refine hK _ _ ⟨HS.out _ HBWw4.out, ?_⟩
          clear hK K
          try simp only [Act.put, List.setIfInBounds_toArray, List.set_cons_zero, List.set_cons_succ]
          refine wpAnyH_two (i := 9) (j := 18) (by kernel_rfl) rfl (by rfl) rfl (by rfl) (fun K hK => ?_) (fun K hK => ?_)
          · have HOI : Hid (w4.ownsRow w3.heap.size 2 1 (.slice ja jl jc) jl ((idsN 2 i').map (Value.int .i64))) := by have h := HTw4.out.1.iown; rw [← HLL.out.2] at h; exact h
            refine wp_app1 w3.heap.size rfl Yaed.underlying81 info2 rfl rfl HOI.out HN1.out rfl ?_ (by omega) (by omega) (by omega) (by omega) ?_
            · intro u hu; simp at hu; subst hu; rfl
            intro g5 cap5 w5 hown hgr hat hlt
            have hk5 := keep_grown hgr
            have HTw5 : Hid (Two w3.heap.size w3 (fun k => okc k ∧ k < w.heap.size) (.slice ra rl rc) xs (.slice (some ⟨g5, 0, none⟩) (jl + 1) cap5) (idsN 2 (i' + 1)) ((rs0.drop 1).take i') w5 ∧ Arr w5 (fun b => okc b ∧ b < w.heap.size) (.slice va vn vc) 4 ((rs0.getD (i' + 1) []).map V.list)) := by
              refine ⟨?_, HTw4.out.2.keep hk5 (fun b hb => ⟨HTw4.out.1.old b hb, fun e => HTw4.out.1.iM b e.symm hb⟩)⟩
              rw [idsN_succ, HLL.out.2, show (2 : Int) + (i' : Nat) = id by rw [← HID.out]; omega]
              rw [HLL.out.2] at hown
              exact HTw4.out.1.appI (by omega) (by simpa using hown) hgr hat
            have HBWw5 : Hid (Below w.heap.size w w5) := HBWw4.out.trans (hk5.below (fun k hk => ⟨by omega, fun e => by have := (HTw4.out.1.ilt e.symm).1; omega⟩))
            have hsw5 : w4.heap.size ≤ w5.heap.size := hgr.size
            clear hown hgr hat hlt hk5 HOI
            refine hK _ _ ⟨HS.out _ HBWw5.out, ?_⟩
            clear hK K
            try simp only [Act.put, List.setIfInBounds_toArray, List.set_cons_zero, List.set_cons_succ]
            refine wpAnyH_of_can (by kernel_rfl) [(false, 18)] _ _ _ _ (by simp) (by kernel_rfl) (HS.out _ HBWw5.out) ?_
            refine wpCan_e rfl rfl (fun K hK => ?_)
            go_simp
            generalize hww6 : World.alloc _ _ = w6
            have HN2 : Hid (w6.heap[w5.heap.size]? = some (.cells #[.slice va vn vc] 94 (0, 0))) := by rw [← hww6]; exact heap_alloc_new _ _
            have HBw6 : Hid (Below w5.heap.size w5 w6) := by rw [← hww6]; exact below_alloc _ _
            have hsw6 : w5.heap.size + 1 ≤ w6.heap.size := by rw [← hww6]; simp
            clear hww6
            have HTw6 : Hid (Two w3.heap.size w3 (fun k => okc k ∧ k < w.heap.size) (.slice ra rl rc) xs (.slice (some ⟨g5, 0, none⟩) (jl + 1) cap5) (idsN 2 (i' + 1)) ((rs0.drop 1).take i') w6 ∧ Arr w6 (fun b => okc b ∧ b < w.heap.size) (.slice va vn vc) 4 ((rs0.getD (i' + 1) []).map V.list)) := ⟨HTw5.out.1.ext (by omega) HBw6.out, HTw5.out.2.ext HBw6.out⟩
            have HBWw6 : Hid (Below w.heap.size w w6) := HBWw5.out.trans (HBw6.out.mono HBWw5.out.size)
            refine hK _ _ ⟨HS.out _ HBWw6.out, ?_⟩
            clear hK K
            try simp only [Act.put, List.setIfInBounds_toArray, List.set_cons_zero, List.set_cons_succ]
            refine wpCan_nil ?_
            have HOR : Hid (w6.ownsRow w3.heap.size 94 1 (.slice ra rl rc) rl xs) := by have h := HTw6.out.1.rown; rw [← HLL.out.1] at h; exact h
            go_wp2_with (at_builtin; go_must (refine wpList_app1 w3.heap.size rfl rfl Yaed.underlying22 info94 rfl rfl HOR.out HN2.out (by rfl) (by intro u hu; simp at hu; subst hu; rfl) (by omega) (by omega) (by omega) (by omega) ?_))
            intro g6 cap6 w8 hown6 hgrow6 hat6 hlt6
            have HT8 : Hid (Two w3.heap.size w3 (fun k => okc k ∧ k < w.heap.size) (.slice (some ⟨g6, 0, none⟩) (rl + 1) cap6) (xs ++ [.slice va vn vc]) (.slice (some ⟨g5, 0, none⟩) (jl + 1) cap5) (idsN 2 (i' + 1)) ((rs0.drop 1).take (i' + 1)) w8) := by
              have e1 : (rs0.drop 1).take (i' + 1) = (rs0.drop 1).take i' ++ [rs0.getD (i' + 1) []] := by
                have hl := HL.out
                have hq := HQ.out
                rw [List.take_succ_eq_append_getElem (by rw [List.length_drop]; omega), getD_of_lt _ _ _ (by omega)]
                congr 2
                rw [List.getElem_drop]
                congr 1
                omega
              rw [e1, HLL.out.1]
              rw [HLL.out.1] at hown6
              exact HTw6.out.1.appR (by omega) HTw6.out.2 (by simpa using hown6) hgrow6 hat6
            clear hown6 hgrow6 hat6 hlt6 HOR
            have HB8 : Hid (Below w3.heap.size w3 w8) := HT8.out.bel
            have hq8 := HQ.out
            go_wp2_with fail
            go_roundw
            case rel =>
              refine ⟨i' + 1 + 1, by omega, by subst hq8; go_num, HB8, .inr ⟨i' + 1, rfl, rfl, some ⟨g6, 0, none⟩, rl + 1, cap6, some ⟨g5, 0, none⟩, jl + 1, cap5, rfl, rfl, ?_, ?_, _, HT8.out, ?_, ?_⟩⟩
              · have h1 := HLL.out.1
                rw [List.length_take] at h1
                omega
              · have h1 := HLL.out.2
                rw [idsN_len] at h1
                omega
              · have h1 := HLL.out.1
                have hl := HL.out
                rw [List.length_take, List.length_drop] at h1 ⊢
                omega
              · have h1 := HLL.out.2
                rw [idsN_len] at h1 ⊢
                omega
            case measure => simp [intOf]; omega
          · go_simp
            generalize hww5 : World.alloc _ _ = w5
            have HN2 : Hid (w5.heap[w4.heap.size]? = some (.cells #[.slice va vn vc] 94 (0, 0))) := by rw [← hww5]; exact heap_alloc_new _ _
            have HBw5 : Hid (Below w4.heap.size w4 w5) := by rw [← hww5]; exact below_alloc _ _
            have hsw5 : w4.heap.size + 1 ≤ w5.heap.size := by rw [← hww5]; simp
            clear hww5
            have HTw5 : Hid (Two w3.heap.size w3 (fun k => okc k ∧ k < w.heap.size) (.slice ra rl rc) xs (.slice ja jl jc) (idsN 2 i') ((rs0.drop 1).take i') w5 ∧ Arr w5 (fun b => okc b ∧ b < w.heap.size) (.slice va vn vc) 4 ((rs0.getD (i' + 1) []).map V.list)) := ⟨HTw4.out.1.ext (by omega) HBw5.out, HTw4.out.2.ext HBw5.out⟩
            have HBWw5 : Hid (Below w.heap.size w w5) := HBWw4.out.trans (HBw5.out.mono HBWw4.out.size)
            refine hK _ _ ⟨HS.out _ HBWw5.out, ?_⟩
            clear hK K
            try simp only [Act.put, List.setIfInBounds_toArray, List.set_cons_zero, List.set_cons_succ]
            replace HN1 : Hid (w5.heap[wd.heap.size]? = some (.cells #[.int .i64 id] 2 (0, 0))) := (HBw5.out.block _ (by omega)).trans HN1.out
            refine wpAnyH_of_can (by kernel_rfl) [(false, 9)] _ _ _ _ (by simp) (by kernel_rfl) (HS.out _ HBWw5.out) ?_
            refine wpCan_e rfl rfl (fun K hK => ?_)
            have HOI : Hid (w5.ownsRow w3.heap.size 2 1 (.slice ja jl jc) jl ((idsN 2 i').map (Value.int .i64))) := by have h := HTw5.out.1.iown; rw [← HLL.out.2] at h; exact h
            refine wp_app1 w3.heap.size rfl Yaed.underlying81 info2 rfl rfl HOI.out HN1.out rfl ?_ (by omega) (by omega) (by omega) (by omega) ?_
            · intro u hu; simp at hu; subst hu; rfl
            intro g5 cap5 w6 hown hgr hat hlt
            have hk5 := keep_grown hgr
            have HTw6 : Hid (Two w3.heap.size w3 (fun k => okc k ∧ k < w.heap.size) (.slice ra rl rc) xs (.slice (some ⟨g5, 0, none⟩) (jl + 1) cap5) (idsN 2 (i' + 1)) ((rs0.drop 1).take i') w6 ∧ Arr w6 (fun b => okc b ∧ b < w.heap.size) (.slice va vn vc) 4 ((rs0.getD (i' + 1) []).map V.list)) := by
              refine ⟨?_, HTw5.out.2.keep hk5 (fun b hb => ⟨HTw5.out.1.old b hb, fun e => HTw5.out.1.iM b e.symm hb⟩)⟩
              rw [idsN_succ, HLL.out.2, show (2 : Int) + (i' : Nat) = id by rw [← HID.out]; omega]
              rw [HLL.out.2] at hown
              exact HTw5.out.1.appI (by omega) (by simpa using hown) hgr hat
            have HBWw6 : Hid (Below w.heap.size w w6) := HBWw5.out.trans (hk5.below (fun k hk => ⟨by omega, fun e => by have := (HTw5.out.1.ilt e.symm).1; omega⟩))
            have hsw6 : w5.heap.size ≤ w6.heap.size := hgr.size
            have HN2' : Hid (w6.heap[w4.heap.size]? = some (.cells #[.slice va vn vc] 94 (0, 0))) := (hgr.block _ (by omega) (fun e => by have := (HTd.out.1.ilt e.symm).2; omega)).trans HN2.out
            clear hown hgr hat hlt hk5 HOI
            refine hK _ _ ⟨HS.out _ HBWw6.out, ?_⟩
            clear hK K
            try simp only [Act.put, List.setIfInBounds_toArray, List.set_cons_zero, List.set_cons_succ]
            refine wpCan_nil ?_
            have HOR : Hid (w6.ownsRow w3.heap.size 94 1 (.slice ra rl rc) rl xs) := by have h := HTw6.out.1.rown; rw [← HLL.out.1] at h; exact h
            go_wp2_with (at_builtin; go_must (refine wpList_app1 w3.heap.size rfl rfl Yaed.underlying22 info94 rfl rfl HOR.out HN2'.out (by rfl) (by intro u hu; simp at hu; subst hu; rfl) (by omega) (by omega) (by omega) (by omega) ?_))
            intro g6 cap6 w8 hown6 hgrow6 hat6 hlt6
            have HT8 : Hid (Two w3.heap.size w3 (fun k => okc k ∧ k < w.heap.size) (.slice (some ⟨g6, 0, none⟩) (rl + 1) cap6) (xs ++ [.slice va vn vc]) (.slice (some ⟨g5, 0, none⟩) (jl + 1) cap5) (idsN 2 (i' + 1)) ((rs0.drop 1).take (i' + 1)) w8) := by
              have e1 : (rs0.drop 1).take (i' + 1) = (rs0.drop 1).take i' ++ [rs0.getD (i' + 1) []] := by
                have hl := HL.out
                have hq := HQ.out
                rw [List.take_succ_eq_append_getElem (by rw [List.length_drop]; omega), getD_of_lt _ _ _ (by omega)]
                congr 2
                rw [List.getElem_drop]
                congr 1
                omega
              rw [e1, HLL.out.1]
              rw [HLL.out.1] at hown6
              exact HTw6.out.1.appR (by omega) HTw6.out.2 (by simpa using hown6) hgrow6 hat6
            clear hown6 hgrow6 hat6 hlt6 HOR
            have HB8 : Hid (Below w3.heap.size w3 w8) := HT8.out.bel
            have hq8 := HQ.out
            go_wp2_with fail
            go_roundw
            case rel =>
              refine ⟨i' + 1 + 1, by omega, by subst hq8; go_num, HB8, .inr ⟨i' + 1, rfl, rfl, some ⟨g6, 0, none⟩, rl + 1, cap6, some ⟨g5, 0, none⟩, jl + 1, cap5, rfl, rfl, ?_, ?_, _, HT8.out, ?_, ?_⟩⟩
              · have h1 := HLL.out.1
                rw [List.length_take] at h1
                omega
              · have h1 := HLL.out.2
                rw [idsN_len] at h1
                omega
              · have h1 := HLL.out.1
                have hl := HL.out
                rw [List.length_take, List.length_drop] at h1 ⊢
                omega
              · have h1 := HLL.out.2
                rw [idsN_len] at h1 ⊢
                omega
            case measure => simp [intOf]; omega
        · have HBWwd : Hid (Below w.heap.size w wd) := HBd
          have HTwd := HTd
          go_simp
          generalize hww4 : World.alloc _ _ = w4
          have HN2 : Hid (w4.heap[wd.heap.size]? = some (.cells #[.slice va vn vc] 94 (0, 0))) := by rw [← hww4]; exact heap_alloc_new _ _
          have HBw4 : Hid (Below wd.heap.size wd w4) := by rw [← hww4]; exact below_alloc _ _
          have hsw4 : wd.heap.size + 1 ≤ w4.heap.size := by rw [← hww4]; simp
          clear hww4
          have HTw4 : Hid (Two w3.heap.size w3 (fun k => okc k ∧ k < w.heap.size) (.slice ra rl rc) xs (.slice ja jl jc) (idsN 2 i') ((rs0.drop 1).take i') w4 ∧ Arr w4 (fun b => okc b ∧ b < w.heap.size) (.slice va vn vc) 4 ((rs0.getD (i' + 1) []).map V.list)) := ⟨HTwd.out.1.ext (by omega) HBw4.out, HTwd.out.2.ext HBw4.out⟩
          have HBWw4 : Hid (Below w.heap.size w w4) := HBWwd.out.trans (HBw4.out.mono HBWwd.out.size)
          refine hK _ _ ⟨HS.out _ HBWw4.out, ?_⟩
          clear hK K
          try simp only [Act.put, List.setIfInBounds_toArray, List.set_cons_zero, List.set_cons_succ]
          refine wpAnyH_of_can (by kernel_rfl) [(false, 8), (false, 9)] _ _ _ _ (by simp) (by kernel_rfl) (HS.out _ HBWw4.out) ?_
          refine wpCan_e rfl rfl (fun K hK => ?_)
          go_simp
          generalize hww5 : World.alloc _ _ = w5
          have HN1 : Hid (w5.heap[w4.heap.size]? = some (.cells #[.int .i64 id] 2 (0, 0))) := by rw [← hww5]; exact heap_alloc_new _ _
          have HBw5 : Hid (Below w4.heap.size w4 w5) := by rw [← hww5]; exact below_alloc _ _
          have hsw5 : w4.heap.size + 1 ≤ w5.heap.size := by rw [← hww5]; simp
          clear hww5
          replace HN2 : Hid (w5.heap[wd.heap.size]? = some (.cells #[.slice va vn vc] 94 (0, 0))) := (HBw5.out.block _ (by omega)).trans HN2.out
          have HTw5 : Hid (Two w3.heap.size w3 (fun k => okc k ∧ k < w.heap.size) (.slice ra rl rc) xs (.slice ja jl jc) (idsN 2 i') ((rs0.drop 1).take i') w5 ∧ Arr w5 (fun b => okc b ∧ b < w.heap.size) (.slice va vn vc) 4 ((rs0.getD (i' + 1) []).map V.list)) := ⟨HTw4.out.1.ext (by omega) HBw5.out, HTw4.out.2.ext HBw5.out⟩
          have HBWw5 : Hid (Below w.heap.size w w5) := HBWw4.out.trans (HBw5.out.mono HBWw4.out.size)
          refine hK _ _ ⟨HS.out _ HBWw5.out, ?_⟩
          clear hK K
          try simp only [Act.put, List.setIfInBounds_toArray, List.set_cons_zero, List.set_cons_succ]
          refine wpCan_e rfl rfl (fun K hK => ?_)
          have HOI : Hid (w5.ownsRow w3.heap.size 2 1 (.slice ja jl jc) jl ((idsN 2 i').map (Value.int .i64))) := by have h := HTw5.out.1.iown; rw [← HLL.out.2] at h; exact h
          refine wp_app1 w3.heap.size rfl Yaed.underlying81 info2 rfl rfl HOI.out HN1.out rfl ?_ (by omega) (by omega) (by omega) (by omega) ?_
          · intro u hu; simp at hu; subst hu; rfl
          intro g5 cap5 w6 hown hgr hat hlt
          have hk5 := keep_grown hgr
          have HTw6 : Hid (Two w3.heap.size w3 (fun k => okc k ∧ k < w.heap.size) (.slice ra rl rc) xs (.slice (some ⟨g5, 0, none⟩) (jl + 1) cap5) (idsN 2 (i' + 1)) ((rs0.drop 1).take i') w6 ∧ Arr w6 (fun b => okc b ∧ b < w.heap.size) (.slice va vn vc) 4 ((rs0.getD (i' + 1) []).map V.list)) := by
            refine ⟨?_, HTw5.out.2.keep hk5 (fun b hb => ⟨HTw5.out.1.old b hb, fun e => HTw5.out.1.iM b e.symm hb⟩)⟩
            rw [idsN_succ, HLL.out.2, show (2 : Int) + (i' : Nat) = id by rw [← HID.out]; omega]
            rw [HLL.out.2] at hown
            exact HTw5.out.1.appI (by omega) (by simpa using hown) hgr hat
          have HBWw6 : Hid (Below w.heap.size w w6) := HBWw5.out.trans (hk5.below (fun k hk => ⟨by omega, fun e => by have := (HTw5.out.1.ilt e.symm).1; omega⟩))
          have hsw6 : w5.heap.size ≤ w6.heap.size := hgr.size
          have HN2' : Hid (w6.heap[wd.heap.size]? = some (.cells #[.slice va vn vc] 94 (0, 0))) := (hgr.block _ (by omega) (fun e => by have := (HTd.out.1.ilt e.symm).2; omega)).trans HN2.out
          clear hown hgr hat hlt hk5 HOI
          refine hK _ _ ⟨HS.out _ HBWw6.out, ?_⟩
          clear hK K
          try simp only [Act.put, List.setIfInBounds_toArray, List.set_cons_zero, List.set_cons_succ]
          refine wpCan_nil ?_
          have HOR : Hid (w6.ownsRow w3.heap.size 94 1 (.slice ra rl rc) rl xs) := by have h := HTw6.out.1.rown; rw [← HLL.out.1] at h; exact h
          go_wp2_with (at_builtin; go_must (refine wpList_app1 w3.heap.size rfl rfl Yaed.underlying22 info94 rfl rfl HOR.out HN2'.out (by rfl) (by intro u hu; simp at hu; subst hu; rfl) (by omega) (by omega) (by omega) (by omega) ?_))
          intro g6 cap6 w8 hown6 hgrow6 hat6 hlt6
          have HT8 : Hid (Two w3.heap.size w3 (fun k => okc k ∧ k < w.heap.size) (.slice (some ⟨g6, 0, none⟩) (rl + 1) cap6) (xs ++ [.slice va vn vc]) (.slice (some ⟨g5, 0, none⟩) (jl + 1) cap5) (idsN 2 (i' + 1)) ((rs0.drop 1).take (i' + 1)) w8) := by
            have e1 : (rs0.drop 1).take (i' + 1) = (rs0.drop 1).take i' ++ [rs0.getD (i' + 1) []] := by
              have hl := HL.out
              have hq := HQ.out
              rw [List.take_succ_eq_append_getElem (by rw [List.length_drop]; omega), getD_of_lt _ _ _ (by omega)]
              congr 2
              rw [List.getElem_drop]
              congr 1
              omega
            rw [e1, HLL.out.1]
            rw [HLL.out.1] at hown6
            exact HTw6.out.1.appR (by omega) HTw6.out.2 (by simpa using hown6) hgrow6 hat6
          clear hown6 hgrow6 hat6 hlt6 HOR
          have HB8 : Hid (Below w3.heap.size w3 w8) := HT8.out.bel
          have hq8 := HQ.out
          go_wp2_with fail
          go_roundw
          case rel =>
            refine ⟨i' + 1 + 1, by omega, by subst hq8; go_num, HB8, .inr ⟨i' + 1, rfl, rfl, some ⟨g6, 0, none⟩, rl + 1, cap6, some ⟨g5, 0, none⟩, jl + 1, cap5, rfl, rfl, ?_, ?_, _, HT8.out, ?_, ?_⟩⟩
            · have h1 := HLL.out.1
              rw [List.length_take] at h1
              omega
            · have h1 := HLL.out.2
              rw [idsN_len] at h1
              omega
            · have h1 := HLL.out.1
              have hl := HL.out
              rw [List.length_take, List.length_drop] at h1 ⊢
              omega
            · have h1 := HLL.out.2
              rw [idsN_len] at h1 ⊢
              omega
          case measure => simp [intOf]; omega
    · obtain rfl : i = m + 1 := by omega
      rcases hcase with ⟨h, _⟩ | ⟨i', hi', rfl, ra, rl, rc, ja, jl, jc, rfl, rfl, hrl, hjl, HTW⟩
      · exact absurd h (by omega)
      obtain rfl : m = i' := by omega
      obtain ⟨xs, hTW, hrl', hjl'⟩ := HTW.out
      have HTW' : Hid (Two w3.heap.size w3 (fun k => okc k ∧ k < w.heap.size) (.slice ra rl rc) xs (.slice ja jl jc) (idsN 2 m) (rs0.drop 1) wr) := by
        rw [List.take_of_length_le (by rw [List.length_drop, HL.out]; omega)] at hTW
        exact hTW
      clear hTW hrl' hjl' HTW
      have hdb8 := HDB.out.ext HBW.out
      obtain ⟨_, _, _, c3, c4, _, hfz⟩ := hdb8.tfacts
      have f3 := hfz 3
      have f4 := hfz 4
      simp only at c3 c4
      clear hdb8 hfz
      go_wp2_with (refine wpList_put (ty := 76) (g := w.heap.size) rfl rfl rfl rfl size76 (by kernel_rfl) ?_ ?_)
      · obtain ⟨z, h1, h2⟩ := HB3.out.2
        exact ⟨z, (heap_set_ne (by omega) _).trans ((heap_set_ne (by omega) _).trans ((HB.out.block _ (by omega)).trans h1)), h2⟩
      intro w9 h9 k9 s9
      go_wp2_with fail
      have hk9 : Keep (fun k => k ≠ bt ∧ k ≠ w.heap.size) wr w9 := ((Keep.refl.setCell (p := ⟨bt, 3, none⟩) (fun hh => hh.1 rfl) _).setCell (p := ⟨bt, 4, none⟩) (fun hh => hh.1 rfl) _).trans (k9.mono (fun k hk => hk.2))
      have hout := HTW'.out.out
      refine bodyPost_ret (results_cell_row rfl _ _ _ _ _ _ _ rfl h9 Yaed.underlying76 rfl size76) rfl ⟨⟨ja, jl, jc⟩, ⟨ra, rl, rc⟩, rfl, ?_, ?_, ?_, ?_⟩
      · have hd := HDB.out.ext HBW.out
        obtain ⟨cur, h1, h2⟩ := hd.tb
        refine ⟨(hk9.block _ ⟨hd.ne, by omega⟩).trans hd.db, ⟨_, (k9.block _ (by show bt ≠ w.heap.size; omega)).trans (heap_set (heap_set h1 _) _), ?_⟩, hd.ne, hd.cap⟩
        exact take6_set (take6_set h2 3 (by omega) _ rfl) 4 (by omega) _ rfl
      · exact (hout.1.keep hk9 (fun b hb => by show b ≠ bt ∧ b ≠ w.heap.size; omega)).mono (fun b hb => by show w.heap.size ≤ b; omega)
      · refine (hout.2.keep hk9 (fun b hb => ?_)).mono (fun b hb => ?_)
        · show b ≠ bt ∧ b ≠ w.heap.size
          rcases hb with hb | hb
          · omega
          · exact ⟨HOKC.out b hb.1, by omega⟩
        · show okc b ∨ w.heap.size ≤ b
          rcases hb with hb | hb
          · exact .inr (by omega)
          · exact .inl hb.1
      · exact (Keep.of_below HBW.out (fun k hk => hk.1)).trans (hk9.mono (fun k hk => ⟨hk.2, by omega⟩))
end Go.Proofs.YgdaegDoor
