import Derived.Test.YgdaegDoorInsA
namespace Go.Proofs.YgdaegDoor
open Go.RowKit
set_option linter.unusedSimpArgs false
set_option linter.unusedVariables false
theorem sing_flat {α : Type} : ∀ (l : List α), (l.map fun x => [x]).flatten = l
  | [] => rfl
  | x :: l => by
    show [x] ++ (l.map fun x => [x]).flatten = _
    rw [sing_flat l]
    rfl
theorem ownsRow_base {w : World} {base base' : Nat} {e : TypeId} {size : Nat} {v : Value} {n : Nat} {xs : List Value} (h : w.ownsRow base e size v n xs) (hb : base' ≤ base) : w.ownsRow base' e size v n xs := by
  refine ⟨h.1, ?_⟩
  rcases h.2 with hn | ⟨g, cap, cur, rfl, h1, h2⟩
  · exact .inl hn
  · exact .inr ⟨g, cap, cur, rfl, by omega, h2⟩
theorem Arr.inb {w : World} {ok : Nat → Prop} {v : Value} {k : Nat} {rows : List (List Value)} (h : Arr w ok v k rows) : Arr w (fun b => ok b ∧ b < w.heap.size) v k rows := by
  obtain ⟨a, c, h1, h2, h3⟩ := h
  refine ⟨a, c, h1, h2, fun i hi => ?_⟩
  obtain ⟨b, o, e, hb, hlt, hc⟩ := h3 i hi
  exact ⟨b, o, e, ⟨hb, hlt⟩, hlt, hc⟩
set_option maxRecDepth 20000 in
set_option maxHeartbeats 8000000 in
/-- INSERT into a table that holds rows. -/
theorem insert_more {ok okc : Nat → Prop} (n : Nat) (hn0 : 1 ≤ n) (hn4 : n ≤ 4) (rs : List (List V)) (hrs : ∀ r ∈ rs, r.length = n) (hm0 : 1 ≤ rs.length) (pre : List Int) (lst : Int) (hlst0 : 0 ≤ lst) (hlst : lst ≤ 1000) (rs0 : List (List V)) (hL : rs0.length = pre.length + 1) (hm : rs0.length + rs.length ≤ 32) (ps bd bt tc : Nat) (t : T) (s : St) (ns : List ByteArray) (hns : ns.length = n) (w : World)
    (h : SAt w ok ps s (tlN rs.length n) (paramsE rs) []) (hdb : DB1 w bd bt tc t) (hti : Arr w okc t.ids.v 1 (idsL (pre ++ [lst]))) (htr : Arr2 w okc t.rows.v 4 (rowsL rs0)) (hokc : ∀ b, okc b → b ≠ bt) (hc : Arr w okc t.cols.v 3 (ns.map colL)) (hps : ps ≠ bt)
    (hU : ∀ rv w1, Below w.heap.size w w1 → Calls Yaed.prog 221 #[t.cols.v, rv, t.idx.v] w1 fun r w2 => r = .returned (.bool true) ∧ Below w1.heap.size w1 w2) :
    Calls Yaed.prog 216 #[.pointer (some ⟨bd, 0, none⟩), .pointer (some ⟨ps, 0, none⟩), .int .i64 0] w fun r w' => ∃ ds rr : Sl, r = .returned (resV 0 rs.length nilS) ∧ DB1 w' bd bt tc { t with ids := ds, rows := rr } ∧
      Arr w' (fun b => w.heap.size ≤ b) ds.v 1 (idsL ((pre ++ [lst]) ++ idsN (lst + 1) rs.length)) ∧ Arr2 w' (fun b => okc b ∨ w.heap.size ≤ b) rr.v 4 (rowsL (rs0 ++ normR rs)) ∧ Keep (fun k => k < w.heap.size ∧ k ≠ bt) w w' := by
  obtain ⟨tn, ⟨ca, cn, cc⟩, ⟨ia, il, ic⟩, ⟨da, dn, dc⟩, ⟨qa, qn, qc⟩⟩ := t
  simp only [Sl.v] at hc hU hti htr
  obtain ⟨rfl, hcc⟩ : cn = ns.length ∧ ns.length ≤ cc := by
    obtain ⟨a, c, he, hle, _⟩ := hc
    have : cn = (ns.map colL).length ∧ cc = c := by simp at he; simpa using he.2
    rw [List.length_map] at hle
    exact ⟨by simpa using this.1, by rw [this.2]; exact hle⟩
  obtain ⟨l', hl'⟩ : ∃ l', pre.length = l' := ⟨_, rfl⟩
  have HLL' : Hid (pre.length = l' ∧ rs0.length = l' + 1) := ⟨hl', by rw [hL, hl']⟩
  obtain ⟨ib, io, rfl, rfl, hib, hlastc⟩ : ∃ ib io, da = some ⟨ib, io, none⟩ ∧ dn = l' + 1 ∧ ib < w.heap.size ∧ w.cell? ⟨ib, io + l', none⟩ = some (.int .i64 lst) := by
    obtain ⟨a, c, he, _, hcell⟩ := hti
    obtain ⟨rfl, hdn, rfl⟩ : da = a ∧ dn = (idsL (pre ++ [lst])).length ∧ dc = c := by simpa using he
    obtain ⟨b, o, rfl, _, hb, hcc⟩ := hcell l' (by simp [idsL, hl'])
    refine ⟨b, o, rfl, by simpa [idsL, hl'] using hdn, hb, ?_⟩
    have h0 := hcc 0 (by omega)
    subst hl'
    simpa [idsL, List.getD_eq_getElem?_getD] using h0
  obtain rfl : qn = l' + 1 := by
    obtain ⟨vs, hv, hA, _⟩ := htr
    obtain ⟨a, c, he, _⟩ := hA
    have : qn = (vs.map fun x => [x]).length := by simp at he; simpa using he.2.1
    rw [this, List.length_map, hv, rowsL, List.length_map, hL, hl']
  have HTI : Hid (Arr w okc (.slice (some ⟨ib, io, none⟩) (l' + 1) dc) 1 (idsL (pre ++ [lst]))) := hti
  have HTR : Hid (Arr2 w okc (.slice qa (l' + 1) qc) 4 (rowsL rs0)) := htr
  have HOKC : Hid (∀ b, okc b → b ≠ bt) := hokc
  have HLC : Hid (w.cell? ⟨ib, io + l', none⟩ = some (.int .i64 lst)) := hlastc
  have hm32 : l' + 1 + rs.length ≤ 32 := by rw [hL, hl'] at hm; exact hm
  clear hti htr hokc hlastc hm hL hl'
  have hm : rs.length ≤ 32 := by omega
  obtain ⟨n', rfl⟩ : ∃ n', n = n' + 1 := ⟨n - 1, by omega⟩
  rw [hns] at hdb hc hU
  have HNS : Hid (ns.length = n' + 1) := hns
  have HDB : Hid (DB1 w bd bt tc ⟨tn, ⟨ca, n' + 1, cc⟩, ⟨ia, il, ic⟩, ⟨some ⟨ib, io, none⟩, l' + 1, dc⟩, ⟨qa, l' + 1, qc⟩⟩) := hdb
  have HC : Hid (Arr w okc (.slice ca (n' + 1) cc) 3 (ns.map colL)) := hc
  have HU : Hid (∀ rv w1, Below w.heap.size w w1 → Calls Yaed.prog 221 #[.slice ca (n' + 1) cc, rv, .slice ia il ic] w1 fun r w2 => r = .returned (.bool true) ∧ Below w1.heap.size w1 w2) := hU
  have HRS : Hid (∀ r ∈ rs, r.length = n' + 1) := hrs
  have HST : Hid (StAt w ps s) := h.at_
  obtain ⟨ta, tcap, htup, htc⟩ := tup_cells h.tup (by omega)
  obtain ⟨ab, ao, acap, harn, hall, hpar⟩ := param_at hrs hm0 (by omega) h.arena
  have HTU : Hid (∀ j, j < rs.length → ∃ b o tb to_ tc, ta = some ⟨b, o, none⟩ ∧ b < w.heap.size ∧ w.cell? ⟨b, o + j, none⟩ = some (.slice (some ⟨tb, to_, none⟩) (n' + 1) tc) ∧ tb < w.heap.size ∧
      ∀ i, i < n' + 1 → w.cell? ⟨tb, to_ + i, none⟩ = some (.int .i16 ((j * (n' + 1) + i : Nat) : Int))) := htc
  have HALL : Hid (∀ x, x < rs.length * (n' + 1) → ∃ v, NodeAt w ab (ao + x * 12) (leafE 4 v)) := hall
  have HPAR : Hid (∀ j i, j < rs.length → i < n' + 1 → NodeAt w ab (ao + (j * (n' + 1) + i) * 12) (leafE 4 (norm ((rs.getD j []).getD i V0)))) := hpar
  have HSZ : Hid (rs.length * (n' + 1) ≤ 128) := Nat.mul_le_mul hm hn4
  obtain ⟨N, hN⟩ : ∃ N, rs.length * (n' + 1) = N := ⟨_, rfl⟩
  rw [hN] at harn HALL HSZ
  have HN : Hid (rs.length * (n' + 1) = N) := hN
  have hN128 : N ≤ 128 := HSZ.out
  have hsp := h.at_.lt
  have hbd := hdb.lt
  have hbt := hdb.lt'
  have hbdn : ¬ bd = w.heap.size := by omega
  have hpsn : ¬ ps = w.heap.size := by omega
  have hbtn : ¬ bt = w.heap.size := by omega
  have e9 : w.cell? ⟨ps, 9, none⟩ = some (.slice ta rs.length tcap) := by rw [← htup]; exact h.at_.cell 9
  have e18 : w.cell? ⟨ps, 18, none⟩ = some (.slice (some ⟨ab, ao, none⟩) N acap) := by rw [← harn]; exact h.at_.cell 18
  have HE : Hid (w.cell? ⟨ps, 9, none⟩ = some (.slice ta rs.length tcap) ∧ w.cell? ⟨ps, 18, none⟩ = some (.slice (some ⟨ab, ao, none⟩) N acap)) := ⟨e9, e18⟩
  have hab : ab < w.heap.size := by
    obtain ⟨v, hv⟩ := hall 0 (Nat.mul_pos hm0 (by omega))
    exact hv.1
  obtain ⟨d0, _⟩ := hdb.dfacts
  obtain ⟨t0, t1, t2, t3, t4, t5, _⟩ := hdb.tfacts
  simp only at t0 t1 t2 t3 t4
  have HT : Hid (w.cell? ⟨bt, 1, none⟩ = some (.slice ca (n' + 1) cc) ∧ w.cell? ⟨bt, 2, none⟩ = some (.slice ia il ic) ∧ w.cell? ⟨bt, 3, none⟩ = some (.slice (some ⟨ib, io, none⟩) (l' + 1) dc) ∧ w.cell? ⟨bt, 4, none⟩ = some (.slice qa (l' + 1) qc)) := ⟨t1, t2, t3, t4⟩
  clear hns h hdb hc hU hrs htc hall hpar htup harn hN e18 t0 t1 t2 t3 t4 t5
  generalize hmm : rs.length = m at *
  have HM : Hid (rs.length = m) := hmm
  clear hmm
  go_enter Yaed.func216, Yaed.ntmps216
  go_wp2_with fail
  clear d0 e9
  generalize hw1 : World.alloc _ _ = w1
  have HB1 : Hid (Below w.heap.size w w1 ∧ ∃ z, w1.heap[w.heap.size]? = some (.cells z 76 (0, 0)) ∧ z.size = 3) := by rw [← hw1]; exact ⟨below_alloc _ _, _, heap_alloc_new _ _, rfl⟩
  have hs1 : w.heap.size + 1 ≤ w1.heap.size := by rw [← hw1]; simp
  clear hw1
  go_loopw [34, 8] (fun c f wr => ∃ j fx : Nat, j ≤ m ∧ c = .int .i64 j ∧ f = .int .i64 fx ∧ Hid (fx = j * (n' + 1)) ∧ Hid (Below w1.heap.size w1 wr)) (fun c _ _ => m - (intOf c).toNat)
  case atStart => exact ⟨0, 0, Nat.zero_le _, rfl, rfl, (Nat.zero_mul _).symm, Below.refl _ _⟩
  case round =>
    obtain ⟨j, fx, hj, rfl, rfl, HFX, HB⟩ := hrel
    have HBW : Hid (Below w.heap.size w wr) := HB1.out.1.trans (HB.out.mono (by omega))
    have hsr := HB.out.size
    by_cases hjm : j < m
    · obtain ⟨b, o, tb, to_, tcc, rfl, hb, hcell, htb, htci⟩ := HTU.out j hjm
      obtain ⟨x, hx⟩ : ∃ x, j * (n' + 1) + n' = x := ⟨_, rfl⟩
      have hlast := htci n' (by omega)
      rw [hx] at hlast
      have hxN : x < N := by
        rw [← HN.out, ← hx]
        have : (j + 1) * (n' + 1) ≤ m * (n' + 1) := Nat.mul_le_mul_right _ hjm
        rw [Nat.succ_mul] at this
        omega
      have HX : Hid (j * (n' + 1) + n' = x) := hx
      rw [← HBW.out.cell (p := ⟨b, _, none⟩) hb] at hcell
      rw [← HBW.out.cell (p := ⟨tb, _, none⟩) htb] at hlast
      have e1 : wr.cell? ⟨bt, 1, none⟩ = some (.slice ca (n' + 1) cc) := by rw [HBW.out.cell (p := ⟨bt, _, none⟩) hbt]; exact HT.out.1
      have e18 : wr.cell? ⟨ps, 18, none⟩ = some (.slice (some ⟨ab, ao, none⟩) N acap) := by rw [HBW.out.cell (p := ⟨ps, _, none⟩) hsp]; exact HE.out.2
      clear htci hx
      have hw1 : IntKind.i64.wrap (n' : Int) = n' := IntWalk.i64_in _ (by omega)
      have hw2 : IntKind.i64.wrap ((x : Int) + 1) = x + 1 := IntWalk.i64_in _ (by omega)
      have hw3 : IntKind.i64.wrap (x : Int) = x := IntWalk.i64_in _ (by omega)
      have hn3 : (n' : Int) < n' + 1 := by omega
      go_wp2_with fail
      refine (checkExprs_params ab ao N acap fx x hxN (by omega) _ false wr (fun i hi => by obtain ⟨v, hv⟩ := HALL.out i hi; exact ⟨v, hv.ext HBW.out⟩)).mono ?_
      rintro e w2 ⟨rfl, rfl⟩
      go_wp2_with fail
      go_roundw
      case rel => exact ⟨j + 1, x + 1, by omega, by go_num, by go_num, by show x + 1 = (j + 1) * (n' + 1); rw [← HX.out, Nat.succ_mul]; omega, HB⟩
      case measure => simp [intOf]; omega
    · obtain rfl : m = j := by omega
      clear HFX hj hjm
      have e9 : wr.cell? ⟨ps, 9, none⟩ = some (.slice ta m tcap) := by rw [HBW.out.cell (p := ⟨ps, _, none⟩) hsp]; exact HE.out.1
      have e3 : wr.cell? ⟨bt, 3, none⟩ = some (.slice (some ⟨ib, io, none⟩) (l' + 1) dc) := by rw [HBW.out.cell (p := ⟨bt, _, none⟩) hbt]; exact HT.out.2.2.1
      have e4 : wr.cell? ⟨bt, 4, none⟩ = some (.slice qa (l' + 1) qc) := by rw [HBW.out.cell (p := ⟨bt, _, none⟩) hbt]; exact HT.out.2.2.2
      have el : wr.cell? ⟨ib, io + l', none⟩ = some (.int .i64 lst) := by rw [HBW.out.cell (p := ⟨ib, _, none⟩) hib]; exact HLC.out
      have hw1 : IntKind.i64.wrap ((l' : Int) + 1 + m) = l' + 1 + m := IntWalk.i64_in _ (by omega)
      have hwl : IntKind.i64.wrap (l' : Int) = l' := IntWalk.i64_in _ (by omega)
      have hw3 : IntKind.i64.wrap (9223372036854775806 - (m : Int)) = 9223372036854775806 - m := IntWalk.i64_in _ (by omega)
      have hw4 : IntKind.i64.wrap (lst + 1) = lst + 1 := IntWalk.i64_in _ (by omega)
      have hgt : ¬ (32 : Int) < l' + 1 + m := by omega
      have hgtd : decide ((32 : Int) < l' + 1 + m) = false := by simp; omega
      have hgtn : decide (32 < l' + 1 + m) = false := by simp; omega
      have hgl : decide (9223372036854775806 - (m : Int) < lst) = false := by simp; omega
      have hgp : decide ((0 : Int) < l' + 1) = true := by first | (simp; done) | (simp; omega)
      have hll : (l' : Int) < l' + 1 := by omega
      go_wp2_with fail
      refine wp_region_can (l := [_, _, _, _, _, _, _, _, _, _, _, _, _, _, _, _, _, _, _, _, _, _, _, _, _, _, _, _, _, _, _, _, _, _, _, _]) [(true, 0), (true, 1), (true, 2), (true, 3), (true, 4), (true, 5), (true, 6), (true, 7), (true, 8), (true, 9), (true, 10), (true, 11), (true, 12), (true, 13), (true, 14), (true, 15), (true, 16), (true, 17), (true, 18), (true, 19), (true, 20), (true, 21), (true, 22), (true, 23), (true, 24), (true, 25), (true, 26), (true, 27), (true, 28), (true, 29), (true, 30), (true, 31), (true, 32), (true, 33), (true, 34), (true, 35)] (fun W => W.cell? ⟨ps, 9, none⟩ = some (.slice ta m tcap) ∧ W.cell? ⟨bt, 3, none⟩ = some (.slice (some ⟨ib, io, none⟩) (l' + 1) dc) ∧ W.cell? ⟨bt, 4, none⟩ = some (.slice qa (l' + 1) qc) ∧ W.cell? ⟨ib, io + l', none⟩ = some (.int .i64 lst)) (by kernel_rfl) (by kernel_rfl) ⟨e9, e3, e4, el⟩ ?_
      repeat (first | ((first | refine wpCan_q (v := ?_) rfl rfl rfl ?_ ?_ | refine wpCan_qg (v := ?_) rfl rfl (by rfl) ?_ ?_); rotate_left; (focus (rintro W ⟨q1, q2, q3, q4⟩; go_simp; first | done | exact rfl)); simp only [Act.put, List.setIfInBounds_toArray, List.set_cons_zero, List.set_cons_succ]) | (refine wpCan_skip rfl rfl (by rfl) ?_; simp only [Act.put, List.setIfInBounds_toArray, List.set_cons_zero, List.set_cons_succ]))
      refine wpCan_nil ?_
      generalize hw2 : World.drew _ = w2
      have HB2 : Hid (Below w1.heap.size w1 w2) := by rw [← hw2]; exact HB.out.drew
      replace e9 : w2.cell? ⟨ps, 9, none⟩ = some (.slice ta m tcap) := by rw [← hw2]; exact e9
      replace e3 : w2.cell? ⟨bt, 3, none⟩ = some (.slice (some ⟨ib, io, none⟩) (l' + 1) dc) := by rw [← hw2]; exact e3
      replace e4 : w2.cell? ⟨bt, 4, none⟩ = some (.slice qa (l' + 1) qc) := by rw [← hw2]; exact e4
      have hs2 : w1.heap.size ≤ w2.heap.size := by rw [← hw2]; exact hsr
      replace el : w2.cell? ⟨ib, io + l', none⟩ = some (.int .i64 lst) := by rw [← hw2]; exact el
      have hbww2 : Below w.heap.size w w2 := HB1.out.1.trans (HB2.out.mono (by omega))
      obtain ⟨vs, hvl, hva, hvi⟩ := HTR.out
      have hvl' : vs.length = l' + 1 := by rw [hvl, rowsL, List.length_map, HLL'.out.2]
      have HVS : Hid (vs.length = l' + 1 ∧ ∀ u ∈ (vs.map fun x => [x]).flatten, u.oneCell' = true) := by
        refine ⟨hvl', fun u hu => ?_⟩
        rw [sing_flat] at hu
        obtain ⟨q, hq, rfl⟩ := List.getElem_of_mem hu
        obtain ⟨a, c, he, _⟩ := hvi q (by rw [← hvl]; exact hq)
        rw [getD_of_lt _ _ _ hq] at he
        rw [he]
        rfl
      have HVA : Hid (Arr w2 okc (.slice qa (l' + 1) qc) 1 (vs.map fun x => [x])) := hva.ext hbww2
      have HVI : Hid (∀ i, i < (rowsL rs0).length → Arr w okc (vs.getD i undef) 4 ((rowsL rs0).getD i [])) := hvi
      have HBW2 : Hid (Below w.heap.size w w2) := hbww2
      clear hvl hva hvi hvl' hbww2
      clear hw2 HBW HB hsr
      go_wp2_with (at_builtin; go_must (refine wpList_appS w2.heap.size rfl rfl Yaed.underlying22 info94 rfl rfl (World.ownsRow_nil _ _ _ _) HVA.out (by intro r hr; simp at hr; obtain ⟨x, _, rfl⟩ := hr; rfl) HVS.out.2 (by omega) (by rw [List.length_map, HVS.out.1]; omega) (by omega) (Nat.le_refl _) ?_))
      intro a5 c5 w5 hown5 hgr5 _
      have hlen5 : vs.length = l' + 1 := HVS.out.1
      simp only [Nat.zero_add, List.nil_append, List.length_map, hlen5, sing_flat] at hown5
      try simp only [Nat.zero_add, List.length_map, hlen5]
      have HB5 : Hid (Below w2.heap.size w2 w5) := ⟨hgr5.os, hgr5.tape, hgr5.output, hgr5.size, fun k hk => hgr5.block k hk (by intro e; cases e)⟩
      have HO5 : Hid (w5.ownsRow w2.heap.size 94 1 (.slice a5 (l' + 1) c5) (l' + 1) vs) := hown5
      have hs5 := HB5.out.size
      clear hown5 hgr5 hlen5
      have hbw2 := HBW2.out.size
      replace e3 : w5.cell? ⟨bt, 3, none⟩ = some (.slice (some ⟨ib, io, none⟩) (l' + 1) dc) := by rw [HB5.out.cell (p := ⟨bt, _, none⟩) (by show bt < w2.heap.size; omega)]; exact e3
      replace e9 : w5.cell? ⟨ps, 9, none⟩ = some (.slice ta m tcap) := by rw [HB5.out.cell (p := ⟨ps, _, none⟩) (by show ps < w2.heap.size; omega)]; exact e9
      have HVD : Hid (Arr w5 okc (.slice (some ⟨ib, io, none⟩) (l' + 1) dc) 1 (idsL (pre ++ [lst]))) := (HTI.out.ext HBW2.out).ext HB5.out
      clear e4 el
      go_wp2_with (at_builtin; go_must (refine wpList_appS w5.heap.size rfl rfl Yaed.underlying81 info2 rfl rfl (World.ownsRow_nil _ _ _ _) HVD.out (one_ids _).1 (one_ids _).2 (by omega) (by simp only [idsL, List.length_map, List.length_append, HLL'.out.1, List.length_cons, List.length_nil]; omega) (by omega) (Nat.le_refl _) ?_))
      intro a6 c6 w6 hown6 hgr6 _
      have hlen6 : (idsL (pre ++ [lst])).length = l' + 1 := by simp [idsL, HLL'.out.1]
      simp only [Nat.zero_add, List.nil_append, hlen6, idsL_flat] at hown6
      try simp only [Nat.zero_add, hlen6]
      have HB6 : Hid (Below w5.heap.size w5 w6) := ⟨hgr6.os, hgr6.tape, hgr6.output, hgr6.size, fun k hk => hgr6.block k hk (by intro e; cases e)⟩
      have HO6 : Hid (w6.ownsRow w5.heap.size 2 1 (.slice a6 (l' + 1) c6) (l' + 1) ((pre ++ [lst]).map (Value.int .i64))) := hown6
      have hs6 := HB6.out.size
      clear hown6 hgr6 hlen6
      replace e9 : w6.cell? ⟨ps, 9, none⟩ = some (.slice ta m tcap) := by rw [HB6.out.cell (p := ⟨ps, _, none⟩) (by show ps < w5.heap.size; omega)]; exact e9
      have HTW0 : Hid (Two w1.heap.size w1 (fun k => okc k ∧ k < w.heap.size) (.slice a5 (l' + 1) c5) vs (.slice a6 (l' + 1) c6) ((pre ++ [lst]) ++ idsN (lst + 1) 0) (rs0 ++ normR (rs.take 0)) w6) := by
        have hl1 : (pre ++ [lst] ++ idsN (lst + 1) 0).length = l' + 1 := by simp [idsN, HLL'.out.1]
        have hl2 : (rs0 ++ normR (rs.take 0)).length = l' + 1 := by simp [normR, HLL'.out.2]
        have e1 : pre ++ [lst] ++ idsN (lst + 1) 0 = pre ++ [lst] := by simp [idsN]
        have e2 : rs0 ++ normR (rs.take 0) = rs0 := by simp [normR]
        refine ⟨fun k hk => by omega, ?_, ?_, fun g hg hM => ?_, fun g hg hM => ?_, fun g hg e => ?_, fun k hk => ?_, HB2.out.trans ((HB5.out.mono hs2).trans (HB6.out.mono (by omega)))⟩
        · rw [hl2]; exact ownsRow_base (ownsRow_ext HO5.out HB6.out) (by omega)
        · rw [hl1, e1]; exact ownsRow_base HO6.out (by omega)
        · have := (HO5.out.lt g hg).1; omega
        · have := (HO6.out.lt g hg).1; omega
        · have h1 := (HO5.out.lt g hg).2; have h2 := (HO6.out.lt g e).1; omega
        · rw [e2] at hk ⊢
          have h1 := HVI.out k (by simpa [rowsL] using hk)
          have e3 : (rowsL rs0).getD k [] = (rs0.getD k []).map V.list := by simp [rowsL, List.getD_eq_getElem?_getD, hk]
          rw [e3] at h1
          exact ((h1.inb.ext HBW2.out).ext HB5.out).ext HB6.out
      go_wp2_with fail
      clear hw1 hgt hgtd hgtn hgl hgp hll hwl hw3 hw4 e9 e3
      go_loopw [142, 14, 16, 17] (fun c nx rv iv wr => ∃ j : Nat, j ≤ m ∧ c = .int .i64 j ∧ nx = .int .i64 (lst + 1 + j) ∧ ∃ ra rl rc ia il ic, rv = .slice ra rl rc ∧ iv = .slice ia il ic ∧ rl ≤ 100 ∧ il ≤ 100 ∧
          Hid (∃ M xs, Two w1.heap.size w1 M (.slice ra rl rc) xs (.slice ia il ic) (pre ++ [lst] ++ idsN (lst + 1) j) (rs0 ++ normR (rs.take j)) wr ∧ rl = (rs0 ++ normR (rs.take j)).length ∧ il = (pre ++ [lst] ++ idsN (lst + 1) j).length ∧ ∀ k, M k → (okc k ∧ k < w.heap.size) ∨ w1.heap.size ≤ k)) (fun c _ _ _ _ => m - (intOf c).toNat)
      case atStart =>
        refine ⟨0, Nat.zero_le _, rfl, by simp, a5, l' + 1, c5, a6, l' + 1, c6, rfl, rfl, by omega, by omega, _, _, HTW0.out, by simp [normR, HLL'.out.2], by simp [idsN, HLL'.out.1], fun k hk => .inl hk⟩
      case round =>
        obtain ⟨j, hj, rfl, rfl, ra, rl, rc, ia', il', ic', rfl, rfl, hrl, hil, HTW⟩ := hrel
        have HBr : Hid (Below w1.heap.size w1 wr) := by obtain ⟨M, xs, h, _⟩ := HTW.out; exact h.bel
        have HBW : Hid (Below w.heap.size w wr) := HB1.out.1.trans (HBr.out.mono (by omega))
        have hsr := HBr.out.size
        by_cases hjm : j < m
        · obtain ⟨b, o, tb, to_, tcc, rfl, hb, hcell, htb, htci⟩ := HTU.out j hjm
          rw [← HBW.out.cell (p := ⟨b, _, none⟩) hb] at hcell
          have HTC : Hid (∀ i, i < n' + 1 → w.cell? ⟨tb, to_ + i, none⟩ = some (.int .i16 ((j * (n' + 1) + i : Nat) : Int))) := htci
          clear htci
          go_wp2_with (refine wpList_mk (n := n' + 1) rfl rfl Yaed.underlying94 info100 rfl rfl (by omega) (by omega) ?_)
          intro w3 cs hcs hcz hb3 hs3 _
          have HI3 : Hid ((∃ M xs, Two w1.heap.size w1 M (.slice ra rl rc) xs (.slice ia' il' ic') (pre ++ [lst] ++ idsN (lst + 1) j) (rs0 ++ normR (rs.take j)) w3 ∧ rl = (rs0 ++ normR (rs.take j)).length ∧ il' = (pre ++ [lst] ++ idsN (lst + 1) j).length ∧ (∀ k, M k → (okc k ∧ k < w.heap.size) ∨ w1.heap.size ≤ k) ∧ ¬ M wr.heap.size ∧ Value.ownBlock (.slice ra rl rc) ≠ some wr.heap.size ∧ Value.ownBlock (.slice ia' il' ic') ≠ some wr.heap.size) ∧ w3.there wr.heap.size 0 ((n' + 1) * 4) ∧ wr.heap.size < w3.heap.size) := by
            obtain ⟨M, xs, h1, h2, h3, h4⟩ := HTW.out
            refine ⟨⟨M, xs, h1.ext hsr hb3, h2, h3, h4, fun hm => ?_, fun e => ?_, fun e => ?_⟩, there_block hcs 0 _ (by omega), by omega⟩
            · have := h1.old _ hm; omega
            · have := (h1.rlt e).2; omega
            · have := (h1.ilt e).2; omega
          generalize hgb : wr.heap.size = gb at *
          clear hgb hcs hcz hb3 hs3 hcell HTW HBr HBW
          go_wp2_with fail
          go_loopw [151] (fun c wi => ∃ i : Nat, i ≤ n' + 1 ∧ c = .int .i64 i ∧ Hid ((∃ M xs, Two w1.heap.size w1 M (.slice ra rl rc) xs (.slice ia' il' ic') (pre ++ [lst] ++ idsN (lst + 1) j) (rs0 ++ normR (rs.take j)) wi ∧ rl = (rs0 ++ normR (rs.take j)).length ∧ il' = (pre ++ [lst] ++ idsN (lst + 1) j).length ∧ (∀ k, M k → (okc k ∧ k < w.heap.size) ∨ w1.heap.size ≤ k) ∧ ¬ M gb ∧ Value.ownBlock (.slice ra rl rc) ≠ some gb ∧ Value.ownBlock (.slice ia' il' ic') ≠ some gb) ∧ wi.there gb 0 ((n' + 1) * 4) ∧ gb < wi.heap.size ∧ ∀ i', i' < i → wi.rangeAt gb (i' * 4) ((norm ((rs.getD j []).getD i' V0)).list))) (fun c _ => n' + 1 - (intOf c).toNat)
          case atStart => exact ⟨0, Nat.zero_le _, rfl, HI3.out.1, HI3.out.2.1, HI3.out.2.2, fun i' hi' => absurd hi' (Nat.not_lt_zero _)⟩
          case round =>
            obtain ⟨i, hi, rfl, HI⟩ := hrel
            have HBr : Hid (Below w1.heap.size w1 wr) := by obtain ⟨⟨M, xs, h, _⟩, _⟩ := HI.out; exact h.bel
            have HBW : Hid (Below w.heap.size w wr) := HB1.out.1.trans (HBr.out.mono (by omega))
            have hgw : gb < wr.heap.size := HI.out.2.2.1
            by_cases hin : i < n' + 1
            · obtain ⟨x, hx⟩ : ∃ x, j * (n' + 1) + i = x := ⟨_, rfl⟩
              have htc := HTC.out i hin
              have hnd := HPAR.out j i hjm hin
              rw [hx] at htc hnd
              have hxN : x < N := by
                rw [← HN.out, ← hx]
                have : (j + 1) * (n' + 1) ≤ m * (n' + 1) := Nat.mul_le_mul_right _ hjm
                rw [Nat.succ_mul] at this
                omega
              clear hx
              have HND : Hid (NodeAt w ab (ao + x * 12) (leafE 4 (norm ((rs.getD j []).getD i V0)))) := hnd
              clear hnd
              obtain ⟨cb, co, rfl, _, hcb, _, g1, _⟩ := colAt (ca := ca) (cc := cc) (ns := ns) (by rw [HNS.out]; exact HC.out) i (by rw [HNS.out]; exact hin)
              rw [← HBW.out.cell (p := ⟨tb, _, none⟩) htb] at htc
              rw [← HBW.out.cell (p := ⟨cb, _, none⟩) hcb] at g1
              have e1 : wr.cell? ⟨bt, 1, none⟩ = some (.slice (some ⟨cb, co, none⟩) (n' + 1) cc) := by rw [HBW.out.cell (p := ⟨bt, _, none⟩) hbt]; exact HT.out.1
              have e18 : wr.cell? ⟨ps, 18, none⟩ = some (.slice (some ⟨ab, ao, none⟩) N acap) := by rw [HBW.out.cell (p := ⟨ps, _, none⟩) hsp]; exact HE.out.2
              have hii : (i : Int) < n' + 1 := by omega
              go_wp2_with fail
              refine wp_region_can (l := [_, _, _, _, _, _, _, _, _, _, _, _, _, _, _, _, _]) [(true, 0), (true, 1), (true, 2), (true, 3), (true, 4), (true, 5), (true, 6), (true, 7), (true, 8), (true, 9), (true, 10), (true, 11), (true, 12), (true, 13), (true, 14), (false, 15), (false, 16)] (fun W => W.cell? ⟨bt, 1, none⟩ = some (.slice (some ⟨cb, co, none⟩) (n' + 1) cc) ∧ W.cell? ⟨cb, co + i * 3 + 1, none⟩ = some (.int .u8 0) ∧ W.cell? ⟨ps, 18, none⟩ = some (.slice (some ⟨ab, ao, none⟩) N acap)) (by kernel_rfl) (by kernel_rfl) ⟨e1, g1, e18⟩ ?_
              generalize hw4 : World.drew _ = w4
              have HI4 : Hid ((∃ M xs, Two w1.heap.size w1 M (.slice ra rl rc) xs (.slice ia' il' ic') (pre ++ [lst] ++ idsN (lst + 1) j) (rs0 ++ normR (rs.take j)) w4 ∧ rl = (rs0 ++ normR (rs.take j)).length ∧ il' = (pre ++ [lst] ++ idsN (lst + 1) j).length ∧ (∀ k, M k → (okc k ∧ k < w.heap.size) ∨ w1.heap.size ≤ k) ∧ ¬ M gb ∧ Value.ownBlock (.slice ra rl rc) ≠ some gb ∧ Value.ownBlock (.slice ia' il' ic') ≠ some gb) ∧ w4.there gb 0 ((n' + 1) * 4) ∧ gb < w4.heap.size ∧ ∀ i', i' < i → w4.rangeAt gb (i' * 4) ((norm ((rs.getD j []).getD i' V0)).list)) := by
                rw [← hw4]
                obtain ⟨⟨M, xs, h1, h2⟩, h3, h4, h5⟩ := HI.out
                exact ⟨⟨M, xs, h1.ext (by omega) (Below.refl _ _).drew, h2⟩, (World.there_drew _ _ _ _).2 h3, h4, fun i' hi' => (World.rangeAt_drew _ _ _ _).2 (h5 i' hi')⟩
              have HBW4 : Hid (Below w.heap.size w w4) := by rw [← hw4]; exact HBW.out.drew
              have hs4 : wr.heap.size ≤ w4.heap.size := by rw [← hw4]; exact Nat.le_refl _
              replace e1 : w4.cell? ⟨bt, 1, none⟩ = some (.slice (some ⟨cb, co, none⟩) (n' + 1) cc) := by rw [← hw4]; exact e1
              replace g1 : w4.cell? ⟨cb, co + i * 3 + 1, none⟩ = some (.int .u8 0) := by rw [← hw4]; exact g1
              replace e18 : w4.cell? ⟨ps, 18, none⟩ = some (.slice (some ⟨ab, ao, none⟩) N acap) := by rw [← hw4]; exact e18
              clear hw4 HI htc
              repeat (first | ((first | refine wpCan_q (v := ?_) rfl rfl rfl ?_ ?_ | refine wpCan_qg (v := ?_) rfl rfl (by rfl) ?_ ?_); rotate_left; (focus (rintro W ⟨q1, q2, q3⟩; go_simp; first | done | exact rfl)); simp only [Act.put, List.setIfInBounds_toArray, List.set_cons_zero, List.set_cons_succ]) | (refine wpCan_skip rfl rfl (by rfl) ?_; simp only [Act.put, List.setIfInBounds_toArray, List.set_cons_zero, List.set_cons_succ]))
              refine wpCan_e rfl rfl (fun K hK => ?_)
              go_simp
              refine (eval_param (norm ((rs.getD j []).getD i V0)) ab ao N acap x hxN (by omega) _ _ 0 w4 (HND.out.ext HBW4.out)).mono ?_
              rintro e w5 ⟨rfl, hb5⟩
              rw [norm_norm]
              obtain ⟨u, hu⟩ : ∃ u, norm ((rs.getD j []).getD i V0) = u := ⟨_, rfl⟩
              rw [hu]
              have HU' : Hid (norm ((rs.getD j []).getD i V0) = u ∧ norm u = u) := ⟨hu, by rw [← hu, norm_norm]⟩
              clear hu
              have HB5 : Hid (Below w4.heap.size w4 w5) := hb5
              clear hb5
              have hbw4 := HBW4.out.size
              refine hK _ _ ⟨⟨?_, ?_, ?_⟩, ?_⟩
              · rw [HB5.out.cell (p := ⟨bt, _, none⟩) (by show bt < w4.heap.size; omega)]; exact e1
              · rw [HB5.out.cell (p := ⟨cb, _, none⟩) (by show cb < w4.heap.size; omega)]; exact g1
              · rw [HB5.out.cell (p := ⟨ps, _, none⟩) (by show ps < w4.heap.size; omega)]; exact e18
              clear hK K
              refine wpCan_e rfl rfl (fun K hK => ?_)
              go_simp
              refine (store_null u w5).mono ?_
              rintro e w6 ⟨rfl, hb6⟩
              rw [HU'.out.2]
              have HB6 : Hid (Below w4.heap.size w4 w6) := HB5.out.trans (hb6.mono HB5.out.size)
              clear hb6
              refine hK _ _ ⟨⟨?_, ?_, ?_⟩, ?_⟩
              · rw [HB6.out.cell (p := ⟨bt, _, none⟩) (by show bt < w4.heap.size; omega)]; exact e1
              · rw [HB6.out.cell (p := ⟨cb, _, none⟩) (by show cb < w4.heap.size; omega)]; exact g1
              · rw [HB6.out.cell (p := ⟨ps, _, none⟩) (by show ps < w4.heap.size; omega)]; exact e18
              clear hK K
              refine wpCan_nil ?_
              try simp only [Act.put, List.setIfInBounds_toArray, List.set_cons_zero, List.set_cons_succ]
              clear e1 g1 e18
              have HTH6 : Hid (w6.there gb (i * 4) 4) := fun q hq => by
                have h1 := there_ext HI4.out.2.1 HB6.out (by have := HI4.out.2.2.1; omega) (i * 4 + q) (by omega)
                rw [Nat.zero_add] at h1
                exact h1
              unfold V.val
              go_wp2_with (refine wpList_putM (ty := 100) (b := gb) (o := i * 4) rfl rfl rfl rfl HTH6.out size100 (by kernel_rfl) ?_)
              intro w7 k7 s7 r7 a7 t7
              have HI7 : Hid ((∃ M xs, Two w1.heap.size w1 M (.slice ra rl rc) xs (.slice ia' il' ic') (pre ++ [lst] ++ idsN (lst + 1) j) (rs0 ++ normR (rs.take j)) w7 ∧ rl = (rs0 ++ normR (rs.take j)).length ∧ il' = (pre ++ [lst] ++ idsN (lst + 1) j).length ∧ (∀ k, M k → (okc k ∧ k < w.heap.size) ∨ w1.heap.size ≤ k) ∧ ¬ M gb ∧ Value.ownBlock (.slice ra rl rc) ≠ some gb ∧ Value.ownBlock (.slice ia' il' ic') ≠ some gb) ∧ w7.there gb 0 ((n' + 1) * 4) ∧ gb < w7.heap.size ∧ ∀ i', i' < i + 1 → w7.rangeAt gb (i' * 4) ((norm ((rs.getD j []).getD i' V0)).list)) := by
                obtain ⟨⟨M, xs, h1, h2, h3, h4, h5, h6, h7⟩, h8, h9, h10⟩ := HI4.out
                have h11 := h1.ext (by omega) HB6.out
                refine ⟨⟨M, xs, h11.step k7 (fun k hk => fun e => h5 (e ▸ hk)) (fun g hg => fun e => h6 (e ▸ hg)) (fun g hg => fun e => h7 (e ▸ hg)) (fun k hk => by show k ≠ gb; omega), h2, h3, h4, h5, h6, h7⟩, t7 _ _ (there_ext h8 HB6.out h9), by have := HB6.out.size; have := k7.size; omega, fun i' hi' => ?_⟩
                by_cases e : i' = i
                · subst e
                  rw [HU'.out.1]
                  exact r7
                · exact a7 _ _ (range_ext (h10 i' (by omega)) HB6.out h9) (.inl (by show i' * 4 + 4 ≤ i * 4; omega))
              clear k7 s7 r7 a7 t7 HI4
              go_wp2_with fail
              go_roundw
              case rel => exact ⟨i + 1, by omega, by go_num, HI7⟩
              case measure => simp [intOf]; omega
            · obtain rfl : i = n' + 1 := by omega
              obtain ⟨⟨M, xs, hTW, hrl', hil2, hM, hMg, hrg, hig⟩, _, _, hrg4⟩ := HI.out
              have HR : Hid (∀ i', i' < n' + 1 → wr.rangeAt gb (i' * 4) ((norm ((rs.getD j []).getD i' V0)).list)) := hrg4
              have HTW : Hid (Two w1.heap.size w1 (fun k => M k ∨ k = gb) (.slice ra rl rc) xs (.slice ia' il' ic') (pre ++ [lst] ++ idsN (lst + 1) j) (rs0 ++ normR (rs.take j)) wr) := hTW.more gb hgw hrg hig
              have HLL : Hid (rl = (rs0 ++ normR (rs.take j)).length ∧ il' = (pre ++ [lst] ++ idsN (lst + 1) j).length ∧ (∀ k, M k → (okc k ∧ k < w.heap.size) ∨ w1.heap.size ≤ k)) := ⟨hrl', hil2, hM⟩
              have hsr2 := HBr.out.size
              have HARR : Hid (Arr wr (fun k => M k ∨ k = gb) (.slice (some ⟨gb, 0, none⟩) (n' + 1) (n' + 1)) 4 (((rs.getD j []).map norm).map V.list)) := by
                have hl : (rs.getD j []).length = n' + 1 := HRS.out _ (by rw [getD_of_lt _ _ _ (by rw [HM.out]; exact hjm)]; exact List.getElem_mem _)
                refine (Arr.of_ranges (by rw [List.length_map, hl]) (Nat.le_refl _) hgw (fun i hi => ?_)).mono (fun b hb => .inr hb)
                rw [normR_get (by rw [hl]; exact hi)]
                exact HR.out i hi
              have HOI : Hid (wr.ownsRow w1.heap.size 2 1 (.slice ia' il' ic') il' ((pre ++ [lst] ++ idsN (lst + 1) j).map (Value.int .i64))) := by have := hTW.iown; rw [← hil2] at this; exact this
              clear hTW hrl' hil2 hM hMg hrg hig hrg4 HI HI3 HR
              go_wp2_with (at_builtin; go_must (refine wpList_app1 w1.heap.size rfl rfl Yaed.underlying81 info2 rfl rfl (HOI.out.alloc _) (by exact heap_new (by simp)) (by rfl) (by intro u hu; simp at hu; subst hu; rfl) (by omega) (by omega) (by omega) (by simp; omega) ?_))
              intro g5 cap5 w5 hown5 hgrow5 hat5 hlt5
              have HTW5 : Hid (Two w1.heap.size w1 (fun k => M k ∨ k = gb) (.slice ra rl rc) xs (.slice (some ⟨g5, 0, none⟩) (il' + 1) cap5) (pre ++ [lst] ++ idsN (lst + 1) (j + 1)) (rs0 ++ normR (rs.take j)) w5 ∧ Arr w5 (fun k => M k ∨ k = gb) (.slice (some ⟨gb, 0, none⟩) (n' + 1) (n' + 1)) 4 (((rs.getD j []).map norm).map V.list)) := by
                have h1 := HTW.out.ext (by omega) (below_alloc wr (Obj.cells #[Value.int IntKind.i64 (lst + 1 + ↑j)] 2))
                have hk := keep_grown hgrow5
                refine ⟨?_, (HARR.out.ext (below_alloc wr (Obj.cells #[Value.int IntKind.i64 (lst + 1 + ↑j)] 2))).keep hk (fun b hb => ⟨h1.old b hb, fun e => h1.iM b e.symm hb⟩)⟩
                rw [idsN_succ, ← List.append_assoc, HLL.out.2.1]
                rw [HLL.out.2.1] at hown5
                exact h1.appI (by simp; omega) (by simpa using hown5) hgrow5 (by simpa using hat5)
              clear hown5 hgrow5 hat5 HTW HARR HOI
              have HOR : Hid (w5.ownsRow w1.heap.size 94 1 (.slice ra rl rc) rl xs) := by have := HTW5.out.1.rown; rw [← HLL.out.1] at this; exact this
              have hs5 : w1.heap.size ≤ w5.heap.size := HTW5.out.1.bel.size
              go_wp2_with (at_builtin; go_must (refine wpList_app1 w1.heap.size rfl rfl Yaed.underlying22 info94 rfl rfl (HOR.out.alloc _) (by exact heap_new (by simp)) (by rfl) (by intro u hu; simp at hu; subst hu; rfl) (by omega) (by omega) (by omega) (by simp; omega) ?_))
              intro g6 cap6 w6 hown6 hgrow6 hat6 hlt6
              have HTW6 : Hid (Two w1.heap.size w1 (fun k => M k ∨ k = gb) (.slice (some ⟨g6, 0, none⟩) (rl + 1) cap6) (xs ++ [.slice (some ⟨gb, 0, none⟩) (n' + 1) (n' + 1)]) (.slice (some ⟨g5, 0, none⟩) (il' + 1) cap5) (pre ++ [lst] ++ idsN (lst + 1) (j + 1)) (rs0 ++ normR (rs.take (j + 1))) w6) := by
                have h1 := HTW5.out.1.ext hs5 (below_alloc w5 (Obj.cells #[Value.slice (some ⟨gb, 0, none⟩) (n' + 1) (n' + 1)] 94))
                rw [normR_succ (by rw [HM.out]; exact hjm), ← List.append_assoc, HLL.out.1]
                rw [HLL.out.1] at hown6
                exact h1.appR (by simp; omega) (HTW5.out.2.ext (below_alloc _ _)) (by simpa using hown6) hgrow6 (by simpa using hat6)
              clear hown6 hgrow6 hat6 HTW5 HOR
              have hw8 : IntKind.i64.wrap (lst + 1 + (j : Int) + 1) = lst + 1 + j + 1 := IntWalk.i64_in _ (by omega)
              go_wp2_with fail
              go_roundw
              case rel =>
                refine ⟨j + 1, by omega, by go_num, by congr 1; push_cast; omega, _, _, _, _, _, _, rfl, rfl, ?_, ?_, _, _, HTW6.out, ?_, ?_, ?_⟩
                · have h1 := HLL.out.1
                  rw [List.length_append, HLL'.out.2, normR_len, List.length_take] at h1
                  omega
                · have h1 := HLL.out.2.1
                  rw [List.length_append, List.length_append, HLL'.out.1, idsN_len] at h1
                  simp only [List.length_cons, List.length_nil] at h1
                  omega
                · rw [HLL.out.1, normR_succ (by rw [HM.out]; exact hjm)]; simp only [List.length_append, List.length_cons, List.length_nil]; omega
                · rw [HLL.out.2.1, idsN_succ]; simp only [List.length_append, List.length_cons, List.length_nil]; omega
                · intro k hk
                  rcases hk with hk | rfl
                  · exact HLL.out.2.2 k hk
                  · exact .inr hsr
              case measure => simp [intOf]; omega
        · obtain rfl : m = j := by omega
          obtain ⟨M, xs, hTW, hrl', hil2, hM⟩ := HTW.out
          have HTW' : Hid (Two w1.heap.size w1 M (.slice ra rl rc) xs (.slice ia' il' ic') (pre ++ [lst] ++ idsN (lst + 1) m) (rs0 ++ normR rs) wr ∧ rl = l' + 1 + m ∧ il' = l' + 1 + m ∧ ∀ k, M k → (okc k ∧ k < w.heap.size) ∨ w1.heap.size ≤ k) := by
            rw [List.take_of_length_le (by rw [HM.out]; exact Nat.le_refl _)] at hTW hrl'
            exact ⟨hTW, by rw [hrl', List.length_append, HLL'.out.2, normR_len, HM.out], by rw [hil2, List.length_append, List.length_append, HLL'.out.1, idsN_len]; rfl, hM⟩
          clear hTW hrl' hil2 hM HTW
          have e1 : wr.cell? ⟨bt, 1, none⟩ = some (.slice ca (n' + 1) cc) := by rw [HBW.out.cell (p := ⟨bt, _, none⟩) hbt]; exact HT.out.1
          have e2 : wr.cell? ⟨bt, 2, none⟩ = some (.slice ia il ic) := by rw [HBW.out.cell (p := ⟨bt, _, none⟩) hbt]; exact HT.out.2.1
          go_wp2_with fail
          refine (allowed_any bt ns (by rw [HNS.out]; exact hn4) ca cc (.slice ia il ic) ra rl rc hrl wr okc (by omega) (by rw [HNS.out]; exact e1) e2 (by rw [HNS.out]; exact HC.out.ext HBW.out) (fun k hk => ?_) (fun w2' h2 => by rw [HNS.out]; exact HU.out _ w2' (HBW.out.trans (h2.mono (by omega))))).mono ?_
          · obtain ⟨g, cap, cur, he, h1, h2, h3, h4, h5, h6⟩ : ∃ g cap cur, Value.slice ra rl rc = .slice (some ⟨g, 0, none⟩) (rs0 ++ normR rs).length cap ∧ w1.heap.size ≤ g ∧ wr.heap[g]? = some (.cells cur 94 (0, 0)) ∧ (rs0 ++ normR rs).length ≤ cap ∧ cap ≤ maxLen ∧ cur.size = cap * 1 ∧ cur.toList.take ((rs0 ++ normR rs).length * 1) = xs := by
              rcases HTW'.out.1.rown.2 with ⟨h1, h2⟩ | h
              · exfalso
                have : rl = 0 := by simp at h1; exact h1.2.1
                omega
              · exact h
            obtain ⟨rfl, hrn, rfl⟩ : ra = some ⟨g, 0, none⟩ ∧ rl = (rs0 ++ normR rs).length ∧ rc = cap := by simpa using he
            exact ⟨g, 0, cur[k]'(by omega), rfl, block_lt h2, by simp [World.cell?, h2]⟩
          rintro e w8 ⟨rfl, hb8⟩
          have HB8 : Hid (Below wr.heap.size wr w8) := hb8
          have hs8 := hb8.size
          clear hb8 e1 e2
          have HBW8 : Hid (Below w.heap.size w w8) := HBW.out.trans (HB8.out.mono (by omega))
          have hdb8 := HDB.out.ext HBW8.out
          obtain ⟨_, _, _, c3, c4, _, hfz⟩ := hdb8.tfacts
          have f3 := hfz 3
          have f4 := hfz 4
          simp only at c3 c4
          have e9 : w8.cell? ⟨ps, 9, none⟩ = some (.slice ta m tcap) := by rw [HBW8.out.cell (p := ⟨ps, _, none⟩) hsp]; exact HE.out.1
          clear hdb8 hfz
          go_wp2_with (refine wpList_put (ty := 76) (g := w.heap.size) rfl rfl rfl rfl size76 (by kernel_rfl) ?_ ?_)
          · obtain ⟨z, h1, h2⟩ := HB1.out.2
            exact ⟨z, (heap_set_ne (by omega) _).trans ((heap_set_ne (by omega) _).trans ((HB8.out.block _ (by omega)).trans ((HBr.out.block _ (by omega)).trans h1))), h2⟩
          intro w9 h9 k9 s9
          go_wp2_with fail
          have hk9 : Keep (fun k => k ≠ bt ∧ k ≠ w.heap.size) w8 w9 := ((Keep.refl.setCell (p := ⟨bt, 3, none⟩) (fun hh => hh.1 rfl) _).setCell (p := ⟨bt, 4, none⟩) (fun hh => hh.1 rfl) _).trans (k9.mono (fun k hk => hk.2))
          have hout := (HTW'.out.1.ext hsr HB8.out).out
          refine bodyPost_ret (results_cell_row rfl _ _ _ _ _ _ _ rfl h9 Yaed.underlying76 rfl size76) rfl ⟨⟨ia', il', ic'⟩, ⟨ra, rl, rc⟩, rfl, ?_, ?_, ?_, ?_⟩
          · have hd := HDB.out.ext HBW8.out
            obtain ⟨cur, h1, h2⟩ := hd.tb
            refine ⟨(hk9.block _ ⟨hd.ne, by omega⟩).trans hd.db, ⟨_, (k9.block _ (by show bt ≠ w.heap.size; omega)).trans (heap_set (heap_set h1 _) _), ?_⟩, hd.ne, hd.cap⟩
            exact take6_set (take6_set h2 3 (by omega) _ rfl) 4 (by omega) _ (by rw [HNS.out]; rfl)
          · exact (hout.1.keep hk9 (fun b hb => by show b ≠ bt ∧ b ≠ w.heap.size; omega)).mono (fun b hb => by show w.heap.size ≤ b; omega)
          · have HML : Hid (∀ k, M k → (okc k ∧ k < w.heap.size) ∨ w1.heap.size ≤ k) := HTW'.out.2.2.2
            refine (hout.2.mono (ok' := fun b => (okc b ∧ b < w.heap.size) ∨ w1.heap.size ≤ b) (fun b hb => ?_)).keep hk9 (fun b hb => ?_) |>.mono (fun b hb => ?_)
            · rcases hb with hb | hb
              · exact .inr hb
              · rcases HML.out b hb with h | h
                · exact .inl h
                · exact .inr h
            · show b ≠ bt ∧ b ≠ w.heap.size
              rcases hb with hb | hb
              · exact ⟨HOKC.out b hb.1, by omega⟩
              · omega
            · show okc b ∨ w.heap.size ≤ b
              rcases hb with hb | hb
              · exact .inl hb.1
              · exact .inr (by omega)
          · exact (Keep.of_below HBW8.out (fun k hk => hk.1)).trans (hk9.mono (fun k hk => ⟨hk.2, by omega⟩))
end Go.Proofs.YgdaegDoor
