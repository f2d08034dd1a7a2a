import Derived.Test.YgdaegDoorGs
import Derived.Test.YgdaegDoorMatches2
import Derived.Test.YgdaegDoorSmall
namespace Go.Proofs.YgdaegDoor
open Go.RowKit
set_option linter.unusedSimpArgs false
set_option linter.unusedVariables false
/-- What groups reads of the statement. -/
structure SG (w : World) (ps b o an acap ga go gc x : Nat) : Prop where
  lt : ps < w.heap.size
  galt : ga < w.heap.size
  c4 : w.cell? ⟨ps, 4, none⟩ = some (.slice (some ⟨ga, go, none⟩) 1 gc)
  g0 : w.cell? ⟨ga, go, none⟩ = some (.int .i16 x)
  c14 : w.cell? ⟨ps, 14, none⟩ = some (.int .i16 (-1))
  c18 : w.cell? ⟨ps, 18, none⟩ = some (.slice (some ⟨b, o, none⟩) an acap)
theorem SG.ext {w w' : World} {ps b o an acap ga go gc x : Nat} (h : SG w ps b o an acap ga go gc x) (hb : Below w.heap.size w w') : SG w' ps b o an acap ga go gc x := by
  refine ⟨Nat.lt_of_lt_of_le h.lt hb.size, Nat.lt_of_lt_of_le h.galt hb.size, ?_, ?_, ?_, ?_⟩
  · rw [hb.cell (p := ⟨ps, _, none⟩) h.lt]; exact h.c4
  · rw [hb.cell (p := ⟨ga, _, none⟩) h.galt]; exact h.g0
  · rw [hb.cell (p := ⟨ps, _, none⟩) h.lt]; exact h.c14
  · rw [hb.cell (p := ⟨ps, _, none⟩) h.lt]; exact h.c18
theorem own_shape {w : World} {B : Nat} {e : TypeId} {size n : Nat} {v : Value} {xs : List Value} (h : w.ownsRow B e size v n xs) : ∃ a c, v = .slice a n c := by
  rcases h.2 with ⟨rfl, rfl⟩ | ⟨g, cap, cur, rfl, _⟩
  · exact ⟨_, _, rfl⟩
  · exact ⟨_, _, rfl⟩
theorem under281 : Yaed.prog.underlying 281 = some (.slice 284) := by kernel_rfl
theorem info284 : infoTest Yaed.prog 284 2 48 = true := by kernel_rfl
theorem size284 : (Yaed.prog.info? 284).map (·.size) = some 2 := by kernel_rfl
set_option maxRecDepth 20000 in
set_option maxHeartbeats 8000000 in
theorem groups_any (n c : Nat) (hc : c < n) (h4 : n ≤ 4) (b o an acap x : Nat) (hx : x < an) (hx3 : x < 30000) (ps ga go gc bt : Nat) (cv : Value) (da do_ dc qa qo qc : Nat) (rs : List (List V)) (hrl : rs.length ≤ 32) (w : World)
    (hS : SG w ps b o an acap ga go gc x) (hGT : GT w bt cv da do_ dc qa qo qc n rs) (hN : NodeAt w b (o + x * 12) (colE (cname c))) (kf : Nat → V) (hkf : ∀ k, kf k = cellV rs c k) (cp : Nat → Nat → Int) (hcp : ∀ i j, cp i j = cmpV (kf i) (kf j)) :
    Calls Yaed.prog 234 #[.pointer (some ⟨ps, 0, none⟩), .pointer (some ⟨bt, 0, none⟩)] w fun r w' => ∃ B gv xs, r = .returned gv ∧ w.heap.size ≤ B ∧ Gs B kf gv xs (allG cp rs.length) w' ∧ Below w.heap.size w w' := by
  have HS : Hid (SG w ps b o an acap ga go gc x) := hS
  have HGT : Hid (GT w bt cv da do_ dc qa qo qc n rs) := hGT
  have HN : Hid (NodeAt w b (o + x * 12) (colE (cname c))) := hN
  have HKF : Hid (∀ k, kf k = cellV rs c k) := hkf
  have HCP : Hid (∀ i j, cp i j = cmpV (kf i) (kf j)) := hcp
  have e4 := hS.c4
  clear hS hGT hN hkf hcp
  obtain ⟨m, hm⟩ : ∃ m, rs.length = m := ⟨_, rfl⟩
  have HM : Hid (rs.length = m) := hm
  rw [hm]
  go_enter Yaed.func234, Yaed.ntmps234
  go_wp2_with fail
  refine (matches_all ps bt m (by omega) w _ qc HS.out.lt HGT.out.lt HS.out.c14 (by have := HGT.out.c4; rw [hm] at this; exact this)).mono ?_
  rintro e w1 ⟨mv, rfl, hmv, hb1⟩
  obtain ⟨ma, mc, rfl, hmc⟩ := i64_at hmv
  have HMC : Hid (∀ j, j < m → ∃ b o, ma = some ⟨b, o, none⟩ ∧ b < w1.heap.size ∧ w1.cell? ⟨b, o + j, none⟩ = some (.int .i64 (j : Nat))) := fun j hj => by
    obtain ⟨b, o, h1, h2, h3, h4⟩ := hmc j (by rw [List.length_range]; exact hj)
    exact ⟨b, o, h1, h3, by simpa using h4⟩
  rw [List.length_range]
  have HB1 : Hid (Below w.heap.size w w1) := hb1
  have HS1 : Hid (SG w1 ps b o an acap ga go gc x) := HS.out.ext hb1
  have HGT1 : Hid (GT w1 bt cv da do_ dc qa qo qc n rs) := HGT.out.ext hb1
  have HN1 : Hid (NodeAt w1 b (o + x * 12) (colE (cname c))) := HN.out.ext hb1
  clear hmv hmc hb1 e4 HS HGT HN
  go_wp2_with fail
  go_loopw [30, 5] (fun ck gv wr => ∃ k : Nat, k ≤ m ∧ ck = .int .i64 k ∧ ∃ gva ln gvc, gv = .slice gva ln gvc ∧ Hid (ln = (grp cp k).length) ∧ Hid (Below w1.heap.size w1 wr) ∧ Hid (∃ xs, Gs w1.heap.size kf (.slice gva ln gvc) xs (grp cp k) wr)) (fun ck _ _ => m - (intOf ck).toNat)
  case atStart => exact ⟨0, Nat.zero_le _, rfl, none, 0, 0, rfl, rfl, Below.refl _ _, [], Gs.nil _ _ _⟩
  case round =>
    obtain ⟨k, hk, rfl, gva, ln, gvc, rfl, HLN, HBr, HGS⟩ := hrel
    by_cases hkm : k < m
    · obtain ⟨mb, mo, rfl, hmb, hmcell⟩ := HMC.out k hkm
      have em : wr.cell? ⟨mb, mo + k, none⟩ = some (.int .i64 k) := by rw [HBr.out.cell (p := ⟨mb, _, none⟩) hmb]; exact hmcell
      have HSr : Hid (SG wr ps b o an acap ga go gc x) := HS1.out.ext HBr.out
      have e4 := HSr.out.c4
      have hkk : (k : Int) < m := by omega
      go_wp2_with (refine wpList_mk (n := 1) rfl rfl Yaed.underlying94 info100 rfl rfl (by omega) (by omega) ?_)
      intro w2 cs hcs hcz hb2 hs2 _
      obtain ⟨KB, hKB⟩ : ∃ KB, wr.heap.size = KB := ⟨_, rfl⟩
      rw [hKB]
      have HKB : Hid (wr.heap.size = KB) := hKB
      have HB2 : Hid (Below wr.heap.size wr w2) := hb2
      have HZ2 : Hid (∃ z, w2.heap[KB]? = some (.cells z 100 (0, 0)) ∧ z.size = 4) := ⟨cs, by rw [← hKB]; exact hcs, by omega⟩
      have hK1 : w1.heap.size ≤ KB := by rw [← hKB]; exact HBr.out.size
      have hK2 : KB < w2.heap.size := by omega
      have HB12 : Hid (Below w1.heap.size w1 w2) := HBr.out.trans (hb2.mono HBr.out.size)
      clear hcs hcz hb2 hs2 hKB e4 em hmcell HSr
      have HS2 : Hid (SG w2 ps b o an acap ga go gc x) := HS1.out.ext HB12.out
      have HGT2 : Hid (GT w2 bt cv da do_ dc qa qo qc n rs) := HGT1.out.ext HB12.out
      have e4 := HS2.out.c4
      have g0 := HS2.out.g0
      go_wp2_with fail
      refine wp_loop_rounds 2 ?_
      rw [rounds_succ]
      go_wp2_with fail
      clear e4 g0
      have hkr : k < rs.length := by rw [HM.out]; exact hkm
      have hkr' : (k : Int) < rs.length := by omega
      have hk0 : ¬ (k : Int) < 0 := by omega
      obtain ⟨rb, ro, rc, e5, hrb, hcells⟩ := HGT2.out.rows k hkr
      have e18 := HS2.out.c18
      have e1 := HGT2.out.c1
      have e2 := HGT2.out.c3
      have e3 := HGT2.out.c4
      have e4 := HGT2.out.ids k hkr
      obtain ⟨v0, hv0⟩ : ∃ v0, (rs.getD k []).getD c V0 = v0 := ⟨_, rfl⟩
      have HCELL : Hid (w2.rangeAt rb (ro + c * 4) v0.list) := by rw [← hv0]; exact hcells c hc
      have HV0 : Hid (kf k = norm v0) := by rw [HKF.out, ← hv0]; rfl
      clear hv0 hcells
      obtain ⟨id, hid⟩ : ∃ id : Int, ((k + 1 : Nat) : Int) = id := ⟨_, rfl⟩
      rw [hid] at e4
      clear hid
      have hx0 : ¬ (x : Int) < 0 := by omega
      refine wp_region_can (l := [_, _, _, _, _, _, _, _, _, _, _, _, _, _, _, _, _, _, _, _, _, _, _, _, _, _]) [(true, 0), (true, 1), (true, 2), (true, 3), (true, 4), (true, 5), (true, 6), (true, 7), (true, 8), (true, 9), (true, 10), (true, 11), (true, 12), (true, 13), (true, 14), (true, 15), (true, 16), (true, 17), (true, 18), (true, 19), (true, 20), (true, 21), (true, 22), (true, 23), (true, 24), (false, 25)] (fun W => W.cell? ⟨ps, 18, none⟩ = some (.slice (some ⟨b, o, none⟩) an acap) ∧ W.cell? ⟨bt, 1, none⟩ = some cv ∧ W.cell? ⟨bt, 3, none⟩ = some (.slice (some ⟨da, do_, none⟩) rs.length dc) ∧ W.cell? ⟨bt, 4, none⟩ = some (.slice (some ⟨qa, qo, none⟩) rs.length qc) ∧ W.cell? ⟨da, do_ + k, none⟩ = some (.int .i64 id) ∧ W.cell? ⟨qa, qo + k, none⟩ = some (.slice (some ⟨rb, ro, none⟩) n rc)) (by kernel_rfl) (by kernel_rfl) ⟨e18, e1, e2, e3, e4, e5⟩ ?_
      repeat (first | ((first | refine wpCan_q (v := ?_) rfl rfl rfl ?_ ?_ | refine wpCan_qg (v := ?_) rfl rfl (by rfl) ?_ ?_); rotate_left; (focus (rintro W ⟨q1, q2, q3, q4, q5, q6⟩; go_simp; first | done | exact rfl)); simp only [Act.put, List.setIfInBounds_toArray, List.set_cons_zero, List.set_cons_succ]) | (refine wpCan_skip rfl rfl (by rfl) ?_; simp only [Act.put, List.setIfInBounds_toArray, List.set_cons_zero, List.set_cons_succ]))
      refine wpCan_e rfl rfl (fun K hK => ?_)
      go_simp
      have HBd : Hid (Below w2.heap.size w2 w2.drew) := (Below.refl _ _).drew
      refine (eval_col n c hc h4 b o an acap x hx hx3 cv v0 rb ro rc id _ ((HN1.out.ext HB12.out).ext HBd.out) (HGT2.out.ext HBd.out).cols (Nat.lt_of_lt_of_le hrb HBd.out.size) (range_ext HCELL.out HBd.out hrb)).mono ?_
      rintro e w3 ⟨rfl, hb3⟩
      have HB3 : Hid (Below w2.heap.size w2 w3) := below_of_drew hb3
      clear hb3
      refine hK _ _ ⟨⟨?_, ?_, ?_, ?_, ?_, ?_⟩, ?_⟩
      · rw [HB3.out.cell (p := ⟨ps, _, none⟩) HS2.out.lt]; exact e18
      · rw [HB3.out.cell (p := ⟨bt, _, none⟩) HGT2.out.lt]; exact e1
      · rw [HB3.out.cell (p := ⟨bt, _, none⟩) HGT2.out.lt]; exact e2
      · rw [HB3.out.cell (p := ⟨bt, _, none⟩) HGT2.out.lt]; exact e3
      · rw [HB3.out.cell (p := ⟨da, _, none⟩) HGT2.out.dalt]; exact e4
      · rw [HB3.out.cell (p := ⟨qa, _, none⟩) HGT2.out.qalt]; exact e5
      clear hK K
      refine wpCan_nil ?_
      try simp only [Act.put, List.setIfInBounds_toArray, List.set_cons_zero, List.set_cons_succ]
      clear e18 e1 e2 e3 e4 e5 HCELL hrb
      obtain ⟨u, hu⟩ : ∃ u, norm v0 = u := ⟨_, rfl⟩
      rw [hu]
      rw [hu] at HV0
      clear hu
      unfold V.val
      go_wp2_with (refine wpList_put (ty := 100) (g := KB) rfl rfl rfl rfl size100 (by kernel_rfl) (by obtain ⟨z, h1, h2⟩ := HZ2.out; exact ⟨z, (HB3.out.block _ hK2).trans h1, h2⟩) ?_; intro w4 h4' k4 s4; have HN4 : Hid (w4.heap[KB]? = some (.cells #[.int .u8 u.k, .int .i64 u.i, .float .f64 u.r, .string u.s] 100 (0, 0))) := h4'; have HK4 : Hid (Keep (fun k => k ≠ KB) w3 w4) := k4; clear h4' k4 s4)
      have HBk : Hid (Below KB wr w4) := by
        have h1 := HB2.out
        rw [HKB.out] at h1
        exact h1.trans ((HB3.out.mono (by omega)).trans (HK4.out.below (fun k hk => by show k ≠ KB; omega)))
      have HBr4 : Hid (Below wr.heap.size wr w4) := by rw [HKB.out]; exact HBk.out
      have HB14 : Hid (Below w1.heap.size w1 w4) := HBr.out.trans (HBk.out.mono hK1)
      have HKR4 : Hid (w4.rangeAt KB 0 (kf k).list) := by
        rw [HV0.out]
        intro j v hv
        have := cell_of_row w4 KB j _ _ _ HN4.out
        rw [Nat.zero_add, this]
        simpa [V.list] using hv
      have HG4 : Hid (∃ xs, Gs w1.heap.size kf (.slice gva ln gvc) xs (grp cp k) w4) := by
        obtain ⟨xs, h1⟩ := HGS.out
        exact ⟨xs, h1.ext HBr4.out⟩
      have hK4 : KB < w4.heap.size := block_lt HN4.out
      clear HB3 HK4 HZ2 HB2 HBr HGS HGT2 HS2 HB12 HBd
      rw [rounds_succ]
      go_wp2_with fail
      have hln : ln ≤ 32 := by have := grp_len cp k; rw [HLN.out]; omega
      go_loopw [80, 11] (fun ci cat wi => ∃ i : Nat, i ≤ ln ∧ ci = .int .i64 i ∧ ∃ at_ : Int, cat = .int .i64 at_ ∧ Hid (at_ = lastTo (fun i => cp (gAt (grp cp k) i).1 k == 0) i) ∧ Hid (Below w4.heap.size w4 wi)) (fun ci _ _ => ln - (intOf ci).toNat)
      case atStart => exact ⟨0, Nat.zero_le _, rfl, -1, rfl, rfl, Below.refl _ _⟩
      case round =>
        obtain ⟨i, hi, rfl, at_, rfl, HAT, HBi⟩ := hrel
        by_cases hil : i < ln
        · obtain ⟨xs, hgs⟩ := HG4.out
          have hil' : i < (grp cp k).length := by rw [← HLN.out]; exact hil
          obtain ⟨gb, gcap, hgv, hgb1, hgb2, _, _, _, hgc⟩ := hgs.gat (by omega)
          obtain ⟨⟨kb, kc, kz, hk1, hk2, hk3⟩, _⟩ := hgs.ent i hil'
          have hgva : gva = some ⟨gb, 0, none⟩ := by simp at hgv; exact hgv.1
          have hc1 := (hgc i hil').1
          rw [hk1] at hc1
          have e1 : wr.cell? ⟨gb, i * 2, none⟩ = some (.slice (some ⟨kb, 0, none⟩) 1 kc) := by rw [HBi.out.cell (p := ⟨gb, _, none⟩) hgb2]; exact hc1
          have HK1 : Hid (kb < w4.heap.size ∧ w4.rangeAt kb 0 (kf (gAt (grp cp k) i).1).list) := ⟨block_lt hk2, hk3⟩
          subst hgva
          clear hgs hgv hgc hk1 hk2 hk3 hc1
          have hil2 : (i : Int) < ln := by omega
          have hi0 : ¬ (i : Int) < 0 := by omega
          obtain ⟨y, hy⟩ : ∃ y, kf (gAt (grp cp k) i).1 = y := ⟨_, rfl⟩
          rw [hy] at HK1
          go_wp2_with fail
          refine (sameValues_one y (kf k) kb 0 kc KB 0 1 wr (Nat.lt_of_lt_of_le HK1.out.1 HBi.out.size) (Nat.lt_of_lt_of_le hK4 HBi.out.size) (range_ext HK1.out.2 HBi.out HK1.out.1) (range_ext HKR4.out HBi.out hK4)).mono ?_
          rintro e w5 ⟨rfl, hb5⟩
          have HB5 : Hid (Below w4.heap.size w4 w5) := HBi.out.trans (hb5.mono HBi.out.size)
          clear hb5 e1
          obtain ⟨z, hz⟩ : ∃ z, (cmpV y (kf k) == 0) = z := ⟨_, rfl⟩
          have HZ : Hid ((cp (gAt (grp cp k) i).1 k == 0) = z) := by rw [HCP.out, hy]; exact hz
          rw [hz]
          clear hz hy
          cases z with
          | true =>
            go_wp2_with fail
            go_roundw
            case rel => exact ⟨i + 1, by omega, by go_num, i, rfl, (show (i : Int) = lastTo (fun i => cp (gAt (grp cp k) i).1 k == 0) (i + 1) by unfold lastTo; rw [if_pos HZ.out]), HB5⟩
            case measure => simp [intOf]; omega
          | false =>
            go_wp2_with fail
            go_roundw
            case rel => exact ⟨i + 1, by omega, by go_num, at_, rfl, (show at_ = lastTo (fun i => cp (gAt (grp cp k) i).1 k == 0) (i + 1) by unfold lastTo; rw [if_neg (by rw [HZ.out]; simp)]; exact HAT.out), HB5⟩
            case measure => simp [intOf]; omega
        · obtain rfl : i = ln := by omega
          have HFG : Hid (at_ = findG cp (grp cp k) k) := by have h1 := HAT.out; rw [HLN.out] at h1; exact h1
          have hat1 : at_ < i := by rw [HAT.out]; exact lastTo_lt _ _
          have hG5 : Hid (∃ xs, Gs w1.heap.size kf (.slice gva i gvc) xs (grp cp k) wr) := by
            obtain ⟨xs, h1⟩ := HG4.out
            exact ⟨xs, h1.ext HBi.out⟩
          have HN5 : Hid (wr.heap[KB]? = some (.cells #[.int .u8 u.k, .int .i64 u.i, .float .f64 u.r, .string u.s] 100 (0, 0))) := (HBi.out.block _ hK4).trans HN4.out
          have HKR5 : Hid (wr.rangeAt KB 0 (kf k).list) := range_ext HKR4.out HBi.out hK4
          have HB15 : Hid (Below w1.heap.size w1 wr) := HB14.out.trans (HBi.out.mono HB14.out.size)
          have hs5 : w1.heap.size ≤ wr.heap.size := HB15.out.size
          clear HAT HBi HG4 HN4 HKR4 HB14 hK4 HBk HBr4
          generalize hwb : wr = wb at *
          clear hwb
          by_cases hneg : at_ < 0
          · have hneg' : at_ < 0 := hneg
            have HJ : Hid (joinG (grp cp k ++ [(k, [])]) i k = grp cp (k + 1)) := by
              have h1 : grp cp (k + 1) = addG cp (grp cp k) k := rfl
              rw [h1, addG, if_pos (by rw [← HFG.out]; exact hneg), ← HLN.out]
              exact rfl
            have HGO : Hid ((∃ xs, Gs w1.heap.size kf (.slice gva i gvc) xs (grp cp k) wb) ∧ wb.ownsRow w1.heap.size 284 2 (.slice gva i gvc) i (flat2 (Classical.choose hG5.out))) := ⟨hG5.out, by have h1 := (Classical.choose_spec hG5.out).own; rw [← HLN.out] at h1; exact h1⟩
            go_wp2_with (at_builtin; go_must (refine wpList_app1 w1.heap.size rfl rfl under281 info284 rfl rfl (HGO.out.2.alloc _) (by exact heap_new rfl) (by rfl) (by intro u hu; simp at hu; rcases hu with rfl | rfl <;> rfl) (by omega) (by omega) (by omega) (by simp; omega) ?_))
            intro g6 cap6 w6 hown6 hgrow6 hat6 hlt6
            have HB6 : Hid (Below w1.heap.size w1 w6) := (HB15.out.trans ((below_alloc wb _).mono hs5)).trans (below_grown (HGO.out.2.alloc _) hgrow6 (by simp; omega))
            have HG6 : Hid (∃ xs, Gs w1.heap.size kf (.slice (some ⟨g6, 0, none⟩) (i + 1) cap6) xs (grp cp k ++ [(k, [])]) w6) := by
              have h1 := (Classical.choose_spec hG5.out).ext (below_alloc wb (Obj.cells #[Value.slice (some ⟨KB, 0, none⟩) 1 1, Value.slice none 0 0] 284))
              have h2 := h1.push (g := g6) (cap := cap6) (r := k) (kv := .slice (some ⟨KB, 0, none⟩) 1 1) (kb := KB) (kc := 1) (w' := w6) rfl (((below_alloc wb _).block _ (block_lt HN5.out)).trans HN5.out) (range_ext HKR5.out (below_alloc wb _) (block_lt HN5.out)) (by rw [← HLN.out]; exact hown6) hgrow6
              rw [← HLN.out] at h2
              exact ⟨_, h2⟩
            have HG6L : Hid (i + 1 = (grp cp k ++ [(k, [])]).length) := by
              have h9 : i + 1 = (grp cp k ++ [((k, []) : Gr)]).length := by rw [List.length_append, ← HLN.out]; rfl
              exact h9
            have HJL6 : Hid (i < (grp cp k ++ [(k, [])]).length) := by
              have h9 : i < (grp cp k ++ [((k, []) : Gr)]).length := by rw [← HG6L.out]; omega
              exact h9
            have HLEN : Hid ((gAt (grp cp k ++ [(k, [])]) i).2.length ≤ 32) := by rw [gAt_app_r HLN.out]; exact Nat.zero_le _
            clear hown6 hgrow6 hat6 hlt6 HGO HB15 HN5 HKR5
            have hs6 : w1.heap.size ≤ w6.heap.size := HB6.out.size
            obtain ⟨i1, hi1⟩ : ∃ i1, i + 1 = i1 := ⟨_, rfl⟩
            rw [hi1] at HG6 HG6L ⊢
            have hi1' : i < i1 ∧ i1 ≤ 33 := by omega
            clear hi1
            obtain ⟨xs, hgs⟩ := HG6.out
            have hJL := HJL6.out
            obtain ⟨gb', gcap', hgv', hgb1, hgb2, _, hgty, hgth, hgc⟩ := hgs.gat (by omega)
            obtain ⟨rfl, _, rfl⟩ : g6 = gb' ∧ True ∧ cap6 = gcap' := by simp at hgv'; exact ⟨hgv'.1, trivial, hgv'.2.2⟩
            have hent := hgs.ent i hJL
            obtain ⟨rva, rvc, hrv⟩ : ∃ a c, (pAt xs i).2 = .slice a (gAt (grp cp k ++ [(k, [])]) i).2.length c := own_shape hent.2
            have hc2 := (hgc i hJL).2
            rw [hrv] at hc2
            obtain ⟨rn, hrn⟩ : ∃ rn, (gAt (grp cp k ++ [(k, [])]) i).2.length = rn := ⟨_, rfl⟩
            have HRN : Hid ((gAt (grp cp k ++ [(k, [])]) i).2.length = rn) := hrn
            rw [hrn] at hc2 hrv
            have hrn32 : rn ≤ 32 := by rw [← hrn]; exact HLEN.out
            have e1 : w6.cell? ⟨g6, i * 2 + 1, none⟩ = some (.slice rva rn rvc) := hc2
            have HOWN : Hid (w6.ownsRow w1.heap.size 3 1 (.slice rva rn rvc) rn ((gAt (grp cp k ++ [(k, [])]) i).2.map fun (n : Nat) => Value.int .i64 (n : Int))) := by have h1 := hent.2; rw [hrv, hrn] at h1; exact h1
            have HGSX : Hid (Gs w1.heap.size kf (.slice (some ⟨g6, 0, none⟩) i1 cap6) xs (grp cp k ++ [(k, [])]) w6) := hgs
            have HRV : Hid ((pAt xs i).2 = .slice rva rn rvc) := hrv
            have HTH : Hid (w6.there g6 (i * 2 + 1) 1) := fun q hq => by
              obtain rfl : q = 0 := by omega
              have h1 := hgth (i * 2 + 1) (by omega)
              rw [Nat.zero_add] at h1
              exact h1
            have HGB : Hid (w1.heap.size ≤ g6 ∧ g6 < w6.heap.size ∧ ∀ g, (pAt xs i).2.ownBlock = some g → g ≠ g6) := ⟨hgb1, hgb2, fun g hg e => hgs.rne hJL hg (by simp [Value.ownBlock, e])⟩
            clear hgs hgv' hgty hgth hgc hent hrv hc2 hrn
            have hJ2 : (i : Int) < i1 := by have h1 := HJL6.out; have h2 := HG6L.out; omega
            have hJ0 : ¬ (i : Int) < 0 := by omega
            go_wp2_with (at_builtin; go_must (refine wpList_app1 w1.heap.size rfl rfl Yaed.underlying119 info3 rfl rfl (HOWN.out.alloc _) (by exact heap_new rfl) (by rfl) (by intro u hu; simp at hu; subst hu; rfl) (by omega) (by omega) (by omega) (by simp; omega) ?_))
            intro g7 cap7 w7 hown7 hgrow7 hat7 hlt7
            have hk7 := keep_grown hgrow7
            have hgbx : g6 < (w6.alloc (Obj.cells #[Value.int IntKind.i64 k] 3)).heap.size ∧ some g6 ≠ (Value.slice rva rn rvc).ownBlock := ⟨by have := HGB.out.2.1; simp; omega, fun e => HGB.out.2.2 g6 (by rw [HRV.out]; exact e.symm) rfl⟩
            have HTH7 : Hid (w7.there g6 (i * 2 + 1) 1) := there_keep (World.there_alloc HTH.out _) hk7 hgbx
            have e7 : w7.cell? ⟨g6, i * 2 + 1, none⟩ = some (.slice rva rn rvc) := by rw [hk7.cell (p := ⟨g6, _, none⟩) hgbx, (below_alloc w6 _).cell (p := ⟨g6, _, none⟩) HGB.out.2.1]; exact e1
            have f7 : w7.frozen? ⟨g6, i * 2 + 1, none⟩ = false := (HTH7.out 0 (by omega)).2
            have HG7 : Hid (Gs w1.heap.size kf (.slice (some ⟨g6, 0, none⟩) i1 cap6) (xs.set i ((pAt xs i).1, .slice (some ⟨g7, 0, none⟩) (rn + 1) cap7)) (joinG (grp cp k ++ [(k, [])]) i k) (w7.setCell ⟨g6, i * 2 + 1, none⟩ (.slice (some ⟨g7, 0, none⟩) (rn + 1) cap7))) := by
              have h1 := HGSX.out.ext (below_alloc w6 (Obj.cells #[Value.int IntKind.i64 k] 3))
              have h2 := h1.app (i := i) (g := g7) (cap := cap7) (r := k) (gb := g6) (gc := cap6) HJL6.out (by rw [← HG6L.out]) (w' := w7) (by rw [HRN.out]; exact hown7) (by rw [HRV.out]; exact hgrow7) (by rw [HRV.out]; rcases hat7 with h | h; exact .inl h; exact .inr (by rw [World.size_alloc]; omega))
              rw [HRN.out] at h2
              exact h2
            have HB7 : Hid (Below w1.heap.size w1 w7) := (HB6.out.trans ((below_alloc w6 _).mono HB6.out.size)).trans (below_grown (HOWN.out.alloc _) hgrow7 (by simp; have := HB6.out.size; omega))
            clear hown7 hgrow7 hat7 hlt7 hk7 hgbx e1 HTH HOWN HGSX
            go_wp2_with fail
            generalize hw8 : World.setCell _ _ _ = w8
            rw [hw8] at HG7
            have HB8 : Hid (Below w1.heap.size w1 w8) := by rw [← hw8]; exact HB7.out.setCell (p := ⟨g6, i * 2 + 1, none⟩) HGB.out.1 _
            clear hw8 e7 f7 HTH7 HB7
            try go_wp2_with fail
            go_roundw
            case rel => exact ⟨k + 1, by omega, by go_num, some ⟨g6, 0, none⟩, i1, cap6, rfl, (show i1 = (grp cp (k + 1)).length by rw [← HJ.out, joinG_len]; exact HG6L.out), HB8, _, by rw [← HJ.out]; exact HG7.out⟩
            case measure => simp [intOf]; omega
          · have hneg' : ¬ at_ < 0 := hneg
            obtain ⟨J, hJ⟩ : ∃ J : Nat, at_ = J := ⟨at_.toNat, by omega⟩
            have HJ : Hid (joinG (grp cp k) J k = grp cp (k + 1)) := by
              have h1 : grp cp (k + 1) = addG cp (grp cp k) k := rfl
              rw [h1, addG, if_neg (by rw [← HFG.out]; exact hneg), ← HFG.out, hJ]
              rfl
            subst hJ
            have HG6 : Hid (∃ xs, Gs w1.heap.size kf (.slice gva i gvc) xs (grp cp k) wb) := hG5.out
            have HG6L : Hid (i = (grp cp k).length) := HLN.out
            have HJL6 : Hid (J < (grp cp k).length) := (show J < (grp cp k).length by rw [← HLN.out]; omega)
            have HLEN : Hid ((gAt (grp cp k) J).2.length ≤ 32) := (show (gAt (grp cp k) J).2.length ≤ 32 from Nat.le_trans (grp_ok cp k _ (gAt_mem HJL6.out)).2.2.2.2 (by omega))
            obtain ⟨gb0, hgva⟩ : ∃ gb0, gva = some ⟨gb0, 0, none⟩ := by
              obtain ⟨xs, hgs⟩ := hG5.out
              obtain ⟨gb, gcap, hgv, _⟩ := hgs.gat (by have := HJL6.out; omega)
              simp at hgv
              exact ⟨gb, hgv.1⟩
            subst hgva
            clear hneg hneg' HFG hG5
            obtain ⟨xs, hgs⟩ := HG6.out
            have hJL := HJL6.out
            obtain ⟨gb', gcap', hgv', hgb1, hgb2, _, hgty, hgth, hgc⟩ := hgs.gat (by omega)
            obtain ⟨rfl, _, rfl⟩ : gb0 = gb' ∧ True ∧ gvc = gcap' := by simp at hgv'; exact ⟨hgv'.1, trivial, hgv'.2.2⟩
            have hent := hgs.ent J hJL
            obtain ⟨rva, rvc, hrv⟩ : ∃ a c, (pAt xs J).2 = .slice a (gAt (grp cp k) J).2.length c := own_shape hent.2
            have hc2 := (hgc J hJL).2
            rw [hrv] at hc2
            obtain ⟨rn, hrn⟩ : ∃ rn, (gAt (grp cp k) J).2.length = rn := ⟨_, rfl⟩
            have HRN : Hid ((gAt (grp cp k) J).2.length = rn) := hrn
            rw [hrn] at hc2 hrv
            have hrn32 : rn ≤ 32 := by rw [← hrn]; exact HLEN.out
            have e1 : wb.cell? ⟨gb0, J * 2 + 1, none⟩ = some (.slice rva rn rvc) := hc2
            have HOWN : Hid (wb.ownsRow w1.heap.size 3 1 (.slice rva rn rvc) rn ((gAt (grp cp k) J).2.map fun (n : Nat) => Value.int .i64 (n : Int))) := by have h1 := hent.2; rw [hrv, hrn] at h1; exact h1
            have HGSX : Hid (Gs w1.heap.size kf (.slice (some ⟨gb0, 0, none⟩) i gvc) xs (grp cp k) wb) := hgs
            have HRV : Hid ((pAt xs J).2 = .slice rva rn rvc) := hrv
            have HTH : Hid (wb.there gb0 (J * 2 + 1) 1) := fun q hq => by
              obtain rfl : q = 0 := by omega
              have h1 := hgth (J * 2 + 1) (by omega)
              rw [Nat.zero_add] at h1
              exact h1
            have HGB : Hid (w1.heap.size ≤ gb0 ∧ gb0 < wb.heap.size ∧ ∀ g, (pAt xs J).2.ownBlock = some g → g ≠ gb0) := ⟨hgb1, hgb2, fun g hg e => hgs.rne hJL hg (by simp [Value.ownBlock, e])⟩
            clear hgs hgv' hgty hgth hgc hent hrv hc2 hrn
            have hJ2 : (J : Int) < i := by have h1 := HJL6.out; have h2 := HG6L.out; omega
            have hJ0 : ¬ (J : Int) < 0 := by omega
            go_wp2_with (at_builtin; go_must (refine wpList_app1 w1.heap.size rfl rfl Yaed.underlying119 info3 rfl rfl (HOWN.out.alloc _) (by exact heap_new rfl) (by rfl) (by intro u hu; simp at hu; subst hu; rfl) (by omega) (by omega) (by omega) (by simp; omega) ?_))
            intro g7 cap7 w7 hown7 hgrow7 hat7 hlt7
            have hk7 := keep_grown hgrow7
            have hgbx : gb0 < (wb.alloc (Obj.cells #[Value.int IntKind.i64 k] 3)).heap.size ∧ some gb0 ≠ (Value.slice rva rn rvc).ownBlock := ⟨by have := HGB.out.2.1; simp; omega, fun e => HGB.out.2.2 gb0 (by rw [HRV.out]; exact e.symm) rfl⟩
            have HTH7 : Hid (w7.there gb0 (J * 2 + 1) 1) := there_keep (World.there_alloc HTH.out _) hk7 hgbx
            have e7 : w7.cell? ⟨gb0, J * 2 + 1, none⟩ = some (.slice rva rn rvc) := by rw [hk7.cell (p := ⟨gb0, _, none⟩) hgbx, (below_alloc wb _).cell (p := ⟨gb0, _, none⟩) HGB.out.2.1]; exact e1
            have f7 : w7.frozen? ⟨gb0, J * 2 + 1, none⟩ = false := (HTH7.out 0 (by omega)).2
            have HG7 : Hid (Gs w1.heap.size kf (.slice (some ⟨gb0, 0, none⟩) i gvc) (xs.set J ((pAt xs J).1, .slice (some ⟨g7, 0, none⟩) (rn + 1) cap7)) (joinG (grp cp k) J k) (w7.setCell ⟨gb0, J * 2 + 1, none⟩ (.slice (some ⟨g7, 0, none⟩) (rn + 1) cap7))) := by
              have h1 := HGSX.out.ext (below_alloc wb (Obj.cells #[Value.int IntKind.i64 k] 3))
              have h2 := h1.app (i := J) (g := g7) (cap := cap7) (r := k) (gb := gb0) (gc := gvc) HJL6.out (by rw [← HG6L.out]) (w' := w7) (by rw [HRN.out]; exact hown7) (by rw [HRV.out]; exact hgrow7) (by rw [HRV.out]; rcases hat7 with h | h; exact .inl h; exact .inr (by rw [World.size_alloc]; omega))
              rw [HRN.out] at h2
              exact h2
            have HB7 : Hid (Below w1.heap.size w1 w7) := (HB15.out.trans ((below_alloc wb _).mono HB15.out.size)).trans (below_grown (HOWN.out.alloc _) hgrow7 (by simp; have := HB15.out.size; omega))
            clear hown7 hgrow7 hat7 hlt7 hk7 hgbx e1 HTH HOWN HGSX
            go_wp2_with fail
            generalize hw8 : World.setCell _ _ _ = w8
            rw [hw8] at HG7
            have HB8 : Hid (Below w1.heap.size w1 w8) := by rw [← hw8]; exact HB7.out.setCell (p := ⟨gb0, J * 2 + 1, none⟩) HGB.out.1 _
            clear hw8 e7 f7 HTH7 HB7
            try go_wp2_with fail
            go_roundw
            case rel => exact ⟨k + 1, by omega, by go_num, some ⟨gb0, 0, none⟩, i, gvc, rfl, (show i = (grp cp (k + 1)).length by rw [← HJ.out, joinG_len]; exact HG6L.out), HB8, _, by rw [← HJ.out]; exact HG7.out⟩
            case measure => simp [intOf]; omega
    · obtain rfl : k = m := by omega
      have hln : ln ≤ 32 := by have := grp_len cp k; rw [HLN.out]; omega
      have HG0 : Hid (∃ xs, Gs w1.heap.size kf (.slice gva ln gvc) xs (sortTo cp 0 (grp cp k)) wr) := HGS.out
      go_wp2_with fail
      generalize hwb : wr = wb at *
      clear hwb HGS
      go_loopw [13] (fun ci wi => ∃ i : Nat, (i + 1 ≤ ln ∨ i = 0) ∧ ci = .int .i64 ((i : Int) + 1) ∧ Hid (Below w1.heap.size w1 wi) ∧ Hid (∃ xs, Gs w1.heap.size kf (.slice gva ln gvc) xs (sortTo cp i (grp cp k)) wi)) (fun ci _ => ln + 1 - (intOf ci).toNat)
      case atStart => exact ⟨0, .inr rfl, rfl, HBr, HG0⟩
      case round =>
        obtain ⟨i, hi, rfl, HBi, HGi⟩ := hrel
        clear HBr HG0
        by_cases hil : i + 1 < ln
        · have hil' : (i : Int) + 1 < ln := by omega
          go_wp2_with fail
          have HGj : Hid (∃ xs L, L.length = ln ∧ sinkG cp (i + 1) L = sortTo cp (i + 1) (grp cp k) ∧ Gs w1.heap.size kf (.slice gva ln gvc) xs L wr) := by
            obtain ⟨xs, h1⟩ := HGi.out
            exact ⟨xs, _, by rw [sortTo_len]; exact HLN.out.symm, rfl, h1⟩
          generalize hwb : wr = wb2 at *
          clear hwb HGi
          go_loopw [14] (fun cj wj => ∃ j : Nat, j ≤ i + 1 ∧ cj = .int .i64 j ∧ Hid (Below w1.heap.size w1 wj) ∧ Hid (∃ xs L, L.length = ln ∧ sinkG cp j L = sortTo cp (i + 1) (grp cp k) ∧ Gs w1.heap.size kf (.slice gva ln gvc) xs L wj)) (fun cj _ => (intOf cj).toNat)
          case atStart => exact ⟨i + 1, Nat.le_refl _, by simp, HBi, HGj⟩
          case round =>
            obtain ⟨j, hj, rfl, HBj, HGJ⟩ := hrel
            clear HBi HGj
            cases j with
            | zero =>
              go_wp2_with fail
              refine wp_region_can (l := [_, _, _, _, _, _, _, _, _, _, _, _, _, _, _, _, _, _, _, _, _]) [(true, 0), (true, 1), (true, 2), (true, 3), (true, 4), (true, 5), (true, 6), (true, 7), (true, 8), (true, 9), (true, 10), (true, 11), (true, 12), (true, 13), (true, 14), (true, 15), (true, 16), (true, 17), (true, 18), (true, 19), (true, 20)] (fun W => True) (by kernel_rfl) (by kernel_rfl) trivial ?_
              repeat (first | ((first | refine wpCan_q (v := ?_) rfl rfl rfl ?_ ?_ | refine wpCan_qg (v := ?_) rfl rfl (by rfl) ?_ ?_); rotate_left; (focus (intro W _; go_simp; first | done | exact rfl)); simp only [Act.put, List.setIfInBounds_toArray, List.set_cons_zero, List.set_cons_succ]) | (refine wpCan_skip rfl rfl (by rfl) ?_; simp only [Act.put, List.setIfInBounds_toArray, List.set_cons_zero, List.set_cons_succ]))
              refine wpCan_nil ?_
              generalize hwd : World.drew _ = wd
              have HBd : Hid (Below w1.heap.size w1 wd) := by rw [← hwd]; exact HBj.out.drew
              have HGd : Hid (∃ xs, Gs w1.heap.size kf (.slice gva ln gvc) xs (sortTo cp (i + 1) (grp cp k)) wd) := by
                obtain ⟨xs, L, h1, h2, h3⟩ := HGJ.out
                rw [← h2, ← hwd]
                exact ⟨xs, h3.ext (Below.refl _ _).drew⟩
              clear hwd
              have hwi : IntKind.i64.wrap ((i : Int) + 1 + 1) = (i : Int) + 1 + 1 := IntWalk.i64_in _ (by omega)
              go_wp2_with fail
              go_roundw
              case rel => exact ⟨i + 1, .inl (by omega), by go_num, HBd, HGd⟩
              case measure => simp [intOf]; omega
            | succ j =>
              obtain ⟨xs, L, hLl, hsk, hgs⟩ := HGJ.out
              have HLL : Hid (L.length = ln) := hLl
              have HSK : Hid (sinkG cp (j + 1) L = sortTo cp (i + 1) (grp cp k)) := hsk
              have HGS : Hid (Gs w1.heap.size kf (.slice gva ln gvc) xs L wr) := hgs
              obtain ⟨gb, gcap, hgv, hgb1, hgb2, _, hgty, hgth, hgc⟩ := hgs.gat (by omega)
              have hgva : gva = some ⟨gb, 0, none⟩ := by simp at hgv; exact hgv.1
              obtain ⟨⟨ka, kc, kz, ha1, ha2, ha3⟩, _⟩ := hgs.ent (j + 1) (by omega)
              obtain ⟨⟨ka', kc', kz', hb1, hb2, hb3⟩, _⟩ := hgs.ent j (by omega)
              have hp1 := hgc (j + 1) (by omega)
              have hp0 := hgc j (by omega)
              subst hgva
              have HTH : Hid (wr.there gb 0 (ln * 2)) := by rw [← hLl]; exact hgth
              have HGB : Hid (w1.heap.size ≤ gb ∧ gb < wr.heap.size) := ⟨hgb1, hgb2⟩
              obtain ⟨⟨p1, p2⟩, hpp⟩ : ∃ p, pAt xs (j + 1) = p := ⟨_, rfl⟩
              obtain ⟨⟨q1, q2⟩, hqq⟩ : ∃ p, pAt xs j = p := ⟨_, rfl⟩
              rw [hpp] at hp1 ha1
              rw [hqq] at hp0 hb1
              have HPP : Hid (pAt xs (j + 1) = (p1, p2)) := hpp
              have HQQ : Hid (pAt xs j = (q1, q2)) := hqq
              have HP2 : Hid (∃ a l c, p2 = .slice a l c) := by
                obtain ⟨a, c, h⟩ := own_shape (hgs.ent (j + 1) (by omega)).2
                rw [hpp] at h
                exact ⟨_, _, _, h⟩
              have HQ2 : Hid (∃ a l c, q2 = .slice a l c) := by
                obtain ⟨a, c, h⟩ := own_shape (hgs.ent j (by omega)).2
                rw [hqq] at h
                exact ⟨_, _, _, h⟩
              simp only at ha1 hb1
              subst ha1
              subst hb1
              have HKA : Hid (ka < wr.heap.size ∧ wr.rangeAt ka 0 (kf (gAt L (j + 1)).1).list ∧ ka' < wr.heap.size ∧ wr.rangeAt ka' 0 (kf (gAt L j).1).list) := ⟨block_lt ha2, ha3, block_lt hb2, hb3⟩
              have r1 : wr.cell? ⟨gb, (j + 1) * 2, none⟩ = some (.slice (some ⟨ka, 0, none⟩) 1 kc) := hp1.1
              have r0 : wr.cell? ⟨gb, j * 2, none⟩ = some (.slice (some ⟨ka', 0, none⟩) 1 kc') := hp0.1
              have HR2 : Hid (wr.cell? ⟨gb, (j + 1) * 2 + 1, none⟩ = some p2 ∧ wr.cell? ⟨gb, j * 2 + 1, none⟩ = some q2) := ⟨hp1.2, hp0.2⟩
              clear hgs hgv hgc hgty hgth ha2 ha3 hb2 hb3 hp1 hp0 hpp hqq hLl hsk HGJ
              have HSr : Hid (SG wr ps b o an acap ga go gc x) := HS1.out.ext HBj.out
              have e4 := HSr.out.c4
              have hps := HSr.out.lt
              have hj0 : (0 : Int) < (j : Int) + 1 := by omega
              have hj1 : ¬ (j : Int) + 1 < 0 := by omega
              have hj2 : (j : Int) + 1 < ln := by omega
              have hj3 : (j : Int) < ln := by omega
              have hj4 : ¬ (j : Int) < 0 := by omega
              have ht : ((j : Int) + 1).toNat = j + 1 := by omega
              have hwj : IntKind.i64.wrap (j : Int) = j := IntWalk.i64_in _ (by omega)
              go_wp2_with fail
              refine wp_region_can (l := [_, _, _, _, _, _, _, _, _, _, _, _, _, _, _, _, _, _, _, _, _]) [(true, 0), (true, 1), (true, 2), (true, 3), (true, 4), (true, 5), (true, 6), (true, 7), (true, 8), (true, 9), (true, 10), (true, 11), (true, 12), (true, 13), (true, 14), (true, 15), (true, 16), (true, 17), (true, 18), (false, 19), (false, 20)] (fun W => W.cell? ⟨gb, (j + 1) * 2, none⟩ = some (.slice (some ⟨ka, 0, none⟩) 1 kc) ∧ W.cell? ⟨gb, j * 2, none⟩ = some (.slice (some ⟨ka', 0, none⟩) 1 kc') ∧ W.cell? ⟨ps, 4, none⟩ = some (.slice (some ⟨ga, go, none⟩) 1 gc)) (by kernel_rfl) (by kernel_rfl) ⟨r1, r0, e4⟩ ?_
              repeat (first | ((first | refine wpCan_q (v := ?_) rfl rfl rfl ?_ ?_ | refine wpCan_qg (v := ?_) rfl rfl (by rfl) ?_ ?_); rotate_left; (focus (rintro W ⟨q1, q2, q3⟩; go_simp; first | done | exact rfl)); simp only [Act.put, List.setIfInBounds_toArray, List.set_cons_zero, List.set_cons_succ]) | (refine wpCan_skip rfl rfl (by rfl) ?_; simp only [Act.put, List.setIfInBounds_toArray, List.set_cons_zero, List.set_cons_succ]))
              refine wpCan_eg rfl (by rfl) (fun K hK => ?_)
              refine wp_mk (n := 1) rfl under33 info4 rfl rfl (by omega) (by omega) ?_
              intro w5 cs hcs hcz hb5 hs5 hmd
              have HB5 : Hid (Below wr.heap.size wr w5) := below_of_drew hb5
              have HDB : Hid (wr.heap.size < w5.heap.size ∧ w5.cell? ⟨wr.heap.size, 0, none⟩ = some (.bool false)) := by
                refine ⟨by rw [hs5]; exact Nat.lt_succ_self _, ?_⟩
                have h1 := hmd Yaed.t4 (.bool false) inf4 zero4
                have h2 : w5.heap[wr.heap.size]? = some (.cells cs 4 (0, 0)) := hcs
                rw [cell_of_row w5 _ 0 cs 4 _ h2, h1]
                simp [madeCells, Value.cells]
              obtain ⟨DB, hDB⟩ : ∃ DB, wr.heap.size = DB := ⟨_, rfl⟩
              have hDB2 : (World.drew wr).heap.size = DB := hDB
              rw [hDB2]
              rw [hDB] at HDB
              have hDBg : gb < DB ∧ ps < DB := by rw [← hDB]; exact ⟨HGB.out.2, hps⟩
              have HDW : Hid (wr.heap.size = DB) := hDB
              clear hcs hcz hb5 hs5 hmd hDB hDB2
              refine hK _ _ ⟨⟨?_, ?_, ?_⟩, ?_⟩
              · rw [HB5.out.cell (p := ⟨gb, _, none⟩) HGB.out.2]; exact r1
              · rw [HB5.out.cell (p := ⟨gb, _, none⟩) HGB.out.2]; exact r0
              · rw [HB5.out.cell (p := ⟨ps, _, none⟩) hps]; exact e4
              clear hK K
              simp only [Act.put, List.setIfInBounds_toArray, List.set_cons_zero, List.set_cons_succ]
              obtain ⟨y1, hy1⟩ : ∃ y, kf (gAt L (j + 1)).1 = y := ⟨_, rfl⟩
              obtain ⟨y0, hy0⟩ : ∃ y, kf (gAt L j).1 = y := ⟨_, rfl⟩
              rw [hy1, hy0] at HKA
              obtain ⟨z, hz⟩ : ∃ z, decide (cmpV y1 y0 < 0) = z := ⟨_, rfl⟩
              have HZ : Hid (decide (cp (gAt L (j + 1)).1 (gAt L j).1 < 0) = z) := by rw [HCP.out, hy1, hy0]; exact hz
              refine wpCan_eg rfl (by rfl) (fun K hK => ?_)
              go_simp
              refine (before_one y1 y0 ka 0 kc ka' 0 kc' DB 0 1 w5 (Nat.lt_of_lt_of_le HKA.out.1 HB5.out.size) (Nat.lt_of_lt_of_le HKA.out.2.2.1 HB5.out.size) HDB.out.1 (range_ext HKA.out.2.1 HB5.out HKA.out.1) (range_ext HKA.out.2.2.2 HB5.out HKA.out.2.2.1) HDB.out.2).mono ?_
              rintro e w6 ⟨rfl, hb6⟩
              have HB6 : Hid (Below wr.heap.size wr w6) := HB5.out.trans (hb6.mono HB5.out.size)
              rw [hz]
              clear hb6 hz hy1 hy0 HKA HDB
              refine hK _ _ ⟨⟨?_, ?_, ?_⟩, ?_⟩
              · rw [HB6.out.cell (p := ⟨gb, _, none⟩) HGB.out.2]; exact r1
              · rw [HB6.out.cell (p := ⟨gb, _, none⟩) HGB.out.2]; exact r0
              · rw [HB6.out.cell (p := ⟨ps, _, none⟩) hps]; exact e4
              clear hK K
              refine wpCan_nil ?_
              try simp only [Act.put, List.setIfInBounds_toArray, List.set_cons_zero, List.set_cons_succ]
              have HG6 : Hid (Gs w1.heap.size kf (.slice (some ⟨gb, 0, none⟩) ln gvc) xs L w6) := HGS.out.ext HB6.out
              have HB16 : Hid (Below w1.heap.size w1 w6) := HBj.out.trans (HB6.out.mono HBj.out.size)
              have s1 : w6.cell? ⟨gb, (j + 1) * 2, none⟩ = some (.slice (some ⟨ka, 0, none⟩) 1 kc) := by rw [HB6.out.cell (p := ⟨gb, _, none⟩) HGB.out.2]; exact r1
              have s0 : w6.cell? ⟨gb, j * 2, none⟩ = some (.slice (some ⟨ka', 0, none⟩) 1 kc') := by rw [HB6.out.cell (p := ⟨gb, _, none⟩) HGB.out.2]; exact r0
              have s3 : w6.cell? ⟨gb, (j + 1) * 2 + 1, none⟩ = some p2 := by rw [HB6.out.cell (p := ⟨gb, _, none⟩) HGB.out.2]; exact HR2.out.1
              have s2 : w6.cell? ⟨gb, j * 2 + 1, none⟩ = some q2 := by rw [HB6.out.cell (p := ⟨gb, _, none⟩) HGB.out.2]; exact HR2.out.2
              have HTH6 : Hid (w6.there gb 0 (ln * 2)) := there_ext HTH.out HB6.out HGB.out.2
              clear r1 r0 e4 HBj HGS HB5 HB6 HTH HR2
              cases z with
              | false =>
                have hwi : IntKind.i64.wrap ((i : Int) + 1 + 1) = (i : Int) + 1 + 1 := IntWalk.i64_in _ (by omega)
                clear s0 s1 s2 s3
                go_wp2_with fail
                go_roundw
                case rel =>
                  refine ⟨i + 1, .inl (by omega), by go_num, HB16, xs, ?_⟩
                  rw [← HSK.out]
                  unfold sinkG
                  rw [if_neg (by have := HZ.out; simpa using this)]
                  exact HG6.out
                case measure => simp [intOf]; omega
              | true =>
                obtain ⟨pa, pl, pc, hp2⟩ := HP2.out
                obtain ⟨qa', ql, qc', hq2⟩ := HQ2.out
                subst hp2
                subst hq2
                have HTHa : Hid (w6.drew.there gb ((j + 1) * 2) 2) := fun q hq => by
                  have h1 := HTH6.out ((j + 1) * 2 + q) (by omega)
                  rw [Nat.zero_add] at h1
                  exact h1
                have HTHb : Hid (w6.drew.there gb (j * 2) 2) := fun q hq => by
                  have h1 := HTH6.out (j * 2 + q) (by omega)
                  rw [Nat.zero_add] at h1
                  exact h1
                go_wp2_with fail
                refine wp_region_canG (l := [_, _, _, _, _, _, _, _, _, _, _, _, _, _, _, _]) 15 [(true, 0), (true, 1), (true, 2), (true, 3), (true, 4), (true, 5), (true, 6), (true, 7), (true, 8), (true, 9), (true, 10), (true, 11), (true, 12), (true, 13), (true, 14), (false, 15)] (fun W => W.cell? ⟨gb, (j + 1) * 2, none⟩ = some (.slice (some ⟨ka, 0, none⟩) 1 kc) ∧ W.cell? ⟨gb, (j + 1) * 2 + 1, none⟩ = some (.slice pa pl pc) ∧ W.cell? ⟨gb, j * 2, none⟩ = some (.slice (some ⟨ka', 0, none⟩) 1 kc') ∧ W.cell? ⟨gb, j * 2 + 1, none⟩ = some (.slice qa' ql qc')) (by kernel_rfl) (by kernel_rfl) ⟨s1, s3, s0, s2⟩ ?_
                repeat (first | ((refine wpCanG_q (v := ?_) rfl rfl rfl ?_ ?_); rotate_left; (focus (intro W; go_simp; first | done | exact rfl)); simp only [Act.put, List.setIfInBounds_toArray, List.set_cons_zero, List.set_cons_succ]) | ((refine wpCanG_s (v := ?_) rfl rfl rfl (by kernel_rfl) ?_ ?_); rotate_left; (focus (rintro W ⟨a1, a2, a3, a4⟩; go_simp; first | done | exact rfl)); simp only [Act.put, List.setIfInBounds_toArray, List.set_cons_zero, List.set_cons_succ]))
                refine wpCanG_st rfl rfl (fun K hK => ?_)
                refine wp_store_mid 284 _ _ rfl gb ((j + 1) * 2) #[.slice (some ⟨ka', 0, none⟩) 1 kc', .slice qa' ql qc'] rfl rfl HTHa.out size284 (by kernel_rfl) ?_
                refine hK _ _ ?_
                clear hK K
                refine wpCanG_nil ?_
                try simp only [Act.put, List.setIfInBounds_toArray, List.set_cons_zero, List.set_cons_succ]
                generalize hw7 : World.setCells _ _ _ _ = w7
                have HTH7 : Hid (w7.there gb (j * 2) 2) := by rw [← hw7]; exact World.there_setCells HTHb.out _ _ _
                have HW7 : Hid (w6.drew.setCells gb ((j + 1) * 2) [.slice (some ⟨ka', 0, none⟩) 1 kc', .slice qa' ql qc'] = w7) := hw7
                clear hw7 s0 s1 s2 s3
                go_wp2_with (refine wpList_store_mid rfl 284 _ _ rfl gb (j * 2) #[.slice (some ⟨ka, 0, none⟩) 1 kc, .slice pa pl pc] rfl rfl HTH7.out size284 (by kernel_rfl) ?_)
                generalize hw8 : World.setCells _ _ _ _ = w8
                have HG8 : Hid (∃ xs', Gs w1.heap.size kf (.slice (some ⟨gb, 0, none⟩) ln gvc) xs' (swapG L (j + 1)) w8) := by
                  have h1 := (HG6.out.ext (w' := w6.drew) (Below.refl _ w6).drew).swap (j := j + 1) (gb := gb) (gc := gvc) (by rw [HLL.out]; omega) (Nat.succ_pos _) (by rw [HLL.out])
                  rw [Nat.add_sub_cancel, HPP.out, HQQ.out, HW7.out, hw8] at h1
                  exact ⟨_, h1⟩
                have HB8 : Hid (Below w1.heap.size w1 w8) := by
                  rw [← hw8, ← HW7.out]
                  exact (HB16.out.drew.trans ((keep_setCells gb _ _ _).below (fun k hk => by have := HGB.out.1; show k ≠ gb; omega))).trans ((keep_setCells gb _ _ _).below (fun k hk => by have := HGB.out.1; show k ≠ gb; omega))
                clear hw8 HTH7 HTHa HTHb
                go_wp2_with fail
                go_roundw
                case rel =>
                  obtain ⟨xs', h8⟩ := HG8.out
                  refine ⟨j, by omega, by go_num, HB8, xs', _, by rw [swapG_len]; exact HLL.out, ?_, h8⟩
                  rw [← HSK.out]
                  conv => rhs; unfold sinkG
                  rw [if_pos (by have := HZ.out; simpa using this)]
                case measure => simp [intOf]
        · have hil' : ¬ (i : Int) + 1 < ln := by omega
          go_wp2_with fail
          go_ret
          refine ⟨w1.heap.size, _, rfl, HB1.out.size, ⟨Classical.choose HGi.out, ?_⟩, HB1.out.trans (HBi.out.mono HB1.out.size)⟩
          have e : allG cp k = sortTo cp i (grp cp k) := by
            unfold allG sortG
            rw [← HLN.out, show ln - 1 = i by omega]
          rw [e]
          exact Classical.choose_spec HGi.out
end Go.Proofs.YgdaegDoor
