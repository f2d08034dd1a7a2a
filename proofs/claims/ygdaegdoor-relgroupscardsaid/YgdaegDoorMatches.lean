import Derived.Test.YgdaegDoorTwo
import Derived.Test.YgdaegDoorEval2
import Derived.Test.YgdaegDoorExprs
namespace Go.Proofs.YgdaegDoor
open Go.RowKit
set_option linter.unusedSimpArgs false
set_option linter.unusedVariables false
set_option maxRecDepth 20000 in
set_option maxHeartbeats 4000000 in
/-- matches of WHERE rowid = 1 over the ids 1 .. m. -/
theorem matches_del (ps bt b o acap : Nat) (m : Nat) (hm1 : 1 ≤ m) (hm : m ≤ 32) (w : World) (da : Nat) (do_ dc : Nat) (qa qo qc : Nat) (cv : Value) (hps : ps < w.heap.size) (hbt : bt < w.heap.size) (hda : da < w.heap.size) (hqa : qa < w.heap.size)
    (h14 : w.cell? ⟨ps, 14, none⟩ = some (.int .i16 2)) (h18 : w.cell? ⟨ps, 18, none⟩ = some (.slice (some ⟨b, o, none⟩) 3 acap)) (h1 : w.cell? ⟨bt, 1, none⟩ = some cv) (h3 : w.cell? ⟨bt, 3, none⟩ = some (.slice (some ⟨da, do_, none⟩) m dc)) (h4 : w.cell? ⟨bt, 4, none⟩ = some (.slice (some ⟨qa, qo, none⟩) m qc))
    (hids : ∀ k, k < m → w.cell? ⟨da, do_ + k, none⟩ = some (.int .i64 ((k + 1 : Nat) : Int))) (hrows : ∀ k, k < m → ∃ v, w.cell? ⟨qa, qo + k, none⟩ = some v)
    (hN0 : NodeAt w b (o + 0 * 12) (colE rowidS)) (hN1 : NodeAt w b (o + 1 * 12) (leafE 0 (intV 1))) (hN2 : NodeAt w b (o + 2 * 12) (opE 11 0 1)) :
    Calls Yaed.prog 228 #[.pointer (some ⟨ps, 0, none⟩), .pointer (some ⟨bt, 0, none⟩)] w fun r w' => ∃ g cap, r = .returned (.slice (some ⟨g, 0, none⟩) 1 cap) ∧ w.heap.size ≤ g ∧ g < w'.heap.size ∧ w'.cell? ⟨g, 0, none⟩ = some (.int .i64 0) ∧ Below w.heap.size w w' := by
  have HN : Hid (NodeAt w b (o + 0 * 12) (colE rowidS) ∧ NodeAt w b (o + 1 * 12) (leafE 0 (intV 1)) ∧ NodeAt w b (o + 2 * 12) (opE 11 0 1)) := ⟨hN0, hN1, hN2⟩
  have HIDS : Hid (∀ k, k < m → w.cell? ⟨da, do_ + k, none⟩ = some (.int .i64 ((k + 1 : Nat) : Int))) := hids
  have HROWS : Hid (∀ k, k < m → ∃ v, w.cell? ⟨qa, qo + k, none⟩ = some v) := hrows
  have HF : Hid (w.cell? ⟨ps, 14, none⟩ = some (.int .i16 2) ∧ w.cell? ⟨ps, 18, none⟩ = some (.slice (some ⟨b, o, none⟩) 3 acap) ∧ w.cell? ⟨bt, 1, none⟩ = some cv ∧ w.cell? ⟨bt, 3, none⟩ = some (.slice (some ⟨da, do_, none⟩) m dc) ∧ w.cell? ⟨bt, 4, none⟩ = some (.slice (some ⟨qa, qo, none⟩) m qc)) := ⟨h14, h18, h1, h3, h4⟩
  clear hN0 hN1 hN2 hids hrows h14 h18 h1 h3
  go_enter Yaed.func228, Yaed.ntmps228
  go_wp2_with fail
  clear h4
  go_loopw [12, 5] (fun c ov wr => ∃ k : Nat, k ≤ m ∧ c = .int .i64 k ∧ Hid (Below w.heap.size w wr) ∧ ((k = 0 ∧ ov = .slice none 0 0) ∨ (1 ≤ k ∧ ∃ g cap, ov = .slice (some ⟨g, 0, none⟩) 1 cap ∧ Hid (w.heap.size ≤ g ∧ g < wr.heap.size ∧ wr.cell? ⟨g, 0, none⟩ = some (.int .i64 0))))) (fun c _ _ => m - (intOf c).toNat)
  case atStart => exact ⟨0, Nat.zero_le _, rfl, Below.refl _ _, .inl ⟨rfl, rfl⟩⟩
  case round =>
    obtain ⟨k, hk, rfl, HB, hov⟩ := hrel
    have hsr := HB.out.size
    by_cases hkm : k < m
    · obtain ⟨rv, hrv⟩ := HROWS.out k hkm
      have hid := HIDS.out k hkm
      have e14 : wr.cell? ⟨ps, 14, none⟩ = some (.int .i16 2) := by rw [HB.out.cell (p := ⟨ps, _, none⟩) hps]; exact HF.out.1
      have e18 : wr.cell? ⟨ps, 18, none⟩ = some (.slice (some ⟨b, o, none⟩) 3 acap) := by rw [HB.out.cell (p := ⟨ps, _, none⟩) hps]; exact HF.out.2.1
      have e1 : wr.cell? ⟨bt, 1, none⟩ = some cv := by rw [HB.out.cell (p := ⟨bt, _, none⟩) hbt]; exact HF.out.2.2.1
      have e3 : wr.cell? ⟨bt, 3, none⟩ = some (.slice (some ⟨da, do_, none⟩) m dc) := by rw [HB.out.cell (p := ⟨bt, _, none⟩) hbt]; exact HF.out.2.2.2.1
      have e4 : wr.cell? ⟨bt, 4, none⟩ = some (.slice (some ⟨qa, qo, none⟩) m qc) := by rw [HB.out.cell (p := ⟨bt, _, none⟩) hbt]; exact HF.out.2.2.2.2
      obtain ⟨id, hidd⟩ : ∃ id : Int, ((k + 1 : Nat) : Int) = id := ⟨_, rfl⟩
      rw [hidd] at hid
      have HID : Hid (((k + 1 : Nat) : Int) = id) := hidd
      clear hidd
      have ei : wr.cell? ⟨da, do_ + k, none⟩ = some (.int .i64 id) := by rw [HB.out.cell (p := ⟨da, _, none⟩) hda]; exact hid
      have er : wr.cell? ⟨qa, qo + k, none⟩ = some rv := by rw [HB.out.cell (p := ⟨qa, _, none⟩) hqa]; exact hrv
      clear hid hrv
      have hkk : (k : Int) < m := by omega
      have HOV : Hid ((k = 0 ∧ u5 = Value.slice none 0 0) ∨ (1 ≤ k ∧ ∃ g cap, u5 = Value.slice (some ⟨g, 0, none⟩) 1 cap ∧ Hid (w.heap.size ≤ g ∧ g < wr.heap.size ∧ wr.cell? ⟨g, 0, none⟩ = some (.int .i64 0)))) := hov
      clear hov
      go_wp2_with fail
      refine wp_region_can (l := [_, _, _, _, _, _, _, _, _, _, _, _, _, _, _, _, _, _, _, _, _, _, _, _, _, _, _, _, _, _, _, _, _, _, _]) [(true, 0), (true, 1), (true, 2), (true, 3), (true, 4), (true, 5), (true, 6), (true, 7), (true, 8), (true, 9), (true, 10), (true, 11), (true, 12), (true, 13), (true, 14), (true, 15), (true, 16), (true, 17), (true, 18), (true, 19), (true, 20), (true, 21), (true, 22), (true, 23), (true, 24), (true, 25), (true, 26), (true, 27), (true, 28), (true, 29), (true, 30), (true, 31), (false, 32), (false, 33), (true, 34)] (fun W => W.cell? ⟨ps, 14, none⟩ = some (.int .i16 2) ∧ W.cell? ⟨ps, 18, none⟩ = some (.slice (some ⟨b, o, none⟩) 3 acap) ∧ W.cell? ⟨bt, 1, none⟩ = some cv ∧ W.cell? ⟨bt, 3, none⟩ = some (.slice (some ⟨da, do_, none⟩) m dc) ∧ W.cell? ⟨bt, 4, none⟩ = some (.slice (some ⟨qa, qo, none⟩) m qc) ∧ W.cell? ⟨da, do_ + k, none⟩ = some (.int .i64 id) ∧ W.cell? ⟨qa, qo + k, none⟩ = some rv) (by kernel_rfl) (by kernel_rfl) ⟨e14, e18, e1, e3, e4, ei, er⟩ ?_
      repeat (first | ((first | refine wpCan_q (v := ?_) rfl rfl rfl ?_ ?_ | refine wpCan_qg (v := ?_) rfl rfl (by rfl) ?_ ?_); rotate_left; (focus (rintro W ⟨q1, q2, q3, q4, q5, q6, q7⟩; go_simp; first | done | exact rfl)); simp only [Act.put, List.setIfInBounds_toArray, List.set_cons_zero, List.set_cons_succ]) | (refine wpCan_skip rfl rfl (by rfl) ?_; simp only [Act.put, List.setIfInBounds_toArray, List.set_cons_zero, List.set_cons_succ]))
      have HBd : Hid (Below w.heap.size w wr.drew) := HB.out.drew
      have HEI : Hid (w.cell? ⟨da, do_ + k, none⟩ = some (.int .i64 id) ∧ w.cell? ⟨qa, qo + k, none⟩ = some rv) := ⟨by rw [← HB.out.cell (p := ⟨da, _, none⟩) hda]; exact ei, by rw [← HB.out.cell (p := ⟨qa, _, none⟩) hqa]; exact er⟩
      clear e14 e18 e1 e3 e4 ei er
      by_cases hk0 : k = 0
      · have hou : u5 = Value.slice none 0 0 := by
          rcases HOV.out with h | h
          · exact h.2
          · exfalso; omega
        subst hou
        subst hk0
        have HD : Hid (decide (id = 1) = true) := by rw [← HID.out]; rfl
        clear HOV
        refine wpCan_eg rfl (by rfl) (fun K hK => ?_)
        go_simp
        refine (eval_del b o acap _ _ id _ (HN.out.1.ext HBd.out) (HN.out.2.1.ext HBd.out) (HN.out.2.2.ext HBd.out)).mono ?_
        rintro e w3 ⟨rfl, hb3⟩
        rw [HD.out]
        have HB3 : Hid (Below w.heap.size w w3) := HBd.out.trans (hb3.mono HBd.out.size)
        clear hb3
        refine hK _ _ ⟨⟨?_, ?_, ?_, ?_, ?_, ?_, ?_⟩, ?_⟩
        · rw [HB3.out.cell (p := ⟨ps, _, none⟩) hps]; exact HF.out.1
        · rw [HB3.out.cell (p := ⟨ps, _, none⟩) hps]; exact HF.out.2.1
        · rw [HB3.out.cell (p := ⟨bt, _, none⟩) hbt]; exact HF.out.2.2.1
        · rw [HB3.out.cell (p := ⟨bt, _, none⟩) hbt]; exact HF.out.2.2.2.1
        · rw [HB3.out.cell (p := ⟨bt, _, none⟩) hbt]; exact HF.out.2.2.2.2
        · rw [HB3.out.cell (p := ⟨da, _, none⟩) hda]; exact HEI.out.1
        · rw [HB3.out.cell (p := ⟨qa, _, none⟩) hqa]; exact HEI.out.2
        clear hK K
        refine wpCan_eg rfl (by rfl) (fun K hK => ?_)
        go_simp
        refine (truth_int true _).mono ?_
        rintro e w4 ⟨rfl, hb4⟩
        have HB4 : Hid (Below w.heap.size w w4) := HB3.out.trans (hb4.mono HB3.out.size)
        have HB34 : Hid (Below w3.heap.size w3 w4) := hb4
        clear hb4
        refine hK _ _ ⟨⟨?_, ?_, ?_, ?_, ?_, ?_, ?_⟩, ?_⟩
        · rw [HB4.out.cell (p := ⟨ps, _, none⟩) hps]; exact HF.out.1
        · rw [HB4.out.cell (p := ⟨ps, _, none⟩) hps]; exact HF.out.2.1
        · rw [HB4.out.cell (p := ⟨bt, _, none⟩) hbt]; exact HF.out.2.2.1
        · rw [HB4.out.cell (p := ⟨bt, _, none⟩) hbt]; exact HF.out.2.2.2.1
        · rw [HB4.out.cell (p := ⟨bt, _, none⟩) hbt]; exact HF.out.2.2.2.2
        · rw [HB4.out.cell (p := ⟨da, _, none⟩) hda]; exact HEI.out.1
        · rw [HB4.out.cell (p := ⟨qa, _, none⟩) hqa]; exact HEI.out.2
        clear hK K
        repeat (first | ((first | refine wpCan_q (v := ?_) rfl rfl rfl ?_ ?_ | refine wpCan_qg (v := ?_) rfl rfl (by rfl) ?_ ?_); rotate_left; (focus (rintro W ⟨q1, q2, q3, q4, q5, q6, q7⟩; go_simp; first | done | exact rfl)); simp only [Act.put, List.setIfInBounds_toArray, List.set_cons_zero, List.set_cons_succ]) | (refine wpCan_skip rfl rfl (by rfl) ?_; simp only [Act.put, List.setIfInBounds_toArray, List.set_cons_zero, List.set_cons_succ]))
        refine wpCan_nil ?_
        have hs4 : w.heap.size ≤ w4.heap.size := HB4.out.size
        go_wp2_with (at_builtin; go_must (refine wpList_app1 w4.heap.size rfl rfl Yaed.underlying119 info3 rfl rfl (World.ownsRow_nil _ _ _ _) (by exact heap_new rfl) (by rfl) (by intro u hu; simp at hu; subst hu; rfl) (by omega) (by omega) (by omega) (by simp) ?_))
        intro g cap w5 hown5 hgrow5 hat5 hlt5
        have HB5 : Hid (Below w.heap.size w w5) := by
          have h1 : Below w4.heap.size w4 w5 := (below_alloc w4 (Obj.cells #[Value.int IntKind.i64 0] 3)).trans ⟨hgrow5.os, hgrow5.tape, hgrow5.output, hgrow5.size, fun q hq => hgrow5.block q (by simp; omega) (by intro e; cases e)⟩
          exact HB4.out.trans (h1.mono hs4)
        have HG5 : Hid (w.heap.size ≤ g ∧ g < w5.heap.size ∧ w5.cell? ⟨g, 0, none⟩ = some (.int .i64 0)) := by
          obtain ⟨h1, h2 | ⟨g', cap', cur, he, h3, h4, h5, h6, h7, h8⟩⟩ := hown5
          · exact absurd h2.2 (by omega)
          · obtain ⟨rfl, rfl⟩ : g = g' ∧ cap = cap' := by simpa using he
            refine ⟨by omega, hlt5, ?_⟩
            rw [cell_of_row w5 g 0 cur 3 _ h4]
            have h9 : (cur.toList.take ((0 + 1) * 1))[0]? = some (.int .i64 0) := by rw [h8]; rfl
            rw [List.getElem?_take] at h9
            simpa using h9
        clear hown5 hgrow5 hat5 hlt5
        go_wp2_with fail
        go_roundw
        case rel => exact ⟨1, by omega, by go_num, HB5, .inr ⟨Nat.le_refl _, g, cap, rfl, HG5⟩⟩
        case measure => simp [intOf]; omega
      · have hou : 1 ≤ k ∧ ∃ g cap, u5 = Value.slice (some ⟨g, 0, none⟩) 1 cap ∧ Hid (w.heap.size ≤ g ∧ g < wr.heap.size ∧ wr.cell? ⟨g, 0, none⟩ = some (.int .i64 0)) := by
          rcases HOV.out with h | h
          · exact absurd h.1 hk0
          · exact h
        obtain ⟨_, g, cap, hou, HG⟩ := hou
        subst hou
        have HD : Hid (decide (id = 1) = false) := by have h := HID.out; exact decide_eq_false (by omega)
        clear HOV
        refine wpCan_eg rfl (by rfl) (fun K hK => ?_)
        go_simp
        refine (eval_del b o acap _ _ id _ (HN.out.1.ext HBd.out) (HN.out.2.1.ext HBd.out) (HN.out.2.2.ext HBd.out)).mono ?_
        rintro e w3 ⟨rfl, hb3⟩
        rw [HD.out]
        have HB3 : Hid (Below w.heap.size w w3) := HBd.out.trans (hb3.mono HBd.out.size)
        have HBd3 : Hid (Below wr.heap.size wr w3) := below_of_drew hb3
        clear hb3
        refine hK _ _ ⟨⟨?_, ?_, ?_, ?_, ?_, ?_, ?_⟩, ?_⟩
        · rw [HB3.out.cell (p := ⟨ps, _, none⟩) hps]; exact HF.out.1
        · rw [HB3.out.cell (p := ⟨ps, _, none⟩) hps]; exact HF.out.2.1
        · rw [HB3.out.cell (p := ⟨bt, _, none⟩) hbt]; exact HF.out.2.2.1
        · rw [HB3.out.cell (p := ⟨bt, _, none⟩) hbt]; exact HF.out.2.2.2.1
        · rw [HB3.out.cell (p := ⟨bt, _, none⟩) hbt]; exact HF.out.2.2.2.2
        · rw [HB3.out.cell (p := ⟨da, _, none⟩) hda]; exact HEI.out.1
        · rw [HB3.out.cell (p := ⟨qa, _, none⟩) hqa]; exact HEI.out.2
        clear hK K
        refine wpCan_eg rfl (by rfl) (fun K hK => ?_)
        go_simp
        refine (truth_int false _).mono ?_
        rintro e w4 ⟨rfl, hb4⟩
        have HB4 : Hid (Below w.heap.size w w4) := HB3.out.trans (hb4.mono HB3.out.size)
        have HB34 : Hid (Below w3.heap.size w3 w4) := hb4
        clear hb4
        refine hK _ _ ⟨⟨?_, ?_, ?_, ?_, ?_, ?_, ?_⟩, ?_⟩
        · rw [HB4.out.cell (p := ⟨ps, _, none⟩) hps]; exact HF.out.1
        · rw [HB4.out.cell (p := ⟨ps, _, none⟩) hps]; exact HF.out.2.1
        · rw [HB4.out.cell (p := ⟨bt, _, none⟩) hbt]; exact HF.out.2.2.1
        · rw [HB4.out.cell (p := ⟨bt, _, none⟩) hbt]; exact HF.out.2.2.2.1
        · rw [HB4.out.cell (p := ⟨bt, _, none⟩) hbt]; exact HF.out.2.2.2.2
        · rw [HB4.out.cell (p := ⟨da, _, none⟩) hda]; exact HEI.out.1
        · rw [HB4.out.cell (p := ⟨qa, _, none⟩) hqa]; exact HEI.out.2
        clear hK K
        repeat (first | ((first | refine wpCan_q (v := ?_) rfl rfl rfl ?_ ?_ | refine wpCan_qg (v := ?_) rfl rfl (by rfl) ?_ ?_); rotate_left; (focus (rintro W ⟨q1, q2, q3, q4, q5, q6, q7⟩; go_simp; first | done | exact rfl)); simp only [Act.put, List.setIfInBounds_toArray, List.set_cons_zero, List.set_cons_succ]) | (refine wpCan_skip rfl rfl (by rfl) ?_; simp only [Act.put, List.setIfInBounds_toArray, List.set_cons_zero, List.set_cons_succ]))
        refine wpCan_nil ?_
        have HG4 : Hid (w.heap.size ≤ g ∧ g < w4.heap.size ∧ w4.cell? ⟨g, 0, none⟩ = some (.int .i64 0)) := by
          obtain ⟨h1, h2, h3⟩ := HG.out
          have h5 : Below wr.heap.size wr w4 := HBd3.out.trans (HB34.out.mono HBd3.out.size)
          exact ⟨h1, by have := h5.size; omega, by rw [h5.cell (p := ⟨g, _, none⟩) h2]; exact h3⟩
        go_wp2_with fail
        go_roundw
        case rel => exact ⟨k + 1, by omega, by go_num, HB4, .inr ⟨by omega, g, cap, rfl, HG4⟩⟩
        case measure => simp [intOf]; omega
    · obtain rfl : m = k := by omega
      have hou : 1 ≤ m ∧ ∃ g cap, u5 = Value.slice (some ⟨g, 0, none⟩) 1 cap ∧ Hid (w.heap.size ≤ g ∧ g < wr.heap.size ∧ wr.cell? ⟨g, 0, none⟩ = some (.int .i64 0)) := by
        rcases hov with h | h
        · exfalso; omega
        · exact h
      obtain ⟨_, g, cap, hou, HG⟩ := hou
      subst hou
      clear hov
      go_wp2_with fail
      go_ret
      exact ⟨g, cap, rfl, HG.out.1, HG.out.2.1, HG.out.2.2, HB.out⟩
end Go.Proofs.YgdaegDoor
