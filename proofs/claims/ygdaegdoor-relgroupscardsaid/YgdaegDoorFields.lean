import Derived.Test.YgdaegDoorCols
namespace Go.Proofs.YgdaegDoor
open Go.RowKit
set_option linter.unusedSimpArgs false
set_option linter.unusedVariables false

section
variable {w w' : World} {ps : Nat} {s : St}
theorem StAt.facts2 (h : StAt w ps s) : w.cell? ⟨ps, 1, none⟩ = some (.bool false) ∧ w.cell? ⟨ps, 2, none⟩ = some (.bool false) ∧ w.cell? ⟨ps, 6, none⟩ = some (.string s.table) ∧ w.cell? ⟨ps, 7, none⟩ = some (.string s.index) ∧
    w.cell? ⟨ps, 12, none⟩ = some nilS ∧ w.cell? ⟨ps, 15, none⟩ = some (.int .i64 (-1)) ∧ w.cell? ⟨ps, 16, none⟩ = some (.int .i64 0) ∧ w.cell? ⟨ps, 17, none⟩ = some (.bool s.star) :=
  ⟨h.cell 1, h.cell 2, h.cell 6, h.cell 7, h.cell 12, h.cell 15, h.cell 16, h.cell 17⟩
end

set_option maxRecDepth 40000 in
set_option maxHeartbeats 8000000 in
theorem checkFields_any (s : St) (ps : Nat) (w : World) (hst : StAt w ps s) (hk : s.kind = 0 ∨ s.kind = 1 ∨ s.kind = 2 ∨ s.kind = 3 ∨ s.kind = 4 ∨ s.kind = 5 ∨ s.kind = 7)
    (hgt : ∀ w, Calls Yaed.prog 117 #[.string s.table] w fun r w' => r = .returned (.bool (usesT s.kind)) ∧ Below w.heap.size w w')
    (hgi : ∀ w, Calls Yaed.prog 117 #[.string s.index] w fun r w' => r = .returned (.bool (usesI s.kind)) ∧ Below w.heap.size w w')
    (hw : (usesW s.kind = true ∧ -1 ≤ s.wher) ∨ (usesW s.kind = false ∧ s.wher = -1))
    (hcols : ∀ w', Below w.heap.size w w' → Calls Yaed.prog 118 #[.pointer (some ⟨ps, 0, none⟩)] w' fun r w'' => r = .returned (.bool true) ∧ Below w'.heap.size w' w'')
    (htup : ∀ w', Below w.heap.size w w' → Calls Yaed.prog 119 #[.pointer (some ⟨ps, 0, none⟩)] w' fun r w'' => r = .returned (.bool true) ∧ Below w'.heap.size w' w'')
    (il gl : Nat) (ia ga : Option Addr) (ic gc : Nat) (hi : s.items = .slice ia il ic) (hg : s.groups = .slice ga gl gc)
    (hs : ((s.kind == 5) = true ∧ ((il = 0 ∧ gl = 0 ∧ s.star = true) ∨ (il = 7 ∧ gl = 1 ∧ s.star = false))) ∨ ((s.kind == 5) = false ∧ il = 0 ∧ gl = 0 ∧ s.star = false)) :
    Calls Yaed.prog 59 #[.pointer (some ⟨ps, 0, none⟩)] w fun r w' => r = .returned (.bool true) ∧ Below w.heap.size w w' := by
  have HST : Hid (StAt w ps s) := hst
  have HGT : Hid _ := hgt
  have HGI : Hid _ := hgi
  have HCO : Hid _ := hcols
  have HTU : Hid _ := htup
  have HK : Hid _ := hk
  have f0 := hst.facts.1
  clear hgt hgi hcols htup hst hk
  obtain ⟨ut, hut⟩ : ∃ ut, usesT s.kind = ut := ⟨_, rfl⟩
  obtain ⟨ui, hui⟩ : ∃ ui, usesI s.kind = ui := ⟨_, rfl⟩
  obtain ⟨uw, huw⟩ : ∃ uw, usesW s.kind = uw := ⟨_, rfl⟩
  rw [huw] at hw
  have HU : Hid (usesT s.kind = ut ∧ usesI s.kind = ui ∧ usesW s.kind = uw) := ⟨hut, hui, huw⟩
  clear hut hui huw
  go_enter Yaed.func59, Yaed.ntmps59
  go_wp2_with fail
  refine (uses_any _ HK.out _).mono ?_
  rintro e w1 ⟨rfl, rfl⟩
  rw [HU.out.1, HU.out.2.1, HU.out.2.2]
  obtain ⟨g1, g2, g6, g7, _, _, _, _⟩ := HST.out.facts2
  go_wp2_with fail
  refine (HGT.out w1).mono ?_
  rintro e w2 ⟨rfl, hb2⟩
  rw [HU.out.1]
  have HB2 : Hid (Below w1.heap.size w1 w2) := hb2
  clear hb2 f0 g1 g2 g6 g7
  obtain ⟨g1, g2, g6, g7, _, _, _, _⟩ := (HST.out.ext HB2.out).facts2
  go_wp2_with fail
  refine (HGI.out w2).mono ?_
  rintro e w3 ⟨rfl, hb3⟩
  rw [HU.out.2.1]
  have HB3 : Hid (Below w1.heap.size w1 w3) := HB2.out.trans (hb3.mono HB2.out.size)
  clear hb3 HB2 g1 g2 g6 g7
  obtain ⟨g1, g2, g6, g7, g12, g15, g16, g17⟩ := (HST.out.ext HB3.out).facts2
  obtain ⟨f0, f3, f4, f5, f9, f10, f11, f13, f14, f18⟩ := (HST.out.ext HB3.out).facts
  clear f18
  have hw1 : (if uw then decide (-1 ≤ s.wher) else s.wher == -1) = true := by
    rcases hw with ⟨rfl, h⟩ | ⟨rfl, h⟩
    · simpa using h
    · simpa using h
  have hw2 : -1 ≤ s.wher := by rcases hw with ⟨_, h⟩ | ⟨_, h⟩ <;> omega
  rw [hi] at f10
  rw [hg] at f4
  have hw3 : ¬ s.wher < -1 := by omega
  have hw4 : uw = false → (s.wher != -1) = false := by rintro rfl; rcases hw with ⟨h, _⟩ | ⟨_, h⟩; cases h; simp [h]
  obtain ⟨st, hst⟩ : ∃ st, s.star = st := ⟨_, rfl⟩
  rw [hst] at g17 hs
  clear hst
  have HB4 : Hid (Below w1.heap.size w1 w3.drew) := HB3.out.drew
  rcases hs with ⟨hk5, ⟨rfl, rfl, rfl⟩ | ⟨rfl, rfl, rfl⟩⟩ | ⟨hk5, rfl, rfl, rfl⟩
  · have huw : uw = true := by rw [← HU.out.2.2]; simp [usesW, hk5]
    subst huw
    go_wp2_with fail
    refine wp_loop_rounds 1 ?_
    rw [rounds_succ]
    go_wp2_with fail
    refine wp_region_can (l := [_, _, _, _, _, _, _, _, _, _, _, _, _, _, _, _, _, _, _, _, _, _, _, _, _, _, _, _, _, _, _, _, _, _, _, _, _, _, _]) [(true, 0), (true, 1), (true, 2), (true, 3), (true, 4), (true, 5), (true, 6), (true, 7), (true, 8), (true, 9), (true, 10), (true, 11), (true, 12), (true, 13), (true, 14), (true, 15), (true, 16), (true, 17), (true, 18), (true, 19), (true, 20), (true, 21), (true, 22), (true, 23), (true, 24), (true, 25), (true, 26), (true, 27), (true, 28), (true, 29), (true, 30), (true, 31), (true, 32), (true, 33), (true, 34), (true, 35), (true, 36), (true, 37), (true, 38)] (fun W => W.cell? ⟨ps, 2, none⟩ = some (.bool false) ∧ W.cell? ⟨ps, 4, none⟩ = some (.slice ga 0 gc) ∧ W.cell? ⟨ps, 5, none⟩ = some nilS ∧ W.cell? ⟨ps, 10, none⟩ = some (.slice ia 0 ic) ∧ W.cell? ⟨ps, 11, none⟩ = some nilS ∧ W.cell? ⟨ps, 12, none⟩ = some nilS ∧ W.cell? ⟨ps, 15, none⟩ = some (.int .i64 (-1)) ∧ W.cell? ⟨ps, 16, none⟩ = some (.int .i64 0) ∧ W.cell? ⟨ps, 17, none⟩ = some (.bool true)) (by kernel_rfl) (by kernel_rfl) ⟨g2, f4, f5, f10, f11, g12, g15, g16, g17⟩ ?_
    repeat (first | ((first | refine wpCan_q (v := ?_) rfl rfl rfl ?_ ?_ | refine wpCan_qg (v := ?_) rfl rfl (by rfl) ?_ ?_); rotate_left; (focus (rintro W ⟨q1, q2, q3, q4, q5, q6, q7, q8, q9⟩; go_simp; first | done | exact rfl)); simp only [Act.put, List.setIfInBounds_toArray, List.set_cons_zero, List.set_cons_succ]) | (refine wpCan_skip rfl rfl (by rfl) ?_; simp only [Act.put, List.setIfInBounds_toArray, List.set_cons_zero, List.set_cons_succ]))
    refine wpCan_nil ?_
    go_wp2_with fail
    refine (HCO.out _ HB4.out).mono ?_
    rintro e w5 ⟨rfl, hb5⟩
    have HB5 : Hid (Below w1.heap.size w1 w5) := HB4.out.trans (hb5.mono HB4.out.size)
    clear hb5 HB4
    go_wp2_with fail
    refine (HTU.out _ HB5.out).mono ?_
    rintro e w6 ⟨rfl, hb6⟩
    have HB6 : Hid (Below w1.heap.size w1 w6) := HB5.out.trans (hb6.mono HB5.out.size)
    clear hb6 HB5
    go_wp2_with fail
    go_ret
    exact ⟨by simp, HB6.out⟩
  · have huw : uw = true := by rw [← HU.out.2.2]; simp [usesW, hk5]
    subst huw
    go_wp2_with fail
    refine wp_loop_rounds 1 ?_
    rw [rounds_succ]
    go_wp2_with fail
    refine wp_region_can (l := [_, _, _, _, _, _, _, _, _, _, _, _, _, _, _, _, _, _, _, _, _, _, _, _, _, _, _, _, _, _, _, _, _, _, _, _, _, _, _]) [(true, 0), (true, 1), (true, 2), (true, 3), (true, 4), (true, 5), (true, 6), (true, 7), (true, 8), (true, 9), (true, 10), (true, 11), (true, 12), (true, 13), (true, 14), (true, 15), (true, 16), (true, 17), (true, 18), (true, 19), (true, 20), (true, 21), (true, 22), (true, 23), (true, 24), (true, 25), (true, 26), (true, 27), (true, 28), (true, 29), (true, 30), (true, 31), (true, 32), (true, 33), (true, 34), (true, 35), (true, 36), (true, 37), (true, 38)] (fun W => W.cell? ⟨ps, 2, none⟩ = some (.bool false) ∧ W.cell? ⟨ps, 4, none⟩ = some (.slice ga 1 gc) ∧ W.cell? ⟨ps, 5, none⟩ = some nilS ∧ W.cell? ⟨ps, 10, none⟩ = some (.slice ia 7 ic) ∧ W.cell? ⟨ps, 11, none⟩ = some nilS ∧ W.cell? ⟨ps, 12, none⟩ = some nilS ∧ W.cell? ⟨ps, 15, none⟩ = some (.int .i64 (-1)) ∧ W.cell? ⟨ps, 16, none⟩ = some (.int .i64 0) ∧ W.cell? ⟨ps, 17, none⟩ = some (.bool false)) (by kernel_rfl) (by kernel_rfl) ⟨g2, f4, f5, f10, f11, g12, g15, g16, g17⟩ ?_
    repeat (first | ((first | refine wpCan_q (v := ?_) rfl rfl rfl ?_ ?_ | refine wpCan_qg (v := ?_) rfl rfl (by rfl) ?_ ?_); rotate_left; (focus (rintro W ⟨q1, q2, q3, q4, q5, q6, q7, q8, q9⟩; go_simp; first | done | exact rfl)); simp only [Act.put, List.setIfInBounds_toArray, List.set_cons_zero, List.set_cons_succ]) | (refine wpCan_skip rfl rfl (by rfl) ?_; simp only [Act.put, List.setIfInBounds_toArray, List.set_cons_zero, List.set_cons_succ]))
    refine wpCan_nil ?_
    go_wp2_with fail
    refine (HCO.out _ HB4.out).mono ?_
    rintro e w5 ⟨rfl, hb5⟩
    have HB5 : Hid (Below w1.heap.size w1 w5) := HB4.out.trans (hb5.mono HB4.out.size)
    clear hb5 HB4
    go_wp2_with fail
    refine (HTU.out _ HB5.out).mono ?_
    rintro e w6 ⟨rfl, hb6⟩
    have HB6 : Hid (Below w1.heap.size w1 w6) := HB5.out.trans (hb6.mono HB5.out.size)
    clear hb6 HB5
    go_wp2_with fail
    go_ret
    exact ⟨by simp, HB6.out⟩
  · cases uw
    case false =>
      go_wp2_with fail
      refine wp_loop_rounds 1 ?_
      rw [rounds_succ]
      go_wp2_with fail
      refine wp_region_can (l := [_, _, _, _, _, _, _, _, _, _, _, _, _, _, _, _, _, _, _, _, _, _, _, _, _, _, _, _, _, _, _, _, _, _, _, _, _, _, _, _, _, _, _, _, _, _, _, _, _, _, _, _, _, _, _]) [(true, 0), (true, 1), (true, 2), (true, 3), (true, 4), (true, 5), (true, 6), (true, 7), (true, 8), (true, 9), (true, 10), (true, 11), (true, 12), (true, 13), (true, 14), (true, 15), (true, 16), (true, 17), (true, 18), (true, 19), (true, 20), (true, 21), (true, 22), (true, 23), (true, 24), (true, 25), (true, 26), (true, 27), (true, 28), (true, 29), (true, 30), (true, 31), (true, 32), (true, 33), (true, 34), (true, 35), (true, 36), (true, 37), (true, 38), (true, 39), (true, 40), (true, 41), (true, 42), (true, 43), (true, 44), (true, 45), (true, 46), (true, 47), (true, 48), (true, 49), (true, 50), (true, 51), (true, 52), (true, 53), (true, 54)] (fun W => W.cell? ⟨ps, 2, none⟩ = some (.bool false) ∧ W.cell? ⟨ps, 4, none⟩ = some (.slice ga 0 gc) ∧ W.cell? ⟨ps, 5, none⟩ = some nilS ∧ W.cell? ⟨ps, 10, none⟩ = some (.slice ia 0 ic) ∧ W.cell? ⟨ps, 11, none⟩ = some nilS ∧ W.cell? ⟨ps, 12, none⟩ = some nilS ∧ W.cell? ⟨ps, 15, none⟩ = some (.int .i64 (-1)) ∧ W.cell? ⟨ps, 16, none⟩ = some (.int .i64 0) ∧ W.cell? ⟨ps, 17, none⟩ = some (.bool false)) (by kernel_rfl) (by kernel_rfl) ⟨g2, f4, f5, f10, f11, g12, g15, g16, g17⟩ ?_
      repeat (first | ((first | refine wpCan_q (v := ?_) rfl rfl rfl ?_ ?_ | refine wpCan_qg (v := ?_) rfl rfl (by rfl) ?_ ?_); rotate_left; (focus (rintro W ⟨q1, q2, q3, q4, q5, q6, q7, q8, q9⟩; go_simp; first | done | exact rfl)); simp only [Act.put, List.setIfInBounds_toArray, List.set_cons_zero, List.set_cons_succ]) | (refine wpCan_skip rfl rfl (by rfl) ?_; simp only [Act.put, List.setIfInBounds_toArray, List.set_cons_zero, List.set_cons_succ]))
      refine wpCan_nil ?_
      go_wp2_with fail
      refine (HCO.out _ HB4.out).mono ?_
      rintro e w5 ⟨rfl, hb5⟩
      have HB5 : Hid (Below w1.heap.size w1 w5) := HB4.out.trans (hb5.mono HB4.out.size)
      clear hb5 HB4
      go_wp2_with fail
      refine (HTU.out _ HB5.out).mono ?_
      rintro e w6 ⟨rfl, hb6⟩
      have HB6 : Hid (Below w1.heap.size w1 w6) := HB5.out.trans (hb6.mono HB5.out.size)
      clear hb6 HB5
      go_wp2_with fail
      go_ret
      exact ⟨by simp, HB6.out⟩
    case true =>
      go_wp2_with fail
      refine wp_loop_rounds 1 ?_
      rw [rounds_succ]
      go_wp2_with fail
      refine wp_region_can (l := [_, _, _, _, _, _, _, _, _, _, _, _, _, _, _, _, _, _, _, _, _, _, _, _, _, _, _, _, _, _, _, _, _, _, _, _, _, _, _, _, _, _, _, _, _, _, _, _, _, _, _, _, _, _, _]) [(true, 0), (true, 1), (true, 2), (true, 3), (true, 4), (true, 5), (true, 6), (true, 7), (true, 8), (true, 9), (true, 10), (true, 11), (true, 12), (true, 13), (true, 14), (true, 15), (true, 16), (true, 17), (true, 18), (true, 19), (true, 20), (true, 21), (true, 22), (true, 23), (true, 24), (true, 25), (true, 26), (true, 27), (true, 28), (true, 29), (true, 30), (true, 31), (true, 32), (true, 33), (true, 34), (true, 35), (true, 36), (true, 37), (true, 38), (true, 39), (true, 40), (true, 41), (true, 42), (true, 43), (true, 44), (true, 45), (true, 46), (true, 47), (true, 48), (true, 49), (true, 50), (true, 51), (true, 52), (true, 53), (true, 54)] (fun W => W.cell? ⟨ps, 2, none⟩ = some (.bool false) ∧ W.cell? ⟨ps, 4, none⟩ = some (.slice ga 0 gc) ∧ W.cell? ⟨ps, 5, none⟩ = some nilS ∧ W.cell? ⟨ps, 10, none⟩ = some (.slice ia 0 ic) ∧ W.cell? ⟨ps, 11, none⟩ = some nilS ∧ W.cell? ⟨ps, 12, none⟩ = some nilS ∧ W.cell? ⟨ps, 15, none⟩ = some (.int .i64 (-1)) ∧ W.cell? ⟨ps, 16, none⟩ = some (.int .i64 0) ∧ W.cell? ⟨ps, 17, none⟩ = some (.bool false)) (by kernel_rfl) (by kernel_rfl) ⟨g2, f4, f5, f10, f11, g12, g15, g16, g17⟩ ?_
      repeat (first | ((first | refine wpCan_q (v := ?_) rfl rfl rfl ?_ ?_ | refine wpCan_qg (v := ?_) rfl rfl (by rfl) ?_ ?_); rotate_left; (focus (rintro W ⟨q1, q2, q3, q4, q5, q6, q7, q8, q9⟩; go_simp; first | done | exact rfl)); simp only [Act.put, List.setIfInBounds_toArray, List.set_cons_zero, List.set_cons_succ]) | (refine wpCan_skip rfl rfl (by rfl) ?_; simp only [Act.put, List.setIfInBounds_toArray, List.set_cons_zero, List.set_cons_succ]))
      refine wpCan_nil ?_
      go_wp2_with fail
      refine (HCO.out _ HB4.out).mono ?_
      rintro e w5 ⟨rfl, hb5⟩
      have HB5 : Hid (Below w1.heap.size w1 w5) := HB4.out.trans (hb5.mono HB4.out.size)
      clear hb5 HB4
      go_wp2_with fail
      refine (HTU.out _ HB5.out).mono ?_
      rintro e w6 ⟨rfl, hb6⟩
      have HB6 : Hid (Below w1.heap.size w1 w6) := HB5.out.trans (hb6.mono HB5.out.size)
      clear hb6 HB5
      go_wp2_with fail
      go_ret
      exact ⟨by simp, HB6.out⟩
end Go.Proofs.YgdaegDoor
