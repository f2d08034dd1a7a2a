import Derived.Test.YgdaegDoorDb2
import Derived.Test.YgdaegDoorIns
import Derived.Test.YgdaegDoorSmall
namespace Go.Proofs.YgdaegDoor
open Go.RowKit
set_option linter.unusedSimpArgs false
set_option linter.unusedVariables false
set_option maxRecDepth 20000 in
set_option maxHeartbeats 4000000 in
/-- finish without DISTINCT and window: the rows, copied. -/
theorem finish_any (ps : Nat) (s : St) (xs : List Value) (hxl : xs.length ≤ 1000) (h1 : ∀ x ∈ xs, ∃ a l c, x = .slice a l c) (ra : Option Addr) (rc : Nat) (w : World) (h : StAt w ps s) (hxs : ∀ i, i < xs.length → ∃ rb ro, ra = some ⟨rb, ro, none⟩ ∧ rb < w.heap.size ∧ w.cell? ⟨rb, ro + i, none⟩ = some (xs.getD i undef)) :
    Calls Yaed.prog 231 #[.pointer (some ⟨ps, 0, none⟩), .slice ra xs.length rc] w fun r w' => ∃ ov, r = .returned (resV 0 0 ov) ∧ w'.ownsRow w.heap.size 94 1 ov xs.length xs ∧ Below w.heap.size w w' := by
  have HST : Hid (StAt w ps s) := h
  have HXS : Hid (∀ i, i < xs.length → ∃ rb ro, ra = some ⟨rb, ro, none⟩ ∧ rb < w.heap.size ∧ w.cell? ⟨rb, ro + i, none⟩ = some (xs.getD i undef)) := hxs
  have H1 : Hid (∀ x ∈ xs, ∃ a l c, x = Value.slice a l c) := h1
  have f2 : w.cell? ⟨ps, 2, none⟩ = some (.bool false) := h.cell 2
  have hps := h.lt
  have hps' : ¬ ps = w.heap.size := by omega
  obtain ⟨n, hn⟩ : ∃ n, xs.length = n := ⟨_, rfl⟩
  have HNX : Hid (xs.length = n) := hn
  rw [hn] at hxl ⊢
  clear h hxs h1 hn
  go_enter Yaed.func231, Yaed.ntmps231
  go_wp2_with (refine wpList_mk (n := n) rfl rfl Yaed.underlying119 info3 rfl rfl (by omega) (by omega) ?_)
  intro w1 cs hcs hcz hb hs _
  obtain ⟨G, hG⟩ : ∃ G, w.heap.size + 1 = G := ⟨_, rfl⟩
  try simp only [World.size_alloc] at hcs hs hb
  try rw [hG]
  have HB1 : Hid (Below w.heap.size w w1) := (below_alloc w _).trans (hb.mono (by first | omega | simp))
  have HR1 : Hid (∃ z, w1.heap[w.heap.size]? = some (.cells z 76 (0, 0)) ∧ z.size = 3) := ⟨_, (hb.block _ (by simp)).trans (heap_alloc_new w _), rfl⟩
  have HI1 : Hid (∃ C : Array Value, w1.heap[G]? = some (.cells C 3 (0, 0)) ∧ C.size = n ∧ ∀ j, j < 0 → C[j]? = some (.int .i64 (j : Nat))) := ⟨cs, by rw [← hG]; exact hcs, by omega, fun j hj => absurd hj (Nat.not_lt_zero _)⟩
  have hG1 : w.heap.size < G ∧ G < w1.heap.size := by rw [← hG]; refine ⟨by omega, by omega⟩
  clear hb hs hcs hcz hG f2
  go_wp2_with fail
  go_loopw [52] (fun c wr => ∃ i : Nat, i ≤ n ∧ c = .int .i64 i ∧ G < wr.heap.size ∧ Hid (Below w.heap.size w wr) ∧ Hid (∃ z, wr.heap[w.heap.size]? = some (.cells z 76 (0, 0)) ∧ z.size = 3) ∧ Hid (∃ C : Array Value, wr.heap[G]? = some (.cells C 3 (0, 0)) ∧ C.size = n ∧ ∀ j, j < i → C[j]? = some (.int .i64 (j : Nat)))) (fun c _ => n - (intOf c).toNat)
  case atStart => exact ⟨0, Nat.zero_le _, rfl, hG1.2, HB1, HR1, HI1⟩
  case round =>
    obtain ⟨i, hi, rfl, hGr, HB, HR, HI⟩ := hrel
    clear HB1 HR1 HI1
    by_cases hin : i < n
    · have hin' : (i : Int) < n := by omega
      obtain ⟨C, hC, hCz, hCj⟩ := HI.out
      have HC : Hid (wr.heap[G]? = some (.cells C 3 (0, 0))) := hC
      have HCJ : Hid (∀ j, j < i → C[j]? = some (.int .i64 (j : Nat))) := hCj
      have e1 : wr.cell? ⟨G, i, none⟩ = some (C[i]'(by omega)) := by rw [cell_of_row wr G i C 3 _ hC]; simp [hCz, hin]
      have e2 : wr.frozen? ⟨G, i, none⟩ = false := by simp [World.frozen?, hC]
      clear hC hCj HI
      go_wp2_with fail
      generalize hw2 : World.setCell _ _ _ = w2
      have HB2 : Hid (Below w.heap.size w w2) := by rw [← hw2]; exact HB.out.setCell (by show w.heap.size ≤ G; omega) _
      have HR2 : Hid (∃ z, w2.heap[w.heap.size]? = some (.cells z 76 (0, 0)) ∧ z.size = 3) := by
        obtain ⟨z, a1, a2⟩ := HR.out
        exact ⟨z, by rw [← hw2, heap_set_ne (by omega)]; exact a1, a2⟩
      have HI2 : Hid (∃ C : Array Value, w2.heap[G]? = some (.cells C 3 (0, 0)) ∧ C.size = n ∧ ∀ j, j < i + 1 → C[j]? = some (.int .i64 (j : Nat))) := by
        refine ⟨_, by rw [← hw2]; exact heap_set HC.out _, by simpa using hCz, fun j hj => ?_⟩
        by_cases e : j = i
        · subst e; simp [hCz, hin]
        · rw [Array.getElem?_setIfInBounds_ne (fun e' => e e'.symm)]; exact HCJ.out j (by omega)
      have hG2 : G < w2.heap.size := by rw [← hw2]; simpa using hGr
      clear hw2 e1 e2 HC HCJ HB HR
      try go_wp2_with fail
      go_roundw
      case rel => exact ⟨i + 1, by omega, by go_num, hG2, HB2, HR2, HI2⟩
      case measure => simp [intOf]; omega
    · obtain rfl : i = n := by omega
      have e15 : wr.cell? ⟨ps, 15, none⟩ = some (.int .i64 (-1)) := (HST.out.ext HB.out).cell 15
      have e16 : wr.cell? ⟨ps, 16, none⟩ = some (.int .i64 0) := (HST.out.ext HB.out).cell 16
      go_wp2_with fail
      refine wp_region_can (l := [_, _, _, _, _, _, _, _, _, _, _, _]) [(true, 0), (true, 1), (true, 2), (true, 3), (true, 4), (true, 5), (true, 6), (true, 7), (true, 8), (true, 11), (false, 9), (true, 10)] (fun W => W.cell? ⟨ps, 15, none⟩ = some (.int .i64 (-1)) ∧ W.cell? ⟨ps, 16, none⟩ = some (.int .i64 0)) (by kernel_rfl) (by kernel_rfl) ⟨e15, e16⟩ ?_
      repeat (first | ((first | refine wpCan_q (v := ?_) rfl rfl rfl ?_ ?_ | refine wpCan_qg (v := ?_) rfl rfl (by rfl) ?_ ?_); rotate_left; (focus (rintro W ⟨q1, q2⟩; go_simp; first | done | exact rfl)); simp only [Act.put, List.setIfInBounds_toArray, List.set_cons_zero, List.set_cons_succ]) | (refine wpCan_skip rfl rfl (by rfl) ?_; simp only [Act.put, List.setIfInBounds_toArray, List.set_cons_zero, List.set_cons_succ]))
      refine wpCan_e rfl rfl (fun K hK => ?_)
      go_simp
      refine (window_none _ _ _ (by omega) _).mono ?_
      rintro e w2 ⟨rfl, rfl⟩
      refine hK _ _ ⟨⟨e15, e16⟩, ?_⟩
      clear hK K
      repeat (first | ((first | refine wpCan_q (v := ?_) rfl rfl rfl ?_ ?_ | refine wpCan_qg (v := ?_) rfl rfl (by rfl) ?_ ?_); rotate_left; (focus (rintro W ⟨q1, q2⟩; go_simp; first | done | exact rfl)); simp only [Act.put, List.setIfInBounds_toArray, List.set_cons_zero, List.set_cons_succ]) | (refine wpCan_skip rfl rfl (by rfl) ?_; simp only [Act.put, List.setIfInBounds_toArray, List.set_cons_zero, List.set_cons_succ]))
      refine wpCan_nil ?_
      generalize hwd : World.drew _ = wd
      have HBd : Hid (Below w.heap.size w wd) := by rw [← hwd]; exact HB.out.drew
      have HRd : Hid (∃ z, wd.heap[w.heap.size]? = some (.cells z 76 (0, 0)) ∧ z.size = 3) := by rw [← hwd]; exact HR.out
      have HId : Hid (∀ j, j < i → wd.cell? ⟨G, j, none⟩ = some (.int .i64 (j : Nat))) := by
        obtain ⟨C, a1, a2, a3⟩ := HI.out
        intro j hj
        rw [cell_of_row wd G j C 3 _ (by rw [← hwd]; exact a1)]
        exact a3 j hj
      have hGd : G < wd.heap.size := by rw [← hwd]; exact hGr
      clear hwd e15 e16 HB HR HI hGr
      obtain ⟨B, hB⟩ : ∃ B, wd.heap.size = B := ⟨_, rfl⟩
      have HBB : Hid (wd.heap.size = B) := hB
      have hBw : w.heap.size + 1 ≤ B ∧ G < B := by omega
      clear hB hGd
      go_wp2_with fail
      go_loopw [71, 13] (fun c ov wr => ∃ k : Nat, k ≤ i ∧ c = .int .i64 k ∧ B ≤ wr.heap.size ∧ ∃ oa oc, ov = .slice oa k oc ∧ Hid (Below B wd wr) ∧ Hid (wr.ownsRow B 94 1 (.slice oa k oc) k (xs.take k))) (fun c _ _ => i - (intOf c).toNat)
      case atStart => exact ⟨0, Nat.zero_le _, rfl, by rw [HBB.out]; exact Nat.le_refl _, none, 0, rfl, Below.refl _ _, World.ownsRow_nil _ _ _ _⟩
      case round =>
        obtain ⟨k, hk, rfl, hBr, oa, oc, rfl, HB, HO⟩ := hrel
        by_cases hki : k < i
        · have hki' : (k : Int) < i := by omega
          have e1 : wr.cell? ⟨G, k, none⟩ = some (.int .i64 (k : Nat)) := by rw [HB.out.cell (p := ⟨G, k, none⟩) hBw.2]; exact HId.out k hki
          obtain ⟨rb, ro, rfl, hrb, hrc⟩ := HXS.out k (by rw [HNX.out]; exact hki)
          obtain ⟨xv, hxv⟩ : ∃ xv, xs.getD k undef = xv := ⟨_, rfl⟩
          have hmem : xv ∈ xs := by rw [← hxv, getD_of_lt _ _ _ (by rw [HNX.out]; exact hki)]; exact List.getElem_mem _
          have HTK : Hid (xs.take (k + 1) = xs.take k ++ [xv]) := by
            have : k < xs.length := by rw [HNX.out]; exact hki
            rw [← hxv, getD_of_lt _ _ _ this, List.take_add_one, List.getElem?_eq_getElem this]; rfl
          have e3 : wr.cell? ⟨rb, ro + k, none⟩ = some xv := by
            rw [HB.out.cell (p := ⟨rb, _, none⟩) (by show rb < B; omega), HBd.out.cell (p := ⟨rb, _, none⟩) hrb, ← hxv]; exact hrc
          obtain ⟨xa, xl, xc, hxx⟩ := H1.out xv hmem
          clear hrc hxv hmem
          subst hxx
          go_wp2_with (at_builtin; go_must (refine wpList_app1 B rfl rfl Yaed.underlying22 info94 rfl rfl (HO.out.alloc _) (by exact heap_new rfl) (by rfl) (by intro u hu; simp at hu; subst hu; rfl) (by omega) (by omega) (by omega) (by simp; omega) ?_))
          intro g cap w5 hown5 hgrow5 hat5 hlt5
          have HB5 : Hid (Below B wd w5) := (HB.out.trans ((below_alloc wr _).mono hBr)).trans (below_grown (HO.out.alloc _) hgrow5 (by simp; omega))
          have HO5 : Hid (w5.ownsRow B 94 1 (.slice (some ⟨g, 0, none⟩) (k + 1) cap) (k + 1) (xs.take (k + 1))) := by
            rw [HTK.out]
            have h9 := hown5
            exact h9
          have hs5 : B ≤ w5.heap.size := by have h1 := HB5.out.size; rw [HBB.out] at h1; exact h1
          clear hown5 hgrow5 hat5 hlt5 HO HB e1 e3
          go_wp2_with fail
          go_roundw
          case rel => exact ⟨k + 1, by omega, by go_num, hs5, some ⟨g, 0, none⟩, cap, rfl, HB5, HO5⟩
          case measure => simp [intOf]; omega
        · obtain rfl : k = i := by omega
          have HTT : Hid (xs.take k = xs) := by rw [← HNX.out]; exact List.take_length
          rw [HTT.out] at HO
          have HBw : Hid (Below w.heap.size w wr) := HBd.out.trans (HB.out.mono (by omega))
          have HRr : Hid (∃ z, wr.heap[w.heap.size]? = some (.cells z 76 (0, 0)) ∧ z.size = 3) := by
            obtain ⟨z, a1, a2⟩ := HRd.out
            exact ⟨z, (HB.out.block _ (by omega)).trans a1, a2⟩
          go_wp2_with (refine wpList_put (ty := 76) rfl rfl rfl rfl size76 (by kernel_rfl) HRr.out ?_)
          intro w3 h3 k3 s3
          have HN3 : Hid (w3.heap[w.heap.size]? = some (.cells #[.int .u8 0, (.slice oa k oc), .int .i64 0] 76 (0, 0))) := h3
          go_wp2_with fail
          refine bodyPost_ret (results_cell_row rfl _ _ _ _ _ _ _ rfl HN3.out Yaed.underlying76 rfl size76) rfl ⟨_, rfl, ?_, ?_⟩
          · have ho := ownsRow_blk HO.out (w' := w3) (fun g hg => k3.block g (by have := HO.out.lt g hg; show g ≠ w.heap.size; omega))
            refine ⟨ho.1, ?_⟩
            rcases ho.2 with a | ⟨g, cap, cur, a1, a2, a3⟩
            · exact .inl a
            · exact .inr ⟨g, cap, cur, a1, by omega, a3⟩
          · exact HBw.out.trans (k3.below (fun k hk => by show k ≠ w.heap.size; omega))
end Go.Proofs.YgdaegDoor
