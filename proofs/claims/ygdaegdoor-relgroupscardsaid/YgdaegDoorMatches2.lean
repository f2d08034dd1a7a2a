import Derived.Test.YgdaegDoorAggW
namespace Go.Proofs.YgdaegDoor
open Go.RowKit
set_option linter.unusedSimpArgs false
set_option linter.unusedVariables false
def iVs (l : List Nat) : List Value := l.map fun (n : Nat) => Value.int .i64 (n : Int)
theorem i64L_flat : ∀ (l : List Nat), (i64L l).flatten = iVs l
  | [] => rfl
  | x :: l => by
    show [Value.int .i64 (x : Int)] ++ (i64L l).flatten = _
    rw [i64L_flat l]
    rfl
theorem i64L_one (l : List Nat) : ∀ r ∈ i64L l, r.length = 1 := by
  intro r hr
  simp [i64L] at hr
  obtain ⟨x, _, rfl⟩ := hr
  rfl
theorem arr_own {w : World} {B : Nat} {e : TypeId} {v : Value} {l : List Nat} (h : w.ownsRow B e 1 v l.length (iVs l)) : Arr w (fun b => B ≤ b) v 1 (i64L l) := by
  have := Arr.of_owns (rows := i64L l) (v := v) (w := w) (base := B) (e := e) (k := 1) (by rw [i64L_flat, show (i64L l).length = l.length by simp [i64L]]; exact h) (i64L_one l)
  exact this.mono (fun b hb => (h.lt b hb).1)
set_option maxRecDepth 20000 in
set_option maxHeartbeats 4000000 in
/-- matches without WHERE: every row. -/
theorem matches_all (ps bt : Nat) (m : Nat) (hm : m ≤ 32) (w : World) (qa : Option Addr) (qc : Nat) (hps : ps < w.heap.size) (hbt : bt < w.heap.size)
    (h14 : w.cell? ⟨ps, 14, none⟩ = some (.int .i16 (-1))) (h4 : w.cell? ⟨bt, 4, none⟩ = some (.slice qa m qc)) :
    Calls Yaed.prog 228 #[.pointer (some ⟨ps, 0, none⟩), .pointer (some ⟨bt, 0, none⟩)] w fun r w' => ∃ mv, r = .returned mv ∧ Arr w' (fun b => w.heap.size ≤ b) mv 1 (i64L (List.range m)) ∧ Below w.heap.size w w' := by
  have HF : Hid (w.cell? ⟨ps, 14, none⟩ = some (.int .i16 (-1))) := h14
  clear h14
  go_enter Yaed.func228, Yaed.ntmps228
  go_wp2_with fail
  clear h4
  go_loopw [12, 5] (fun c ov wr => ∃ k : Nat, k ≤ m ∧ c = .int .i64 k ∧ Hid (Below w.heap.size w wr) ∧ Hid (wr.ownsRow w.heap.size 3 1 ov k (iVs (List.range k)))) (fun c _ _ => m - (intOf c).toNat)
  case atStart => exact ⟨0, Nat.zero_le _, rfl, Below.refl _ _, World.ownsRow_nil _ _ _ _⟩
  case round =>
    obtain ⟨k, hk, rfl, HB, HO⟩ := hrel
    have hsr := HB.out.size
    by_cases hkm : k < m
    · have e14 : wr.cell? ⟨ps, 14, none⟩ = some (.int .i16 (-1)) := by rw [HB.out.cell (p := ⟨ps, _, none⟩) hps]; exact HF.out
      have hkk : (k : Int) < m := by omega
      go_wp2_with fail
      refine wp_region_can (l := [_, _, _, _, _, _, _, _, _, _, _, _, _, _, _, _, _, _, _, _, _, _, _, _, _, _, _, _, _, _, _, _, _, _, _]) [(true, 0), (true, 1), (true, 2), (true, 3), (true, 4), (true, 5), (true, 6), (true, 7), (true, 8), (true, 9), (true, 10), (true, 11), (true, 12), (true, 13), (true, 14), (true, 15), (true, 16), (true, 17), (true, 18), (true, 19), (true, 20), (true, 21), (true, 22), (true, 23), (true, 24), (true, 25), (true, 26), (true, 27), (true, 28), (true, 29), (true, 30), (true, 31), (true, 32), (true, 33), (true, 34)] (fun W => W.cell? ⟨ps, 14, none⟩ = some (.int .i16 (-1))) (by kernel_rfl) (by kernel_rfl) e14 ?_
      repeat (first | ((first | refine wpCan_q (v := ?_) rfl rfl rfl ?_ ?_ | refine wpCan_qg (v := ?_) rfl rfl (by rfl) ?_ ?_); rotate_left; (focus (intro W q1; go_simp; first | done | exact rfl)); simp only [Act.put, List.setIfInBounds_toArray, List.set_cons_zero, List.set_cons_succ]) | (refine wpCan_skip rfl rfl (by rfl) ?_; simp only [Act.put, List.setIfInBounds_toArray, List.set_cons_zero, List.set_cons_succ]))
      refine wpCan_nil ?_
      generalize hwd : World.drew _ = wd
      have HBd : Hid (Below w.heap.size w wd) := by rw [← hwd]; exact HB.out.drew
      have HOd : Hid (wd.ownsRow w.heap.size 3 1 u5 k (iVs (List.range k))) := by rw [← hwd]; exact HO.out
      have hsd := HBd.out.size
      clear hwd HB HO e14 hsr
      go_wp2_with (at_builtin; go_must (refine wpList_app1 w.heap.size rfl rfl Yaed.underlying119 info3 rfl rfl (HOd.out.alloc _) (by exact heap_new rfl) (by rfl) (by intro u hu; simp at hu; subst hu; rfl) (by omega) (by omega) (by omega) (by simp; omega) ?_))
      intro g cap w5 hown5 hgrow5 hat5 hlt5
      have HB5 : Hid (Below w.heap.size w w5) := (HBd.out.trans ((below_alloc wd _).mono hsd)).trans (below_grown (HOd.out.alloc _) hgrow5 (by simp; omega))
      have HO5 : Hid (w5.ownsRow w.heap.size 3 1 (.slice (some ⟨g, 0, none⟩) (k + 1) cap) (k + 1) (iVs (List.range (k + 1)))) := by
        have h9 : iVs (List.range (k + 1)) = iVs (List.range k) ++ [.int .i64 (k : Int)] := by rw [List.range_succ]; simp [iVs]
        rw [h9]
        exact hown5
      clear hown5 hgrow5 hat5 hlt5 HOd HBd
      go_wp2_with fail
      go_roundw
      case rel => exact ⟨k + 1, by omega, by go_num, HB5, HO5⟩
      case measure => simp [intOf]; omega
    · obtain rfl : m = k := by omega
      go_wp2_with fail
      go_ret
      exact ⟨_, rfl, arr_own (by rw [List.length_range]; exact HO.out), HB.out⟩
end Go.Proofs.YgdaegDoor
