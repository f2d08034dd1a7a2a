import Derived.Test.YgdaegDoorStmt
import Derived.Deep.DeepMust
set_option linter.unusedSimpArgs false
set_option linter.unusedVariables false
namespace Go.Proofs.YgdaegDoor
open Go.RowKit

def colsL (n : Nat) : List (List Value) := (List.range n).map fun i => colL (cname i)

set_option maxHeartbeats 1000000 in
theorem createStmt_any (n : Nat) (hn1 : 1 ≤ n) (hn4 : n ≤ 4) (w : World) :
    Calls Yaed.prog 29 #[.int .i64 n, nilS] w fun r w' => ∃ cv, r = .returned ({ St.mk0 0 tS with cols := cv } : St).val ∧
      Arr w' (fun b => w.heap.size ≤ b) cv 3 (colsL n) ∧ Below w.heap.size w w' := by
  go_enter Yaed.func29, Yaed.ntmps29
  go_wp2_with fail
  generalize hw0 : w.alloc _ = w0
  have hr0 : ∃ z, w0.heap[w.heap.size]? = some (.cells z 38 (0, 0)) ∧ z.size = 19 := ⟨_, by rw [← hw0]; exact heap_alloc_new w _, rfl⟩
  have HB0 : Hid (Below w.heap.size w w0) := by rw [← hw0]; exact below_alloc w _
  have hs0 : w0.heap.size = w.heap.size + 1 := by rw [← hw0]; simp
  clear hw0
  have HR0 : Hid _ := hr0
  clear hr0
  refine (stmt_any _ _ _).mono ?_
  rintro e w1 ⟨rfl, h1⟩
  have HB1 : Hid (Below w0.heap.size w0 w1) := h1
  have hs1 := h1.size
  clear h1
  unfold St.mk0 St.val St.arr
  go_wp2_with (refine wpList_put (ty := 38) rfl rfl rfl rfl size38 (by kernel_rfl) ?_ ?_)
  · exact ⟨_, heap_alloc_new w1 _, rfl⟩
  intro w2 h2 k2 s2
  have HK2 : Hid (Below w1.heap.size w1 w2) := (below_alloc w1 _).trans (k2.below (fun k hk => by omega))
  have HH2 : Hid _ := h2
  have hs2 : w2.heap.size = w1.heap.size + 1 := by simpa using s2
  clear h2 k2 s2
  generalize hps : w1.heap.size = ps at *
  clear hps
  go_wp2_with fail
  go_loopw [10] (fun c wr => ∃ k : Nat, k ≤ n ∧ c = .int .i64 k ∧ Hid (∃ cv, wr.heap[ps]? = some (.cells ({ St.mk0 0 tS with cols := cv } : St).arr 38 (0, 0)) ∧
      wr.ownsRow (ps + 1) 109 3 cv k (colsL k).flatten ∧ Below ps w2 wr)) (fun c _ => n - (intOf c).toNat)
  case atStart => exact ⟨0, Nat.zero_le _, rfl, nilS, HH2.out, World.ownsRow_nil _ _ _ _, Below.refl _ _⟩
  case round =>
    obtain ⟨k, hk, rfl, cv, hps, hown, hbl⟩ := hrel
    have HPS : Hid _ := hps
    have HOWN : Hid (wr.ownsRow (ps + 1) 109 3 cv k (colsL k).flatten) := hown
    have HBL : Hid _ := hbl
    have hlt := block_lt hps
    have hc8 : wr.cell? ⟨ps, 8, none⟩ = some cv := by simp [World.cell?, hps, St.arr]
    have hf8 : wr.frozen? ⟨ps, 8, none⟩ = false := by simp [World.frozen?, hps]
    clear hps hown hbl
    by_cases hkn : k < n
    · go_upto_region 8 with (go_at_call 32; refine (colName_any _ (by omega) _).mono ?_; rintro e w' ⟨rfl, rfl⟩)
      go_wp2_with (at_builtin; go_must (refine wpList_app1 (ps + 1) rfl rfl Yaed.underlying31 info109 rfl rfl ((HOWN.out.alloc _).alloc _) (by exact heap_new (by simp)) (by rfl) (by intro u hu; simp at hu; rcases hu with rfl | rfl | rfl <;> rfl) (by omega) (by omega) (by omega) (by simp; omega) ?_))
      intro g cap w3 hown3 hgrow hat hlt3
      have hpbo : some ps ≠ cv.ownBlock := fun e => by have := (HOWN.out.lt ps e.symm).1; omega
      have hps3 : w3.heap[ps]? = some (.cells ({ St.mk0 0 tS with cols := cv } : St).arr 38 (0, 0)) := by
        rw [hgrow.block ps (by simp; omega) hpbo, Below.heap_alloc _ _ _ (by simp; omega), Below.heap_alloc _ _ _ (by omega)]; exact HPS
      have hbl3 : Below ps w2 w3 := ((HBL.out.alloc (by omega) _).alloc (by simp; omega) _).grown hgrow (by simp; omega) (fun k hk => by have := (HOWN.out.lt k hk).1; omega)
      have hc83 : w3.cell? ⟨ps, 8, none⟩ = some cv := by simp [World.cell?, hps3, St.arr]
      have hf83 : w3.frozen? ⟨ps, 8, none⟩ = false := by simp [World.frozen?, hps3]
      have HPS3 : Hid _ := hps3
      have HOWN3 : Hid (w3.ownsRow (ps + 1) 109 3 (.slice (some ⟨g, 0, none⟩) (k + 1) cap) (k + 1) ((colsL k).flatten ++ colL (cname k))) := hown3
      have HBL3 : Hid (Below ps w2 w3) := hbl3
      clear hps3 hown3 hgrow hat hbl3 HPS HOWN HBL hc8 hf8 hpbo
      go_wp2_with fail
      go_roundw
      case rel =>
        refine ⟨k + 1, by omega, by go_num, .slice (some ⟨g, 0, none⟩) (k + 1) cap, (heap_set HPS3.out _).trans (by kernel_rfl), ?_, HBL3.out.setCell (Nat.le_refl _) _⟩
        have e1 : (colsL (k + 1)).flatten = (colsL k).flatten ++ colL (cname k) := by simp [colsL, List.range_succ]
        rw [e1]
        exact ownsRow_setCell_below HOWN3.out (a := ⟨ps, 8, none⟩) (by show ps < ps + 1; omega) _
      case measure => simp [intOf]; omega
    · have ek : k = n := by omega
      subst ek
      obtain ⟨g, cap, rfl, hg1, hg2⟩ := HOWN.out.form (by omega)
      go_wp2_with (first | (refine wpList_get (ty := 38) _ rfl rfl rfl Yaed.underlying38 rfl HPS.out size38 ?_) | (refine wpList_put (ty := 38) rfl rfl rfl rfl size38 (by kernel_rfl) ?_ ?_))
      · obtain ⟨z, hz, hsz⟩ := HR0.out
        refine ⟨z, ?_, hsz⟩
        rw [HBL.out.block _ (by omega), HK2.out.block _ (by omega), HB1.out.block _ (by omega)]
        exact hz
      intro w4 h4 k4 s4
      go_wp2_with fail
      refine bodyPost_ret (results_cell_row rfl _ _ _ _ _ _ _ rfl h4 Yaed.underlying38 rfl size38) rfl ⟨_, rfl, ?_, ?_⟩
      · have hA := Arr.of_owns (rows := colsL k) (by simpa [colsL] using HOWN.out) (by intro r hr; simp [colsL] at hr; obtain ⟨i, _, rfl⟩ := hr; rfl)
        have hB := hA.keep (k4.mono (Y := fun k => g = k) (fun b hb e => by omega)) (fun b hb => by simpa [Value.ownBlock] using hb)
        exact hB.mono (fun b hb => by have : g = b := by simpa [Value.ownBlock] using hb
                                      omega)
      · have hb2 : Below w.heap.size w w2 := HB0.out.trans ((HB1.out.mono (by omega)).trans (HK2.out.mono (by omega)))
        exact (hb2.trans (HBL.out.mono (by omega))).trans (k4.below (fun k hk => by omega))
end Go.Proofs.YgdaegDoor
