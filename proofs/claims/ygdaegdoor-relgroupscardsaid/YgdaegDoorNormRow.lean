import Derived.Test.YgdaegDoorMid
namespace Go.Proofs.YgdaegDoor
open Go.RowKit
set_option linter.unusedSimpArgs false
set_option linter.unusedVariables false
set_option maxRecDepth 20000 in
set_option maxHeartbeats 2000000 in
/-- normRow: each value normed. -/
theorem normRow_any (n : Nat) (hn : n ≤ 1000) (f : Nat → V) (ib ic : Nat) (w : World) (hib : ib < w.heap.size) (hcells : ∀ i, i < n → w.rangeAt ib (i * 4) (f i).list) :
    Calls Yaed.prog 236 #[.slice (some ⟨ib, 0, none⟩) n ic] w fun r w' => ∃ g, r = .returned (.slice (some ⟨g, 0, none⟩) n n) ∧ w.heap.size ≤ g ∧ g < w'.heap.size ∧ (∀ i, i < n → w'.rangeAt g (i * 4) (norm (f i)).list) ∧ Below w.heap.size w w' := by
  have HC : Hid (∀ i, i < n → w.rangeAt ib (i * 4) (f i).list) := hcells
  clear hcells
  go_enter Yaed.func236, Yaed.ntmps236
  go_wp2_with (refine wpList_mk (n := n) rfl rfl Yaed.underlying94 info100 rfl rfl (by omega) (by omega) ?_)
  intro w1 cs hcs hcz hb1 hs1 _
  obtain ⟨G, hG⟩ : ∃ G, w.heap.size = G := ⟨_, rfl⟩
  have HB1 : Hid (Below G w w1) := by rw [← hG]; exact hb1
  have HT1 : Hid (w1.there G 0 (n * 4)) := by rw [← hG]; exact there_block hcs 0 _ (by omega)
  have hg1 : G < w1.heap.size := by omega
  rw [hG]
  rw [hG] at hib
  have HG : Hid (w.heap.size = G) := hG
  clear hcs hcz hb1 hs1 hG
  go_wp2_with fail
  go_loopw [11] (fun c wr => ∃ i : Nat, i ≤ n ∧ c = .int .i64 i ∧ G < wr.heap.size ∧ Hid (Below G w wr) ∧ Hid (wr.there G 0 (n * 4)) ∧ Hid (∀ j, j < i → wr.rangeAt G (j * 4) (norm (f j)).list)) (fun c _ => n - (intOf c).toNat)
  case atStart => exact ⟨0, Nat.zero_le _, rfl, hg1, HB1, HT1, fun j hj => absurd hj (Nat.not_lt_zero _)⟩
  case round =>
    obtain ⟨i, hi, rfl, hgr, HB, HT, HR⟩ := hrel
    clear HB1 HT1 hg1
    by_cases hin : i < n
    · have hin' : (i : Int) < n := by omega
      have HX : Hid (wr.rangeAt ib (i * 4) (f i).list) := range_ext (HC.out i hin) HB.out hib
      obtain ⟨v, hv⟩ : ∃ v, f i = v := ⟨_, rfl⟩
      have HV : Hid (f i = v) := hv
      rw [hv] at HX
      clear hv
      go_wp2_with (first | (refine wpList_load_mid rfl 100 _ rfl ib (i * 4) rfl v.list _ HX.out Yaed.underlying100 rfl size100 ?_) | (refine wpList_put (ty := 100) (g := wr.heap.size) rfl rfl rfl rfl size100 (by kernel_rfl) ⟨_, heap_new rfl, rfl⟩ ?_; intro w2 h2 k2 s2; have HN2 : Hid (w2.heap[wr.heap.size]? = some (.cells #[.int .u8 v.k, .int .i64 v.i, .float .f64 v.r, .string v.s] 100 (0, 0))) := h2; have HB2 : Hid (Below wr.heap.size wr w2) := (below_alloc _ _).trans (k2.below (fun k hk => by show k ≠ wr.heap.size; omega)); clear h2 k2 s2) | (refine wpList_get (ty := 100) _ rfl rfl rfl Yaed.underlying100 rfl HN2.out size100 ?_))
      have hs2 := HB2.out.size
      refine (norm_any v w2).mono ?_
      rintro e w3 ⟨rfl, hb3⟩
      have HB3 : Hid (Below wr.heap.size wr w3) := HB2.out.trans (hb3.mono hs2)
      clear hb3 HB2 HN2 HX
      obtain ⟨u, hu⟩ : ∃ u, norm v = u := ⟨_, rfl⟩
      have HU : Hid (norm (f i) = u) := by rw [HV.out]; exact hu
      rw [hu]
      clear hu
      have HTH3 : Hid (w3.there G (i * 4) 4) := fun q hq => by
        have h1 := there_ext HT.out HB3.out hgr (i * 4 + q) (by omega)
        rw [Nat.zero_add] at h1
        exact h1
      unfold V.val
      go_wp2_with (refine wpList_putM (ty := 100) (b := G) (o := i * 4) rfl rfl rfl rfl HTH3.out size100 (by kernel_rfl) ?_)
      intro w4 k4 s4 r4 a4 t4
      have HB4 : Hid (Below G w w4) := (HB.out.trans (HB3.out.mono (by omega))).trans (k4.below (fun k hk => by show k ≠ G; omega))
      have HT4 : Hid (w4.there G 0 (n * 4)) := t4 _ _ (there_ext HT.out HB3.out hgr)
      have HR4 : Hid (∀ j, j < i + 1 → w4.rangeAt G (j * 4) (norm (f j)).list) := fun j hj => by
        by_cases e : j = i
        · subst e
          rw [HU.out]
          exact r4
        · exact a4 _ _ (range_ext (HR.out j (by omega)) HB3.out hgr) (.inl (by show j * 4 + 4 ≤ i * 4; omega))
      have hg4 : G < w4.heap.size := by have := HB3.out.size; omega
      clear k4 s4 r4 a4 t4 HT HR HB HB3 HTH3
      go_wp2_with fail
      go_roundw
      case rel => exact ⟨i + 1, by omega, by go_num, hg4, HB4, HT4, HR4⟩
      case measure => simp [intOf]; omega
    · obtain rfl : i = n := by omega
      go_wp2_with fail
      go_ret
      exact ⟨G, rfl, by rw [HG.out]; exact Nat.le_refl _, hgr, HR.out, by rw [HG.out]; exact HB.out⟩
end Go.Proofs.YgdaegDoor
