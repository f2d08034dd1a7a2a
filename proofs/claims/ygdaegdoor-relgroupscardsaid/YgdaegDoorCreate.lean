import Derived.Test.YgdaegDoorDb2
namespace Go.Proofs.YgdaegDoor
open Go.RowKit
set_option linter.unusedSimpArgs false
set_option linter.unusedVariables false

structure Dist (ns : List ByteArray) : Prop where
  rowid : ∀ i, i < ns.length → ((ns.getD i eS).toList == [114, 111, 119, 105, 100]) = false
  ne : ∀ i j, j < i → i < ns.length → ((ns.getD j eS).toList == (ns.getD i eS).toList) = false

theorem info137 : infoTest Yaed.prog 137 6 120 = true := by kernel_rfl
theorem info138 : infoTest Yaed.prog 138 4 56 = true := by kernel_rfl

set_option maxRecDepth 20000 in
set_option maxHeartbeats 4000000 in
theorem createTable_any (s : St) (ps bd : Nat) (ns : List ByteArray) (hd : Dist ns) (h4 : ns.length ≤ 4) (w : World) (ok : Nat → Prop) (hst : StAt w ps s) (hnm : s.table = tS) (hc : Arr w ok s.cols 3 (ns.map colL)) (hdb : DB0 w bd) :
    Calls Yaed.prog 209 #[.pointer (some ⟨bd, 0, none⟩), .pointer (some ⟨ps, 0, none⟩)] w fun r w' => ∃ bt tc cs, r = .returned (resV 0 0 nilS) ∧ DB1 w' bd bt tc ⟨tS, cs, nilSl, nilSl, nilSl⟩ ∧
      Arr w' (fun b => w.heap.size ≤ b ∧ b < bt) cs.v 3 (ns.map colL) ∧ w.heap.size ≤ bt ∧ Keep (fun k => k < w.heap.size ∧ k ≠ bd) w w' := by
  have HST : Hid (StAt w ps s) := hst
  have HDB : Hid (DB0 w bd) := hdb
  have HD : Hid (Dist ns) := hd
  obtain ⟨ca, cc, hcv, hcc⟩ := hc.shape
  rw [List.length_map] at hcv hcc
  rw [hcv] at hc
  have HC : Hid (Arr w ok (.slice ca ns.length cc) 3 (ns.map colL)) := hc
  have f6 : w.cell? ⟨ps, 6, none⟩ = some (.string s.table) := hst.cell 6
  have f8 : w.cell? ⟨ps, 8, none⟩ = some s.cols := hst.cell 8
  rw [hcv] at f8
  rw [hnm] at f6
  have hps := hst.lt
  have hps' : ¬ ps = w.heap.size := by omega
  clear hst hd hc hdb
  go_enter Yaed.func209, Yaed.ntmps209
  go_wp2_with fail
  generalize hw0 : World.alloc _ _ = w0
  have HB0 : Hid (Below w.heap.size w w0 ∧ ∃ z, w0.heap[w.heap.size]? = some (.cells z 76 (0, 0)) ∧ z.size = 3) := by rw [← hw0]; exact ⟨below_alloc _ _, _, heap_alloc_new _ _, rfl⟩
  have hs0 : w0.heap.size = w.heap.size + 1 := by rw [← hw0]; simp
  clear hw0
  have hbd := HDB.out.lt
  refine (nameUsed_empty _ _ _ (HDB.out.ext HB0.out.1)).mono ?_
  rintro e w1 ⟨rfl, rfl⟩
  replace f8 : w1.cell? ⟨ps, 8, none⟩ = some (.slice ca ns.length cc) := by rw [HB0.out.1.cell (p := ⟨ps, _, none⟩) hps]; exact f8
  go_wp2_with fail
  have HR0 : Hid (∃ z, w1.heap[w.heap.size]? = some (.cells z 76 (0, 0)) ∧ z.size = 3) := HB0.out.2
  go_loopw [21] (fun c wr => ∃ k : Nat, k ≤ ns.length ∧ c = .int .i64 k ∧ Hid (Below w1.heap.size w1 wr)) (fun c _ => ns.length - (intOf c).toNat)
  case atStart => exact ⟨0, Nat.zero_le _, rfl, Below.refl _ _⟩
  case round =>
    obtain ⟨k, hk, rfl, HB⟩ := hrel
    have HBW : Hid (Below w.heap.size w wr) := HB0.out.1.trans (HB.out.mono (by omega))
    by_cases hkn : k < ns.length
    · obtain ⟨b, o, rfl, _, hb, g0, g1, g2⟩ := colAt HC.out k hkn
      obtain ⟨nm, hnm⟩ : ∃ nm, ns[k] = nm := ⟨_, rfl⟩
      rw [hnm] at g0
      have HNM : Hid (ns.getD k eS = nm) := by rw [← hnm]; exact getD_of_lt _ _ _ (by omega)
      rw [← HBW.out.cell (p := ⟨b, _, none⟩) hb] at g0 g1 g2
      have f8' : wr.cell? ⟨ps, 8, none⟩ = some (.slice (some ⟨b, o, none⟩) ns.length cc) := by rw [HB.out.cell (p := ⟨ps, _, none⟩) (by show ps < w1.heap.size; omega)]; exact f8
      have hrow := HD.out.rowid k hkn
      rw [HNM.out] at hrow
      have hkc : (k : Int) ≤ cc := by omega
      have hkc' : (k : Int) ≤ ns.length := by omega
      have hpl2 : ps < wr.heap.size := by have := HBW.out.size; omega
      have hpl : ¬ ps = wr.heap.size := by omega
      clear hnm
      go_wp2_with fail
      generalize hw2 : World.alloc _ _ = w2
      have HB2 : Hid (Below wr.heap.size wr w2) := by rw [← hw2]; exact below_alloc _ _
      have q0 : w2.cell? ⟨wr.heap.size, 0, none⟩ = some (.string nm) := by rw [← hw2]; simp [go_sem]
      have q1 : w2.heap.size = wr.heap.size + 1 := by rw [← hw2]; simp
      clear hw2
      have HB12 : Hid (Below w1.heap.size w1 w2) := HB.out.trans (HB2.out.mono HB.out.size)
      have HBW2 : Hid (Below w.heap.size w w2) := HBW.out.trans (HB2.out.mono HBW.out.size)
      clear f8' g0 g1 g2 HB HB2 HBW
      generalize wr.heap.size = H at *
      go_loopw [37] (fun c w3 => ∃ j : Nat, j ≤ k ∧ c = .int .i64 j ∧ Hid (Below w2.heap.size w2 w3)) (fun c _ => k - (intOf c).toNat)
      case atStart => exact ⟨0, Nat.zero_le _, rfl, Below.refl _ _⟩
      case round =>
        obtain ⟨j, hj, rfl, HB3⟩ := hrel
        have q0' : wr.cell? ⟨H, 0, none⟩ = some (.string nm) := by rw [HB3.out.cell (p := ⟨H, _, none⟩) (by show H < w2.heap.size; omega)]; exact q0
        by_cases hjk : j < k
        · have HBW3 : Hid (Below w.heap.size w wr) := HBW2.out.trans (HB3.out.mono HBW2.out.size)
          obtain ⟨b', o', he, _, _, g0, g1, g2⟩ := colAt HC.out j (by omega)
          obtain ⟨rfl, rfl⟩ : b = b' ∧ o = o' := by simpa using he
          obtain ⟨nj, hnj⟩ : ∃ nj, ns[j] = nj := ⟨_, rfl⟩
          rw [hnj] at g0
          have hdif := HD.out.ne k j hjk hkn
          rw [HNM.out, getD_of_lt _ j _ (by omega), hnj] at hdif
          rw [← HBW3.out.cell (p := ⟨b, _, none⟩) hb] at g0 g1 g2
          have hbl : b < wr.heap.size := by have := HBW3.out.size; omega
          have hHl : H < wr.heap.size := by have := HB3.out.size; omega
          have hHn : ¬ H = wr.heap.size := by omega
          clear hnj he
          go_wp2_with fail
          go_roundw
          case rel => exact ⟨j + 1, by omega, by go_num, HB3.out.alloc HB3.out.size _⟩
          case measure => simp [intOf]; omega
        · have ejk : j = k := by omega
          subst ejk
          go_wp2_with fail
          go_roundw
          case rel => exact ⟨j + 1, by omega, by go_num, HB12.out.trans (HB3.out.mono HB12.out.size)⟩
          case measure => simp [intOf]; omega
    · have ek : k = ns.length := by omega
      subst ek
      obtain ⟨da, d0, d1, d2, d3⟩ := (HDB.out.ext HBW.out).facts
      have e6 : wr.cell? ⟨ps, 6, none⟩ = some (.string tS) := by rw [HBW.out.cell (p := ⟨ps, _, none⟩) hps]; exact f6
      have e8 : wr.cell? ⟨ps, 8, none⟩ = some (.slice ca ns.length cc) := by rw [HB.out.cell (p := ⟨ps, _, none⟩) (by show ps < w1.heap.size; omega)]; exact f8
      have h4i : ¬ (4 : Int) < ns.length := by omega
      have h4n : ¬ 4 < ns.length := by omega
      go_wp2_with fail
      refine wp_region_can (l := [_, _, _, _, _, _, _, _, _, _, _, _, _, _, _, _, _]) [(true, 0), (true, 1), (true, 2), (true, 3), (true, 4), (true, 5), (true, 6), (true, 7), (true, 8), (true, 9), (true, 10), (true, 11), (true, 12), (false, 13), (true, 14), (false, 15), (false, 16)]
        (fun W => W.cell? ⟨bd, 0, none⟩ = some (.slice da 0 0) ∧ W.cell? ⟨ps, 6, none⟩ = some (.string tS) ∧ W.cell? ⟨ps, 8, none⟩ = some (.slice ca ns.length cc)) (by kernel_rfl) (by kernel_rfl) ⟨d0, e6, e8⟩ ?_
      generalize hw4 : World.drew _ = w4
      have HB4 : Hid (Below w.heap.size w w4) := by rw [← hw4]; exact HBW.out.drew
      have HR4 : Hid (∃ z, w4.heap[w.heap.size]? = some (.cells z 76 (0, 0)) ∧ z.size = 3) := by rw [← hw4]; obtain ⟨z, h1, h2⟩ := HR0.out; exact ⟨z, (HB.out.block _ (by omega)).trans h1, h2⟩
      have hs4 : w1.heap.size ≤ w4.heap.size := by rw [← hw4]; exact HB.out.size
      replace d0 : w4.cell? ⟨bd, 0, none⟩ = some (.slice da 0 0) := by rw [← hw4]; exact d0
      replace e6 : w4.cell? ⟨ps, 6, none⟩ = some (.string tS) := by rw [← hw4]; exact e6
      replace e8 : w4.cell? ⟨ps, 8, none⟩ = some (.slice ca ns.length cc) := by rw [← hw4]; exact e8
      clear hw4 HB HBW d1 d2 d3
      repeat ((first | refine wpCan_q (v := ?_) rfl rfl rfl ?_ ?_ | refine wpCan_qg (v := ?_) rfl rfl (by rfl) ?_ ?_); rotate_left; (focus (rintro W ⟨q1, q2, q3⟩; go_simp; first | done | exact rfl)); simp only [Act.put, List.setIfInBounds_toArray, List.set_cons_zero, List.set_cons_succ])
      refine wpCan_e rfl rfl (fun K hK => ?_)
      refine wp_appS w4.heap.size rfl Yaed.underlying31 info109 rfl rfl (World.ownsRow_nil _ _ _ _) (HC.out.ext HB4.out) ?_ ?_ (by omega) (by simp; omega) (by omega) (Nat.le_refl _) ?_
      · intro r hr; obtain ⟨x, _, rfl⟩ := List.mem_map.1 hr; rfl
      · intro u hu; obtain ⟨l, hl, hu⟩ := List.mem_flatten.1 hu; obtain ⟨x, _, rfl⟩ := List.mem_map.1 hl; simp [colL] at hu; rcases hu with rfl | rfl | rfl <;> rfl
      intro ga gc w5 hown5 hgr5 _
      have HB5 : Hid (Below w4.heap.size w4 w5) := ⟨hgr5.os, hgr5.tape, hgr5.output, hgr5.size, fun k hk => hgr5.block k hk (by intro e; cases e)⟩
      have hbd4 : bd < w4.heap.size := by omega
      have hps4 : ps < w4.heap.size := by omega
      rw [List.length_map, Nat.zero_add] at hown5
      simp only [List.nil_append] at hown5
      have HO5 : Hid (w5.ownsRow w4.heap.size 109 3 (.slice ga ns.length gc) ns.length (ns.map colL).flatten) := hown5
      clear hown5 hgr5
      replace d0 : w5.cell? ⟨bd, 0, none⟩ = some (.slice da 0 0) := by rw [HB5.out.cell (p := ⟨bd, _, none⟩) hbd4]; exact d0
      replace e6 : w5.cell? ⟨ps, 6, none⟩ = some (.string tS) := by rw [HB5.out.cell (p := ⟨ps, _, none⟩) hps4]; exact e6
      replace e8 : w5.cell? ⟨ps, 8, none⟩ = some (.slice ca ns.length cc) := by rw [HB5.out.cell (p := ⟨ps, _, none⟩) hps4]; exact e8
      simp only [Act.put, List.setIfInBounds_toArray, List.set_cons_zero, List.set_cons_succ, List.length_map, Nat.zero_add]
      refine hK _ _ ⟨⟨d0, e6, e8⟩, ?_⟩
      clear hK K
      repeat ((first | refine wpCan_q (v := ?_) rfl rfl rfl ?_ ?_ | refine wpCan_qg (v := ?_) rfl rfl (by rfl) ?_ ?_); rotate_left; (focus (rintro W ⟨q1, q2, q3⟩; go_simp; first | done | exact rfl)); simp only [Act.put, List.setIfInBounds_toArray, List.set_cons_zero, List.set_cons_succ])
      refine wpCan_e rfl rfl (fun K hK => ?_)
      go_simp
      generalize hw6 : World.alloc _ _ = w6
      have HB6 : Hid (Below w5.heap.size w5 w6) := by rw [← hw6]; exact below_alloc _ _
      have HN6 : Hid (w6.heap[w5.heap.size]? = some (.cells #[.string tS, .slice ga ns.length gc, .slice none 0 0, .slice none 0 0, .slice none 0 0, .int .i64 0] 137 (0, 0))) := by rw [← hw6]; exact heap_alloc_new _ _
      have hs6 : w6.heap.size = w5.heap.size + 1 := by rw [← hw6]; simp
      have hs5 := HB5.out.size
      clear hw6
      replace d0 : w6.cell? ⟨bd, 0, none⟩ = some (.slice da 0 0) := by rw [HB6.out.cell (p := ⟨bd, _, none⟩) (by show bd < w5.heap.size; omega)]; exact d0
      replace e6 : w6.cell? ⟨ps, 6, none⟩ = some (.string tS) := by rw [HB6.out.cell (p := ⟨ps, _, none⟩) (by show ps < w5.heap.size; omega)]; exact e6
      replace e8 : w6.cell? ⟨ps, 8, none⟩ = some (.slice ca ns.length cc) := by rw [HB6.out.cell (p := ⟨ps, _, none⟩) (by show ps < w5.heap.size; omega)]; exact e8
      refine hK _ _ ⟨⟨d0, e6, e8⟩, ?_⟩
      clear hK K
      refine wpCan_e rfl rfl (fun K hK => ?_)
      refine wp_app0 (ta := da) rfl Yaed.underlying114 info137 rfl rfl HN6.out rfl ?_ (by omega) ?_
      · intro u hu; simp at hu; rcases hu with rfl | rfl | rfl | rfl <;> rfl
      intro tc w7 hown7 hb7 hs7
      have HB7 : Hid (Below w6.heap.size w6 w7) := hb7
      have HO7 : Hid _ := hown7
      clear hown7 hb7
      replace d0 : w7.cell? ⟨bd, 0, none⟩ = some (.slice da 0 0) := by rw [HB7.out.cell (p := ⟨bd, _, none⟩) (by show bd < w6.heap.size; omega)]; exact d0
      replace e6 : w7.cell? ⟨ps, 6, none⟩ = some (.string tS) := by rw [HB7.out.cell (p := ⟨ps, _, none⟩) (by show ps < w6.heap.size; omega)]; exact e6
      replace e8 : w7.cell? ⟨ps, 8, none⟩ = some (.slice ca ns.length cc) := by rw [HB7.out.cell (p := ⟨ps, _, none⟩) (by show ps < w6.heap.size; omega)]; exact e8
      refine hK _ _ ⟨⟨d0, e6, e8⟩, ?_⟩
      clear hK K
      refine wpCan_nil ?_
      simp only [Act.put, List.setIfInBounds_toArray, List.set_cons_zero, List.set_cons_succ]
      have HB47 : Hid (Below w4.heap.size w4 w7) := HB5.out.trans ((HB6.out.mono hs5).trans (HB7.out.mono (by omega)))
      have HBD7 : Hid (DB0 w7 bd) := HDB.out.ext (HB4.out.trans (HB47.out.mono HB4.out.size))
      have d3 : w7.frozen? ⟨bd, 0, none⟩ = false := by obtain ⟨_, _, _, _, h⟩ := HBD7.out.facts; exact h
      go_wp2_with (refine wpList_put (ty := 76) rfl rfl rfl rfl size76 (by kernel_rfl) ?_ ?_)
      · obtain ⟨z, h1, h2⟩ := HR4.out
        refine ⟨z, ?_, h2⟩
        rw [heap_set_ne (by omega), HB47.out.block _ (by omega)]
        exact h1
      intro w8 h8 k8 s8
      go_wp2_with fail
      refine bodyPost_ret (results_cell_row rfl _ _ _ _ _ _ _ rfl h8 Yaed.underlying76 rfl size76) rfl ⟨w6.heap.size, tc, ⟨ga, ns.length, gc⟩, rfl, ?_, ?_, by omega, ?_⟩
      · obtain ⟨da', hda⟩ := HBD7.out
        refine ⟨?_, ?_, by omega, ?_⟩
        · rw [k8.block bd (by show bd ≠ w.heap.size; omega), heap_set hda, hs6]; rfl
        · obtain ⟨_, h | ⟨g, cap, cur, he, _, hg, hc, _, hsz, htk⟩⟩ := HO7.out
          · cases h.1
          · obtain ⟨rfl, rfl⟩ : w6.heap.size = g ∧ tc = cap := by simpa using he
            refine ⟨cur, ?_, htk⟩
            rw [k8.block _ (by show w6.heap.size ≠ w.heap.size; omega), heap_set_ne (by omega)]
            exact hg
        · obtain ⟨_, h | ⟨g, cap, cur, he, _, hg, hc, _, hsz, htk⟩⟩ := HO7.out
          · cases h.1
          · obtain ⟨rfl, rfl⟩ : w6.heap.size = g ∧ tc = cap := by simpa using he
            exact hc
      · have h1 : Arr w5 (fun b => w4.heap.size ≤ b ∧ b < w6.heap.size) (Value.slice ga ns.length gc) 3 (ns.map colL) := by
          refine (Arr.of_owns (rows := ns.map colL) (by rw [List.length_map]; exact HO5.out) (by intro r hr; obtain ⟨x, _, rfl⟩ := List.mem_map.1 hr; rfl)).mono ?_
          intro b hb
          have := HO5.out.lt b hb
          omega
        have h2 := (h1.ext HB6.out).ext HB7.out
        refine (h2.keep (X := fun b => w4.heap.size ≤ b ∧ b < w6.heap.size) ?_ (fun b hb => hb)).mono (fun b hb => ⟨by omega, hb.2⟩)
        · exact ⟨k8.os, k8.tape, k8.output, by simpa using k8.size, fun k hk => by rw [k8.block k (by show k ≠ w.heap.size; omega), heap_set_ne (by omega)]⟩
      · have h1 : Keep (fun k => k < w.heap.size ∧ k ≠ bd) w w7 := Keep.of_below (HB4.out.trans (HB47.out.mono HB4.out.size)) (fun k hk => hk.1)
        exact (h1.setCell (fun h => h.2 rfl) _).trans (k8.mono (fun k hk => by show k ≠ w.heap.size; omega))
end Go.Proofs.YgdaegDoor
