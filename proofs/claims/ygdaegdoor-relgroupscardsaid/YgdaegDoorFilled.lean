import Derived.Test.YgdaegDoorLaws
namespace Go.Proofs.YgdaegDoor
open Go.RowKit
set_option linter.unusedSimpArgs false
set_option linter.unusedVariables false
/-- The kit of the rel laws. -/
abbrev kitV : Value := .agg #[.func (.func 207) #[] #[], .func (.func 39) #[] #[]]
theorem Arr2.inb {w : World} {ok : Nat → Prop} {v : Value} {k : Nat} {rss : List (List (List Value))} (h : Arr2 w ok v k rss) : Arr2 w (fun b => ok b ∧ b < w.heap.size) v k rss := by
  obtain ⟨vs, h1, h2, h3⟩ := h
  exact ⟨vs, h1, h2.inb, fun i hi => (h3 i hi).inb⟩
theorem Arr2.shape {w : World} {ok : Nat → Prop} {v : Value} {k : Nat} {rss : List (List (List Value))} (h : Arr2 w ok v k rss) : ∃ a c, v = .slice a rss.length c := by
  obtain ⟨vs, h1, h2, h3⟩ := h
  obtain ⟨a, c, he, _⟩ := h2
  exact ⟨a, c, by rw [he, List.length_map, h1]⟩
theorem Arr2.head {w : World} {ok : Nat → Prop} {rv : Value} {rs : List (List V)} (h : Arr2 w ok rv 4 (rowsL rs)) (h0 : 1 ≤ rs.length) :
    ∃ rb ro rc a1 c1, rv = .slice (some ⟨rb, ro, none⟩) rs.length rc ∧ rb < w.heap.size ∧ w.cell? ⟨rb, ro, none⟩ = some (.slice a1 (rs.getD 0 []).length c1) := by
  obtain ⟨vs, hl, ha, hi⟩ := h
  have hl' : vs.length = rs.length := by simpa [rowsL] using hl
  obtain ⟨a, c, he, _, hcell⟩ := ha
  rw [List.length_map, hl'] at he hcell
  obtain ⟨b, o, rfl, _, hb, hcc⟩ := hcell 0 (by omega)
  have h1 := hi 0 (by rw [rowsL, List.length_map]; omega)
  have e1 : (rowsL rs).getD 0 [] = (rs.getD 0 []).map V.list := by simp [rowsL, List.getD_eq_getElem?_getD, (show 0 < rs.length by omega)]
  rw [e1] at h1
  obtain ⟨a1, c1, he1, _⟩ := h1.shape
  refine ⟨b, o, c, a1, c1, he, hb, ?_⟩
  have h2 := hcc 0 (by omega)
  have h3 : vs.getD 0 undef = .slice a1 (rs.getD 0 []).length c1 := by simpa using he1
  rw [← h3]
  simpa [List.getD_eq_getElem?_getD, hl', (show 0 < rs.length by omega)] using h2
set_option maxRecDepth 20000 in
set_option maxHeartbeats 4000000 in
theorem filled_any (n : Nat) (hn0 : 1 ≤ n) (hn4 : n ≤ 4) (rs : List (List V)) (hrs : ∀ r ∈ rs, r.length = n) (hm0 : 1 ≤ rs.length) (hm : rs.length ≤ 32) (hok : ∀ v ∈ rs.flatten, v.ok) (rv : Value) (w : World) (ok : Nat → Prop) (hrv : Arr2 w ok rv 4 (rowsL rs)) :
    Calls Yaed.prog 26 #[kitV, nilS, rv] w fun r w' => ∃ bd bt tc cs ds rr, r = .returned (.tuple #[.pointer (some ⟨bd, 0, none⟩), .bool true]) ∧ w.heap.size ≤ bd ∧ w.heap.size ≤ bt ∧ DB1 w' bd bt tc ⟨tS, cs, nilSl, ds, rr⟩ ∧
      Arr w' (fun b => w.heap.size ≤ b ∧ b ≠ bd ∧ b ≠ bt) cs.v 3 ((nsN n).map colL) ∧ Arr w' (fun b => w.heap.size ≤ b ∧ b ≠ bd ∧ b ≠ bt) ds.v 1 (idsL (idsN 1 rs.length)) ∧ Arr2 w' (fun b => w.heap.size ≤ b ∧ b ≠ bd ∧ b ≠ bt) rr.v 4 (rowsL (normR rs)) ∧ Below w.heap.size w w' := by
  obtain ⟨rb, ro, rc, a1, c1, rfl, hrb, hcell⟩ := hrv.head hm0
  have hg : (rs.getD 0 []).length = n := hrs _ (by rw [getD_of_lt _ _ _ (by omega)]; exact List.getElem_mem _)
  rw [hg] at hcell
  have HRS : Hid (∀ r ∈ rs, r.length = n) := hrs
  have HOK : Hid (∀ v ∈ rs.flatten, v.ok) := hok
  have HRV : Hid (Arr2 w ok (.slice (some ⟨rb, ro, none⟩) rs.length rc) 4 (rowsL rs)) := hrv
  obtain ⟨m, hmm⟩ : ∃ m, rs.length = m := ⟨_, rfl⟩
  rw [hmm] at hm0 hm HRV
  have HM : Hid (rs.length = m) := hmm
  rw [hmm]
  clear hrs hok hrv hmm hg
  have hrb1 : ¬ rb = w.heap.size := by omega
  have hrb2 : ¬ rb = w.heap.size + 1 := by omega
  go_enter Yaed.func26, Yaed.ntmps26
  go_wp2_with fail
  generalize hw0 : World.alloc (World.alloc _ _) _ = w0
  have HK0 : Hid (w0.cell? ⟨w.heap.size, 0, none⟩ = some (.func (.func 207) #[] #[])) := by rw [← hw0]; exact cell_of_row _ _ 0 _ 27 _ ((heap_old (by simp)).trans (heap_alloc_new _ _))
  have HD0 : Hid (DB0 w0 (w.heap.size + 1)) := by rw [← hw0]; exact ⟨none, heap_new (by simp)⟩
  have HB0 : Hid (Below w.heap.size w w0) := by rw [← hw0]; exact (below_alloc _ _).trans ((below_alloc _ _).mono (by simp))
  have hs0 : w.heap.size + 2 ≤ w0.heap.size := by rw [← hw0]; simp
  clear hw0
  refine (createStmt_any n hn0 hn4 w0).mono ?_
  rintro e w1 ⟨cv, rfl, hcv, hb1⟩
  obtain ⟨ca, cc, rfl, _⟩ := hcv.shape
  generalize (colsL n).length = cl at *
  have HB1 : Hid (Below w0.heap.size w0 w1) := hb1
  have HCV : Hid (Arr w1 (fun b => w0.heap.size ≤ b) (.slice ca cl cc) 3 (colsL n)) := hcv
  have hs1 := hb1.size
  clear hb1 hcv
  unfold St.mk0 St.val St.arr
  go_wp2_with (refine wpList_put (ty := 38) (g := w1.heap.size) rfl rfl rfl rfl size38 (by kernel_rfl) ⟨_, heap_alloc_new w1 _, rfl⟩ ?_)
  intro w2 h2 k2 s2
  have HN2 : Hid (StAt w2 w1.heap.size ({ St.mk0 0 tS with cols := .slice ca cl cc } : St)) := h2
  have HB2 : Hid (Below w1.heap.size w1 w2) := (below_alloc w1 _).trans (k2.below (fun k hk => by show k ≠ w1.heap.size; omega))
  have hs2 : w1.heap.size + 1 ≤ w2.heap.size := by have := k2.size; simp at this; omega
  clear h2 k2 s2
  go_wp2_with fail
  have HBW2 : Hid (Below w.heap.size w w2) := HB0.out.trans ((HB1.out.mono (by omega)).trans (HB2.out.mono (by omega)))
  refine (insertStmt_any n hn4 rs HRS.out (by rw [HM.out]; exact hm) (by rw [HM.out]; exact hm0) _ w2 ok (HRV.out.ext HBW2.out)).mono ?_
  rintro e w3 ⟨tv, av, rfl, htv, hav, hb3⟩
  obtain ⟨tta, ttc, rfl⟩ := htv.shape
  obtain ⟨aaa, aac, rfl, _⟩ := hav.shape
  generalize ((List.range rs.length).map (tupRow n)).length = tl at *
  generalize ((paramsE rs).map E.list).length = al at *
  have HB3 : Hid (Below w2.heap.size w2 w3) := hb3
  have HTV : Hid (Arr2 w3 (fun b => w2.heap.size ≤ b) (.slice tta tl ttc) 1 ((List.range rs.length).map (tupRow n)) ∧ Arr w3 (fun b => w2.heap.size ≤ b) (.slice aaa al aac) 12 ((paramsE rs).map E.list)) := ⟨htv, hav⟩
  have hs3 := hb3.size
  clear hb3 htv hav
  unfold St.mk0 St.val St.arr
  have hkc : w3.cell? ⟨w.heap.size, 0, none⟩ = some (.func (.func 207) #[] #[]) := by
    rw [HB3.out.cell (p := ⟨w.heap.size, _, none⟩) (by show w.heap.size < w2.heap.size; omega), HB2.out.cell (p := ⟨w.heap.size, _, none⟩) (by show w.heap.size < w1.heap.size; omega), HB1.out.cell (p := ⟨w.heap.size, _, none⟩) (by show w.heap.size < w0.heap.size; omega)]
    exact HK0.out
  go_wp2_with (refine wpList_put (ty := 38) (g := w3.heap.size) rfl rfl rfl rfl size38 (by kernel_rfl) ⟨_, heap_alloc_new w3 _, rfl⟩ ?_)
  intro w4 h4 k4 s4
  have HN4 : Hid (StAt w4 w3.heap.size ({ St.mk0 4 tS with tuples := .slice tta tl ttc, arena := .slice aaa al aac } : St)) := h4
  have HB4 : Hid (Below w3.heap.size w3 w4) := (below_alloc w3 _).trans (k4.below (fun k hk => by show k ≠ w3.heap.size; omega))
  have hs4 : w3.heap.size + 1 ≤ w4.heap.size := by have := k4.size; simp at this; omega
  clear h4 k4 s4
  go_upto_region 4 with fail
  have HB04 : Hid (Below w0.heap.size w0 w4) := HB1.out.trans ((HB2.out.mono (by omega)).trans ((HB3.out.mono (by omega)).trans (HB4.out.mono (by omega))))
  have HS4 : Hid (SAt w4 (fun b => w0.heap.size ≤ b) w1.heap.size ({ St.mk0 0 tS with cols := .slice ca cl cc } : St) [] [] (nsN n)) :=
    sat_create ((HN2.out.ext HB3.out).ext HB4.out) (by show w0.heap.size ≤ w1.heap.size; omega) (((HCV.out.ext HB2.out).ext HB3.out).ext HB4.out)
  have HI4 : Hid (SAt w4 (fun b => w0.heap.size ≤ b ∧ b < w4.heap.size) w3.heap.size ({ St.mk0 4 tS with tuples := .slice tta tl ttc, arena := .slice aaa al aac } : St) (tlN rs.length n) (paramsE rs) []) := by
    refine sat_insert HN4.out ⟨by omega, by omega⟩ ((Arr2.mono (Arr2.inb HTV.out.1) (fun b hb => ⟨by omega, by omega⟩)).ext HB4.out) ((Arr.mono (Arr.inb HTV.out.2) (fun b hb => ⟨by omega, by omega⟩)).ext HB4.out)
  have hkc4 : w4.cell? ⟨w.heap.size, 0, none⟩ = some (.func (.func 207) #[] #[]) := by rw [HB04.out.cell (p := ⟨w.heap.size, _, none⟩) (by show w.heap.size < w0.heap.size; omega)]; exact HK0.out
  clear hkc HN2 HN4 HCV HTV
  go_wp2_with fail
  refine (exec_create HS4.out (fine_create n hn0 hn4 _) rfl rfl (nsN_dist n hn4) (by rw [nsN_len]; exact hn4) (HD0.out.ext HB04.out)).mono ?_
  rintro e w5 ⟨bt, tc, cs, rfl, hdb5, hcs5, hbt5, hk5⟩
  have HDB5 : Hid (DB1 w5 (w.heap.size + 1) bt tc ⟨tS, cs, nilSl, nilSl, nilSl⟩) := hdb5
  have HCS5 : Hid (Arr w5 (fun b => w4.heap.size ≤ b ∧ b < bt) cs.v 3 ((nsN n).map colL)) := hcs5
  have HK5 : Hid (Keep (fun k => k < w4.heap.size ∧ k ≠ w.heap.size + 1) w4 w5) := hk5
  have hs5 := hk5.size
  have hbl5 := hdb5.lt'
  clear hdb5 hcs5 hk5 hkc4
  unfold resV
  go_wp2_with (refine wpList_put (ty := 76) (g := w5.heap.size) rfl rfl rfl rfl size76 (by kernel_rfl) ⟨_, heap_alloc_new w5 _, rfl⟩ ?_)
  intro w6 h6 k6 s6
  have HN6 : Hid (w6.heap[w5.heap.size]? = some (.cells #[.int .u8 0, nilS, .int .i64 0] 76 (0, 0))) := h6
  have HB6 : Hid (Below w5.heap.size w5 w6) := (below_alloc w5 _).trans (k6.below (fun k hk => by show k ≠ w5.heap.size; omega))
  have hs6 : w5.heap.size + 1 ≤ w6.heap.size := by have := k6.size; simp at this; omega
  clear h6 k6 s6
  go_upto_region 5 with fail
  have hkc6 : w6.cell? ⟨w.heap.size, 0, none⟩ = some (.func (.func 207) #[] #[]) := by
    rw [HB6.out.cell (p := ⟨w.heap.size, _, none⟩) (by show w.heap.size < w5.heap.size; omega), HK5.out.cell (p := ⟨w.heap.size, _, none⟩) ⟨by show w.heap.size < w4.heap.size; omega, by show w.heap.size ≠ w.heap.size + 1; omega⟩, HB04.out.cell (p := ⟨w.heap.size, _, none⟩) (by show w.heap.size < w0.heap.size; omega)]
    exact HK0.out
  have HI6 : Hid (SAt w6 (fun b => w0.heap.size ≤ b ∧ b < w4.heap.size) w3.heap.size ({ St.mk0 4 tS with tuples := .slice tta tl ttc, arena := .slice aaa al aac } : St) (tlN rs.length n) (paramsE rs) []) :=
    (HI4.out.keep HK5.out (fun b hb => ⟨hb.2, by omega⟩)).ext HB6.out
  have HDB6 : Hid (DB1 w6 (w.heap.size + 1) bt tc ⟨tS, cs, nilSl, nilSl, nilSl⟩) := HDB5.out.ext HB6.out
  have HCS6 : Hid (Arr w6 (fun b => w4.heap.size ≤ b ∧ b < bt) cs.v 3 ((nsN n).map colL)) := HCS5.out.ext HB6.out
  clear HI4 HDB5 HCS5
  go_wp2_with fail
  refine (exec_insert_new (okc := fun b => w4.heap.size ≤ b ∧ b < bt) n hn0 hn4 rs HRS.out (by rw [HM.out]; exact hm0) (by rw [HM.out]; exact hm) w3.heap.size (w.heap.size + 1) bt tc _ _ (nsN n) (nsN_len n) HI6.out (fine_insert n rs.length hn0 hn4 (by rw [HM.out]; exact hm0) (by rw [HM.out]; exact hm) _ _) rfl (arena_insert n hn4 rs HRS.out (by rw [HM.out]; exact hm) HOK.out _ rfl) HDB6.out rfl rfl rfl HCS6.out (by omega) (fun rv w7 _ => unique_none _ _ _ _ w7)).mono ?_
  rw [HM.out]
  rintro e w7 ⟨ds, rr, rfl, hdb7, hds7, hrr7, hk7⟩
  have HDB7 : Hid (DB1 w7 (w.heap.size + 1) bt tc ⟨tS, cs, nilSl, ds, rr⟩) := hdb7
  have HDS7 : Hid (Arr w7 (fun b => w6.heap.size < b) ds.v 1 (idsL (idsN 1 m)) ∧ Arr2 w7 (fun b => w6.heap.size < b) rr.v 4 (rowsL (normR rs))) := ⟨hds7, hrr7⟩
  have HK7 : Hid (Keep (fun k => k < w6.heap.size ∧ k ≠ bt) w6 w7) := hk7
  have hs7 := hk7.size
  clear hdb7 hds7 hrr7 hk7 hkc6
  unfold resV
  go_wp2_with (refine wpList_put (ty := 76) (g := w7.heap.size) rfl rfl rfl rfl size76 (by kernel_rfl) ⟨_, heap_alloc_new w7 _, rfl⟩ ?_)
  intro w8 h8 k8 s8
  have HN8 : Hid (w8.heap[w7.heap.size]? = some (.cells #[.int .u8 0, nilS, .int .i64 m] 76 (0, 0))) := h8
  have HB8 : Hid (Below w7.heap.size w7 w8) := (below_alloc w7 _).trans (k8.below (fun k hk => by show k ≠ w7.heap.size; omega))
  have hs8 : w7.heap.size + 1 ≤ w8.heap.size := by have := k8.size; simp at this; omega
  clear h8 k8 s8
  go_upto_region 6 with fail
  have hn6 : w8.heap[w5.heap.size]? = some (.cells #[.int .u8 0, nilS, .int .i64 0] 76 (0, 0)) := (HB8.out.block _ (by omega)).trans ((HK7.out.block _ ⟨by omega, by omega⟩).trans HN6.out)
  have c0 : w8.cell? ⟨w5.heap.size, 0, none⟩ = some (.int .u8 0) := cell_of_row w8 _ 0 _ _ _ hn6
  have c2 : w8.cell? ⟨w5.heap.size, 2, none⟩ = some (.int .i64 0) := cell_of_row w8 _ 2 _ _ _ hn6
  have d0 : w8.cell? ⟨w7.heap.size, 0, none⟩ = some (.int .u8 0) := cell_of_row w8 _ 0 _ _ _ HN8.out
  have d2 : w8.cell? ⟨w7.heap.size, 2, none⟩ = some (.int .i64 m) := cell_of_row w8 _ 2 _ _ _ HN8.out
  clear hn6
  refine wp_region_can (l := [_, _, _, _, _, _, _, _, _, _, _, _, _, _, _, _, _, _, _, _, _, _]) [(true, 0), (true, 1), (true, 2), (true, 3), (true, 4), (true, 5), (true, 6), (true, 7), (true, 8), (true, 9), (true, 10), (true, 11), (true, 12), (true, 13), (true, 14), (true, 15), (true, 16), (true, 17), (true, 18), (true, 19), (true, 20), (true, 21)] (fun W => W.cell? ⟨w5.heap.size, 0, none⟩ = some (.int .u8 0) ∧ W.cell? ⟨w5.heap.size, 2, none⟩ = some (.int .i64 0) ∧ W.cell? ⟨w7.heap.size, 0, none⟩ = some (.int .u8 0) ∧ W.cell? ⟨w7.heap.size, 2, none⟩ = some (.int .i64 m)) (by kernel_rfl) (by kernel_rfl) ⟨c0, c2, d0, d2⟩ ?_
  repeat (first | ((first | refine wpCan_q (v := ?_) rfl rfl rfl ?_ ?_ | refine wpCan_qg (v := ?_) rfl rfl (by rfl) ?_ ?_); rotate_left; (focus (rintro W ⟨q1, q2, q3, q4⟩; go_simp; first | done | exact rfl)); simp only [Act.put, List.setIfInBounds_toArray, List.set_cons_zero, List.set_cons_succ]) | (refine wpCan_skip rfl rfl (by rfl) ?_; simp only [Act.put, List.setIfInBounds_toArray, List.set_cons_zero, List.set_cons_succ]))
  refine wpCan_nil ?_
  generalize hw9 : World.drew _ = w9
  have HB9 : Hid (Below w7.heap.size w7 w9) := by rw [← hw9]; exact HB8.out.drew
  clear hw9 c0 c2 d0 d2
  go_wp2_with fail
  go_ret2
  have hsw := HBW2.out.size
  have hkall : Keep (fun k => k < w.heap.size) w w9 := (Keep.of_below (HB0.out.trans (HB04.out.mono (by omega))) (fun k hk => hk)).trans ((HK5.out.mono (fun k hk => ⟨by omega, by omega⟩)).trans ((Keep.of_below HB6.out (fun k hk => by omega)).trans ((HK7.out.mono (fun k hk => ⟨by omega, by omega⟩)).trans (Keep.of_below HB9.out (fun k hk => by omega)))))
  refine ⟨w.heap.size + 1, bt, tc, cs, ds, rr, rfl, by omega, by omega, HDB7.out.ext HB9.out, ?_, ?_, ?_, hkall.below (fun k hk => hk)⟩
  · exact ((HCS6.out.keep HK7.out (fun b hb => ⟨by omega, by omega⟩)).ext HB9.out).mono (fun b hb => ⟨by omega, by omega, by omega⟩)
  · exact (HDS7.out.1.ext HB9.out).mono (fun b hb => ⟨by omega, by omega, by omega⟩)
  · exact (HDS7.out.2.ext HB9.out).mono (fun b hb => ⟨by omega, by omega, by omega⟩)
end Go.Proofs.YgdaegDoor
