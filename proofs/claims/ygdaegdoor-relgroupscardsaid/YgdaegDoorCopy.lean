import Derived.Test.YgdaegDoorStar
import Derived.Test.YgdaegDoorIndex
namespace Go.Proofs.YgdaegDoor
open Go.RowKit
set_option linter.unusedSimpArgs false
set_option linter.unusedVariables false

def idsL (l : List Int) : List (List Value) := l.map fun i => [Value.int .i64 i]
def oneL (k : Nat) (rows : List (List Value)) : Prop := (∀ r ∈ rows, r.length = k) ∧ ∀ u ∈ rows.flatten, u.oneCell' = true
theorem one_cols (ns : List ByteArray) : oneL 3 (ns.map colL) := by
  refine ⟨fun r hr => ?_, fun u hu => ?_⟩
  · obtain ⟨x, _, rfl⟩ := List.mem_map.1 hr; rfl
  · obtain ⟨l, hl, hu⟩ := List.mem_flatten.1 hu; obtain ⟨x, _, rfl⟩ := List.mem_map.1 hl; simp [colL] at hu; rcases hu with rfl | rfl | rfl <;> rfl
theorem one_ids (l : List Int) : oneL 1 (idsL l) := by
  refine ⟨fun r hr => ?_, fun u hu => ?_⟩
  · obtain ⟨x, _, rfl⟩ := List.mem_map.1 hr; rfl
  · obtain ⟨l, hl, hu⟩ := List.mem_flatten.1 hu; obtain ⟨x, _, rfl⟩ := List.mem_map.1 hl; simp at hu; subst hu; rfl
theorem one_row (r : List V) : oneL 4 (r.map V.list) := by
  refine ⟨fun r hr => ?_, fun u hu => ?_⟩
  · obtain ⟨x, _, rfl⟩ := List.mem_map.1 hr; rfl
  · obtain ⟨l, hl, hu⟩ := List.mem_flatten.1 hu; obtain ⟨x, _, rfl⟩ := List.mem_map.1 hl; simp [V.list] at hu; rcases hu with rfl | rfl | rfl | rfl <;> rfl
theorem one_ix (n c : ByteArray) : oneL 4 [ixL n c] := by
  refine ⟨fun r hr => ?_, fun u hu => ?_⟩
  · simp at hr; subst hr; rfl
  · simp [ixL] at hu; rcases hu with rfl | rfl | rfl | rfl <;> rfl
theorem one_nil (k : Nat) : oneL k [] := ⟨fun r hr => absurd hr (List.not_mem_nil), fun u hu => absurd hu (List.not_mem_nil)⟩

set_option maxHeartbeats 1000000 in
theorem copyTables_empty (ta : Option Addr) (w : World) : Calls Yaed.prog 56 #[.slice ta 0 0] w fun r w' => ∃ oa, r = .returned (.slice oa 0 0) ∧ Below w.heap.size w w' := by
  go_enter Yaed.func56, Yaed.ntmps56
  go_wp2_with (refine wpList_mk (n := 0) rfl rfl Yaed.underlying114 info137 rfl rfl (by omega) (by omega) ?_; intro w1 cs _ _ hb _ _; have HB1 : Hid (Below w.heap.size w w1) := hb; clear hb)
  refine wp_loop_rounds 1 ?_
  rw [rounds_succ]
  go_wp2_with fail
  go_ret
  exact ⟨_, rfl, HB1.out⟩
set_option maxHeartbeats 1000000 in
theorem dump_empty (bd : Nat) (w : World) (h : DB0 w bd) : Calls Yaed.prog 30 #[.pointer (some ⟨bd, 0, none⟩)] w fun r w' => r = .returned nilS ∧ Below w.heap.size w w' := by
  obtain ⟨ta, h0, h1, h2, h3⟩ := h.facts
  clear h
  go_enter Yaed.func30, Yaed.ntmps30
  go_wp2_with fail
  refine (copyTables_empty ta w).mono ?_
  rintro e w1 ⟨oa, rfl, hb⟩
  have HB1 : Hid (Below w.heap.size w w1) := hb
  clear hb
  go_wp2_with fail
  refine wp_loop_rounds 1 ?_
  rw [rounds_succ]
  go_wp2_with fail
  go_ret
  exact ⟨rfl, HB1.out⟩

theorem size137 : (Yaed.prog.info? 137).map (·.size) = some 6 := by kernel_rfl
set_option maxRecDepth 20000 in
set_option maxHeartbeats 4000000 in
theorem copyTables_one (bd bt tc : Nat) (t : T) (ns : List ByteArray) (ixs : List (List Value)) (hix : oneL 4 ixs) (ids : List Int) (rs : List (List V)) (w : World) (ok : Nat → Prop) (hdb : DB1 w bd bt tc t)
    (hc : Arr w ok t.cols.v 3 (ns.map colL)) (hi : Arr w ok t.idx.v 4 ixs) (hd : Arr w ok t.ids.v 1 (idsL ids)) (hr : Arr2 w ok t.rows.v 4 (rowsL rs)) (hl1 : ns.length ≤ 4) (hl2 : ixs.length ≤ 4) (hl3 : ids.length ≤ 100) (hl4 : rs.length ≤ 100) (hl5 : ∀ r ∈ rs, r.length ≤ 4) :
    Calls Yaed.prog 56 #[.slice (some ⟨bt, 0, none⟩) 1 tc] w fun r w' => ∃ bo cs is ds rv, r = .returned (.slice (some ⟨bo, 0, none⟩) 1 1) ∧ w'.heap[bo]? = some (.cells (T.list ⟨t.name, cs, is, ds, rv⟩).toArray 137 (0, 0)) ∧
      Arr w' (fun b => w.heap.size ≤ b) is.v 4 ixs ∧ Arr w' (fun b => w.heap.size ≤ b) ds.v 1 (idsL ids) ∧ rv.n = rs.length ∧ Below w.heap.size w w' := by
  have HDB : Hid (DB1 w bd bt tc t) := hdb
  have HC : Hid (Arr w ok t.cols.v 3 (ns.map colL)) := hc
  have HI : Hid (Arr w ok t.idx.v 4 ixs) := hi
  have HD : Hid (Arr w ok t.ids.v 1 (idsL ids)) := hd
  have HR : Hid (Arr2 w ok t.rows.v 4 (rowsL rs)) := hr
  have HIX : Hid (oneL 4 ixs) := hix
  have hbt := hdb.lt'
  clear hdb hc hi hd hr hix
  go_enter Yaed.func56, Yaed.ntmps56
  go_wp2_with (refine wpList_mk (n := 1) rfl rfl Yaed.underlying114 info137 rfl rfl (by omega) (by omega) ?_; intro w1 cs hcs1 hcs2 hb hs1 _; have HB1 : Hid (Below w.heap.size w w1) := hb; have HCS : Hid (∃ z, w1.heap[w.heap.size]? = some (.cells z 137 (0, 0)) ∧ z.size = 6) := ⟨cs, hcs1, by simpa using hcs2⟩; have hs1' : w.heap.size + 1 ≤ w1.heap.size := Nat.le_of_eq hs1.symm; clear hb hcs1 hcs2 hs1)
  refine wp_loop_rounds 2 ?_
  rw [rounds_succ]
  obtain ⟨t0, t1, t2, t3, t4, t5, _⟩ := (HDB.out.ext HB1.out).tfacts
  go_wp2_with fail
  generalize hw2 : World.alloc _ _ = w2
  have HB2 : Hid (Below w1.heap.size w1 w2) := by rw [← hw2]; exact below_alloc _ _
  have HN2 : Hid (w2.heap[w1.heap.size]? = some (.cells #[.string t.name, .slice t.cols.a t.cols.n t.cols.c, .slice t.idx.a t.idx.n t.idx.c, .slice t.ids.a t.ids.n t.ids.c, .slice t.rows.a t.rows.n t.rows.c, .int .i64 0] 137 (0, 0))) := by rw [← hw2]; exact heap_alloc_new _ _
  have hs2 : w1.heap.size + 1 ≤ w2.heap.size := by rw [← hw2]; simp
  clear hw2 t0 t1 t2 t3 t4 t5
  refine wp_region_can (l := [_, _, _, _, _, _, _, _, _, _, _, _, _, _]) [(true, 0), (true, 1), (true, 2), (true, 3), (true, 4), (true, 5), (true, 7), (true, 8), (true, 10), (true, 11), (false, 6), (false, 9), (false, 12), (true, 13)] (fun W => W.heap[w1.heap.size]? = some (.cells #[.string t.name, .slice t.cols.a t.cols.n t.cols.c, .slice t.idx.a t.idx.n t.idx.c, .slice t.ids.a t.ids.n t.ids.c, .slice t.rows.a t.rows.n t.rows.c, .int .i64 0] 137 (0, 0))) (by kernel_rfl) (by kernel_rfl) HN2.out ?_
  generalize hw3 : World.drew _ = w3
  have HBW3 : Hid (Below w.heap.size w w3) := by rw [← hw3]; exact (HB1.out.trans (HB2.out.mono HB1.out.size)).drew
  have HB13 : Hid (Below w1.heap.size w1 w3) := by rw [← hw3]; exact HB2.out.drew
  have hs3 : w2.heap.size ≤ w3.heap.size := by rw [← hw3]; exact Nat.le_refl _
  replace HN2 : Hid (w3.heap[w1.heap.size]? = some (.cells #[.string t.name, .slice t.cols.a t.cols.n t.cols.c, .slice t.idx.a t.idx.n t.idx.c, .slice t.ids.a t.ids.n t.ids.c, .slice t.rows.a t.rows.n t.rows.c, .int .i64 0] 137 (0, 0))) := by rw [← hw3]; exact HN2.out
  clear hw3
  repeat (first | ((first | refine wpCan_q (v := ?_) rfl rfl rfl ?_ ?_ | refine wpCan_qg (v := ?_) rfl rfl (by rfl) ?_ ?_); rotate_left; (focus (rintro W qn; have hr := fun j => cell_of_row W _ j _ _ _ qn; clear qn; go_simp; first | done | exact rfl)); simp only [Act.put, List.setIfInBounds_toArray, List.set_cons_zero, List.set_cons_succ]) | (refine wpCan_skip rfl rfl (by rfl) ?_; simp only [Act.put, List.setIfInBounds_toArray, List.set_cons_zero, List.set_cons_succ]))
  refine wpCan_e rfl rfl (fun K hK => ?_)
  refine wp_appS w3.heap.size rfl Yaed.underlying31 info109 rfl rfl (World.ownsRow_nil _ _ _ _) (HC.out.ext HBW3.out) (one_cols ns).1 (one_cols ns).2 (by omega) (by simp; omega) (by omega) (Nat.le_refl _) ?_
  intro a4 c4 w4 hown4 hgr4 _
  have HB4 : Hid (Below w3.heap.size w3 w4) := ⟨hgr4.os, hgr4.tape, hgr4.output, hgr4.size, fun k hk => hgr4.block k hk (by intro e; cases e)⟩
  have HBW4 : Hid (Below w.heap.size w w4) := HBW3.out.trans (HB4.out.mono HBW3.out.size)
  have hs4 := HB4.out.size
  simp only [Nat.zero_add, List.nil_append] at hown4
  have HO4 : Hid (w4.ownsRow w3.heap.size 109 3 (.slice a4 (ns.map colL).length c4) (ns.map colL).length (ns.map colL).flatten) := hown4
  replace HN2 : Hid (w4.heap[w1.heap.size]? = some (.cells #[.string t.name, .slice t.cols.a t.cols.n t.cols.c, .slice t.idx.a t.idx.n t.idx.c, .slice t.ids.a t.ids.n t.ids.c, .slice t.rows.a t.rows.n t.rows.c, .int .i64 0] 137 (0, 0))) := (HB4.out.block _ (by omega)).trans HN2.out
  clear hown4 hgr4
  simp only [Act.put, List.setIfInBounds_toArray, List.set_cons_zero, List.set_cons_succ, Nat.zero_add]
  refine hK _ _ ⟨HN2.out, ?_⟩
  clear hK K
  refine wpCan_e rfl rfl (fun K hK => ?_)
  refine wp_appS w4.heap.size rfl Yaed.underlying135 info138 rfl rfl (World.ownsRow_nil _ _ _ _) (HI.out.ext HBW4.out) HIX.out.1 HIX.out.2 (by omega) (by simp; omega) (by omega) (Nat.le_refl _) ?_
  intro a5 c5 w5 hown5 hgr5 _
  have HB5 : Hid (Below w4.heap.size w4 w5) := ⟨hgr5.os, hgr5.tape, hgr5.output, hgr5.size, fun k hk => hgr5.block k hk (by intro e; cases e)⟩
  have HBW5 : Hid (Below w.heap.size w w5) := HBW4.out.trans (HB5.out.mono HBW4.out.size)
  have hs5 := HB5.out.size
  simp only [Nat.zero_add, List.nil_append] at hown5
  have HO5 : Hid (w5.ownsRow w4.heap.size 138 4 (.slice a5 (ixs).length c5) (ixs).length (ixs).flatten) := hown5
  replace HN2 : Hid (w5.heap[w1.heap.size]? = some (.cells #[.string t.name, .slice t.cols.a t.cols.n t.cols.c, .slice t.idx.a t.idx.n t.idx.c, .slice t.ids.a t.ids.n t.ids.c, .slice t.rows.a t.rows.n t.rows.c, .int .i64 0] 137 (0, 0))) := (HB5.out.block _ (by omega)).trans HN2.out
  clear hown5 hgr5
  simp only [Act.put, List.setIfInBounds_toArray, List.set_cons_zero, List.set_cons_succ, Nat.zero_add]
  refine hK _ _ ⟨HN2.out, ?_⟩
  clear hK K
  refine wpCan_e rfl rfl (fun K hK => ?_)
  refine wp_appS w5.heap.size rfl Yaed.underlying81 info2 rfl rfl (World.ownsRow_nil _ _ _ _) (HD.out.ext HBW5.out) (one_ids ids).1 (one_ids ids).2 (by omega) (by simp [idsL]; omega) (by omega) (Nat.le_refl _) ?_
  intro a6 c6 w6 hown6 hgr6 _
  have HB6 : Hid (Below w5.heap.size w5 w6) := ⟨hgr6.os, hgr6.tape, hgr6.output, hgr6.size, fun k hk => hgr6.block k hk (by intro e; cases e)⟩
  have HBW6 : Hid (Below w.heap.size w w6) := HBW5.out.trans (HB6.out.mono HBW5.out.size)
  have hs6 := HB6.out.size
  simp only [Nat.zero_add, List.nil_append] at hown6
  have HO6 : Hid (w6.ownsRow w5.heap.size 2 1 (.slice a6 (idsL ids).length c6) (idsL ids).length (idsL ids).flatten) := hown6
  replace HN2 : Hid (w6.heap[w1.heap.size]? = some (.cells #[.string t.name, .slice t.cols.a t.cols.n t.cols.c, .slice t.idx.a t.idx.n t.idx.c, .slice t.ids.a t.ids.n t.ids.c, .slice t.rows.a t.rows.n t.rows.c, .int .i64 0] 137 (0, 0))) := (HB6.out.block _ (by omega)).trans HN2.out
  clear hown6 hgr6
  simp only [Act.put, List.setIfInBounds_toArray, List.set_cons_zero, List.set_cons_succ, Nat.zero_add]
  refine hK _ _ ⟨HN2.out, ?_⟩
  clear hK K
  repeat (first | ((first | refine wpCan_q (v := ?_) rfl rfl rfl ?_ ?_ | refine wpCan_qg (v := ?_) rfl rfl (by rfl) ?_ ?_); rotate_left; (focus (rintro W qn; have hr := fun j => cell_of_row W _ j _ _ _ qn; clear qn; go_simp; first | done | exact rfl)); simp only [Act.put, List.setIfInBounds_toArray, List.set_cons_zero, List.set_cons_succ]) | (refine wpCan_skip rfl rfl (by rfl) ?_; simp only [Act.put, List.setIfInBounds_toArray, List.set_cons_zero, List.set_cons_succ]))
  refine wpCan_nil ?_
  have HB16 : Hid (Below w1.heap.size w1 w6) := HB13.out.trans ((HB4.out.mono (by omega)).trans ((HB5.out.mono (by omega)).trans (HB6.out.mono (by omega))))
  go_wp2_with (refine wpList_put (ty := 137) rfl rfl rfl rfl size137 (by kernel_rfl) ?_ ?_)
  · obtain ⟨z, h1, h2⟩ := HCS.out
    exact ⟨z, (HB16.out.block _ (by omega)).trans h1, h2⟩
  intro w7 h7 k7 s7
  have HN7 : Hid (w7.heap[w.heap.size]? = some (.cells #[.string t.name, .slice a4 ns.length c4, .slice a5 ixs.length c5, .slice a6 (idsL ids).length c6, .slice none 0 0, .int .i64 0] 137 (0, 0))) := h7
  have HK7 : Hid (Keep (fun k => k ≠ w.heap.size) w6 w7) := k7
  have HBW7 : Hid (Below w.heap.size w w7) := HBW6.out.trans (k7.below (fun k hk => by show k ≠ w.heap.size; omega))
  have hs7 : w6.heap.size ≤ w7.heap.size := k7.size
  have n4 : w7.cell? ⟨w1.heap.size, 4, none⟩ = some (.slice t.rows.a t.rows.n t.rows.c) := by
    rw [World.cell?_of_block (k7.block w1.heap.size (by show w1.heap.size ≠ w.heap.size; omega))]
    exact cell_of_row w6 _ 4 _ _ _ HN2.out
  clear h7 k7 s7 HB2 HB4 HB5 HB13 HBW3 HBW4 HBW5 HBW6 HN2
  obtain ⟨vs, hvl, hva, hvi⟩ := HR.out
  have hvl' : vs.length = rs.length := by simpa [rowsL] using hvl
  have hrn : t.rows.n = rs.length := by
    obtain ⟨x, y, he, _⟩ := hva
    have : t.rows.n = (vs.map fun x => [x]).length := by simp at he; simpa using he.2.1
    simpa [hvl'] using this
  rw [hrn] at n4
  have HVA : Hid (Arr w ok (.slice t.rows.a rs.length t.rows.c) 1 (vs.map fun x => [x])) := by
    have := hva
    rw [show t.rows.v = .slice t.rows.a rs.length t.rows.c by unfold Sl.v; rw [hrn]] at this
    exact this
  have HVI : Hid _ := hvi
  clear hva hvi hvl
  obtain ⟨qa, hqa⟩ : ∃ qa, t.rows.a = qa := ⟨_, rfl⟩
  rw [hqa] at n4 HVA
  clear hqa hrn
  go_wp2_with fail
  go_loopw [36] (fun c wr => ∃ k : Nat, k ≤ rs.length ∧ c = .int .i64 k ∧ Hid (∃ ra rc xs, wr.heap[w.heap.size]? = some (.cells #[.string t.name, .slice a4 ns.length c4, .slice a5 ixs.length c5, .slice a6 (idsL ids).length c6, .slice ra k rc, .int .i64 0] 137 (0, 0)) ∧
      wr.ownsRow w7.heap.size 94 1 (.slice ra k rc) k xs ∧ Keep (fun j => j < w7.heap.size ∧ j ≠ w.heap.size) w7 wr)) (fun c _ => rs.length - (intOf c).toNat)
  case atStart => exact ⟨0, Nat.zero_le _, rfl, none, 0, [], HN7.out, World.ownsRow_nil _ _ _ _, Keep.refl⟩
  case round =>
    obtain ⟨k, hk, rfl, ra, rc, xs, hbo, hown, hkp⟩ := hrel
    have HBO : Hid (wr.heap[w.heap.size]? = some (.cells #[.string t.name, .slice a4 ns.length c4, .slice a5 ixs.length c5, .slice a6 (idsL ids).length c6, .slice ra k rc, .int .i64 0] 137 (0, 0))) := hbo
    have HOW : Hid (wr.ownsRow w7.heap.size 94 1 (.slice ra k rc) k xs) := hown
    have HKP : Hid (Keep (fun j => j < w7.heap.size ∧ j ≠ w.heap.size) w7 wr) := hkp
    have HBWr : Hid (Below w.heap.size w wr) := HBW7.out.trans (hkp.below (fun j hj => by omega))
    have hsr := hkp.size
    clear hbo hown hkp
    by_cases hkn : k < rs.length
    · have h40 : wr.cell? ⟨w.heap.size, 4, none⟩ = some (.slice ra k rc) := cell_of_row wr _ 4 _ _ _ HBO.out
      obtain ⟨xa, xc, he, _, hcell⟩ := HVA.out
      obtain ⟨rfl, _⟩ : qa = xa ∧ True := by simp at he; exact ⟨he.1, trivial⟩
      obtain ⟨b, o, rfl, _, hb, hc0⟩ := hcell k (by simpa [hvl'] using hkn)
      obtain ⟨rv, hrv⟩ : ∃ rv, vs.getD k undef = rv := ⟨_, rfl⟩
      have hcc : wr.cell? ⟨b, o + k, none⟩ = some rv := by
        rw [HBWr.out.cell (p := ⟨b, _, none⟩) hb, ← hrv]
        have := hc0 0 (by omega)
        simpa [List.getD_eq_getElem?_getD, hvl', hkn] using this
      have hT := HVI.out k (by simpa [rowsL] using hkn)
      rw [hrv] at hT
      have hTr : Arr w ok rv 4 ((rs.getD k []).map V.list) := by simpa [rowsL, List.getD_eq_getElem?_getD, hkn] using hT
      have hlen : (rs.getD k []).length ≤ 4 := by rw [getD_of_lt _ _ _ hkn]; exact hl5 _ (List.getElem_mem hkn)
      obtain ⟨row, hrow⟩ : ∃ row, rs.getD k [] = row := ⟨_, rfl⟩
      rw [hrow] at hTr hlen
      obtain ⟨ra', rc', rfl, hle'⟩ := hTr.shape
      have HTR : Hid (Arr w ok (.slice ra' (row.map V.list).length rc') 4 (row.map V.list)) := hTr
      rw [List.length_map] at hcc hle'
      clear hc0 hcell hT hTr hrv hrow he
      go_wp2_with fail
      refine wp_region_can (l := [_, _, _, _, _, _, _, _, _, _, _]) [(true, 0), (true, 1), (true, 2), (true, 3), (true, 4), (true, 5), (true, 6), (true, 7), (false, 8), (false, 9), (false, 10)] (fun W => W.cell? ⟨w.heap.size, 4, none⟩ = some (.slice ra k rc)) (by kernel_rfl) (by kernel_rfl) h40 ?_
      generalize hw8 : World.drew _ = w8
      have hgen : wr.heap.size = w8.heap.size ∧ w8.heap[w.heap.size]? = wr.heap[w.heap.size]? ∧ w8.ownsRow w7.heap.size 94 1 (.slice ra k rc) k xs ∧ Keep (fun j => j < w7.heap.size ∧ j ≠ w.heap.size) w7 w8 ∧ Below w.heap.size w w8 := by
        rw [← hw8]; exact ⟨rfl, rfl, HOW.out, HKP.out.drew, HBWr.out.drew⟩
      have HG8 : Hid (w8.heap[w.heap.size]? = some (.cells #[.string t.name, .slice a4 ns.length c4, .slice a5 ixs.length c5, .slice a6 (idsL ids).length c6, .slice ra k rc, .int .i64 0] 137 (0, 0)) ∧ w8.ownsRow w7.heap.size 94 1 (.slice ra k rc) k xs ∧ Keep (fun j => j < w7.heap.size ∧ j ≠ w.heap.size) w7 w8 ∧ Below w.heap.size w w8) := ⟨hgen.2.1.trans HBO.out, hgen.2.2.1, hgen.2.2.2.1, hgen.2.2.2.2⟩
      have hs8 : wr.heap.size ≤ w8.heap.size := Nat.le_of_eq hgen.1
      replace h40 : w8.cell? ⟨w.heap.size, 4, none⟩ = some (.slice ra k rc) := cell_of_row w8 _ 4 _ _ _ HG8.out.1
      clear hw8 hgen HOW HKP HBO HBWr hcc
      repeat (first | ((first | refine wpCan_q (v := ?_) rfl rfl rfl ?_ ?_ | refine wpCan_qg (v := ?_) rfl rfl (by rfl) ?_ ?_); rotate_left; (focus (rintro W q1; go_simp; first | done | exact rfl)); simp only [Act.put, List.setIfInBounds_toArray, List.set_cons_zero, List.set_cons_succ]) | (refine wpCan_skip rfl rfl (by rfl) ?_; simp only [Act.put, List.setIfInBounds_toArray, List.set_cons_zero, List.set_cons_succ]))
      refine wpCan_e rfl rfl (fun K hK => ?_)
      refine wp_appS w8.heap.size rfl Yaed.underlying94 info100 rfl rfl (World.ownsRow_nil _ _ _ _) (by have := HTR.out.ext HG8.out.2.2.2; rw [List.length_map] at this; exact this) (one_row row).1 (one_row row).2 (by omega) (by simp; omega) (by omega) (Nat.le_refl _) ?_
      intro a9 c9 w9 hown9 hgr9 _
      have HB9 : Hid (Below w8.heap.size w8 w9) := ⟨hgr9.os, hgr9.tape, hgr9.output, hgr9.size, fun k hk => hgr9.block k hk (by intro e; cases e)⟩
      have hs9 := HB9.out.size
      clear hown9 hgr9
      simp only [Act.put, List.setIfInBounds_toArray, List.set_cons_zero, List.set_cons_succ, Nat.zero_add, List.length_map]
      refine hK _ _ ⟨?_, ?_⟩
      · rw [HB9.out.cell (p := ⟨w.heap.size, _, none⟩) (by show w.heap.size < w8.heap.size; omega)]; exact h40
      clear hK K
      refine wpCan_e rfl rfl (fun K hK => ?_)
      go_simp
      generalize hw10 : World.alloc _ _ = w10
      have hgen : w10.heap[w9.heap.size]? = some (.cells #[.slice a9 row.length c9] 94 (0, 0)) ∧ Below w9.heap.size w9 w10 ∧ w9.heap.size + 1 ≤ w10.heap.size := by
        rw [← hw10]; exact ⟨heap_alloc_new _ _, below_alloc _ _, by simp⟩
      have HN10 : Hid _ := hgen.1
      have HB10 : Hid (Below w8.heap.size w8 w10) := HB9.out.trans (hgen.2.1.mono hs9)
      have hs10 := hgen.2.2
      clear hw10 hgen
      refine hK _ _ ⟨?_, ?_⟩
      · rw [HB10.out.cell (p := ⟨w.heap.size, _, none⟩) (by show w.heap.size < w8.heap.size; omega)]; exact h40
      clear hK K
      have HO10 : Hid (w10.ownsRow w7.heap.size 94 1 (.slice ra k rc) k xs) := ownsRow_ext HG8.out.2.1 HB10.out
      refine wpCan_e rfl rfl (fun K hK => ?_)
      refine wp_app1 w7.heap.size rfl Yaed.underlying22 info94 rfl rfl HO10.out HN10.out rfl ?_ (by omega) (by omega) (by omega) (by omega) ?_
      · intro u hu; simp at hu; subst hu; rfl
      intro g cap w11 hown11 hgr11 hat hlt
      have hbo11 : w11.heap[w.heap.size]? = some (.cells #[.string t.name, .slice a4 ns.length c4, .slice a5 ixs.length c5, .slice a6 (idsL ids).length c6, .slice ra k rc, .int .i64 0] 137 (0, 0)) := by
        rw [hgr11.block _ (by omega) (fun e => by have := (HO10.out.lt _ e.symm).1; omega), HB10.out.block _ (by omega)]
        exact HG8.out.1
      have hkp11 : Keep (fun j => j < w7.heap.size ∧ j ≠ w.heap.size) w7 w11 := by
        refine (HG8.out.2.2.1.trans (Keep.of_below HB10.out (fun j hj => by omega))).trans ⟨hgr11.os, hgr11.tape, hgr11.output, hgr11.size, fun j hj => hgr11.block j (by omega) (fun e => by have := (HO10.out.lt _ e.symm).1; omega)⟩
      have HBO11 : Hid (w11.heap[w.heap.size]? = some (.cells #[.string t.name, .slice a4 ns.length c4, .slice a5 ixs.length c5, .slice a6 (idsL ids).length c6, .slice ra k rc, .int .i64 0] 137 (0, 0))) := hbo11
      have HKP11 : Hid (Keep (fun j => j < w7.heap.size ∧ j ≠ w.heap.size) w7 w11) := hkp11
      have HOW11 : Hid (w11.ownsRow w7.heap.size 94 1 (.slice (some ⟨g, 0, none⟩) (k + 1) cap) (k + 1) (xs ++ [.slice a9 row.length c9])) := hown11
      clear hown11 hgr11 hat hbo11 hkp11
      have h411 : w11.cell? ⟨w.heap.size, 4, none⟩ = some (.slice ra k rc) := cell_of_row w11 _ 4 _ _ _ HBO11.out
      have hf11 : w11.frozen? ⟨w.heap.size, 4, none⟩ = false := by simp [World.frozen?, HBO11.out]
      refine hK _ _ ⟨h411, ?_⟩
      clear hK K
      refine wpCan_nil ?_
      simp only [Act.put, List.setIfInBounds_toArray, List.set_cons_zero, List.set_cons_succ]
      go_wp2_with fail
      go_roundw
      case rel =>
        refine ⟨k + 1, by omega, by go_num, some ⟨g, 0, none⟩, cap, xs ++ [.slice a9 row.length c9], (heap_set HBO11.out _).trans rfl, ?_, HKP11.out.setCell (fun h => h.2 rfl) _⟩
        exact ownsRow_setCell_below HOW11.out (a := ⟨w.heap.size, 4, none⟩) (by show w.heap.size < w7.heap.size; omega) _
      case measure => simp [intOf]; omega
    · have ek : k = rs.length := by omega
      subst ek
      go_wp2_with fail
      rw [rounds_succ]
      go_wp2_with fail
      go_ret
      refine ⟨w.heap.size, ⟨a4, ns.length, c4⟩, ⟨a5, ixs.length, c5⟩, ⟨a6, (idsL ids).length, c6⟩, ⟨ra, rs.length, rc⟩, rfl, HBO.out, ?_, ?_, rfl, HBWr.out⟩
      · have h1 := (Arr.of_owns HO5.out HIX.out.1).mono (ok' := fun b => w.heap.size + 1 ≤ b ∧ b < w6.heap.size) (fun b hb => by have := HO5.out.lt b hb; omega)
        have h2 := (h1.ext HB6.out).keep HK7.out (fun b hb => by show b ≠ w.heap.size; omega)
        exact (h2.keep HKP.out (fun b hb => by show b < w7.heap.size ∧ b ≠ w.heap.size; omega)).mono (fun b hb => by show w.heap.size ≤ b; omega)
      · have h1 := (Arr.of_owns HO6.out (one_ids ids).1).mono (ok' := fun b => w.heap.size + 1 ≤ b ∧ b < w6.heap.size) (fun b hb => by have := HO6.out.lt b hb; omega)
        have h2 := h1.keep HK7.out (fun b hb => by show b ≠ w.heap.size; omega)
        exact (h2.keep HKP.out (fun b hb => by show b < w7.heap.size ∧ b ≠ w.heap.size; omega)).mono (fun b hb => by show w.heap.size ≤ b; omega)
end Go.Proofs.YgdaegDoor
