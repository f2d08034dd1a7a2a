import Derived.Test.YgdaegDoorCopy
namespace Go.Proofs.YgdaegDoor
open Go.RowKit
set_option linter.unusedSimpArgs false
set_option linter.unusedVariables false
theorem info83 : infoTest Yaed.prog 83 5 112 = true := by kernel_rfl
theorem size83 : (Yaed.prog.info? 83).map (·.size) = some 5 := by kernel_rfl
theorem info89 : infoTest Yaed.prog 89 4 56 = true := by kernel_rfl

set_option maxRecDepth 20000 in
set_option maxHeartbeats 4000000 in
theorem dump_one (bd bt tc : Nat) (t : T) (ns : List ByteArray) (ids : List Int) (rs : List (List V)) (w : World) (ok : Nat → Prop) (hdb : DB1 w bd bt tc t)
    (hc : Arr w ok t.cols.v 3 (ns.map colL)) (hi : Arr w ok t.idx.v 4 []) (hd : Arr w ok t.ids.v 1 (idsL ids)) (hr : Arr2 w ok t.rows.v 4 (rowsL rs)) (hl1 : ns.length ≤ 4) (hl3 : ids.length ≤ 100) (hl4 : rs.length ≤ 100) (hl5 : ∀ r ∈ rs, r.length ≤ 4) :
    Calls Yaed.prog 30 #[.pointer (some ⟨bd, 0, none⟩)] w fun r w' => ∃ g cap cs ds rv, r = .returned (.slice (some ⟨g, 0, none⟩) 1 cap) ∧ Arr w' (fun b => w.heap.size ≤ b) (.slice (some ⟨g, 0, none⟩) 1 cap) 5 [[.string t.name, Sl.v cs, nilS, Sl.v ds, Sl.v rv]] ∧
      Arr w' (fun b => w.heap.size ≤ b) ds.v 1 (idsL ids) ∧ rv.n = rs.length ∧ Below w.heap.size w w' := by
  have HDB : Hid (DB1 w bd bt tc t) := hdb
  have HC : Hid (Arr w ok t.cols.v 3 (ns.map colL)) := hc
  have HI : Hid (Arr w ok t.idx.v 4 []) := hi
  have HD : Hid (Arr w ok t.ids.v 1 (idsL ids)) := hd
  have HR : Hid (Arr2 w ok t.rows.v 4 (rowsL rs)) := hr
  obtain ⟨d0, d1, d2, d3⟩ := hdb.dfacts
  clear hdb hc hi hd hr
  go_enter Yaed.func30, Yaed.ntmps30
  go_wp2_with fail
  refine (copyTables_one bd bt tc t ns [] (one_nil 4) ids rs w ok HDB.out HC.out HI.out HD.out HR.out hl1 (by simp) hl3 hl4 hl5).mono ?_
  rintro e w1 ⟨bo, cs, is, ds, rv, rfl, hbo, his, hds, hrv, hb⟩
  obtain ⟨ia, ic, hisv, _⟩ := his.shape
  have hin : is.n = 0 := by simp at hisv; exact hisv.2.1
  have HBO : Hid _ := hbo
  have HDS : Hid (Arr w1 (fun b => w.heap.size ≤ b) ds.v 1 (idsL ids)) := hds
  have HB1 : Hid (Below w.heap.size w w1) := hb
  have c0 := cell_of_row w1 _ 0 _ _ _ hbo
  have c1 := cell_of_row w1 _ 1 _ _ _ hbo
  have c2 := cell_of_row w1 _ 2 _ _ _ hbo
  have c3 := cell_of_row w1 _ 3 _ _ _ hbo
  have c4 := cell_of_row w1 _ 4 _ _ _ hbo
  have c5 := cell_of_row w1 _ 5 _ _ _ hbo
  simp only [T.list, Sl.v, List.getElem?_toArray, List.getElem?_cons_zero, List.getElem?_cons_succ] at c0 c1 c2 c3 c4 c5
  rw [hin] at c2
  clear hbo his hds hb hisv
  go_wp2_with fail
  refine wp_loop_rounds 2 ?_
  rw [rounds_succ]
  go_wp2_with fail
  generalize hw2 : World.alloc (World.alloc _ _) _ = w2
  have HN2 : Hid (w2.heap[w1.heap.size + 1]? = some (.cells #[.string t.name, .slice cs.a cs.n cs.c, .slice none 0 0, .slice ds.a ds.n ds.c, .slice rv.a rs.length rv.c] 83 (0, 0))) := by rw [← hw2]; exact heap_new (by simp)
  have HB2 : Hid (Below w1.heap.size w1 w2) := by rw [← hw2]; exact (below_alloc _ _).trans ((below_alloc _ _).mono (by simp))
  have hs2 : w1.heap.size + 2 ≤ w2.heap.size := by rw [← hw2]; simp
  have e0 := cell_of_row w2 _ 0 _ _ _ HN2.out
  have e1 := cell_of_row w2 _ 1 _ _ _ HN2.out
  have e2 := cell_of_row w2 _ 2 _ _ _ HN2.out
  have e3 := cell_of_row w2 _ 3 _ _ _ HN2.out
  have e4 := cell_of_row w2 _ 4 _ _ _ HN2.out
  simp only [List.getElem?_toArray, List.getElem?_cons_zero, List.getElem?_cons_succ] at e0 e1 e2 e3 e4
  clear hw2
  refine wp_loop_rounds 1 ?_
  rw [rounds_succ]
  go_wp2_with (refine wpList_app1 w1.heap.size rfl rfl Yaed.underlying78 info83 rfl rfl (World.ownsRow_nil _ _ _ _) (by exact heap_new rfl) (by rfl) (by intro u hu; simp at hu; rcases hu with rfl | rfl | rfl | rfl | rfl <;> rfl) (by omega) (by omega) (by omega) (by have := HB2.out.size; simp; omega) ?_; intro g cap w3 hown hgr _ _; have HO3 : Hid (w3.ownsRow w1.heap.size 83 5 (.slice (some ⟨g, 0, none⟩) 1 cap) 1 [.string t.name, .slice cs.a cs.n cs.c, .slice none 0 0, .slice ds.a ds.n ds.c, .slice rv.a rs.length rv.c]) := hown; have HB3 : Hid (Below w2.heap.size w2 w3) := (below_alloc _ _).trans ⟨hgr.os, hgr.tape, hgr.output, hgr.size, fun k hk => hgr.block k (by simp; omega) (by intro e; cases e)⟩; clear hown hgr)
  rw [rounds_succ]
  go_wp2_with fail
  go_ret
  have hs1 := HB1.out.size
  refine ⟨g, cap, cs, ds, ⟨rv.a, rs.length, rv.c⟩, rfl, ?_, ?_, rfl, HB1.out.trans ((HB2.out.mono hs1).trans (HB3.out.mono (by omega)))⟩
  · exact (Arr.of_owns (rows := [[.string t.name, Sl.v cs, nilS, Sl.v ds, .slice rv.a rs.length rv.c]]) (by simpa using HO3.out) (by intro r hr; simp at hr; subst hr; rfl)).mono (fun b hb => by have := own_ge HO3.out b hb; show w.heap.size ≤ b; omega)
  · exact (HDS.out.ext HB2.out).ext HB3.out
end Go.Proofs.YgdaegDoor
