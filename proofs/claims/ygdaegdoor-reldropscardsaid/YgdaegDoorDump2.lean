import Derived.Test.YgdaegDoorDump
namespace Go.Proofs.YgdaegDoor
open Go.RowKit
set_option linter.unusedSimpArgs false
set_option linter.unusedVariables false
set_option maxRecDepth 20000 in
set_option maxHeartbeats 4000000 in
theorem dump_ix (bd bt tc : Nat) (t : T) (c : ByteArray) (ns : List ByteArray) (ids : List Int) (rs : List (List V)) (w : World) (ok : Nat → Prop) (hdb : DB1 w bd bt tc t)
    (hc : Arr w ok t.cols.v 3 (ns.map colL)) (hi : Arr w ok t.idx.v 4 [ixL iS c]) (hd : Arr w ok t.ids.v 1 (idsL ids)) (hr : Arr2 w ok t.rows.v 4 (rowsL rs)) (hl1 : ns.length ≤ 4) (hl3 : ids.length ≤ 100) (hl4 : rs.length ≤ 100) (hl5 : ∀ r ∈ rs, r.length ≤ 4) :
    Calls Yaed.prog 30 #[.pointer (some ⟨bd, 0, none⟩)] w fun r w' => ∃ g cap cs gi ci ds rv, r = .returned (.slice (some ⟨g, 0, none⟩) 1 cap) ∧ Arr w' (fun b => w.heap.size ≤ b) (.slice (some ⟨g, 0, none⟩) 1 cap) 5 [[.string t.name, Sl.v cs, .slice (some ⟨gi, 0, none⟩) 1 ci, Sl.v ds, Sl.v rv]] ∧ w'.cell? ⟨gi, 0, none⟩ = some (.string iS) ∧
      Arr w' (fun b => w.heap.size ≤ b) ds.v 1 (idsL ids) ∧ rv.n = rs.length ∧ Below w.heap.size w w' := by
  have HDB : Hid (DB1 w bd bt tc t) := hdb
  have HC : Hid (Arr w ok t.cols.v 3 (ns.map colL)) := hc
  have HI : Hid (Arr w ok t.idx.v 4 [ixL iS c]) := hi
  have HD : Hid (Arr w ok t.ids.v 1 (idsL ids)) := hd
  have HR : Hid (Arr2 w ok t.rows.v 4 (rowsL rs)) := hr
  obtain ⟨d0, d1, d2, d3⟩ := hdb.dfacts
  clear hdb hc hi hd hr
  go_enter Yaed.func30, Yaed.ntmps30
  go_wp2_with fail
  refine (copyTables_one bd bt tc t ns [ixL iS c] (one_ix iS c) ids rs w ok HDB.out HC.out HI.out HD.out HR.out hl1 (by simp) hl3 hl4 hl5).mono ?_
  rintro e w1 ⟨bo, cs, is, ds, rv, rfl, hbo, his, hds, hrv, hb⟩
  obtain ⟨ia, ic, hisv, _⟩ := his.shape
  have hin : is.n = 1 := by simp at hisv; exact hisv.2.1
  obtain ⟨bi, oi, hia, hbige, hbi, hcl⟩ := (show ∃ b o, is.a = some (⟨b, o, none⟩ : Addr) ∧ w.heap.size ≤ b ∧ b < w1.heap.size ∧ ∀ f, f < 4 → w1.cell? ⟨b, o + f, none⟩ = some ((ixL iS c).getD f undef) by
    obtain ⟨xa, xc, he, _, hh⟩ := his
    obtain ⟨b, o, hxa, h1, h2, h3⟩ := hh 0 (by simp)
    have hisa : is.a = xa := by simp at he; exact he.1
    exact ⟨b, o, by rw [hisa, hxa], h1, h2, fun f hf => by simpa using h3 f hf⟩)
  have i0 := hcl 0 (by omega)
  have i1 := hcl 1 (by omega)
  have i2 := hcl 2 (by omega)
  have i3 := hcl 3 (by omega)
  simp only [ixL, List.getD_cons_zero, List.getD_cons_succ, Nat.add_zero] at i0 i1 i2 i3
  have HBO : Hid _ := hbo
  have HDS : Hid (Arr w1 (fun b => w.heap.size ≤ b) ds.v 1 (idsL ids)) := hds
  have HB1 : Hid (Below w.heap.size w w1) := hb
  have c0 := cell_of_row w1 _ 0 _ _ _ hbo
  have c1 := cell_of_row w1 _ 1 _ _ _ hbo
  have c2 := cell_of_row w1 _ 2 _ _ _ hbo
  have c3 := cell_of_row w1 _ 3 _ _ _ hbo
  have c4 := cell_of_row w1 _ 4 _ _ _ hbo
  have c5 := cell_of_row w1 _ 5 _ _ _ hbo
  simp only [T.list, Sl.v, List.getElem?_toArray, List.getElem?_cons_zero, List.getElem?_cons_succ] at c0 c1 c2 c3 c4 c5
  rw [hin, hia] at c2
  clear hbo his hds hb hisv
  go_wp2_with fail
  refine wp_loop_rounds 2 ?_
  rw [rounds_succ]
  go_wp2_with fail
  generalize hw2 : World.alloc (World.alloc _ _) _ = w2
  have HN2 : Hid (w2.heap[w1.heap.size + 1]? = some (.cells #[.string t.name, .slice cs.a cs.n cs.c, .slice none 0 0, .slice ds.a ds.n ds.c, .slice rv.a rs.length rv.c] 83 (0, 0))) := by rw [← hw2]; exact heap_new (by simp)
  have HB2 : Hid (Below w1.heap.size w1 w2) := by rw [← hw2]; exact (below_alloc _ _).trans ((below_alloc _ _).mono (by simp))
  have hs2 : w1.heap.size + 2 ≤ w2.heap.size := by rw [← hw2]; simp
  have e2 : w2.cell? ⟨w1.heap.size + 1, 2, none⟩ = some (.slice none 0 0) := cell_of_row w2 _ 2 _ _ _ HN2.out
  rw [← HB2.out.cell (p := ⟨bi, _, none⟩) hbi] at i0 i1 i2 i3
  have hne : w1.heap.size + 1 < w2.heap.size := by omega
  have hne' : ¬ w1.heap.size + 1 = w2.heap.size := by omega
  clear hw2 c0 c1 c2 c3 c4 c5
  refine wp_loop_rounds 2 ?_
  rw [rounds_succ]
  go_wp2_with (refine wpList_app1 w2.heap.size rfl rfl Yaed.underlying80 info89 rfl rfl (World.ownsRow_nil _ _ _ _) (by exact heap_new (by simp)) (by rfl) (by intro u hu; simp at hu; rcases hu with rfl | rfl | rfl | rfl <;> rfl) (by omega) (by omega) (by omega) (by simp; omega) ?_)
  intro gi ci w3 hown hgr _ hlt
  have HO3 : Hid (w3.ownsRow w2.heap.size 89 4 (.slice (some ⟨gi, 0, none⟩) 1 ci) 1 [.string iS, .string c, .bool false, .string eS]) := hown
  have HB3 : Hid (Below w2.heap.size w2 w3) := ((below_alloc _ _).trans ((below_alloc _ _).mono (by simp))).trans ⟨hgr.os, hgr.tape, hgr.output, hgr.size, fun k hk => hgr.block k (by simp; omega) (by intro e; cases e)⟩
  have hs3 := HB3.out.size
  have HN3 : Hid (w3.heap[w1.heap.size + 1]? = some (.cells #[.string t.name, .slice cs.a cs.n cs.c, .slice none 0 0, .slice ds.a ds.n ds.c, .slice rv.a rs.length rv.c] 83 (0, 0))) := (HB3.out.block _ hne).trans HN2.out
  have e23 : w3.cell? ⟨w1.heap.size + 1, 2, none⟩ = some (.slice none 0 0) := cell_of_row w3 _ 2 _ _ _ HN3.out
  have ef3 : w3.frozen? ⟨w1.heap.size + 1, 2, none⟩ = false := by simp [World.frozen?, HN3.out]
  have hlt3 : gi < w3.heap.size := hlt
  clear hown hgr i0 i1 i2 i3 e2 hlt
  go_wp2_with fail
  generalize hw4 : World.setCell _ _ _ = w4
  have HN4 : Hid (w4.heap[w1.heap.size + 1]? = some (.cells #[.string t.name, .slice cs.a cs.n cs.c, .slice (some ⟨gi, 0, none⟩) 1 ci, .slice ds.a ds.n ds.c, .slice rv.a rs.length rv.c] 83 (0, 0))) := by rw [← hw4]; exact (heap_set HN3.out _).trans rfl
  have HK4 : Hid (Keep (fun k => k ≠ w1.heap.size + 1) w3 w4) := by rw [← hw4]; exact Keep.refl.setCell (fun h => h rfl) _
  have hs4 : w3.heap.size ≤ w4.heap.size := HK4.out.size
  clear hw4 e23 ef3
  have hgi := (HO3.out.lt gi rfl).1
  have HI4 : Hid (w4.cell? ⟨gi, 0, none⟩ = some (.string iS)) := by
    have h1 := HO3.out.cells (g := gi) rfl 0 (.string iS) rfl
    rw [Addr.add_lit] at h1
    exact (HK4.out.cell (p := ⟨gi, 0, none⟩) (by show gi ≠ w1.heap.size + 1; omega)).trans h1
  have e0 : w4.cell? ⟨w1.heap.size + 1, 0, none⟩ = some (.string t.name) := cell_of_row w4 _ 0 _ _ _ HN4.out
  have e1 : w4.cell? ⟨w1.heap.size + 1, 1, none⟩ = some (.slice cs.a cs.n cs.c) := cell_of_row w4 _ 1 _ _ _ HN4.out
  have e2 : w4.cell? ⟨w1.heap.size + 1, 2, none⟩ = some (.slice (some ⟨gi, 0, none⟩) 1 ci) := cell_of_row w4 _ 2 _ _ _ HN4.out
  have e3 : w4.cell? ⟨w1.heap.size + 1, 3, none⟩ = some (.slice ds.a ds.n ds.c) := cell_of_row w4 _ 3 _ _ _ HN4.out
  have e4 : w4.cell? ⟨w1.heap.size + 1, 4, none⟩ = some (.slice rv.a rs.length rv.c) := cell_of_row w4 _ 4 _ _ _ HN4.out
  rw [rounds_succ]
  go_wp2_with (refine wpList_app1 w1.heap.size rfl rfl Yaed.underlying78 info83 rfl rfl (World.ownsRow_nil _ _ _ _) (by exact heap_new rfl) (by rfl) (by intro u hu; simp at hu; rcases hu with rfl | rfl | rfl | rfl | rfl <;> rfl) (by omega) (by omega) (by omega) (by simp; omega) ?_; intro g cap w5 hown hgr _ _; have HO5 : Hid (w5.ownsRow w1.heap.size 83 5 (.slice (some ⟨g, 0, none⟩) 1 cap) 1 [.string t.name, .slice cs.a cs.n cs.c, .slice (some ⟨gi, 0, none⟩) 1 ci, .slice ds.a ds.n ds.c, .slice rv.a rs.length rv.c]) := hown; have HB5 : Hid (Below w4.heap.size w4 w5) := (below_alloc _ _).trans ⟨hgr.os, hgr.tape, hgr.output, hgr.size, fun k hk => hgr.block k (by simp; omega) (by intro e; cases e)⟩; clear hown hgr)
  rw [rounds_succ]
  go_wp2_with fail
  go_ret
  have hs1 := HB1.out.size
  have hb14 : Below w1.heap.size w1 w4 := (HB2.out.trans (HB3.out.mono (by omega))).trans (HK4.out.below (fun k hk => by show k ≠ w1.heap.size + 1; omega))
  refine ⟨g, cap, cs, gi, ci, ds, ⟨rv.a, rs.length, rv.c⟩, rfl, ?_, ?_, ?_, rfl, HB1.out.trans ((hb14.mono hs1).trans (HB5.out.mono (by omega)))⟩
  · exact (Arr.of_owns (rows := [[.string t.name, Sl.v cs, .slice (some ⟨gi, 0, none⟩) 1 ci, Sl.v ds, .slice rv.a rs.length rv.c]]) (by simpa using HO5.out) (by intro r hr; simp at hr; subst hr; rfl)).mono (fun b hb => by have := own_ge HO5.out b hb; show w.heap.size ≤ b; omega)
  · rw [HB5.out.cell (p := ⟨gi, _, none⟩) (by show gi < w4.heap.size; omega)]; exact HI4.out
  · exact (HDS.out.ext hb14).ext HB5.out
end Go.Proofs.YgdaegDoor
