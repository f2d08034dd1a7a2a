import Derived.Test.YgdaegDoorCheckSel
import Derived.Test.YgdaegDoorEvalG
import Derived.Test.YgdaegDoorEvalG2
namespace Go.Proofs.YgdaegDoor
open Go.RowKit
set_option linter.unusedSimpArgs false
set_option linter.unusedVariables false
/-- The value of item t over the rows of a group. -/
def selVal (rs : List (List V)) (g c : Nat) (t : Nat) (p : List Nat) : V :=
  if t = 0 then cellV rs g (p.headD 0) else if t = 1 then intV p.length else if t = 2 then aggV .count (p.map (cellV rs c)) else if t = 3 then aggV .sum (p.map (cellV rs c)) else if t = 4 then aggV .avg (p.map (cellV rs c)) else if t = 5 then aggV .min (p.map (cellV rs c)) else aggV .max (p.map (cellV rs c))
theorem sel_ev {w : World} {ok : Nat → Prop} {ps : Nat} {s : St} {g c n : Nat} (hg : g < n) (hc : c < n) (h4 : n ≤ 4) (b o acap bt : Nat) (hN : ∀ i, i < 13 → NodeAt w b (o + i * 12) (selF g c i)) (cv : Value) (da do_ dc qa qo qc : Nat) (rs : List (List V)) (hrl : rs.length ≤ 32) (hGT : GT w bt cv da do_ dc qa qo qc n rs) :
    ∀ t (ht : t < selI.length) (W : World) (p : Gr) (gv : Value) (okg : Nat → Prop), Below w.heap.size w W → GOk rs.length p → Arr W okg gv 1 (i64L p.2) → Calls Yaed.prog 235 #[.slice (some ⟨b, o, none⟩) 13 acap, .int .i16 (selI[t] : Nat), .pointer (some ⟨bt, 0, none⟩), gv] W fun r w' => r = .returned (selVal rs g c t p.2).val ∧ Below W.heap.size W w' := by
  intro t ht W p gv okg hW hp hgv
  have hN' : ∀ i, i < 13 → NodeAt W b (o + i * 12) (selF g c i) := fun i hi => (hN i hi).ext hW
  have hGT' := hGT.ext hW
  have hg0 : 0 < p.2.length := List.length_pos_iff.2 hp.1
  have hgl : p.2.length ≤ 32 := Nat.le_trans hp.2.2.2.2 hrl
  have hgm := hp.2.2.2.1
  have ht' : t < 7 := ht
  rcases (by omega : t = 0 ∨ t = 1 ∨ t = 2 ∨ t = 3 ∨ t = 4 ∨ t = 5 ∨ t = 6) with rfl | rfl | rfl | rfl | rfl | rfl | rfl
  · exact evalGroup_col g n h4 b o 13 acap 0 (by omega) (by omega) bt cv da do_ dc qa qo qc rs hrl p.2 hgm hgl hg0 gv okg W hGT' hg hgv (hN' 0 (by omega))
  · exact evalGroup_all countS n h4 b o 13 acap 1 (by omega) (by omega) bt cv da do_ dc qa qo qc rs hrl p.2 hgm hgl hg0 gv okg W hGT' hgv (hN' 1 (by omega))
  · exact evalGroup_agg .count c 2 3 n h4 b o 13 acap (by omega) (by omega) rfl (by omega) bt cv da do_ dc qa qo qc rs hrl p.2 hgm hgl hg0 gv okg W hGT' hgv hc (hN' 2 (by omega)) (hN' 3 (by omega))
  · exact evalGroup_agg .sum c 4 5 n h4 b o 13 acap (by omega) (by omega) rfl (by omega) bt cv da do_ dc qa qo qc rs hrl p.2 hgm hgl hg0 gv okg W hGT' hgv hc (hN' 4 (by omega)) (hN' 5 (by omega))
  · exact evalGroup_agg .avg c 6 7 n h4 b o 13 acap (by omega) (by omega) rfl (by omega) bt cv da do_ dc qa qo qc rs hrl p.2 hgm hgl hg0 gv okg W hGT' hgv hc (hN' 6 (by omega)) (hN' 7 (by omega))
  · exact evalGroup_agg .min c 8 9 n h4 b o 13 acap (by omega) (by omega) rfl (by omega) bt cv da do_ dc qa qo qc rs hrl p.2 hgm hgl hg0 gv okg W hGT' hgv hc (hN' 8 (by omega)) (hN' 9 (by omega))
  · exact evalGroup_agg .max c 10 11 n h4 b o 13 acap (by omega) (by omega) rfl (by omega) bt cv da do_ dc qa qo qc rs hrl p.2 hgm hgl hg0 gv okg W hGT' hgv hc (hN' 10 (by omega)) (hN' 11 (by omega))
/-- How rows compare in the groups' column. -/
def cpR (rs : List (List V)) (g : Nat) (i j : Nat) : Int := cmpV (cellV rs g i) (cellV rs g j)
set_option maxRecDepth 20000 in
set_option maxHeartbeats 4000000 in
/-- Exec of the grouping SELECT. -/
theorem exec_sel {w : World} {ok : Nat → Prop} {ps bd bt tc : Nat} {t : T} {s : St} {g c n : Nat} (hg : g < n) (hc : c < n) (h4 : n ≤ 4) (h : SelAt w ok ps s g c) (hdb : DB1 w bd bt tc t) (htn : t.name = tS) (cv : Value) (da do_ dc qa qo qc : Nat) (rs : List (List V)) (hrl : rs.length ≤ 32) (hGT : GT w bt cv da do_ dc qa qo qc n rs) :
    Calls Yaed.prog 207 #[.pointer (some ⟨bd, 0, none⟩), .pointer (some ⟨ps, 0, none⟩)] w fun r w' => ∃ ov, r = .returned (resV 0 0 ov) ∧ Res w.heap.size ov (allG (cpR rs g) rs.length).length 7 (fun i t => norm (selVal rs g c t (gAt (allG (cpR rs g) rs.length) i).2)) w' ∧ Below w.heap.size w w' := by
  have H : Hid (SelAt w ok ps s g c) := h
  have HDB : Hid (DB1 w bd bt tc t) := hdb
  have HGT : Hid (GT w bt cv da do_ dc qa qo qc n rs) := hGT
  have hps := h.at_.lt
  have hbd := hdb.lt
  have ht := h.table
  have hk := h.kind
  obtain ⟨b, o, ac, hav, hb, hN⟩ := h.nodes
  have HN : Hid (∀ i, i < 13 → NodeAt w b (o + i * 12) (selF g c i)) := hN
  have HAV : Hid (s.arena = .slice (some ⟨b, o, none⟩) 13 ac) := hav
  have HCV : Hid (cv = .slice t.cols.a t.cols.n t.cols.c) := by
    have h1 := hGT.c1
    rw [hdb.tfacts.2.1] at h1
    exact (show cv = .slice t.cols.a t.cols.n t.cols.c by simpa using h1.symm)
  have HSG : Hid (∃ ga go gc, ∀ W, Below w.heap.size w W → SG W ps b o 13 ac ga go gc 12) := by
    obtain ⟨a, cap, h1, h2⟩ := i16_get h.groups
    obtain ⟨ga, go, rfl, _, h3, h5⟩ := h2 0 (by decide)
    refine ⟨ga, go, cap, fun W hW => ?_⟩
    have h6 := h.at_.ext hW
    have c4 : W.cell? ⟨ps, 4, none⟩ = some s.groups := h6.cell 4
    have c14 : W.cell? ⟨ps, 14, none⟩ = some (.int .i16 s.wher) := h6.cell 14
    have c18 : W.cell? ⟨ps, 18, none⟩ = some s.arena := h6.cell 18
    rw [h1] at c4
    rw [h.wher] at c14
    rw [hav] at c18
    exact ⟨Nat.lt_of_lt_of_le hps hW.size, Nat.lt_of_lt_of_le h3 hW.size, c4, by rw [hW.cell (p := ⟨ga, _, none⟩) h3]; exact h5, c14, c18⟩
  have HIT : Hid (∃ ib io ic, s.items = .slice (some ⟨ib, io, none⟩) selI.length ic ∧ ib < w.heap.size ∧ ∀ t (ht : t < selI.length), w.cell? ⟨ib, io + t, none⟩ = some (.int .i16 (selI[t] : Nat))) := by
    obtain ⟨a, cap, h1, h2⟩ := i16_get h.items
    obtain ⟨ib, io, rfl, _, h3, _⟩ := h2 0 (by decide)
    refine ⟨ib, io, cap, h1, h3, fun t ht => ?_⟩
    obtain ⟨b', o', he, _, _, h5⟩ := h2 t ht
    obtain ⟨rfl, rfl⟩ : ib = b' ∧ io = o' := by simpa using he
    exact h5
  clear h hdb hN hav hGT
  obtain ⟨RR, hRR⟩ : ∃ RR : Nat → Nat → V, (fun i t => norm (selVal rs g c t (gAt (allG (cpR rs g) rs.length) i).2)) = RR := ⟨_, rfl⟩
  obtain ⟨NG, hNG⟩ : ∃ NG, (allG (cpR rs g) rs.length).length = NG := ⟨_, rfl⟩
  rw [hRR, hNG]
  have HRR : Hid ((fun i t => norm (selVal rs g c t (gAt (allG (cpR rs g) rs.length) i).2)) = RR) := hRR
  have HNG : Hid ((allG (cpR rs g) rs.length).length = NG) := hNG
  clear hRR hNG
  go_enter Yaed.func207, Yaed.ntmps207
  go_wp2_with fail
  generalize hw0 : World.alloc _ _ = w0
  have HB0 : Hid (Below w.heap.size w w0 ∧ ∃ z, w0.heap[w.heap.size]? = some (.cells z 76 (0, 0)) ∧ z.size = 3) := by rw [← hw0]; exact ⟨below_alloc _ _, _, heap_alloc_new _ _, rfl⟩
  have hs0 : w.heap.size + 1 ≤ w0.heap.size := by rw [← hw0]; simp
  clear hw0
  refine (check_sel (by omega) (by omega) (H.out.ext HB0.out.1)).mono ?_
  rintro e w1 ⟨rfl, hb1⟩
  have HB1 : Hid (Below w0.heap.size w0 w1) := hb1
  have HBW : Hid (Below w.heap.size w w1) := HB0.out.1.trans (HB1.out.mono (by omega))
  have hs1 := hb1.size
  have HS1 : Hid (StAt w1 ps s) := (H.out.ext HBW.out).at_
  have f0 := HS1.out.facts.1
  have f6 : w1.cell? ⟨ps, 6, none⟩ = some (.string s.table) := HS1.out.cell 6
  rw [hk] at f0
  rw [ht] at f6
  clear hb1
  go_wp2_with fail
  refine (joined_sel ps b o 13 ac (by omega) (selF g c) (fun i hi => (sel_node n g c hg hc i hi).table) w1 HS1.out.lt (HS1.out.cell 3) (by rw [← HAV.out]; exact HS1.out.cell 18) (fun i hi => (HN.out i hi).ext HBW.out)).mono ?_
  rintro e w2 ⟨rfl, hb2⟩
  have HB2 : Hid (Below w1.heap.size w1 w2) := hb2
  have HBW2 : Hid (Below w.heap.size w w2) := HBW.out.trans (HB2.out.mono (by omega))
  have hs2 := hb2.size
  have f0 : w2.cell? ⟨ps, 0, none⟩ = some (.int .u8 5) := by have h1 := (HS1.out.ext HB2.out).facts.1; rw [hk] at h1; exact h1
  have f6 : w2.cell? ⟨ps, 6, none⟩ = some (.string tS) := by have h1 : w2.cell? ⟨ps, 6, none⟩ = some (.string s.table) := (HS1.out.ext HB2.out).cell 6; rw [ht] at h1; exact h1
  clear hb2
  go_wp2_with fail
  refine (table_t bd bt tc t htn w2 (HDB.out.ext HBW2.out)).mono ?_
  rintro e w3 ⟨rfl, rfl⟩
  have HSEL : Hid (Calls Yaed.prog 217 #[.pointer (some ⟨bd, 0, none⟩), .pointer (some ⟨ps, 0, none⟩), .int .i64 0] w3 fun r w' => ∃ ov, r = .returned (resV 0 0 ov) ∧ Res w3.heap.size ov NG 7 RR w' ∧ Below w3.heap.size w3 w') := by
    rw [← HRR.out, ← HNG.out]
    obtain ⟨ga, go, gc, hSG⟩ := HSG.out
    obtain ⟨ib, io, ic, hits, hib, hicell⟩ := HIT.out
    refine sel_via ps bd bt tc t b o 13 ac (by omega) _ 7 _ w3 (Nat.lt_of_lt_of_le hps HBW2.out.size) ((hSG w3 HBW2.out).c18) (HDB.out.ext HBW2.out) ?_ ?_
    · intro W hW
      have hW' := HBW2.out.trans (hW.mono HBW2.out.size)
      refine checkExprs_sel n h4 b o 13 ac (by omega) _ rfl (selF g c) (sel_node n g c hg hc) _ W (fun i hi => (HN.out i hi).ext hW') ?_
      rw [← HCV.out]
      exact (HGT.out.ext hW').cols
    · intro W hW
      have hW' := HBW2.out.trans (hW.mono HBW2.out.size)
      refine selOn_via ps bd bt (some ⟨ga, go, none⟩) 1 gc (by omega) _ 7 _ W (Nat.lt_of_lt_of_le hps hW'.size) (hSG W hW').c4 ?_
      intro W2 hW2
      have hW2' := hW'.trans (hW2.mono hW'.size)
      exact selGroups_any n g hg h4 b o 13 ac 12 (by omega) (by omega) ps ga go gc bd bt cv da do_ dc qa qo qc rs hrl s W2 (H.out.ext hW2').at_ H.out.star (hSG W2 hW2') (HGT.out.ext hW2') ((HN.out 12 (by omega)).ext hW2') (cellV rs g) (fun _ => rfl) (cpR rs g) (fun _ _ => rfl) selI (by decide) (by decide) ib io ic (Nat.lt_of_lt_of_le hib hW2'.size) hits (fun t ht => by rw [hW2'.cell (p := ⟨ib, _, none⟩) hib]; exact hicell t ht) (selVal rs g c)
        (sel_ev (ok := ok) (ps := ps) (s := s) hg hc h4 b o ac bt (fun i hi => (HN.out i hi).ext hW2') cv da do_ dc qa qo qc rs hrl (HGT.out.ext hW2'))
  go_wp2_with fail
  refine HSEL.out.mono ?_
  rintro e w4 ⟨ov, rfl, hres, hb4⟩
  obtain ⟨ova, ovc, rfl⟩ := hres.shape
  have HRES : Hid (Res w3.heap.size (.slice ova NG ovc) NG 7 RR w4) := hres
  have HB4 : Hid (Below w3.heap.size w3 w4) := hb4
  clear hb4 hres
  unfold resV
  go_wp2_with (refine wpList_put (ty := 76) rfl rfl rfl rfl size76 (by kernel_rfl) ?_ ?_)
  · obtain ⟨z, h1, h2⟩ := HB0.out.2
    exact ⟨z, (HB4.out.block _ (by omega)).trans ((HB2.out.block _ (by omega)).trans ((HB1.out.block _ (by omega)).trans h1)), h2⟩
  intro w5 h5 k5 s5
  have HN5 : Hid (w5.heap[w.heap.size]? = some (.cells #[.int .u8 0, .slice ova NG ovc, .int .i64 0] 76 (0, 0))) := h5
  have HK5 : Hid (Keep (fun k => k ≠ w.heap.size) w4 w5) := k5
  clear h5 k5 s5
  go_wp2_with fail
  refine bodyPost_ret (results_cell_row rfl _ _ _ _ _ _ _ rfl HN5.out Yaed.underlying76 rfl size76) rfl ⟨_, rfl, ?_, ?_⟩
  · exact (HRES.out.keep HK5.out (fun k hk _ => by show k ≠ w.heap.size; omega)).lower (by omega)
  · exact HBW2.out.trans ((HB4.out.mono (by omega)).trans (HK5.out.below (fun k hk => by show k ≠ w.heap.size; omega)))
end Go.Proofs.YgdaegDoor
