import Derived.Test.YgdaegDoorInsNew
import Derived.Test.YgdaegDoorInsMore
import Derived.Test.YgdaegDoorDelete
import Derived.Test.YgdaegDoorStar
namespace Go.Proofs.YgdaegDoor
open Go.RowKit
set_option linter.unusedSimpArgs false
set_option linter.unusedVariables false
set_option maxRecDepth 20000 in
set_option maxHeartbeats 4000000 in
/-- Exec of an INSERT, from insert. -/
theorem exec_via4 {w : World} {ok : Nat → Prop} {ps bd bt tc : Nat} {t : T} {s : St} {tl : List (List Nat)} {es : List E} {ks : Nat → List Nat} (h : SAt w ok ps s tl es []) (hf : Fine s tl []) (hk : s.kind = 4) (har : Arena es (tl.flatten ++ whL s) ks)
    (hdb : DB1 w bd bt tc t) (htn : t.name = tS) (c : Int) (Post : World → World → Prop) (hP : ∀ w1 w2, Post w1 w2 → Keep (fun k => k < w1.heap.size ∧ k ≠ bt) w1 w2)
    (hcall : ∀ w1, Below w.heap.size w w1 → Calls Yaed.prog 216 #[.pointer (some ⟨bd, 0, none⟩), .pointer (some ⟨ps, 0, none⟩), .int .i64 0] w1 fun r w2 => r = .returned (resV 0 c nilS) ∧ Post w1 w2) :
    Calls Yaed.prog 207 #[.pointer (some ⟨bd, 0, none⟩), .pointer (some ⟨ps, 0, none⟩)] w fun r w' => r = .returned (resV 0 c nilS) ∧ ∃ w1 w2, Below w.heap.size w w1 ∧ w.heap.size < w1.heap.size ∧ Post w1 w2 ∧ Keep (fun k => k ≠ w.heap.size) w2 w' := by
  have H : Hid (SAt w ok ps s tl es []) := h
  have HF : Hid (Fine s tl []) := hf
  have HAR : Hid (Arena es (tl.flatten ++ whL s) ks) := har
  have HDB : Hid (DB1 w bd bt tc t) := hdb
  have HP : Hid (∀ w1 w2, Post w1 w2 → Keep (fun k => k < w1.heap.size ∧ k ≠ bt) w1 w2) := hP
  have HCALL : Hid (∀ w1, Below w.heap.size w w1 → Calls Yaed.prog 216 #[.pointer (some ⟨bd, 0, none⟩), .pointer (some ⟨ps, 0, none⟩), .int .i64 0] w1 fun r w2 => r = .returned (resV 0 c nilS) ∧ Post w1 w2) := hcall
  have hps := h.at_.lt
  have hbd := hdb.lt
  have hbt := hdb.lt'
  have ht : s.table = tS := by rcases hf.table with h | h; exact h.2; rw [hk] at h; cases h.1
  clear h hf hdb har hP hcall
  go_enter Yaed.func207, Yaed.ntmps207
  go_wp2_with fail
  generalize hw0 : World.alloc _ _ = w0
  have HB0 : Hid (Below w.heap.size w w0 ∧ ∃ z, w0.heap[w.heap.size]? = some (.cells z 76 (0, 0)) ∧ z.size = 3) := by rw [← hw0]; exact ⟨below_alloc _ _, _, heap_alloc_new _ _, rfl⟩
  have hs0 : w.heap.size + 1 ≤ w0.heap.size := by rw [← hw0]; simp
  clear hw0
  refine (check_any (H.out.ext HB0.out.1) HF.out HAR.out).mono ?_
  rintro e w1 ⟨rfl, hb1⟩
  have HB1 : Hid (Below w0.heap.size w0 w1) := hb1
  have HBW : Hid (Below w.heap.size w w1) := HB0.out.1.trans (HB1.out.mono (by omega))
  have hs1 := hb1.size
  have HS1 : Hid (StAt w1 ps s) := (H.out.ext HBW.out).at_
  have f0 := HS1.out.facts.1
  have f6 : w1.cell? ⟨ps, 6, none⟩ = some (.string s.table) := HS1.out.cell 6
  rw [hk] at f0
  rw [ht] at f6
  clear hb1
  go_wp2_with fail
  refine (table_t bd bt tc t htn w1 (HDB.out.ext HBW.out)).mono ?_
  rintro e w3 ⟨rfl, rfl⟩
  go_wp2_with fail
  refine (HCALL.out w3 HBW.out).mono ?_
  rintro e w4 ⟨rfl, hp4⟩
  have HP4 : Hid (Post w3 w4) := hp4
  clear hp4
  unfold resV
  go_wp2_with (refine wpList_put (ty := 76) (g := w.heap.size) rfl rfl rfl rfl size76 (by kernel_rfl) ?_ ?_)
  · obtain ⟨z, h1, h2⟩ := HB0.out.2
    exact ⟨z, ((HP.out _ _ HP4.out).block _ ⟨by omega, by omega⟩).trans ((HB1.out.block _ (by omega)).trans h1), h2⟩
  intro w5 h5 k5 s5
  go_wp2_with fail
  exact bodyPost_ret (results_cell_row rfl _ _ _ _ _ _ _ rfl h5 Yaed.underlying76 rfl size76) rfl ⟨rfl, w3, w4, HBW.out, by omega, HP4.out, k5⟩
set_option maxRecDepth 20000 in
set_option maxHeartbeats 4000000 in
/-- Exec of a DELETE, from delete. -/
theorem exec_via7 {w : World} {ok : Nat → Prop} {ps bd bt tc : Nat} {t : T} {s : St} {tl : List (List Nat)} {es : List E} {ks : Nat → List Nat} (h : SAt w ok ps s tl es []) (hf : Fine s tl []) (hk : s.kind = 7) (har : Arena es (tl.flatten ++ whL s) ks)
    (hdb : DB1 w bd bt tc t) (htn : t.name = tS) (c : Int) (Post : World → World → Prop) (hP : ∀ w1 w2, Post w1 w2 → Keep (fun k => k < w1.heap.size ∧ k ≠ bt) w1 w2)
    (hcall : ∀ w1, Below w.heap.size w w1 → Calls Yaed.prog 219 #[.pointer (some ⟨bd, 0, none⟩), .pointer (some ⟨ps, 0, none⟩), .int .i64 0] w1 fun r w2 => r = .returned (resV 0 c nilS) ∧ Post w1 w2) :
    Calls Yaed.prog 207 #[.pointer (some ⟨bd, 0, none⟩), .pointer (some ⟨ps, 0, none⟩)] w fun r w' => r = .returned (resV 0 c nilS) ∧ ∃ w1 w2, Below w.heap.size w w1 ∧ w.heap.size < w1.heap.size ∧ Post w1 w2 ∧ Keep (fun k => k ≠ w.heap.size) w2 w' := by
  have H : Hid (SAt w ok ps s tl es []) := h
  have HF : Hid (Fine s tl []) := hf
  have HAR : Hid (Arena es (tl.flatten ++ whL s) ks) := har
  have HDB : Hid (DB1 w bd bt tc t) := hdb
  have HP : Hid (∀ w1 w2, Post w1 w2 → Keep (fun k => k < w1.heap.size ∧ k ≠ bt) w1 w2) := hP
  have HCALL : Hid (∀ w1, Below w.heap.size w w1 → Calls Yaed.prog 219 #[.pointer (some ⟨bd, 0, none⟩), .pointer (some ⟨ps, 0, none⟩), .int .i64 0] w1 fun r w2 => r = .returned (resV 0 c nilS) ∧ Post w1 w2) := hcall
  have hps := h.at_.lt
  have hbd := hdb.lt
  have hbt := hdb.lt'
  have ht : s.table = tS := by rcases hf.table with h | h; exact h.2; rw [hk] at h; cases h.1
  clear h hf hdb har hP hcall
  go_enter Yaed.func207, Yaed.ntmps207
  go_wp2_with fail
  generalize hw0 : World.alloc _ _ = w0
  have HB0 : Hid (Below w.heap.size w w0 ∧ ∃ z, w0.heap[w.heap.size]? = some (.cells z 76 (0, 0)) ∧ z.size = 3) := by rw [← hw0]; exact ⟨below_alloc _ _, _, heap_alloc_new _ _, rfl⟩
  have hs0 : w.heap.size + 1 ≤ w0.heap.size := by rw [← hw0]; simp
  clear hw0
  refine (check_any (H.out.ext HB0.out.1) HF.out HAR.out).mono ?_
  rintro e w1 ⟨rfl, hb1⟩
  have HB1 : Hid (Below w0.heap.size w0 w1) := hb1
  have HBW : Hid (Below w.heap.size w w1) := HB0.out.1.trans (HB1.out.mono (by omega))
  have hs1 := hb1.size
  have HS1 : Hid (StAt w1 ps s) := (H.out.ext HBW.out).at_
  have f0 := HS1.out.facts.1
  have f6 : w1.cell? ⟨ps, 6, none⟩ = some (.string s.table) := HS1.out.cell 6
  rw [hk] at f0
  rw [ht] at f6
  clear hb1
  go_wp2_with fail
  refine (table_t bd bt tc t htn w1 (HDB.out.ext HBW.out)).mono ?_
  rintro e w3 ⟨rfl, rfl⟩
  go_wp2_with fail
  refine (HCALL.out w3 HBW.out).mono ?_
  rintro e w4 ⟨rfl, hp4⟩
  have HP4 : Hid (Post w3 w4) := hp4
  clear hp4
  unfold resV
  go_wp2_with (refine wpList_put (ty := 76) (g := w.heap.size) rfl rfl rfl rfl size76 (by kernel_rfl) ?_ ?_)
  · obtain ⟨z, h1, h2⟩ := HB0.out.2
    exact ⟨z, ((HP.out _ _ HP4.out).block _ ⟨by omega, by omega⟩).trans ((HB1.out.block _ (by omega)).trans h1), h2⟩
  intro w5 h5 k5 s5
  go_wp2_with fail
  exact bodyPost_ret (results_cell_row rfl _ _ _ _ _ _ _ rfl h5 Yaed.underlying76 rfl size76) rfl ⟨rfl, w3, w4, HBW.out, by omega, HP4.out, k5⟩
theorem DB1.keep {w w' : World} {bd bt tc : Nat} {t : T} {X : Nat → Prop} (h : DB1 w bd bt tc t) (hk : Keep X w w') (h1 : X bd) (h2 : X bt) : DB1 w' bd bt tc t :=
  ⟨(hk.block _ h1).trans h.db, by obtain ⟨cur, h3, h4⟩ := h.tb; exact ⟨cur, (hk.block _ h2).trans h3, h4⟩, h.ne, h.cap⟩
/-- Exec of an INSERT into an empty table. -/
theorem exec_insert_new {w : World} {ok okc : Nat → Prop} (n : Nat) (hn0 : 1 ≤ n) (hn4 : n ≤ 4) (rs : List (List V)) (hrs : ∀ r ∈ rs, r.length = n) (hm0 : 1 ≤ rs.length) (hm : rs.length ≤ 32) (ps bd bt tc : Nat) (t : T) (s : St) (ns : List ByteArray) (hns : ns.length = n)
    {ks : Nat → List Nat} (h : SAt w ok ps s (tlN rs.length n) (paramsE rs) []) (hf : Fine s (tlN rs.length n) []) (hk : s.kind = 4) (har : Arena (paramsE rs) ((tlN rs.length n).flatten ++ whL s) ks)
    (hdb : DB1 w bd bt tc t) (htn : t.name = tS) (hti : t.ids = nilSl) (htr : t.rows = nilSl) (hc : Arr w okc t.cols.v 3 (ns.map colL)) (hps : ps ≠ bt)
    (hU : ∀ rv w1, Below w.heap.size w w1 → Calls Yaed.prog 221 #[t.cols.v, rv, t.idx.v] w1 fun r w2 => r = .returned (.bool true) ∧ Below w1.heap.size w1 w2) :
    Calls Yaed.prog 207 #[.pointer (some ⟨bd, 0, none⟩), .pointer (some ⟨ps, 0, none⟩)] w fun r w' => ∃ ds rr : Sl, r = .returned (resV 0 rs.length nilS) ∧ DB1 w' bd bt tc { t with ids := ds, rows := rr } ∧
      Arr w' (fun b => w.heap.size < b) ds.v 1 (idsL (idsN 1 rs.length)) ∧ Arr2 w' (fun b => w.heap.size < b) rr.v 4 (rowsL (normR rs)) ∧ Keep (fun k => k < w.heap.size ∧ k ≠ bt) w w' := by
  have hbd := hdb.lt
  have hbt := hdb.lt'
  refine (exec_via4 h hf hk har hdb htn rs.length (fun w1 w2 => ∃ ds rr : Sl, DB1 w2 bd bt tc { t with ids := ds, rows := rr } ∧
      Arr w2 (fun b => w1.heap.size ≤ b) ds.v 1 (idsL (idsN 1 rs.length)) ∧ Arr2 w2 (fun b => w1.heap.size ≤ b) rr.v 4 (rowsL (normR rs)) ∧ Keep (fun k => k < w1.heap.size ∧ k ≠ bt) w1 w2) (fun w1 w2 hp => by obtain ⟨_, _, _, _, _, hk⟩ := hp; exact hk) (fun w1 h1 => ?_)).mono ?_
  · refine (insert_new n hn0 hn4 rs hrs hm0 hm ps bd bt tc t s ns hns w1 (h.ext h1) (hdb.ext h1) hti htr (hc.ext h1) hps (fun rv w2 h2 => hU rv w2 (h1.trans (h2.mono h1.size)))).mono ?_
    rintro r w2 ⟨ds, rr, rfl, h2, h3, h4, h5⟩
    exact ⟨rfl, ds, rr, h2, h3, h4, h5⟩
  · rintro r w' ⟨rfl, w1, w2, hb1, hs1, ⟨ds, rr, h2, h3, h4, h5⟩, hk'⟩
    refine ⟨ds, rr, rfl, h2.keep hk' (by show bd ≠ w.heap.size; omega) (by show bt ≠ w.heap.size; omega), (h3.keep hk' (fun b hb => by show b ≠ w.heap.size; omega)).mono (fun b hb => by show w.heap.size < b; omega),
      (h4.keep hk' (fun b hb => by show b ≠ w.heap.size; omega)).mono (fun b hb => by show w.heap.size < b; omega), ?_⟩
    exact (Keep.of_below hb1 (fun k hk => hk.1)).trans ((h5.mono (fun k hk => ⟨by omega, hk.2⟩)).trans (hk'.mono (fun k hk => by show k ≠ w.heap.size; omega)))
/-- Exec of an INSERT into a table with rows. -/
theorem exec_insert_more {w : World} {ok okc : Nat → Prop} (n : Nat) (hn0 : 1 ≤ n) (hn4 : n ≤ 4) (rs : List (List V)) (hrs : ∀ r ∈ rs, r.length = n) (hm0 : 1 ≤ rs.length) (pre : List Int) (lst : Int) (hlst0 : 0 ≤ lst) (hlst : lst ≤ 1000) (rs0 : List (List V)) (hL : rs0.length = pre.length + 1) (hm : rs0.length + rs.length ≤ 32) (ps bd bt tc : Nat) (t : T) (s : St) (ns : List ByteArray) (hns : ns.length = n)
    {ks : Nat → List Nat} (h : SAt w ok ps s (tlN rs.length n) (paramsE rs) []) (hf : Fine s (tlN rs.length n) []) (hk : s.kind = 4) (har : Arena (paramsE rs) ((tlN rs.length n).flatten ++ whL s) ks)
    (hdb : DB1 w bd bt tc t) (htn : t.name = tS) (hti : Arr w okc t.ids.v 1 (idsL (pre ++ [lst]))) (htr : Arr2 w okc t.rows.v 4 (rowsL rs0)) (hokc : ∀ b, okc b → b ≠ bt ∧ b < w.heap.size) (hc : Arr w okc t.cols.v 3 (ns.map colL)) (hps : ps ≠ bt)
    (hU : ∀ rv w1, Below w.heap.size w w1 → Calls Yaed.prog 221 #[t.cols.v, rv, t.idx.v] w1 fun r w2 => r = .returned (.bool true) ∧ Below w1.heap.size w1 w2) :
    Calls Yaed.prog 207 #[.pointer (some ⟨bd, 0, none⟩), .pointer (some ⟨ps, 0, none⟩)] w fun r w' => ∃ ds rr : Sl, r = .returned (resV 0 rs.length nilS) ∧ DB1 w' bd bt tc { t with ids := ds, rows := rr } ∧
      Arr w' (fun b => w.heap.size < b) ds.v 1 (idsL ((pre ++ [lst]) ++ idsN (lst + 1) rs.length)) ∧ Arr2 w' (fun b => okc b ∨ w.heap.size < b) rr.v 4 (rowsL (rs0 ++ normR rs)) ∧ Keep (fun k => k < w.heap.size ∧ k ≠ bt) w w' := by
  have hbd := hdb.lt
  have hbt := hdb.lt'
  refine (exec_via4 h hf hk har hdb htn rs.length (fun w1 w2 => ∃ ds rr : Sl, DB1 w2 bd bt tc { t with ids := ds, rows := rr } ∧
      Arr w2 (fun b => w1.heap.size ≤ b) ds.v 1 (idsL ((pre ++ [lst]) ++ idsN (lst + 1) rs.length)) ∧ Arr2 w2 (fun b => okc b ∨ w1.heap.size ≤ b) rr.v 4 (rowsL (rs0 ++ normR rs)) ∧ Keep (fun k => k < w1.heap.size ∧ k ≠ bt) w1 w2) (fun w1 w2 hp => by obtain ⟨_, _, _, _, _, hk⟩ := hp; exact hk) (fun w1 h1 => ?_)).mono ?_
  · refine (insert_more n hn0 hn4 rs hrs hm0 pre lst hlst0 hlst rs0 hL hm ps bd bt tc t s ns hns w1 (h.ext h1) (hdb.ext h1) (hti.ext h1) (htr.ext h1) (fun b hb => (hokc b hb).1) (hc.ext h1) hps (fun rv w2 h2 => hU rv w2 (h1.trans (h2.mono h1.size)))).mono ?_
    rintro r w2 ⟨ds, rr, rfl, h2, h3, h4, h5⟩
    exact ⟨rfl, ds, rr, h2, h3, h4, h5⟩
  · rintro r w' ⟨rfl, w1, w2, hb1, hs1, ⟨ds, rr, h2, h3, h4, h5⟩, hk'⟩
    refine ⟨ds, rr, rfl, h2.keep hk' (by show bd ≠ w.heap.size; omega) (by show bt ≠ w.heap.size; omega), (h3.keep hk' (fun b hb => by show b ≠ w.heap.size; omega)).mono (fun b hb => by show w.heap.size < b; omega),
      (h4.keep hk' (fun b hb => ?_)).mono (fun b hb => ?_), ?_⟩
    · show b ≠ w.heap.size
      rcases hb with hb | hb
      · have := (hokc b hb).2; omega
      · omega
    · rcases hb with hb | hb
      · exact .inl hb
      · exact .inr (by omega)
    exact (Keep.of_below hb1 (fun k hk => hk.1)).trans ((h5.mono (fun k hk => ⟨by omega, hk.2⟩)).trans (hk'.mono (fun k hk => by show k ≠ w.heap.size; omega)))
/-- Exec of the DELETE. -/
theorem exec_delete {w : World} {ok okc : Nat → Prop} (m : Nat) (hm : m + 1 ≤ 32) (rs0 : List (List V)) (hL : rs0.length = m + 1) (ps bd bt tc : Nat) (t : T) (s : St) (h : SAt w ok ps s [] delE []) (hf : Fine s [] []) (hk : s.kind = 7) (hwh : s.wher = 2)
    (hdb : DB1 w bd bt tc t) (htn : t.name = tS) (hti : Arr w okc t.ids.v 1 (idsL (idsN 1 (m + 1)))) (htr : Arr2 w okc t.rows.v 4 (rowsL rs0)) (hokc : ∀ b, okc b → b ≠ bt ∧ b < w.heap.size) :
    Calls Yaed.prog 207 #[.pointer (some ⟨bd, 0, none⟩), .pointer (some ⟨ps, 0, none⟩)] w fun r w' => ∃ ds rr : Sl, r = .returned (resV 0 1 nilS) ∧ DB1 w' bd bt tc { t with ids := ds, rows := rr } ∧
      Arr w' (fun b => w.heap.size < b) ds.v 1 (idsL (idsN 2 m)) ∧ Arr2 w' (fun b => okc b ∨ w.heap.size < b) rr.v 4 (rowsL (rs0.drop 1)) ∧ Keep (fun k => k < w.heap.size ∧ k ≠ bt) w w' := by
  have hbd := hdb.lt
  have hbt := hdb.lt'
  have hwl : ([] : List (List Nat)).flatten ++ whL s = [2] := by simp [whL, hwh]
  refine (exec_via7 h hf hk (ks := delK) (by rw [hwl]; exact Arena.del) hdb htn 1 (fun w1 w2 => ∃ ds rr : Sl, DB1 w2 bd bt tc { t with ids := ds, rows := rr } ∧
      Arr w2 (fun b => w1.heap.size ≤ b) ds.v 1 (idsL (idsN 2 m)) ∧ Arr2 w2 (fun b => okc b ∨ w1.heap.size ≤ b) rr.v 4 (rowsL (rs0.drop 1)) ∧ Keep (fun k => k < w1.heap.size ∧ k ≠ bt) w1 w2) (fun w1 w2 hp => by obtain ⟨_, _, _, _, _, hk⟩ := hp; exact hk) (fun w1 h1 => ?_)).mono ?_
  · refine (delete_del m hm rs0 hL ps bd bt tc t s w1 (h.ext h1).at_ hwh (h.ext h1).arena (hdb.ext h1) (hti.ext h1) (htr.ext h1) (fun b hb => (hokc b hb).1)).mono ?_
    rintro r w2 ⟨ds, rr, rfl, h2, h3, h4, h5⟩
    exact ⟨rfl, ds, rr, h2, h3, h4, h5⟩
  · rintro r w' ⟨rfl, w1, w2, hb1, hs1, ⟨ds, rr, h2, h3, h4, h5⟩, hk'⟩
    refine ⟨ds, rr, rfl, h2.keep hk' (by show bd ≠ w.heap.size; omega) (by show bt ≠ w.heap.size; omega), (h3.keep hk' (fun b hb => by show b ≠ w.heap.size; omega)).mono (fun b hb => by show w.heap.size < b; omega),
      (h4.keep hk' (fun b hb => ?_)).mono (fun b hb => ?_), ?_⟩
    · show b ≠ w.heap.size
      rcases hb with hb | hb
      · have := (hokc b hb).2; omega
      · omega
    · rcases hb with hb | hb
      · exact .inl hb
      · exact .inr (by omega)
    exact (Keep.of_below hb1 (fun k hk => hk.1)).trans ((h5.mono (fun k hk => ⟨by omega, hk.2⟩)).trans (hk'.mono (fun k hk => by show k ≠ w.heap.size; omega)))
end Go.Proofs.YgdaegDoor
