import Derived.Test.YgdaegDoorFilled
import Derived.Test.YgdaegDoorDump2
namespace Go.Proofs.YgdaegDoor
open Go.RowKit
set_option linter.unusedSimpArgs false
set_option linter.unusedVariables false
theorem Arr2.take1 {w : World} {ok : Nat → Prop} {rb ro rc : Nat} {rs : List (List V)} (h : Arr2 w ok (.slice (some ⟨rb, ro, none⟩) rs.length rc) 4 (rowsL rs)) (h0 : 1 ≤ rs.length) : Arr2 w ok (.slice (some ⟨rb, ro, none⟩) 1 rc) 4 (rowsL (rs.take 1)) := by
  obtain ⟨vs, hl, ha, hi⟩ := h
  have hl' : vs.length = rs.length := by simpa [rowsL] using hl
  refine ⟨vs.take 1, by simp [rowsL, hl'], ?_, fun i hi' => ?_⟩
  · obtain ⟨a, c, he, hle, hcell⟩ := ha
    rw [List.length_map, hl'] at he hle hcell
    obtain ⟨rfl, rfl⟩ : some ⟨rb, ro, none⟩ = a ∧ rc = c := by simpa using he
    refine ⟨some ⟨rb, ro, none⟩, rc, by simp [hl', Nat.min_eq_left h0], by simp [hl']; omega, fun i hi'' => ?_⟩
    have hi0 : i = 0 := by simp [hl'] at hi''; omega
    subst hi0
    obtain ⟨b, o, e, h1, h2, h3⟩ := hcell 0 (by omega)
    refine ⟨b, o, e, h1, h2, fun f hf => ?_⟩
    rw [h3 f hf]
    simp [List.getD_eq_getElem?_getD, List.getElem?_take]
  · have hi0 : i = 0 := by simp [rowsL] at hi'; omega
    subst hi0
    have h1 := hi 0 (by simp [rowsL]; omega)
    simpa [rowsL, List.getD_eq_getElem?_getD, List.getElem?_take] using h1
theorem Arr2.cap {w : World} {ok : Nat → Prop} {a : Option Addr} {n c : Nat} {k : Nat} {rss : List (List (List Value))} (h : Arr2 w ok (.slice a n c) k rss) : rss.length ≤ c := by
  obtain ⟨vs, h1, h2, h3⟩ := h
  obtain ⟨a', c', he, hle, _⟩ := h2
  have : c = c' := by simp at he; exact he.2.2
  rw [List.length_map, h1] at hle
  omega
theorem idsN_end (q : Nat) : idsN 2 q ++ [2 + (q : Int)] ++ idsN (2 + (q : Int) + 1) 1 = idsN 2 (q + 2) := by
  have h : idsN (2 + (q : Int) + 1) 1 = [2 + ((q + 1 : Nat) : Int)] := by
    simp only [idsN, List.range_succ, List.range_zero, List.nil_append, List.map_cons, List.map_nil]
    congr 1
  rw [← idsN_succ, h, ← idsN_succ]
theorem idsN_get {b : Int} {m k : Nat} (h : k < m) : ((idsL (idsN b m)).getD k []).getD 0 undef = .int .i64 (b + k) := by
  simp [idsL, idsN, List.getD_eq_getElem?_getD, h]
theorem fine_delete (av : Value) : Fine ({ St.mk0 7 tS with wher := 2, arena := av } : St) [] [] :=
  ⟨.inr (.inr (.inr (.inr (.inr (.inr rfl))))), .inl ⟨rfl, rfl⟩, .inr ⟨rfl, rfl⟩, .inl ⟨(by decide : (0 : Int) ≤ 2), rfl, rfl⟩, rfl, .inr (.inr ⟨rfl, rfl, rfl⟩), fun t h => (by cases h), .inr ⟨rfl, rfl⟩, fun t h => (by cases h), by simp, by simp⟩
theorem sat_delete {w : World} {ok : Nat → Prop} {ps : Nat} {av : Value} (h : StAt w ps ({ St.mk0 7 tS with wher := 2, arena := av } : St)) (ho : ok ps) (ha : Arr w ok av 12 (delE.map E.list)) : SAt w ok ps ({ St.mk0 7 tS with wher := 2, arena := av } : St) [] delE [] :=
  ⟨h, ho, Arr2.nil _ _ _, ha, Arr.nil _ _ _, rfl, rfl⟩
theorem unique_ix {w w1 : World} {ok : Nat → Prop} {g gc : Nat} {c : ByteArray} (cv rv : Value) (h : Arr w ok (.slice (some ⟨g, 0, none⟩) 1 gc) 4 [ixL iS c]) (hb : Below w.heap.size w w1) :
    Calls Yaed.prog 221 #[cv, rv, .slice (some ⟨g, 0, none⟩) 1 gc] w1 fun r w2 => r = .returned (.bool true) ∧ Below w1.heap.size w1 w2 := by
  obtain ⟨a, c', he, _, hcell⟩ := h.ext hb
  obtain ⟨rfl, rfl⟩ : some ⟨g, 0, none⟩ = a ∧ gc = c' := by simpa using he
  obtain ⟨b, o, e, _, _, hcc⟩ := hcell 0 (by simp)
  obtain ⟨rfl, rfl⟩ : g = b ∧ 0 = o := by simpa using e
  exact unique_plain cv rv g 0 gc iS c w1 (hcc 0 (by omega)) (hcc 1 (by omega)) (hcc 2 (by omega)) (hcc 3 (by omega))
set_option maxRecDepth 20000 in
set_option maxHeartbeats 8000000 in
theorem rowid_any (n : Nat) (hn0 : 1 ≤ n) (hn4 : n ≤ 4) (rs : List (List V)) (hrs : ∀ r ∈ rs, r.length = n) (q : Nat) (hq : rs.length = q + 2) (hm : q + 2 ≤ 32) (hok : ∀ v ∈ rs.flatten, v.ok) (rv : Value) (w : World) (ok okc : Nat → Prop) (hrv : Arr2 w ok rv 4 (rowsL rs)) (bd bt tc g gc : Nat) (hokr : ∀ b, ok b → b ≠ bd ∧ b ≠ bt)
    (cs : Sl) (c : ByteArray) (hdb : DB1 w bd bt tc ⟨tS, cs, ⟨some ⟨g, 0, none⟩, 1, gc⟩, nilSl, nilSl⟩) (hc : Arr w okc cs.v 3 ((nsN n).map colL)) (hi : Arr w okc (.slice (some ⟨g, 0, none⟩) 1 gc) 4 [ixL iS c]) (hokc : ∀ b, okc b → b ≠ bd ∧ b ≠ bt) :
    Calls Yaed.prog 34 #[kitV, .pointer (some ⟨bd, 0, none⟩), rv] w fun r w' => r = .returned (.bool true) ∧ Keep (fun k => k < w.heap.size ∧ k ≠ bd ∧ k ≠ bt) w w' := by
  obtain ⟨rb, ro, rc, a1, c1, rfl, hrb, _⟩ := hrv.head (by omega)
  have HRS : Hid (∀ r ∈ rs, r.length = n) := hrs
  have HOK : Hid (∀ v ∈ rs.flatten, v.ok) := hok
  have HRV : Hid (Arr2 w ok (.slice (some ⟨rb, ro, none⟩) rs.length rc) 4 (rowsL rs)) := hrv
  have HOKR : Hid ((∀ b, ok b → b ≠ bd ∧ b ≠ bt) ∧ ∀ b, okc b → b ≠ bd ∧ b ≠ bt) := ⟨hokr, hokc⟩
  have HDB : Hid (DB1 w bd bt tc ⟨tS, cs, ⟨some ⟨g, 0, none⟩, 1, gc⟩, nilSl, nilSl⟩) := hdb
  have HC : Hid (Arr w okc cs.v 3 ((nsN n).map colL) ∧ Arr w okc (.slice (some ⟨g, 0, none⟩) 1 gc) 4 [ixL iS c]) := ⟨hc, hi⟩
  have hbd := hdb.lt
  have hbt := hdb.lt'
  have hne := hdb.ne
  have HM : Hid (rs.length = q + 2) := hq
  rw [hq]
  clear hrs hok hrv hokr hokc hdb hc hi hq
  go_enter Yaed.func34, Yaed.ntmps34
  go_wp2_with fail
  generalize hw0 : World.alloc _ _ = w0
  have HK0 : Hid (w0.cell? ⟨w.heap.size, 0, none⟩ = some (.func (.func 207) #[] #[])) := by rw [← hw0]; exact cell_of_row _ _ 0 _ 27 _ (heap_alloc_new _ _)
  have HB0 : Hid (Below w.heap.size w w0) := by rw [← hw0]; exact below_alloc _ _
  have hs0 : w.heap.size + 1 ≤ w0.heap.size := by rw [← hw0]; simp
  clear hw0
  refine (insertStmt_any n hn4 rs HRS.out (by rw [HM.out]; exact hm) (by rw [HM.out]; omega) _ w0 ok (by have h := HRV.out.ext HB0.out; rw [HM.out] at h; exact h)).mono ?_
  rintro e w1 ⟨tv, av, rfl, htv, hav, hb1⟩
  obtain ⟨tta, ttc, rfl⟩ := htv.shape
  obtain ⟨aaa, aac, rfl, _⟩ := hav.shape
  generalize ((List.range rs.length).map (tupRow n)).length = tl at *
  generalize ((paramsE rs).map E.list).length = al at *
  have HB1 : Hid (Below w0.heap.size w0 w1) := hb1
  have HTV : Hid (Arr2 w1 (fun b => w0.heap.size ≤ b) (.slice tta tl ttc) 1 ((List.range rs.length).map (tupRow n)) ∧ Arr w1 (fun b => w0.heap.size ≤ b) (.slice aaa al aac) 12 ((paramsE rs).map E.list)) := ⟨htv, hav⟩
  have hs1 := hb1.size
  clear hb1 htv hav
  unfold St.mk0 St.val St.arr
  go_wp2_with (refine wpList_put (ty := 38) (g := w1.heap.size) rfl rfl rfl rfl size38 (by kernel_rfl) ⟨_, heap_alloc_new w1 _, rfl⟩ ?_)
  intro w2 h2 k2 s2
  have HN2 : Hid (StAt w2 w1.heap.size ({ St.mk0 4 tS with tuples := .slice tta tl ttc, arena := .slice aaa al aac } : St)) := h2
  have HB2 : Hid (Below w1.heap.size w1 w2) := (below_alloc w1 _).trans (k2.below (fun k hk => by show k ≠ w1.heap.size; omega))
  have hs2 : w1.heap.size + 1 ≤ w2.heap.size := by have := k2.size; simp at this; omega
  clear h2 k2 s2
  go_upto_region 2 with fail
  have HBW2 : Hid (Below w.heap.size w w2) := HB0.out.trans ((HB1.out.mono (by omega)).trans (HB2.out.mono (by omega)))
  have HB02 : Hid (Below w0.heap.size w0 w2) := HB1.out.trans (HB2.out.mono (by omega))
  have HI2 : Hid (SAt w2 (fun b => w0.heap.size ≤ b) w1.heap.size ({ St.mk0 4 tS with tuples := .slice tta tl ttc, arena := .slice aaa al aac } : St) (tlN rs.length n) (paramsE rs) []) :=
    sat_insert HN2.out (by show w0.heap.size ≤ w1.heap.size; omega) (HTV.out.1.ext HB2.out) (HTV.out.2.ext HB2.out)
  have HC2 : Hid (Arr w2 (fun b => b ≠ bd ∧ b ≠ bt ∧ b < w.heap.size) cs.v 3 ((nsN n).map colL) ∧ Arr w2 (fun b => b ≠ bd ∧ b ≠ bt ∧ b < w.heap.size) (.slice (some ⟨g, 0, none⟩) 1 gc) 4 [ixL iS c]) :=
    ⟨(HC.out.1.inb.mono (fun b hb => ⟨(HOKR.out.2 b hb.1).1, (HOKR.out.2 b hb.1).2, hb.2⟩)).ext HBW2.out, (HC.out.2.inb.mono (fun b hb => ⟨(HOKR.out.2 b hb.1).1, (HOKR.out.2 b hb.1).2, hb.2⟩)).ext HBW2.out⟩
  have hkc : w2.cell? ⟨w.heap.size, 0, none⟩ = some (.func (.func 207) #[] #[]) := by rw [HB02.out.cell (p := ⟨w.heap.size, _, none⟩) (by show w.heap.size < w0.heap.size; omega)]; exact HK0.out
  clear HN2 HTV HC HB1 HB2 HB0
  go_wp2_with fail
  refine (exec_insert_new (okc := fun b => b ≠ bd ∧ b ≠ bt ∧ b < w.heap.size) n hn0 hn4 rs HRS.out (by rw [HM.out]; omega) (by rw [HM.out]; exact hm) w1.heap.size bd bt tc _ _ (nsN n) (nsN_len n) HI2.out (fine_insert n rs.length hn0 hn4 (by rw [HM.out]; omega) (by rw [HM.out]; exact hm) _ _) rfl (arena_insert n hn4 rs HRS.out (by rw [HM.out]; exact hm) HOK.out _ rfl) (HDB.out.ext HBW2.out) rfl rfl rfl HC2.out.1 (by omega) (fun rv w7 hb7 => unique_ix _ _ HC2.out.2 hb7)).mono ?_
  rw [HM.out]
  rintro e w3 ⟨ds, rr, rfl, hdb3, hds3, hrr3, hk3⟩
  have HDB3 : Hid (DB1 w3 bd bt tc ⟨tS, cs, ⟨some ⟨g, 0, none⟩, 1, gc⟩, ds, rr⟩) := hdb3
  have HDS3 : Hid (Arr w3 (fun b => w2.heap.size < b) ds.v 1 (idsL (idsN 1 (q + 2))) ∧ Arr2 w3 (fun b => w2.heap.size < b) rr.v 4 (rowsL (normR rs))) := ⟨hds3, hrr3⟩
  have HK3 : Hid (Keep (fun k => k < w2.heap.size ∧ k ≠ bt) w2 w3) := hk3
  have hs3 := hk3.size
  clear hdb3 hds3 hrr3 hk3 hkc
  unfold resV
  go_wp2_with (refine wpList_put (ty := 76) (g := w3.heap.size) rfl rfl rfl rfl size76 (by kernel_rfl) ⟨_, heap_alloc_new w3 _, rfl⟩ ?_)
  intro w4 h4 k4 s4
  have HB4 : Hid (Below w3.heap.size w3 w4) := (below_alloc w3 _).trans (k4.below (fun k hk => by show k ≠ w3.heap.size; omega))
  have hs4 : w3.heap.size + 1 ≤ w4.heap.size := by have := k4.size; simp at this; omega
  have c0 : w4.cell? ⟨w3.heap.size, 0, none⟩ = some (.int .u8 0) := cell_of_row w4 _ 0 _ _ _ h4
  have c2 : w4.cell? ⟨w3.heap.size, 2, none⟩ = some (.int .i64 ((q + 2 : Nat) : Int)) := cell_of_row w4 _ 2 _ _ _ h4
  clear h4 k4 s4
  go_wp2_with fail
  clear c0 c2
  generalize hw5 : World.alloc _ _ = w5
  have HN5 : Hid (w5.heap[w4.heap.size]? = some (.cells #[nilS] 111 (0, 0))) := by rw [← hw5]; exact heap_alloc_new _ _
  have HB5 : Hid (Below w4.heap.size w4 w5) := by rw [← hw5]; exact below_alloc _ _
  have hs5 : w4.heap.size + 1 ≤ w5.heap.size := by rw [← hw5]; simp
  clear hw5
  refine (stmt_any 7 tS w5).mono ?_
  rintro e w6 ⟨rfl, hb6⟩
  have HB6 : Hid (Below w5.heap.size w5 w6) := hb6
  have hs6 := hb6.size
  clear hb6
  unfold St.mk0 St.val St.arr
  go_wp2_with (refine wpList_put (ty := 38) (g := w6.heap.size) rfl rfl rfl rfl size38 (by kernel_rfl) ⟨_, heap_alloc_new w6 _, rfl⟩ ?_)
  intro w7 h7 k7 s7
  have HN7 : Hid (StAt w7 w6.heap.size (St.mk0 7 tS)) := h7
  have HB7 : Hid (Below w6.heap.size w6 w7) := (below_alloc w6 _).trans (k7.below (fun k hk => by show k ≠ w6.heap.size; omega))
  have hs7 : w6.heap.size + 1 ≤ w7.heap.size := by have := k7.size; simp at this; omega
  clear h7 k7 s7
  have HBA7 : Hid (BAt w7 w4.heap.size [] (fun k => k < w7.heap.size ∧ k ≠ w4.heap.size)) :=
    ⟨nilS, (HB7.out.block _ (by omega)).trans ((HB6.out.block _ (by omega)).trans HN5.out), World.ownsRow_nil _ _ _ _, fun g hg => by simp [Value.ownBlock] at hg, fun h => h.2 rfl⟩
  go_wp2_with fail
  refine (col_any w4.heap.size [] (fun k => k < w7.heap.size ∧ k ≠ w4.heap.size) w7 (fun k hk => hk.1) (by simp) HBA7.out rowidS).mono ?_
  rintro e w8 ⟨rfl, hba8, hk8⟩
  have HBA8 : Hid (BAt w8 w4.heap.size [colE rowidS] (fun k => k < w7.heap.size ∧ k ≠ w4.heap.size)) := hba8
  have HK8 : Hid (Keep (fun k => k < w7.heap.size ∧ k ≠ w4.heap.size) w7 w8) := hk8
  have hs8 := hk8.size
  clear hba8 hk8
  go_wp2_with fail
  refine (i_any w4.heap.size [colE rowidS] (fun k => k < w7.heap.size ∧ k ≠ w4.heap.size) w8 (fun k hk => Nat.lt_of_lt_of_le hk.1 hs8) (by simp) HBA8.out 1).mono ?_
  rintro e w9 ⟨rfl, hba9, hk9⟩
  have HBA9 : Hid (BAt w9 w4.heap.size [colE rowidS, leafE 0 (intV 1)] (fun k => k < w7.heap.size ∧ k ≠ w4.heap.size)) := hba9
  have HK9 : Hid (Keep (fun k => k < w7.heap.size ∧ k ≠ w4.heap.size) w8 w9) := hk9
  have hs9 := hk9.size
  clear hba9 hk9
  go_wp2_with fail
  refine (op_any w4.heap.size [colE rowidS, leafE 0 (intV 1)] (fun k => k < w7.heap.size ∧ k ≠ w4.heap.size) w9 (fun k hk => Nat.lt_of_lt_of_le hk.1 (by omega)) (by simp) HBA9.out 11 0 1).mono ?_
  rintro e w10 ⟨rfl, hba10, hk10⟩
  have HK10 : Hid (Keep (fun k => k < w7.heap.size ∧ k ≠ w4.heap.size) w7 w10) := HK8.out.trans (HK9.out.trans hk10)
  have hs10 : w7.heap.size ≤ w10.heap.size := by have := hk10.size; omega
  obtain ⟨dav, hpb10, hown10, hnX, _⟩ := hba10
  have HN10 : Hid (StAt w10 w6.heap.size (St.mk0 7 tS)) := HN7.out.keep HK10.out ⟨by omega, by omega⟩
  have havs : ∃ aa ac, dav = .slice aa 3 ac := by
    rcases hown10.2 with ⟨h, hh⟩ | ⟨g, cap, cur, h, _⟩
    · exact absurd hh (by simp)
    · exact ⟨_, _, h⟩
  obtain ⟨daa, dac, rfl⟩ := havs
  have HNX : Hid (∀ g, Value.ownBlock (.slice daa 3 dac) = some g → ¬ (g < w7.heap.size ∧ g ≠ w4.heap.size)) := hnX
  clear hnX
  have HOWN : Hid (w10.ownsRow (w4.heap.size + 1) 150 12 (.slice daa 3 dac) 3 (delE.flatMap E.list)) := hown10
  have p0 : w10.cell? ⟨w4.heap.size, 0, none⟩ = some (.slice daa 3 dac) := cell_of_row w10 _ 0 _ _ _ hpb10
  have q14 : w10.cell? ⟨w6.heap.size, 14, none⟩ = some (.int .i16 (-1)) := HN10.out.cell 14
  have q18 : w10.cell? ⟨w6.heap.size, 18, none⟩ = some nilS := HN10.out.cell 18
  have g14 : w10.frozen? ⟨w6.heap.size, 14, none⟩ = false := by simp [World.frozen?, show w10.heap[w6.heap.size]? = _ from HN10.out]
  have g18 : w10.frozen? ⟨w6.heap.size, 18, none⟩ = false := by simp [World.frozen?, show w10.heap[w6.heap.size]? = _ from HN10.out]
  have hpd : ¬ w4.heap.size = w6.heap.size := by omega
  clear hpb10 hown10 hk10 HN7 HBA7 HBA8 HBA9 HK8 HK9
  go_upto_region 10 with fail
  clear p0 q14 q18 g14 g18
  generalize hw11 : World.setCell (World.setCell _ _ _) _ _ = w11
  have HN11 : Hid (StAt w11 w6.heap.size ({ St.mk0 7 tS with wher := 2, arena := .slice daa 3 dac } : St)) := by
    rw [← hw11]
    exact (heap_set (heap_set HN10.out _) _).trans (by kernel_rfl)
  have HK11 : Hid (Keep (fun k => k ≠ w6.heap.size) w10 w11) := by
    rw [← hw11]
    exact (Keep.refl.setCell (p := ⟨w6.heap.size, 14, none⟩) (fun h => h rfl) _).setCell (p := ⟨w6.heap.size, 18, none⟩) (fun h => h rfl) _
  have hs11 : w10.heap.size ≤ w11.heap.size := HK11.out.size
  clear hw11 HN10
  have HB411 : Hid (Below w4.heap.size w4 w11) := HB5.out.trans ((HB6.out.mono (by omega)).trans ((HB7.out.mono (by omega)).trans ((HK10.out.below (fun k hk => ⟨by omega, by omega⟩)).trans (HK11.out.below (fun k hk => by show k ≠ w6.heap.size; omega)))))
  have HB311 : Hid (Below w3.heap.size w3 w11) := HB4.out.trans (HB411.out.mono (by omega))
  have HSD : Hid (SAt w11 (fun b => w4.heap.size ≤ b) w6.heap.size ({ St.mk0 7 tS with wher := 2, arena := .slice daa 3 dac } : St) [] delE []) := by
    refine sat_delete HN11.out (by show w4.heap.size ≤ w6.heap.size; omega) ?_
    have h1 := Arr.of_owns (rows := delE.map E.list) (v := .slice daa 3 dac) (w := w10) (base := w4.heap.size + 1) (e := 150) (k := 12) (show w10.ownsRow (w4.heap.size + 1) 150 12 (.slice daa 3 dac) (delE.map E.list).length (delE.map E.list).flatten from HOWN.out) (by intro r hr; simp at hr; obtain ⟨x, _, rfl⟩ := hr; rfl)
    refine (h1.keep HK11.out (fun b hb => ?_)).mono (fun b hb => ?_)
    · show b ≠ w6.heap.size
      intro e
      exact HNX.out b hb ⟨by omega, by omega⟩
    · have := (HOWN.out.lt b hb).1
      show w4.heap.size ≤ b
      omega
  have HDS11 : Hid (Arr w11 (fun b => b ≠ bt ∧ b < w11.heap.size) ds.v 1 (idsL (idsN 1 (q + 1 + 1))) ∧ Arr2 w11 (fun b => b ≠ bt ∧ b < w11.heap.size) rr.v 4 (rowsL (normR rs))) := by
    have h1 := (HDS3.out.1.inb.mono (ok' := fun b => b ≠ bt ∧ b < w11.heap.size) (fun b hb => ⟨by have := HBW2.out.size; omega, by omega⟩)).ext HB311.out
    have h2 := (HDS3.out.2.inb.mono (ok' := fun b => b ≠ bt ∧ b < w11.heap.size) (fun b hb => ⟨by have := HBW2.out.size; omega, by omega⟩)).ext HB311.out
    exact ⟨h1, h2⟩
  have HKC : Hid (∀ W, Keep (fun k => k = w.heap.size) w0 W → W.cell? ⟨w.heap.size, 0, none⟩ = some (.func (.func 207) #[] #[])) := by
    intro W hW
    rw [hW.cell (p := ⟨w.heap.size, _, none⟩) rfl]; exact HK0.out
  have HKK11 : Hid (Keep (fun k => k < w2.heap.size ∧ k ≠ bt) w2 w11) := HK3.out.trans (Keep.of_below HB311.out (fun k hk => by omega))
  have hsw2 := HBW2.out.size
  have hs02 := HB02.out.size
  have kc11 := HKC.out w11 ((Keep.of_below HB02.out (fun k hk => by omega)).trans (HKK11.out.mono (fun k hk => ⟨by omega, by omega⟩)))
  clear HN11 HOWN HNX HDS3 HK10 HK11 HB5 HB6 HB7
  go_wp2_with fail
  refine (exec_delete (okc := fun b => b ≠ bt ∧ b < w11.heap.size) (q + 1) hm (normR rs) (by rw [normR_len, HM.out]) w6.heap.size bd bt tc _ _ HSD.out (fine_delete _) rfl rfl (HDB3.out.ext HB311.out) rfl HDS11.out.1 HDS11.out.2 (fun b hb => hb)).mono ?_
  rintro e w12 ⟨ds', rr', rfl, hdb12, hds12, hrr12, hk12⟩
  have HDB12 : Hid (DB1 w12 bd bt tc ⟨tS, cs, ⟨some ⟨g, 0, none⟩, 1, gc⟩, ds', rr'⟩) := hdb12
  have HDS12 : Hid (Arr w12 (fun b => w11.heap.size < b) ds'.v 1 (idsL (idsN 2 (q + 1))) ∧ Arr2 w12 (fun b => (b ≠ bt ∧ b < w11.heap.size) ∨ w11.heap.size < b) rr'.v 4 (rowsL ((normR rs).drop 1))) := ⟨hds12, hrr12⟩
  have HK12 : Hid (Keep (fun k => k < w11.heap.size ∧ k ≠ bt) w11 w12) := hk12
  have hs12 := hk12.size
  clear hdb12 hds12 hrr12 hk12 kc11 HDS11 HSD
  unfold resV
  go_wp2_with (refine wpList_put (ty := 76) (g := w12.heap.size) rfl rfl rfl rfl size76 (by kernel_rfl) ⟨_, heap_alloc_new w12 _, rfl⟩ ?_)
  intro w13 h13 k13 s13
  have HB13 : Hid (Below w12.heap.size w12 w13) := (below_alloc w12 _).trans (k13.below (fun k hk => by show k ≠ w12.heap.size; omega))
  have hs13 : w12.heap.size + 1 ≤ w13.heap.size := by have := k13.size; simp at this; omega
  have c0 : w13.cell? ⟨w12.heap.size, 0, none⟩ = some (.int .u8 0) := cell_of_row w13 _ 0 _ _ _ h13
  have c2 : w13.cell? ⟨w12.heap.size, 2, none⟩ = some (.int .i64 1) := cell_of_row w13 _ 2 _ _ _ h13
  clear h13 k13 s13
  have HKK13 : Hid (Keep (fun k => k < w2.heap.size ∧ k ≠ bt) w2 w13) := HKK11.out.trans ((HK12.out.mono (fun k hk => ⟨by omega, hk.2⟩)).trans (Keep.of_below HB13.out (fun k hk => by omega)))
  have HKW13 : Hid (Keep (fun k => k < w.heap.size ∧ k ≠ bd ∧ k ≠ bt) w w13) := (Keep.of_below HBW2.out (fun k hk => hk.1)).trans (HKK13.out.mono (fun k hk => ⟨by omega, hk.2.2⟩))
  have h1rc : 1 ≤ rc := by have := HRV.out.cap; rw [rowsL, List.length_map, HM.out] at this; omega
  have HRT : Hid ((rs.take 1).length = 1 ∧ (∀ r ∈ rs.take 1, r.length = n) ∧ ∀ v ∈ (rs.take 1).flatten, v.ok) := by
    refine ⟨by rw [List.length_take, HM.out]; omega, fun r hr => HRS.out r (List.mem_of_mem_take hr), fun v hv => ?_⟩
    obtain ⟨r, hr, hv'⟩ := List.mem_flatten.1 hv
    exact HOK.out v (List.mem_flatten.2 ⟨r, List.mem_of_mem_take hr, hv'⟩)
  have HRV13 : Hid (Arr2 w13 (fun b => ok b ∧ b < w.heap.size) (.slice (some ⟨rb, ro, none⟩) 1 rc) 4 (rowsL (rs.take 1))) :=
    (Arr2.inb (HRV.out.take1 (by rw [HM.out]; omega))).keep HKW13.out (fun b hb => ⟨hb.2, HOKR.out.1 b hb.1⟩)
  go_wp2_with fail
  clear c0 c2
  refine (insertStmt_any n hn4 (rs.take 1) HRT.out.2.1 (by rw [HRT.out.1]; omega) (by rw [HRT.out.1]; exact Nat.le_refl _) _ w13 _ HRV13.out).mono ?_
  rintro e w14 ⟨tv, av, rfl, htv, hav, hb14⟩
  obtain ⟨uta, utc, rfl⟩ := htv.shape
  obtain ⟨baa, bac, rfl, _⟩ := hav.shape
  generalize ((List.range (rs.take 1).length).map (tupRow n)).length = ul at *
  generalize ((paramsE (rs.take 1)).map E.list).length = bl at *
  have HB14 : Hid (Below w13.heap.size w13 w14) := hb14
  have HTV : Hid (Arr2 w14 (fun b => w13.heap.size ≤ b) (.slice uta ul utc) 1 ((List.range (rs.take 1).length).map (tupRow n)) ∧ Arr w14 (fun b => w13.heap.size ≤ b) (.slice baa bl bac) 12 ((paramsE (rs.take 1)).map E.list)) := ⟨htv, hav⟩
  have hs14 := hb14.size
  clear hb14 htv hav
  unfold St.mk0 St.val St.arr
  go_wp2_with (refine wpList_put (ty := 38) (g := w14.heap.size) rfl rfl rfl rfl size38 (by kernel_rfl) ⟨_, heap_alloc_new w14 _, rfl⟩ ?_)
  intro w15 h2 k2 s2
  have HN15 : Hid (StAt w15 w14.heap.size ({ St.mk0 4 tS with tuples := .slice uta ul utc, arena := .slice baa bl bac } : St)) := h2
  have HB15 : Hid (Below w14.heap.size w14 w15) := (below_alloc w14 _).trans (k2.below (fun k hk => by show k ≠ w14.heap.size; omega))
  have hs15 : w14.heap.size + 1 ≤ w15.heap.size := by have := k2.size; simp at this; omega
  clear h2 k2 s2
  go_upto_region 14 with fail
  have HB1315 : Hid (Below w13.heap.size w13 w15) := HB14.out.trans (HB15.out.mono (by omega))
  have HB1215 : Hid (Below w12.heap.size w12 w15) := HB13.out.trans (HB1315.out.mono (by omega))
  have HI15 : Hid (SAt w15 (fun b => w13.heap.size ≤ b) w14.heap.size ({ St.mk0 4 tS with tuples := .slice uta ul utc, arena := .slice baa bl bac } : St) (tlN (rs.take 1).length n) (paramsE (rs.take 1)) []) :=
    sat_insert HN15.out (by show w13.heap.size ≤ w14.heap.size; omega) (HTV.out.1.ext HB15.out) (HTV.out.2.ext HB15.out)
  have HKK15 : Hid (Keep (fun k => k < w2.heap.size ∧ k ≠ bt) w2 w15) := HKK13.out.trans (Keep.of_below HB1315.out (fun k hk => by omega))
  have HC15 : Hid (Arr w15 (fun b => b ≠ bt ∧ b < w15.heap.size) cs.v 3 ((nsN n).map colL) ∧ Arr w15 (fun b => b ≠ bt ∧ b < w15.heap.size) (.slice (some ⟨g, 0, none⟩) 1 gc) 4 [ixL iS c]) :=
    ⟨(HC2.out.1.keep HKK15.out (fun b hb => ⟨by omega, hb.2.1⟩)).mono (fun b hb => ⟨hb.2.1, by omega⟩), (HC2.out.2.keep HKK15.out (fun b hb => ⟨by omega, hb.2.1⟩)).mono (fun b hb => ⟨hb.2.1, by omega⟩)⟩
  have HDS15 : Hid (Arr w15 (fun b => b ≠ bt ∧ b < w15.heap.size) ds'.v 1 (idsL (idsN 2 q ++ [2 + (q : Int)])) ∧ Arr2 w15 (fun b => b ≠ bt ∧ b < w15.heap.size) rr'.v 4 (rowsL ((normR rs).drop 1))) := by
    have h1 := (HDS12.out.1.inb.mono (ok' := fun b => b ≠ bt ∧ b < w15.heap.size) (fun b hb => ⟨by omega, by omega⟩)).ext HB1215.out
    have h2 := (HDS12.out.2.inb.mono (ok' := fun b => b ≠ bt ∧ b < w15.heap.size) (fun b hb => ⟨by rcases hb.1 with h | h; exact h.1; omega, by omega⟩)).ext HB1215.out
    rw [idsN_succ] at h1
    exact ⟨h1, h2⟩
  have kc15 := HKC.out w15 ((Keep.of_below HB02.out (fun k hk => by omega)).trans (HKK15.out.mono (fun k hk => ⟨by omega, by omega⟩)))
  clear HN15 HTV HDS12 HRV13 HC2
  go_wp2_with fail
  refine (exec_insert_more (okc := fun b => b ≠ bt ∧ b < w15.heap.size) n hn0 hn4 (rs.take 1) HRT.out.2.1 (by rw [HRT.out.1]; exact Nat.le_refl _) (idsN 2 q) (2 + (q : Int)) (by omega) (by omega) ((normR rs).drop 1) (by rw [List.length_drop, normR_len, HM.out, idsN_len]; omega) (by rw [List.length_drop, normR_len, HM.out, HRT.out.1]; omega) w14.heap.size bd bt tc _ _ (nsN n) (nsN_len n) HI15.out (fine_insert n (rs.take 1).length hn0 hn4 (by rw [HRT.out.1]; exact Nat.le_refl _) (by rw [HRT.out.1]; omega) _ _) rfl (arena_insert n hn4 (rs.take 1) HRT.out.2.1 (by rw [HRT.out.1]; omega) HRT.out.2.2 _ rfl) (HDB12.out.ext HB1215.out) rfl HDS15.out.1 HDS15.out.2 (fun b hb => hb) HC15.out.1 (by omega) (fun rv w7 hb7 => unique_ix _ _ HC15.out.2 hb7)).mono ?_
  rw [HRT.out.1]
  rintro e w16 ⟨ds2, rr2, rfl, hdb16, hds16, hrr16, hk16⟩
  have HDB16 : Hid (DB1 w16 bd bt tc ⟨tS, cs, ⟨some ⟨g, 0, none⟩, 1, gc⟩, ds2, rr2⟩) := hdb16
  have HDS16 : Hid (Arr w16 (fun b => w15.heap.size < b) ds2.v 1 (idsL (idsN 2 q ++ [2 + (q : Int)] ++ idsN (2 + (q : Int) + 1) 1)) ∧ Arr2 w16 (fun b => (b ≠ bt ∧ b < w15.heap.size) ∨ w15.heap.size < b) rr2.v 4 (rowsL ((normR rs).drop 1 ++ normR (rs.take 1)))) := ⟨hds16, hrr16⟩
  have HK16 : Hid (Keep (fun k => k < w15.heap.size ∧ k ≠ bt) w15 w16) := hk16
  have hs16 := hk16.size
  clear hdb16 hds16 hrr16 hk16 kc15 HDS15 HI15
  unfold resV
  go_wp2_with (refine wpList_put (ty := 76) (g := w16.heap.size) rfl rfl rfl rfl size76 (by kernel_rfl) ⟨_, heap_alloc_new w16 _, rfl⟩ ?_)
  intro w17 h13 k13 s13
  have HB17 : Hid (Below w16.heap.size w16 w17) := (below_alloc w16 _).trans (k13.below (fun k hk => by show k ≠ w16.heap.size; omega))
  have hs17 : w16.heap.size + 1 ≤ w17.heap.size := by have := k13.size; simp at this; omega
  have c0 : w17.cell? ⟨w16.heap.size, 0, none⟩ = some (.int .u8 0) := cell_of_row w17 _ 0 _ _ _ h13
  have c2 : w17.cell? ⟨w16.heap.size, 2, none⟩ = some (.int .i64 1) := cell_of_row w17 _ 2 _ _ _ h13
  clear h13 k13 s13
  have HKW17 : Hid (Keep (fun k => k < w.heap.size ∧ k ≠ bd ∧ k ≠ bt) w w17) := HKW13.out.trans ((Keep.of_below HB1315.out (fun k hk => by omega)).trans ((HK16.out.mono (fun k hk => ⟨by omega, hk.2.2⟩)).trans (Keep.of_below HB17.out (fun k hk => by omega))))
  go_wp2_with fail
  clear c0 c2
  have HIX : Hid (Arr w17 (fun b => True) (.slice (some ⟨g, 0, none⟩) 1 gc) 4 [ixL iS c] ∧ Arr w17 (fun b => True) cs.v 3 ((nsN n).map colL)) :=
    ⟨((HC15.out.2.keep HK16.out (fun b hb => ⟨hb.2, hb.1⟩)).ext HB17.out).mono (fun _ _ => trivial), ((HC15.out.1.keep HK16.out (fun b hb => ⟨hb.2, hb.1⟩)).ext HB17.out).mono (fun _ _ => trivial)⟩
  have hl5 : ∀ r ∈ (normR rs).drop 1 ++ normR (rs.take 1), r.length ≤ 4 := by
    intro r hr
    have hn : ∀ (l : List (List V)), (∀ x ∈ l, x.length = n) → ∀ x ∈ normR l, x.length ≤ 4 := by
      intro l hl x hx
      obtain ⟨y, hy, rfl⟩ := List.mem_map.1 hx
      rw [List.length_map, hl y hy]
      exact hn4
    rcases List.mem_append.1 hr with h | h
    · exact hn rs HRS.out r (List.mem_of_mem_drop h)
    · exact hn (rs.take 1) HRT.out.2.1 r h
  refine (dump_ix bd bt tc _ c (nsN n) (idsN 2 q ++ [2 + (q : Int)] ++ idsN (2 + (q : Int) + 1) 1) ((normR rs).drop 1 ++ normR (rs.take 1)) w17 (fun _ => True) (HDB16.out.ext HB17.out) HIX.out.2 HIX.out.1 ((HDS16.out.1.ext HB17.out).mono (fun _ _ => trivial)) ((HDS16.out.2.ext HB17.out).mono (fun _ _ => trivial)) (by rw [nsN_len]; exact hn4) (by simp [idsN]; omega) (by rw [List.length_append, List.length_drop, normR_len, normR_len, HM.out, HRT.out.1]; omega) hl5).mono ?_
  clear hl5
  rintro e w18 ⟨g8, cap8, cs8, gi8, ci8, ds8, rv8, rfl, ha8, _, hd8, _, hb8⟩
  have HB18 : Hid (Below w17.heap.size w17 w18) := hb8
  have q3 : w18.cell? ⟨g8, 3, none⟩ = some (Sl.v ds8) := by
    obtain ⟨a, c', he, _, hcell⟩ := ha8
    obtain ⟨rfl, _⟩ : some ⟨g8, 0, none⟩ = a ∧ cap8 = c' := by simpa using he
    obtain ⟨b, o, e, _, _, hcc⟩ := hcell 0 (by simp)
    obtain ⟨rfl, rfl⟩ : g8 = b ∧ 0 = o := by simpa using e
    exact hcc 3 (by omega)
  obtain ⟨db, do_, hda, hdn, hd0, hdl⟩ : ∃ db do_, ds8.a = some ⟨db, do_, none⟩ ∧ ds8.n = q + 2 ∧ w18.cell? ⟨db, do_, none⟩ = some (.int .i64 2) ∧ w18.cell? ⟨db, do_ + (q + 1), none⟩ = some (.int .i64 ((q : Int) + 3)) := by
    obtain ⟨a, c', he, _, hcell⟩ := hd8
    rw [idsN_end] at he hcell
    have hlen : (idsL (idsN 2 (q + 2))).length = q + 2 := by simp [idsL, idsN]
    rw [hlen] at he hcell
    have he' : ds8.a = a ∧ ds8.n = q + 2 ∧ ds8.c = c' := by simpa [Sl.v] using he
    obtain ⟨b, o, rfl, _, _, hcc⟩ := hcell 0 (by omega)
    obtain ⟨b', o', e, _, _, hcc'⟩ := hcell (q + 1) (by omega)
    obtain ⟨rfl, rfl⟩ : b = b' ∧ o = o' := by simpa using e
    refine ⟨b, o, he'.1, he'.2.1, ?_, ?_⟩
    · have h0 := hcc 0 (by omega)
      rw [Nat.zero_mul, Nat.add_zero, idsN_get (by omega)] at h0
      exact h0
    · have h0 := hcc' 0 (by omega)
      rw [Nat.mul_one, Nat.add_zero, idsN_get (by omega)] at h0
      rw [h0]
      congr 2
      omega
  obtain ⟨d8a, d8n, d8c⟩ := ds8
  simp only at hda hdn
  subst hda hdn
  simp only [Sl.v] at q3
  clear ha8 hd8 hb8
  have hw1 : IntKind.i64.wrap ((q : Int) + 1) = q + 1 := IntWalk.i64_in _ (by omega)
  have hw2 : IntKind.i64.wrap ((q : Int) + 2 - 1) = q + 1 := by rw [show (q : Int) + 2 - 1 = q + 1 by omega]; exact hw1
  have hw3 : IntKind.i64.wrap ((q : Int) + 2 + 1) = q + 3 := by rw [show (q : Int) + 2 + 1 = q + 3 by omega]; exact IntWalk.i64_in _ (by omega)
  have hw4 : IntKind.i64.wrap ((q : Int) + 3) = q + 3 := IntWalk.i64_in _ (by omega)
  have hlt1 : (q : Int) + 1 < q + 2 := by omega
  have hlt2 : (0 : Int) < q + 2 := by omega
  go_wp2_with fail
  go_ret
  exact ⟨rfl, HKW17.out.trans (Keep.of_below HB18.out (fun k hk => by omega))⟩
end Go.Proofs.YgdaegDoor
