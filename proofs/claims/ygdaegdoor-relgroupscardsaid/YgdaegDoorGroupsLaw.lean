import Derived.Test.YgdaegDoorLs
import Derived.Test.YgdaegDoorRowB
import Derived.Test.YgdaegDoorExecSel
import Derived.Test.YgdaegDoorGtOf
import Derived.Test.YgdaegDoorFilled
import Derived.Test.YgdaegDoorWp
import Derived.Test.YgdaegDoorTab2
namespace Go.Proofs.YgdaegDoor
open Go.RowKit
set_option linter.unusedSimpArgs false
set_option linter.unusedVariables false
/-- The blocks that a builder at pb leaves alone. -/
def NB (w : World) (pb k : Nat) : Prop := k < w.heap.size ∧ (k < pb ∨ (k ≠ pb ∧ ∀ z : Array Value, w.heap[k]? ≠ some (Obj.cells z 150 (0, 0))))
theorem BAt.nb {w : World} {pb : Nat} {es : List E} {X : Nat → Prop} (h : BAt w pb es X) : BAt w pb es (NB w pb) := by
  obtain ⟨av, h1, h2, _, _⟩ := h
  refine ⟨av, h1, h2, fun g hg hn => ?_, fun hn => ?_⟩
  · have hlt := (h2.lt g hg).1
    rcases hn.2 with h3 | h3
    · omega
    · obtain ⟨z, hz⟩ := own_type h2 hg
      exact h3.2 z hz
  · rcases hn.2 with h3 | h3
    · omega
    · exact h3.1 rfl
theorem NB.old {w : World} {pb : Nat} : Old (NB w pb) w := fun k hk => hk.1
theorem NB.low {w : World} {pb k : Nat} (h : k < pb) (hw : pb ≤ w.heap.size) : NB w pb k := ⟨by omega, .inl h⟩
theorem NB.typ {w : World} {pb k : Nat} {z : Array Value} {e : TypeId} {f : Nat × Nat} (h : w.heap[k]? = some (.cells z e f)) (hne : k ≠ pb) (he : e ≠ 150) : NB w pb k :=
  ⟨block_lt h, .inr ⟨hne, fun z' hz' => he (type_ne h hz')⟩⟩
theorem cutR_ok (n : Nat) (rs : List (List V)) (hn : (rs.getD 0 []).length = n) (h0 : 1 ≤ rs.length) (hok : ∀ v ∈ rs.flatten, v.ok) : 1 ≤ (cutR n rs).length ∧ (cutR n rs).length ≤ 32 ∧ (∀ r ∈ cutR n rs, r.length = n) ∧ ∀ v ∈ (cutR n rs).flatten, v.ok := by
  refine ⟨?_, by rw [cutR, List.length_take]; omega, fun r hr => ?_, fun v hv => ?_⟩
  · cases rs with
    | nil => simp at h0
    | cons r rs =>
      have hn' : r.length = n := by simpa using hn
      simp [cutR, List.filter_cons, hn']
  · have := (List.mem_filter.1 (List.mem_of_mem_take hr)).2
    simpa using this
  · obtain ⟨r, hr, hv'⟩ := List.mem_flatten.1 hv
    exact hok v (List.mem_flatten.2 ⟨r, (List.mem_filter.1 (List.mem_of_mem_take hr)).1, hv'⟩)
theorem BAt.other {w w' : World} {pb : Nat} {es : List E} {X : Nat → Prop} (h : BAt w pb es X) (hk : ∀ k, (k = pb ∨ ∃ z, w.heap[k]? = some (Obj.cells z 150 (0, 0))) → w'.heap[k]? = w.heap[k]?) : BAt w' pb es (NB w' pb) := by
  obtain ⟨av, h1, h2, _, _⟩ := h
  refine BAt.nb (X := fun _ => False) ⟨av, (hk pb (.inl rfl)).trans h1, ownsRow_blk h2 (fun g hg => hk g (.inr (own_type h2 hg))), fun _ _ h => h, fun h => h⟩
theorem call45 : ∀ args w, (callFunc 45 args).run Yaed.prog w = .ok (.enter 45 args) w := by intro args w; go_simp
theorem call48 : ∀ args w, (callFunc 48 args).run Yaed.prog w = .ok (.enter 48 args) w := by intro args w; go_simp
/-- A slice of one int16 is built. -/
theorem wp_bsi {o : Oper} {a : Act} {w : World} {K : Act → World → Prop} {Q : Exit → Act → World → Prop} {x : Operand} (n : Int)
    (ho : o.op = .buildSlice 30 1 #[(0, x)]) (hx : a.eval x = .int .i16 n)
    (h : K (a.put o.dst (.slice (some ⟨w.heap.size, 0, none⟩) 1 1)) (w.alloc (Obj.cells #[.int .i16 n] 35))) : o.wp Yaed.prog a w K Q := by
  obtain ⟨op, dst, c3, c4, c5⟩ := o
  simp only at ho h
  subst ho
  unfold Oper.wp
  generalize a.eval = ev at hx ⊢
  go_simp
  exact h
def nmS (j : Nat) : ByteArray := [countS, sumS, avgS, minS, maxS].getD j countS
theorem selE_step (g c j : Nat) (hj : j < 5) : (selE g c).take (2 + 2 * (j + 1)) = ((selE g c).take (2 + 2 * j) ++ [colE (cname c)]) ++ [aggE (nmS j) ((2 + 2 * j : Nat) : Int)] := by
  rcases (by omega : j = 0 ∨ j = 1 ∨ j = 2 ∨ j = 3 ∨ j = 4) with rfl | rfl | rfl | rfl | rfl <;> rfl
theorem selE_len (g c j : Nat) (hj : j ≤ 5) : ((selE g c).take (2 + 2 * j)).length = 2 + 2 * j := by
  rw [List.length_take]
  have : (selE g c).length = 13 := rfl
  omega
theorem selI_step (j : Nat) (hj : j < 5) : selI.take (2 + (j + 1)) = selI.take (2 + j) ++ [2 + 2 * j + 1] := by
  rcases (by omega : j = 0 ∨ j = 1 ∨ j = 2 ∨ j = 3 ∨ j = 4) with rfl | rfl | rfl | rfl | rfl <;> rfl
theorem cell_ok {RS : List (List V)} (h : ∀ v ∈ RS.flatten, v.ok) (k c : Nat) : ((RS.getD k []).getD c V0).ok := by
  by_cases hk : k < RS.length
  · have e : RS.getD k [] = RS[k] := by rw [List.getD_eq_getElem?_getD, List.getElem?_eq_getElem hk]; rfl
    rw [e]
    by_cases hc : c < RS[k].length
    · have e2 : RS[k].getD c V0 = RS[k][c] := by rw [List.getD_eq_getElem?_getD, List.getElem?_eq_getElem hc]; rfl
      rw [e2]
      exact h _ (List.mem_flatten.2 ⟨RS[k], List.getElem_mem _, List.getElem_mem _⟩)
    · have e2 : RS[k].getD c V0 = V0 := by rw [List.getD_eq_getElem?_getD, List.getElem?_eq_none (by omega)]; rfl
      rw [e2]; exact V0_ok
  · have e : RS.getD k [] = [] := by rw [List.getD_eq_getElem?_getD, List.getElem?_eq_none (by omega)]; rfl
    rw [e]; exact V0_ok
theorem cells_NV {RS : List (List V)} (h : ∀ v ∈ RS.flatten, v.ok) (c : Nat) (p : List Nat) : ∀ v ∈ p.map (cellV RS c), NV v := by
  intro v hv
  obtain ⟨k, _, rfl⟩ := List.mem_map.1 hv
  exact NV_norm (cell_ok h k c)
/-- The engine's value of an item, normed, is the law's. -/
theorem row_eq {RS : List (List V)} (h : ∀ v ∈ RS.flatten, v.ok) (g c : Nat) (p : List Nat) (f : Nat) (hf : p.headD 0 = f) (t : Nat) : norm (selVal RS g c t p) = rowVal ((RS.getD f []).getD g V0) p.length (p.map (cellV RS c)) t := by
  have hNV := cells_NV h c p
  unfold selVal rowVal
  split
  · rw [hf]; unfold cellV; rw [norm_norm]
  · split
    · rfl
    · split
      · exact (NV_agg _ _ hNV).2
      · split
        · exact (NV_agg _ _ hNV).2
        · split
          · exact (NV_agg _ _ hNV).2
          · split <;> exact (NV_agg _ _ hNV).2
/-- One int is stored. -/
theorem wp_st3 {o : Oper} {a : Act} {w : World} {K : Act → World → Prop} {Q : Exit → Act → World → Prop} {x y : Operand} {b q : Nat} {v : Int} {u : Value}
    (ho : o.op = .store 3 x y) (hx : a.eval x = .pointer (some ⟨b, q, none⟩)) (hy : a.eval y = .int .i64 v) (hc : w.cell? ⟨b, q, none⟩ = some u) (hf : w.frozen? ⟨b, q, none⟩ = false)
    (h : K (a.put o.dst undef) (w.setCell ⟨b, q, none⟩ (.int .i64 v))) : o.wp Yaed.prog a w K Q := by
  obtain ⟨op, dst, c3, c4, c5⟩ := o
  simp only at ho h
  subst ho
  unfold Oper.wp
  generalize a.eval = ev at hx hy ⊢
  go_simp
  exact h
/-- One slice is stored. -/
theorem wp_st119 {o : Oper} {a : Act} {w : World} {K : Act → World → Prop} {Q : Exit → Act → World → Prop} {x y : Operand} {b q : Nat} {sa : Option Addr} {sl sc : Nat} {u : Value}
    (ho : o.op = .store 119 x y) (hx : a.eval x = .pointer (some ⟨b, q, none⟩)) (hy : a.eval y = .slice sa sl sc) (hc : w.cell? ⟨b, q, none⟩ = some u) (hf : w.frozen? ⟨b, q, none⟩ = false)
    (h : K (a.put o.dst undef) (w.setCell ⟨b, q, none⟩ (.slice sa sl sc))) : o.wp Yaed.prog a w K Q := by
  obtain ⟨op, dst, c3, c4, c5⟩ := o
  simp only at ho h
  subst ho
  unfold Oper.wp
  generalize a.eval = ev at hx hy ⊢
  go_simp
  exact h
theorem call49 : ∀ args w, (callFunc 49 args).run Yaed.prog w = .ok (.enter 49 args) w := by intro args w; go_simp
theorem call50 : ∀ args w, (callFunc 50 args).run Yaed.prog w = .ok (.enter 50 args) w := by intro args w; go_simp
theorem call41 : ∀ args w, (callFunc 41 args).run Yaed.prog w = .ok (.enter 41 args) w := by intro args w; go_simp
set_option maxRecDepth 20000 in
set_option maxHeartbeats 32000000 in
theorem relGroups_any (rs : List (List V)) (hok : ∀ v ∈ rs.flatten, v.ok) (h63 : rs.length ≤ 9223372036854775807) (g c : Nat) (hg : g < 256) (hc : c < 256) (rv : Value) (w : World) (ok : Nat → Prop) (hrv : Arr2 w ok rv 4 (rowsL rs)) :
    Calls Yaed.prog 19 #[kitV, rv, .int .u8 g, .int .u8 c] w fun r w' => r = .returned (.bool true) ∧ Below w.heap.size w w' := by
  have HRV : Hid (Arr2 w ok rv 4 (rowsL rs)) := hrv
  have HOK : Hid (∀ v ∈ rs.flatten, v.ok) := hok
  clear hrv hok
  go_enter Yaed.func19, Yaed.ntmps19
  go_wp2_with fail
  generalize hw0 : World.alloc _ _ = w0
  have HK0 : Hid (w0.cell? ⟨w.heap.size, 0, none⟩ = some (.func (.func 207) #[] #[]) ∧ w0.cell? ⟨w.heap.size, 1, none⟩ = some (.func (.func 39) #[] #[])) := by rw [← hw0]; exact ⟨cell_of_row _ _ 0 _ 27 _ (heap_alloc_new _ _), cell_of_row _ _ 1 _ 27 _ (heap_alloc_new _ _)⟩
  have HB0 : Hid (Below w.heap.size w w0) := by rw [← hw0]; exact below_alloc _ _
  have hs0 : w.heap.size + 1 ≤ w0.heap.size := by rw [← hw0]; simp
  clear hw0
  by_cases hnil : rs = [] ∨ (rs.getD 0 []).length = 0 ∨ 4 < (rs.getD 0 []).length
  · refine (tableRows_nil rv w0 ok rs (HRV.out.ext HB0.out) hnil).mono ?_
    rintro e w1 ⟨rfl, rfl⟩
    go_wp2_with fail
    go_ret
    exact ⟨rfl, HB0.out⟩
  obtain ⟨n, hn⟩ : ∃ n, (rs.getD 0 []).length = n := ⟨_, rfl⟩
  have hn0 : 1 ≤ n := by
    rcases Nat.eq_zero_or_pos n with h | h
    · exact absurd (.inr (.inl (by rw [hn, h]))) hnil
    · exact h
  have hn4 : n ≤ 4 := by
    rcases Nat.lt_or_ge 4 n with h | h
    · exact absurd (.inr (.inr (by rw [hn]; exact h))) hnil
    · exact h
  have hr1 : 1 ≤ rs.length := by
    cases rs with
    | nil => exact absurd (.inl rfl) hnil
    | cons a t => simp
  refine (tableRows_full rv w0 ok rs (HRV.out.ext HB0.out) n hn hn0 hn4 h63).mono ?_
  rintro e w1 ⟨ov, rfl, hov, hb1⟩
  have hcut := cutR_ok n rs hn hr1 HOK.out
  generalize cutR n rs = RS at *
  have HRS : Hid (1 ≤ RS.length ∧ RS.length ≤ 32 ∧ (∀ r ∈ RS, r.length = n) ∧ ∀ v ∈ RS.flatten, v.ok) := hcut
  have HOV : Hid (Arr2 w1 (fun b => ok b ∨ w0.heap.size ≤ b) ov 4 (rowsL RS)) := hov
  have HB1 : Hid (Below w0.heap.size w0 w1) := hb1
  have hs1 := hb1.size
  obtain ⟨ora, orc, rfl⟩ := hov.shape
  have hlR : (rowsL RS).length = RS.length := by simp [rowsL]
  rw [hlR] at HOV ⊢
  clear hcut hov hb1 hnil hn hr1 HRV HOK hlR
  have k0 : w1.cell? ⟨w.heap.size, 0, none⟩ = some (.func (.func 207) #[] #[]) := by rw [HB1.out.cell (p := ⟨w.heap.size, _, none⟩) (by show w.heap.size < w0.heap.size; omega)]; exact HK0.out.1
  have k1 : w1.cell? ⟨w.heap.size, 1, none⟩ = some (.func (.func 39) #[] #[]) := by rw [HB1.out.cell (p := ⟨w.heap.size, _, none⟩) (by show w.heap.size < w0.heap.size; omega)]; exact HK0.out.2
  go_wp2_with fail
  obtain ⟨gi, hgi⟩ : ∃ gi, g % n = gi := ⟨_, rfl⟩
  obtain ⟨ci, hci⟩ : ∃ ci, c % n = ci := ⟨_, rfl⟩
  have hgin : gi < n := by rw [← hgi]; exact Nat.mod_lt _ (by omega)
  have hcin : ci < n := by rw [← hci]; exact Nat.mod_lt _ (by omega)
  have hwg : IntKind.i64.wrap (g : Int) = g := IntWalk.i64_in _ (by omega)
  have hwc : IntKind.i64.wrap (c : Int) = c := IntWalk.i64_in _ (by omega)
  have hmg : Int.tmod (g : Int) (n : Int) = gi := by rw [← hgi]; exact (Int.ofNat_tmod g n).symm
  have hmc : Int.tmod (c : Int) (n : Int) = ci := by rw [← hci]; exact (Int.ofNat_tmod c n).symm

  have hn02 : ¬ n = 0 := by omega
  have hwgi : IntKind.i64.wrap (gi : Int) = gi := IntWalk.i64_in _ (by omega)
  have hwci : IntKind.i64.wrap (ci : Int) = ci := IntWalk.i64_in _ (by omega)
  refine wp_region_can (l := [_, _, _, _, _, _, _, _, _]) [(true, 0), (true, 1), (true, 2), (true, 3), (true, 4), (true, 5), (true, 6), (true, 7), (true, 8)] (fun W => True) (by kernel_rfl) (by kernel_rfl) trivial ?_
  repeat ((refine wpCan_q (v := ?_) rfl rfl rfl ?_ ?_); rotate_left; (focus (intro W _; go_simp; first | done | exact rfl)); simp only [Act.put, List.setIfInBounds_toArray, List.set_cons_zero, List.set_cons_succ])
  refine wpCan_nil ?_
  clear hwg hwc hmg hmc hn02 hwgi hwci hgi hci hg hc
  generalize hwd : World.drew _ = wd
  have HBd : Hid (Below w1.heap.size w1 wd) := by rw [← hwd]; exact (Below.refl _ _).drew
  have hsd := HBd.out.size
  clear hwd
  have HBWd : Hid (Below w.heap.size w wd) := HB0.out.trans ((HB1.out.mono (by omega)).trans (HBd.out.mono (by omega)))
  obtain ⟨rb, ro, orc', hov1, hlr1⟩ := arr2_rows HOV.out HRS.out.2.2.1 (by omega) (by have := HRS.out.1; omega)
  obtain ⟨rfl, _, rfl⟩ : ora = some ⟨rb, ro, none⟩ ∧ True ∧ orc = orc' := by simp at hov1; exact ⟨hov1.1, trivial, hov1.2⟩
  have HLR : Hid (LR wd rb ro n RS) := hlr1.ext HBd.out
  have HOVd : Hid (Arr2 wd (fun b => ok b ∨ w0.heap.size ≤ b) (.slice (some ⟨rb, ro, none⟩) RS.length orc) 4 (rowsL RS)) := HOV.out.ext HBd.out
  have k0 : wd.cell? ⟨w.heap.size, 0, none⟩ = some (.func (.func 207) #[] #[]) := by rw [HBd.out.cell (p := ⟨w.heap.size, _, none⟩) (by show w.heap.size < w1.heap.size; omega)]; exact k0
  have k1 : wd.cell? ⟨w.heap.size, 1, none⟩ = some (.func (.func 39) #[] #[]) := by rw [HBd.out.cell (p := ⟨w.heap.size, _, none⟩) (by show w.heap.size < w1.heap.size; omega)]; exact k1
  have HKF : Hid (wd.cell? ⟨w.heap.size, 0, none⟩ = some (.func (.func 207) #[] #[])) := k0
  have hswd : w.heap.size < wd.heap.size := by omega
  clear hlr1 hov1 HOV HB0 HB1 HBd HK0 hs0 hs1 hsd
  go_wp2_with fail
  refine (filled_any n hn0 hn4 RS HRS.out.2.2.1 HRS.out.1 HRS.out.2.1 HRS.out.2.2.2 _ wd _ HOVd.out).mono ?_
  rintro e w2 ⟨bd, bt, tc, cs, ds, rr, rfl, hbd, hbt, hdb2, hcs2, hds2, hrr2, hb2⟩
  have HDB2 : Hid (DB1 w2 bd bt tc ⟨tS, cs, nilSl, ds, rr⟩) := hdb2
  have HGT2 : Hid (∃ da do_ dc qa qo qc, GT w2 bt cs.v da do_ dc qa qo qc n (normR RS)) := gt_of HRS.out.2.2.1 (by omega) (by have := HRS.out.1; omega) hdb2 hcs2 hds2 hrr2
  have HB2 : Hid (Below wd.heap.size wd w2) := hb2
  have hs2 := hb2.size
  have hbd2 := hdb2.lt
  have hbt2 := hdb2.lt'
  clear hdb2 hb2 k0 k1 hcs2 hds2 hrr2 HOVd
  go_wp2_with fail
  generalize hw3 : World.alloc _ _ = w3
  obtain ⟨pb, hpb⟩ : ∃ pb, w2.heap.size = pb := ⟨_, rfl⟩
  rw [hpb]
  have HB3 : Hid (Below w2.heap.size w2 w3) := by rw [← hw3]; exact below_alloc _ _
  have HBA3 : Hid (BAt w3 pb [] (NB w3 pb)) := by
    rw [← hpb, ← hw3]
    exact BAt.nb (X := fun _ => False) ⟨nilS, heap_alloc_new _ _, World.ownsRow_nil _ _ _ _, fun _ _ h => h, fun h => h⟩
  have hs3 : w2.heap.size < w3.heap.size := by rw [← hw3]; simp
  have HPB : Hid (w2.heap.size = pb) := hpb
  have hpbw : bd < pb ∧ bt < pb ∧ wd.heap.size ≤ pb ∧ pb < w3.heap.size := by omega
  clear hw3 hpb
  refine (stmt_any 5 tS w3).mono ?_
  rintro e w4 ⟨rfl, hb4⟩
  have HB4 : Hid (Below w3.heap.size w3 w4) := hb4
  have hs4 := hb4.size
  clear hb4
  unfold St.mk0 St.val St.arr
  go_wp2_with (refine wpList_put (ty := 38) (g := w4.heap.size) rfl rfl rfl rfl size38 (by kernel_rfl) ⟨_, heap_alloc_new w4 _, rfl⟩ ?_; intro w5 h5 k5 s5; have HN5 : Hid (StAt w5 w4.heap.size (St.mk0 5 tS)) := h5; have HB5 : Hid (Below w4.heap.size w4 w5) := (below_alloc w4 _).trans (k5.below (fun k hk => by show k ≠ w4.heap.size; omega)); clear h5 k5 s5)
  obtain ⟨ps, hps⟩ : ∃ ps, w4.heap.size = ps := ⟨_, rfl⟩
  rw [hps]
  rw [hps] at HN5
  have hpsl : pb < ps ∧ ps < w5.heap.size := ⟨by omega, HN5.out.lt⟩
  have HB25 : Hid (Below pb w2 w5) := by
    rw [← HPB.out]
    exact HB3.out.trans ((HB4.out.mono (by omega)).trans (HB5.out.mono (by omega)))
  have HBA5 : Hid (BAt w5 pb [] (NB w5 pb)) := ((HBA3.out.ext HB4.out).ext HB5.out).nb
  clear hps HB3 HB4 HB5 HBA3 hs3 hs4
  refine (colName_any gi (by omega) w5).mono ?_
  rintro e w6 ⟨rfl, rfl⟩
  go_wp2_with fail
  refine (col_any pb [] (NB w6 pb) w6 NB.old (by simp) HBA5.out (cname gi)).mono ?_
  rintro e w7 ⟨rfl, hba7, hk7⟩
  have HBA7 : Hid (BAt w7 pb [colE (cname gi)] (NB w7 pb)) := hba7.nb
  have HN7 : Hid (StAt w7 ps (St.mk0 5 tS)) := HN5.out.keep hk7 (NB.typ (show w6.heap[ps]? = _ from HN5.out) (by omega) (by decide))
  have HB27 : Hid (Below pb w2 w7) := HB25.out.trans (hk7.below (fun k hk => NB.low hk (by omega)))
  have hs7 := hk7.size
  clear hba7 hk7 HN5 HB25 HBA5
  go_wp2_with fail
  refine (agg_any pb [colE (cname gi)] (NB w7 pb) w7 NB.old (by simp) HBA7.out countS (-1)).mono ?_
  rintro e w8 ⟨rfl, hba8, hk8⟩
  have HBA8 : Hid (BAt w8 pb [colE (cname gi), aggE countS (-1)] (NB w8 pb)) := hba8.nb
  have HN8 : Hid (StAt w8 ps (St.mk0 5 tS)) := HN7.out.keep hk8 (NB.typ (show w7.heap[ps]? = _ from HN7.out) (by omega) (by decide))
  have HB28 : Hid (Below pb w2 w8) := HB27.out.trans (hk8.below (fun k hk => NB.low hk (by omega)))
  have hs8 := hk8.size
  clear hba8 hk8 HN7 HB27 HBA7
  have hp8 : ¬ ps = w8.heap.size := by omega
  have q10 : w8.cell? ⟨ps, 10, none⟩ = some nilS := HN8.out.cell 10
  have g10 : w8.frozen? ⟨ps, 10, none⟩ = false := by simp [World.frozen?, show w8.heap[ps]? = _ from HN8.out]
  have g10x : ∀ o : Obj, (w8.alloc o).frozen? ⟨ps, 10, none⟩ = false := fun o => by rw [(below_alloc w8 o).frozen (p := ⟨ps, 10, none⟩) HN8.out.lt]; exact g10
  have q10x : ∀ o : Obj, (w8.alloc o).cell? ⟨ps, 10, none⟩ = some nilS := fun o => by rw [(below_alloc w8 o).cell (p := ⟨ps, 10, none⟩) HN8.out.lt]; exact q10
  go_upto_region 11 with fail
  clear q10 g10 q10x g10x
  generalize hw9 : World.setCell _ _ _ = w9
  obtain ⟨IB, hIB⟩ : ∃ IB, w8.heap.size = IB := ⟨_, rfl⟩
  rw [hIB] at hw9
  have HN9 : Hid (StAt w9 ps ({ St.mk0 5 tS with items := .slice (some ⟨IB, 0, none⟩) 2 2 } : St)) := by
    rw [← hw9]
    exact (heap_set ((heap_old (by omega)).trans HN8.out) _).trans (by kernel_rfl)
  have HI9 : Hid (w9.heap[IB]? = some (.cells #[.int .i16 0, .int .i16 1] 35 (0, 0))) := by
    rw [← hw9, heap_set_ne (by omega), ← hIB]
    exact heap_alloc_new _ _
  have HBA9 : Hid (BAt w9 pb [colE (cname gi), aggE countS (-1)] (NB w9 pb)) := by
    refine (HBA8.out.ext (below_alloc w8 (Obj.cells #[Value.int IntKind.i16 0, Value.int IntKind.i16 1] 35))).other (fun k hk => ?_)
    rw [← hw9]
    refine heap_set_ne (fun e => ?_) _
    subst e
    rcases hk with hk | ⟨z, hz⟩
    · omega
    · rw [heap_old (by omega)] at hz
      exact absurd (type_ne (show w8.heap[k]? = _ from HN8.out) hz) (by decide)
  have HB29 : Hid (Below pb w2 w9) := by
    rw [← hw9]
    exact (HB28.out.trans ((below_alloc _ _).mono (by omega))).setCell (p := ⟨ps, 10, none⟩) (by show pb ≤ ps; omega) _
  have hs9 : IB < w9.heap.size ∧ w8.heap.size ≤ IB ∧ IB ≤ w8.heap.size := ⟨block_lt HI9.out, by omega, by omega⟩
  clear hw9 HN8 HBA8 HB28
  try rw [hIB]
  clear hIB
  go_upto_region 12 with fail
  generalize hwA : World.alloc _ _ = wA
  obtain ⟨NMB, hNMB⟩ : ∃ NMB, w9.heap.size = NMB := ⟨_, rfl⟩
  try rw [hNMB]
  have HBA : Hid (Below w9.heap.size w9 wA) := by rw [← hwA]; exact below_alloc _ _
  have HNM : Hid (wA.heap[NMB]? = some (.cells #[.string countS, .string sumS, .string avgS, .string minS, .string maxS] 9 (0, 0))) := by rw [← hwA, ← hNMB]; exact heap_alloc_new _ _
  have HNA : Hid (StAt wA ps ({ St.mk0 5 tS with items := .slice (some ⟨IB, 0, none⟩) 2 2 } : St)) := HN9.out.ext HBA.out
  have HBAA : Hid (BAt wA pb [colE (cname gi), aggE countS (-1)] (NB wA pb)) := (HBA9.out.ext HBA.out).nb
  have HB2A : Hid (Below pb w2 wA) := HB29.out.trans (HBA.out.mono (by omega))
  have HOA : Hid (wA.ownsRow IB 35 1 (.slice (some ⟨IB, 0, none⟩) 2 2) 2 (i16V (selI.take (2 + 0)))) := by
    refine ⟨rfl, .inr ⟨IB, 2, #[.int .i16 0, .int .i16 1], rfl, Nat.le_refl _, (HBA.out.block _ (by omega)).trans HI9.out, Nat.le_refl _, by unfold maxLen; omega, rfl, rfl⟩⟩
  have hsA : NMB < wA.heap.size ∧ IB < NMB := ⟨block_lt HNM.out, by omega⟩
  clear hwA hNMB HBA HN9 HBA9 HB29 HI9
  go_loopw [63] (fun cj wr => ∃ j : Nat, j ≤ 5 ∧ cj = .int .i64 j ∧ ∃ (ia : Option Addr) (il ic : Nat), Hid (il = 2 + j) ∧ NMB < wr.heap.size ∧ Hid (StAt wr ps ({ St.mk0 5 tS with items := .slice ia il ic } : St)) ∧ Hid (wr.ownsRow IB 35 1 (.slice ia il ic) il (i16V (selI.take (2 + j)))) ∧ Hid (BAt wr pb ((selE gi ci).take (2 + 2 * j)) (NB wr pb)) ∧ Hid (Below pb w2 wr) ∧ Hid (wr.heap[NMB]? = some (.cells #[.string countS, .string sumS, .string avgS, .string minS, .string maxS] 9 (0, 0)))) (fun cj _ => 5 - (intOf cj).toNat)
  case atStart => exact ⟨0, by omega, rfl, some ⟨IB, 0, none⟩, 2, 2, rfl, hsA.1, HNA, HOA, HBAA, HB2A, HNM⟩
  case round =>
    obtain ⟨j, hj, rfl, ia, il, ic, HIL, hNr, HN, HO, HBT, HB2r, HNMr⟩ := hrel
    clear HNA HOA HBAA HB2A HNM
    by_cases hj5 : j < 5
    · have hj5' : (j : Int) < 5 := by omega
      have hil : il ≤ 10 := by have := HIL.out; omega
      obtain ⟨nm, hnm⟩ : ∃ nm, nmS j = nm := ⟨_, rfl⟩
      have en : wr.cell? ⟨NMB, j, none⟩ = some (.string nm) := by
        rw [cell_of_row wr NMB j _ _ _ HNMr.out, ← hnm]
        rcases (by omega : j = 0 ∨ j = 1 ∨ j = 2 ∨ j = 3 ∨ j = 4) with rfl | rfl | rfl | rfl | rfl <;> rfl
      have HNMJ : Hid (nmS j = nm) := hnm
      clear hnm
      have hsw : w2.heap.size ≤ wr.heap.size ∧ ps < wr.heap.size := ⟨HB2r.out.size, HN.out.lt⟩
      go_wp2_with fail
      clear en
      have q10 : wr.cell? ⟨ps, 10, none⟩ = some (.slice ia il ic) := HN.out.cell 10
      refine wp_region_can (l := [_, _, _, _, _, _, _, _]) [(true, 0), (true, 1), (true, 2), (true, 3), (false, 4), (false, 5), (false, 6), (false, 7)] (fun W => W.cell? ⟨ps, 10, none⟩ = some (.slice ia il ic)) (by kernel_rfl) (by kernel_rfl) q10 ?_
      repeat ((refine wpCan_q (v := ?_) rfl rfl rfl ?_ ?_); rotate_left; (focus (intro W q1; go_simp; first | done | exact rfl)); simp only [Act.put, List.setIfInBounds_toArray, List.set_cons_zero, List.set_cons_succ])
      refine wpCan_e rfl rfl (fun K hK => ?_)
      refine wp_call1 call32 rfl rfl ?_
      refine (colName_any ci (by omega) _).mono ?_
      rintro e wa ⟨rfl, rfl⟩
      refine ⟨_, rfl, hK _ _ ⟨q10, ?_⟩⟩
      clear hK K
      simp only [Act.put, List.setIfInBounds_toArray, List.set_cons_zero, List.set_cons_succ]
      generalize hwd : World.drew _ = wd2
      have HNd : Hid (StAt wd2 ps ({ St.mk0 5 tS with items := .slice ia il ic } : St)) := by rw [← hwd]; exact HN.out
      have HOd : Hid (wd2.ownsRow IB 35 1 (.slice ia il ic) il (i16V (selI.take (2 + j)))) := by rw [← hwd]; exact HO.out
      have HBTd : Hid (BAt wd2 pb ((selE gi ci).take (2 + 2 * j)) (NB wd2 pb)) := by rw [← hwd]; exact (HBT.out.ext (Below.refl _ _).drew).nb
      have HB2d : Hid (Below pb w2 wd2) := by rw [← hwd]; exact HB2r.out.drew
      have HNMd : Hid (wd2.heap[NMB]? = some (.cells #[.string countS, .string sumS, .string avgS, .string minS, .string maxS] 9 (0, 0))) := by rw [← hwd]; exact HNMr.out
      have hswd2 : w2.heap.size ≤ wd2.heap.size ∧ ps < wd2.heap.size := ⟨HB2d.out.size, HNd.out.lt⟩
      clear hwd HN HO HBT HB2r HNMr q10 hNr
      obtain ⟨es, hes⟩ : ∃ es, (selE gi ci).take (2 + 2 * j) = es := ⟨_, rfl⟩
      have HES : Hid (es.length = 2 + 2 * j) := by rw [← hes]; exact selE_len gi ci j hj
      have HES2 : Hid ((selE gi ci).take (2 + 2 * (j + 1)) = (es ++ [colE (cname ci)]) ++ [aggE nm ((2 + 2 * j : Nat) : Int)]) := by rw [selE_step gi ci j hj5, hes, HNMJ.out]; exact rfl
      rw [hes] at HBTd
      clear hes
      refine wpCan_e rfl rfl (fun K hK => ?_)
      refine wp_call2 call45 rfl rfl rfl ?_
      refine (col_any pb es (NB wd2 pb) wd2 NB.old (by rw [HES.out]; omega) HBTd.out (cname ci)).mono ?_
      rintro e wb ⟨rfl, hbab, hkb⟩
      have HBTb : Hid (BAt wb pb (es ++ [colE (cname ci)]) (NB wb pb)) := hbab.nb
      have HNb : Hid (StAt wb ps ({ St.mk0 5 tS with items := .slice ia il ic } : St)) := HNd.out.keep hkb (NB.typ (show wd2.heap[ps]? = _ from HNd.out) (by omega) (by decide))
      have HOb : Hid (wb.ownsRow IB 35 1 (.slice ia il ic) il (i16V (selI.take (2 + j)))) := ownsRow_blk HOd.out (fun g hg => by
        obtain ⟨z, hz⟩ := own_type HOd.out hg
        exact hkb.block g (NB.typ hz (by have := (HOd.out.lt g hg).1; omega) (by decide)))
      have HB2b : Hid (Below pb w2 wb) := HB2d.out.trans (hkb.below (fun k hk => NB.low hk (by omega)))
      have HNMb : Hid (wb.heap[NMB]? = some (.cells #[.string countS, .string sumS, .string avgS, .string minS, .string maxS] 9 (0, 0))) := (hkb.block _ (NB.typ HNMd.out (by omega) (by decide))).trans HNMd.out
      have hsb : wd2.heap.size ≤ wb.heap.size := hkb.size
      clear hbab hkb HBTd HNd HOd HB2d HNMd
      refine ⟨_, rfl, hK _ _ ⟨HNb.out.cell 10, ?_⟩⟩
      clear hK K
      simp only [Act.put, List.setIfInBounds_toArray, List.set_cons_zero, List.set_cons_succ]
      obtain ⟨el, hel⟩ : ∃ el, es.length = el := ⟨_, rfl⟩
      rw [hel]
      have HEL : Hid (el = 2 + 2 * j) := by rw [← hel]; exact HES.out
      have hel2 : el ≤ 20 := by have := HEL.out; omega
      refine wpCan_e rfl rfl (fun K hK => ?_)
      refine wp_call3 call48 rfl rfl rfl rfl ?_
      refine (agg_any pb (es ++ [colE (cname ci)]) (NB wb pb) wb NB.old (by rw [List.length_append, hel]; simp; omega) HBTb.out nm (el : Int)).mono ?_
      rintro e wc ⟨rfl, hbac, hkc⟩
      have HBTc : Hid (BAt wc pb ((es ++ [colE (cname ci)]) ++ [aggE nm (el : Int)]) (NB wc pb)) := hbac.nb
      have HNc : Hid (StAt wc ps ({ St.mk0 5 tS with items := .slice ia il ic } : St)) := HNb.out.keep hkc (NB.typ (show wb.heap[ps]? = _ from HNb.out) (by omega) (by decide))
      have HOc : Hid (wc.ownsRow IB 35 1 (.slice ia il ic) il (i16V (selI.take (2 + j)))) := ownsRow_blk HOb.out (fun g hg => by
        obtain ⟨z, hz⟩ := own_type HOb.out hg
        exact hkc.block g (NB.typ hz (by have := (HOb.out.lt g hg).1; omega) (by decide)))
      have HB2c : Hid (Below pb w2 wc) := HB2b.out.trans (hkc.below (fun k hk => NB.low hk (by omega)))
      have HNMc : Hid (wc.heap[NMB]? = some (.cells #[.string countS, .string sumS, .string avgS, .string minS, .string maxS] 9 (0, 0))) := (hkc.block _ (NB.typ HNMb.out (by omega) (by decide))).trans HNMb.out
      have hsc : wb.heap.size ≤ wc.heap.size := hkc.size
      clear hbac hkc HBTb HNb HOb HB2b HNMb
      refine ⟨_, rfl, hK _ _ ⟨HNc.out.cell 10, ?_⟩⟩
      clear hK K
      simp only [Act.put, List.setIfInBounds_toArray, List.set_cons_zero, List.set_cons_succ]
      have hel3 : (es ++ [colE (cname ci)]).length = el + 1 := by rw [List.length_append, hel]; rfl
      rw [hel3]
      clear hel hel3
      refine wpCan_e rfl rfl (fun K hK => ?_)
      refine wp_bsi ((el + 1 : Nat) : Int) rfl rfl ?_
      refine hK _ _ ⟨by rw [(below_alloc wc _).cell (p := ⟨ps, _, none⟩) HNc.out.lt]; exact HNc.out.cell 10, ?_⟩
      clear hK K
      simp only [Act.put, List.setIfInBounds_toArray, List.set_cons_zero, List.set_cons_succ]
      refine wpCan_nil ?_
      have hsc2 : IB ≤ wc.heap.size := by have := block_lt HNMc.out; omega
      go_wp2_with (at_builtin; go_must (refine wpList_app1 IB rfl rfl under30 info35 rfl rfl (HOc.out.alloc _) (by exact heap_new rfl) (by rfl) (by intro u hu; simp at hu; subst hu; rfl) (by omega) (by omega) (by omega) (by simp; omega) ?_))
      intro g7 cap7 w7' hown7 hgrow7 hat7 hlt7
      have hk7 := keep_grown hgrow7
      have hX7 : ∀ k z e, wc.heap[k]? = some (Obj.cells z e (0, 0)) → e ≠ 35 → k < (wc.alloc (Obj.cells #[Value.int IntKind.i16 ((el + 1 : Nat) : Int)] 35)).heap.size ∧ some k ≠ (Value.slice ia il ic).ownBlock := fun k z e hz he => ⟨by rw [World.size_alloc]; exact Nat.lt_succ_of_lt (block_lt hz), fun e' => by
        obtain ⟨z', hz'⟩ := own_type HOc.out e'.symm
        exact he (type_ne hz hz')⟩
      have hX7b : ∀ k, k < pb → k < (wc.alloc (Obj.cells #[Value.int IntKind.i16 ((el + 1 : Nat) : Int)] 35)).heap.size ∧ some k ≠ (Value.slice ia il ic).ownBlock := fun k hk => ⟨by rw [World.size_alloc]; omega, fun e' => by have := (HOc.out.lt k e'.symm).1; omega⟩
      have HA7 : Hid (∀ k z e, wc.heap[k]? = some (Obj.cells z e (0, 0)) → e ≠ 35 → w7'.heap[k]? = wc.heap[k]?) := fun k z e hz he => (hk7.block k (hX7 k z e hz he)).trans (heap_old (block_lt hz))
      have HN7' : Hid (StAt w7' ps ({ St.mk0 5 tS with items := .slice ia il ic } : St)) := (HA7.out ps _ _ HNc.out (by decide)).trans HNc.out
      have HNM7 : Hid (w7'.heap[NMB]? = some (.cells #[.string countS, .string sumS, .string avgS, .string minS, .string maxS] 9 (0, 0))) := (HA7.out _ _ _ HNMc.out (by decide)).trans HNMc.out
      have HB27 : Hid (Below pb w2 w7') := (HB2c.out.trans ((below_alloc wc _).mono (by omega))).trans (hk7.below (fun k hk => hX7b k hk))
      have HBT7 : Hid (BAt w7' pb ((es ++ [colE (cname ci)]) ++ [aggE nm (el : Int)]) (NB w7' pb)) := HBTc.out.other (fun k hk => by
        rcases hk with rfl | ⟨z, hz⟩
        · obtain ⟨av, h1, _⟩ := HBTc.out
          exact HA7.out k _ _ h1 (by decide)
        · exact HA7.out k _ _ hz (by decide))
      have HO7 : Hid (w7'.ownsRow IB 35 1 (.slice (some ⟨g7, 0, none⟩) (il + 1) cap7) (il + 1) (i16V (selI.take (2 + (j + 1))))) := by
        have h9 : i16V (selI.take (2 + (j + 1))) = i16V (selI.take (2 + j)) ++ [.int .i16 ((el + 1 : Nat) : Int)] := by rw [selI_step j hj5, HEL.out]; simp [i16V]
        rw [h9]; exact hown7
      clear hown7 hgrow7 hat7 hlt7 hk7 hX7 hX7b HA7 HNc HOc HBTc HB2c HNMc
      have q10 : w7'.cell? ⟨ps, 10, none⟩ = some (.slice ia il ic) := HN7'.out.cell 10
      have g10 : w7'.frozen? ⟨ps, 10, none⟩ = false := by simp [World.frozen?, show w7'.heap[ps]? = _ from HN7'.out]
      go_upto_region 15 with fail
      clear q10 g10
      generalize hw8 : World.setCell _ _ _ = w8'
      have HN8' : Hid (StAt w8' ps ({ St.mk0 5 tS with items := .slice (some ⟨g7, 0, none⟩) (il + 1) cap7 } : St)) := by
        rw [← hw8]
        exact (heap_set HN7'.out _).trans (by kernel_rfl)
      have HX8 : Hid (∀ k, k ≠ ps → w8'.heap[k]? = w7'.heap[k]?) := fun k hk => by rw [← hw8]; exact heap_set_ne hk _
      have HNM8 : Hid (w8'.heap[NMB]? = some (.cells #[.string countS, .string sumS, .string avgS, .string minS, .string maxS] 9 (0, 0))) := (HX8.out _ (by omega)).trans HNM7.out
      have HB28' : Hid (Below pb w2 w8') := by rw [← hw8]; exact HB27.out.setCell (p := ⟨ps, 10, none⟩) (by show pb ≤ ps; omega) _
      have HBT8 : Hid (BAt w8' pb ((selE gi ci).take (2 + 2 * (j + 1))) (NB w8' pb)) := by
        rw [HES2.out, ← HEL.out]
        refine HBT7.out.other (fun k hk => HX8.out k (fun e => ?_))
        subst e
        rcases hk with hk | ⟨z, hz⟩
        · omega
        · exact absurd (type_ne (show w7'.heap[k]? = _ from HN7'.out) hz) (by decide)
      have HO8 : Hid (w8'.ownsRow IB 35 1 (.slice (some ⟨g7, 0, none⟩) (il + 1) cap7) (il + 1) (i16V (selI.take (2 + (j + 1))))) := ownsRow_blk HO7.out (fun g hg => HX8.out g (by
        obtain ⟨z, hz⟩ := own_type HO7.out hg
        intro e
        subst e
        exact absurd (type_ne (show w7'.heap[g]? = _ from HN7'.out) hz) (by decide)))
      have hN8 : NMB < w8'.heap.size := block_lt HNM8.out
      clear hw8 HX8 HN7' HO7 HBT7 HB27 HNM7
      go_wp2_with fail
      go_roundw
      case rel => exact ⟨j + 1, by omega, by go_num, some ⟨g7, 0, none⟩, il + 1, cap7, (show il + 1 = 2 + (j + 1) by have := HIL.out; omega), hN8, HN8', HO8, HBT8, HB28', HNM8⟩
      case measure => simp [intOf]; omega
    · obtain rfl : j = 5 := by omega
      have hil : il = 7 := HIL.out
      subst hil
      have HES : Hid ((selE gi ci).take (2 + 2 * 5) = (selE gi ci).take 12) := rfl
      have hswr : ps < wr.heap.size ∧ pb < wr.heap.size := ⟨HN.out.lt, by have := HN.out.lt; omega⟩
      go_wp2_with fail
      refine (colName_any gi (by omega) wr).mono ?_
      rintro e wa ⟨rfl, rfl⟩
      go_wp2_with fail
      refine (col_any pb ((selE gi ci).take (2 + 2 * 5)) (NB wa pb) wa NB.old (by rw [selE_len gi ci 5 (by omega)]; omega) HBT.out (cname gi)).mono ?_
      rintro e wb ⟨rfl, hbab, hkb⟩
      have HBTb : Hid (BAt wb pb (selE gi ci) (NB wb pb)) := hbab.nb
      have HNb : Hid (StAt wb ps ({ St.mk0 5 tS with items := .slice ia 7 ic } : St)) := HN.out.keep hkb (NB.typ (show wa.heap[ps]? = _ from HN.out) (by omega) (by decide))
      have HOb : Hid (wb.ownsRow IB 35 1 (.slice ia 7 ic) 7 (i16V selI)) := ownsRow_blk HO.out (fun g hg => by
        obtain ⟨z, hz⟩ := own_type HO.out hg
        exact hkb.block g (NB.typ hz (by have := (HO.out.lt g hg).1; omega) (by decide)))
      have HB2b : Hid (Below pb w2 wb) := HB2r.out.trans (hkb.below (fun k hk => NB.low hk (by omega)))
      have hsb : wa.heap.size ≤ wb.heap.size := hkb.size
      clear hbab hkb HBT HN HO HB2r HNMr
      rw [selE_len gi ci 5 (by omega)]
      have q4 : ∀ o : Obj, (wb.alloc o).cell? ⟨ps, 4, none⟩ = some nilS := fun o => by rw [(below_alloc wb o).cell (p := ⟨ps, 4, none⟩) HNb.out.lt]; exact HNb.out.cell 4
      have g4 : ∀ o : Obj, (wb.alloc o).frozen? ⟨ps, 4, none⟩ = false := fun o => by rw [(below_alloc wb o).frozen (p := ⟨ps, 4, none⟩) HNb.out.lt]; simp [World.frozen?, show wb.heap[ps]? = _ from HNb.out]
      have hpsb : ¬ ps = wb.heap.size := by have := HNb.out.lt; omega
      go_upto_region 17 with fail
      clear q4 g4 hpsb
      generalize hwC : World.setCell _ _ _ = wC
      obtain ⟨GK, hGK⟩ : ∃ GK, wb.heap.size = GK := ⟨_, rfl⟩
      rw [hGK] at hwC
      have HNC : Hid (StAt wC ps ({ St.mk0 5 tS with items := .slice ia 7 ic, groups := .slice (some ⟨GK, 0, none⟩) 1 1 } : St)) := by
        rw [← hwC]
        exact (heap_set ((heap_old HNb.out.lt).trans HNb.out) _).trans (by kernel_rfl)
      have HGK : Hid (wC.heap[GK]? = some (.cells #[.int .i16 ((2 + 2 * 5 : Nat) : Int)] 35 (0, 0))) := by
        rw [← hwC, heap_set_ne (by have := HNb.out.lt; omega), ← hGK]
        exact heap_alloc_new _ _
      have HX : Hid (∀ k, k < wb.heap.size → k ≠ ps → wC.heap[k]? = wb.heap[k]?) := fun k hk hne => by rw [← hwC, heap_set_ne hne]; exact heap_old hk
      have HB2C : Hid (Below pb w2 wC) := by rw [← hwC]; exact (HB2b.out.trans ((below_alloc wb _).mono (by omega))).setCell (p := ⟨ps, 4, none⟩) (by show pb ≤ ps; omega) _
      have HOC : Hid (wC.ownsRow IB 35 1 (.slice ia 7 ic) 7 (i16V selI)) := ownsRow_blk HOb.out (fun g hg => HX.out g (HOb.out.lt g hg).2 (by
        obtain ⟨z, hz⟩ := own_type HOb.out hg
        intro e
        subst e
        exact absurd (type_ne (show wb.heap[g]? = _ from HNb.out) hz) (by decide)))
      obtain ⟨av, hav1, hav2, _, _⟩ := HBTb.out
      obtain ⟨aa, ac, rfl⟩ := own_shape hav2
      have HAO : Hid (wC.ownsRow (pb + 1) 150 12 (.slice aa 13 ac) 13 ((selE gi ci).flatMap E.list)) := ownsRow_blk hav2 (fun g hg => HX.out g (hav2.lt g hg).2 (by
        obtain ⟨z, hz⟩ := own_type hav2 hg
        intro e
        subst e
        exact absurd (type_ne (show wb.heap[g]? = _ from HNb.out) hz) (by decide)))
      have p0 : wC.cell? ⟨pb, 0, none⟩ = some (.slice aa 13 ac) := cell_of_row wC _ 0 _ _ _ ((HX.out pb (by omega) (by omega)).trans hav1)
      have q18 : wC.cell? ⟨ps, 18, none⟩ = some nilS := HNC.out.cell 18
      have g18 : wC.frozen? ⟨ps, 18, none⟩ = false := by simp [World.frozen?, show wC.heap[ps]? = _ from HNC.out]
      have hsC : ps < wC.heap.size ∧ GK < wC.heap.size ∧ ps < GK ∧ pb < wC.heap.size := ⟨HNC.out.lt, block_lt HGK.out, by have := HNb.out.lt; omega, by have := HNC.out.lt; omega⟩
      clear hwC hGK HX hav1 hav2 HBTb HNb HOb HB2b hsb
      go_upto_region 18 with fail
      clear p0 q18 g18
      generalize hwD : World.setCell _ _ _ = wD
      obtain ⟨sD, hsD⟩ : ∃ sD : St, sD = { St.mk0 5 tS with items := .slice ia 7 ic, groups := .slice (some ⟨GK, 0, none⟩) 1 1, arena := .slice aa 13 ac } := ⟨_, rfl⟩
      have HX : Hid (∀ k, k ≠ ps → wD.heap[k]? = wC.heap[k]?) := fun k hne => by rw [← hwD]; exact heap_set_ne hne _
      have HSEL : Hid (SelAt wD (fun _ => True) ps sD gi ci) := by
        have h1 : StAt wD ps sD := by
          rw [← hwD, hsD]
          exact (heap_set HNC.out _).trans (by kernel_rfl)
        have hO : wD.ownsRow IB 35 1 (.slice ia 7 ic) 7 (i16V selI) := ownsRow_blk HOC.out (fun g hg => HX.out g (by
          obtain ⟨z, hz⟩ := own_type HOC.out hg
          intro e
          subst e
          exact absurd (type_ne (show wC.heap[g]? = _ from HNC.out) hz) (by decide)))
        have hA : wD.ownsRow (pb + 1) 150 12 (.slice aa 13 ac) 13 ((selE gi ci).flatMap E.list) := ownsRow_blk HAO.out (fun g hg => HX.out g (by
          obtain ⟨z, hz⟩ := own_type HAO.out hg
          intro e
          subst e
          exact absurd (type_ne (show wC.heap[g]? = _ from HNC.out) hz) (by decide)))
        have hG : wD.heap[GK]? = some (.cells #[.int .i16 ((2 + 2 * 5 : Nat) : Int)] 35 (0, 0)) := (HX.out GK (by omega)).trans HGK.out
        refine ⟨h1, by rw [hsD]; rfl, by rw [hsD]; rfl, by rw [hsD]; rfl, by rw [hsD]; rfl, by rw [hsD]; rfl, by rw [hsD]; rfl, by rw [hsD]; rfl, ?_, ?_, ?_⟩
        · rw [hsD]
          exact (Arr.of_owns (rows := (selE gi ci).map E.list) (v := .slice aa 13 ac) (w := wD) (base := pb + 1) (e := 150) (k := 12) (show wD.ownsRow (pb + 1) 150 12 (.slice aa 13 ac) ((selE gi ci).map E.list).length ((selE gi ci).map E.list).flatten from hA) (by intro r hr; simp at hr; obtain ⟨x, _, rfl⟩ := hr; rfl)).mono (fun _ _ => trivial)
        · rw [hsD]
          exact (Arr.of_owns (rows := i16L selI) (by rw [i16V_flat]; exact hO) i16_one).mono (fun _ _ => trivial)
        · rw [hsD]
          refine ⟨_, 1, rfl, Nat.le_refl _, fun i hi => ⟨GK, 0, rfl, trivial, block_lt hG, fun f hf => ?_⟩⟩
          have hi0 : i = 0 := by simp [i16L] at hi; omega
          have hf0 : f = 0 := by omega
          subst hi0
          subst hf0
          rw [cell_of_row wD GK _ _ _ _ hG]
          rfl
      have HB2D : Hid (Below pb w2 wD) := by rw [← hwD]; exact HB2C.out.setCell (p := ⟨ps, 18, none⟩) (by show pb ≤ ps; omega) _
      have hsDs : pb < wD.heap.size := by have := HSEL.out.at_.lt; omega
      clear hwD hsD HX HNC HGK HB2C HOC HAO hsC
      have HB2D' : Hid (Below w2.heap.size w2 wD) := by rw [HPB.out]; exact HB2D.out
      have HDBD : Hid (DB1 wD bd bt tc ⟨tS, cs, nilSl, ds, rr⟩) := HDB2.out.ext HB2D'.out
      have HBdD : Hid (Below wd.heap.size wd wD) := HB2.out.trans (HB2D.out.mono (by omega))
      have kD : wD.cell? ⟨w.heap.size, 0, none⟩ = some (.func (.func 207) #[] #[]) := by rw [HBdD.out.cell (p := ⟨w.heap.size, _, none⟩) hswd]; exact HKF.out
      go_wp2_with fail
      clear kD
      obtain ⟨da, do_, dc, qa, qo, qc, hgt⟩ := HGT2.out
      obtain ⟨m, hm⟩ : ∃ m, RS.length = m := ⟨_, rfl⟩
      have HM : Hid (RS.length = m) := hm
      obtain ⟨L, hL⟩ : ∃ L, allG (cpR RS gi) RS.length = L := ⟨_, rfl⟩
      have HL : Hid (allG (cpR RS gi) m = L) := by rw [← hm]; exact hL
      have hnl : (normR RS).length = RS.length := by simp [normR]
      have HEX : Hid (Calls Yaed.prog 207 #[.pointer (some ⟨bd, 0, none⟩), .pointer (some ⟨ps, 0, none⟩)] wD fun r w' => ∃ ov, r = .returned (resV 0 0 ov) ∧ Res wD.heap.size ov L.length 7 (fun i t => norm (selVal RS gi ci t (gAt L i).2)) w' ∧ Below wD.heap.size wD w') := by
        have h1 := exec_sel hgin hcin hn4 HSEL.out HDBD.out rfl cs.v da do_ dc qa qo qc (normR RS) (by rw [hnl]; exact HRS.out.2.1) (hgt.ext HB2D'.out)
        rw [cpR_normR, selVal_normR, hnl, hL] at h1
        exact h1
      have hm32 : m ≤ 32 := by rw [← hm]; exact HRS.out.2.1
      clear hL hnl hgt
      refine HEX.out.mono ?_
      rintro e wE ⟨ov, rfl, hres, hbE⟩
      obtain ⟨ova, ovc, rfl⟩ := hres.shape
      have HRES : Hid (Res wD.heap.size (.slice ova L.length ovc) L.length 7 (fun i t => norm (selVal RS gi ci t (gAt L i).2)) wE) := hres
      have HBE : Hid (Below wd.heap.size wd wE) := HBdD.out.trans (hbE.mono (by omega))
      have hsE := hbE.size
      clear hres hbE HEX HSEL HDBD HB2D HB2D' HBdD
      unfold resV
      go_upto_region 19 with (refine wpList_put (ty := 76) (g := wE.heap.size) rfl rfl rfl rfl size76 (by kernel_rfl) ⟨_, heap_alloc_new wE _, rfl⟩ ?_; intro wF hF kF sF; have HNF : Hid (wF.heap[wE.heap.size]? = some (.cells #[.int .u8 0, .slice ova L.length ovc, .int .i64 0] 76 (0, 0))) := hF; have HBF : Hid (Below wE.heap.size wE wF) := (below_alloc wE _).trans (kF.below (fun k hk => by show k ≠ wE.heap.size; omega)); clear hF kF sF)
      obtain ⟨RB, hRB⟩ : ∃ RB, wE.heap.size = RB := ⟨_, rfl⟩
      rw [hRB]
      rw [hRB] at HNF
      have HRESF : Hid (Res wD.heap.size (.slice ova L.length ovc) L.length 7 (fun i t => norm (selVal RS gi ci t (gAt L i).2)) wF) := HRES.out.ext HBF.out
      have HBdF : Hid (Below wd.heap.size wd wF) := HBE.out.trans (HBF.out.mono (by omega))
      have HLRF : Hid (LR wF rb ro n RS) := HLR.out.ext HBdF.out
      have HBWF : Hid (Below w.heap.size w wF) := HBWd.out.trans (HBdF.out.mono HBWd.out.size)
      have hsF : RB < wF.heap.size := block_lt HNF.out
      have c0 : wF.cell? ⟨RB, 0, none⟩ = some (.int .u8 0) := cell_of_row wF _ 0 _ _ _ HNF.out
      have HLRLL : Hid (∀ W, Below wF.heap.size wF W → W.cell? ⟨RB, 1, none⟩ = some (.slice ova L.length ovc)) := fun W hW => by rw [hW.cell (p := ⟨RB, _, none⟩) hsF]; exact cell_of_row wF _ 1 _ _ _ HNF.out
      clear hRB HRES HBE HBF HLR HBdF HGT2 HDB2 HB2 HKF HBWd
      try rw [hm]
      clear hm
      go_wp2_with fail
      clear c0
      obtain ⟨cp, hcp⟩ : ∃ cp, cpR RS gi = cp := ⟨_, rfl⟩
      rw [hcp] at HL
      have HCP : Hid (∀ i j, cp i j = cmpV ((RS.getD i []).getD gi V0) ((RS.getD j []).getD gi V0)) := fun i j => by rw [← hcp]; exact cmpV_norm _ _
      clear hcp
      obtain ⟨BF, hBF⟩ : ∃ BF, wF.heap.size = BF := ⟨_, rfl⟩
      have HBF : Hid (wF.heap.size = BF) := hBF
      have hRBF : RB < BF ∧ BF ≤ wF.heap.size := by omega
      clear hBF
      go_loopw [95, 19, 20] (fun ck fv mv wr => ∃ k : Nat, k ≤ m ∧ ck = .int .i64 k ∧ ∃ (fa : Option Addr) (ln fc : Nat) (ma : Option Addr) (mc : Nat), fv = .slice fa ln fc ∧ mv = .slice ma ln mc ∧ Hid (ln = (grp cp k).length) ∧ BF ≤ wr.heap.size ∧ Hid (Below BF wF wr) ∧ Hid (∃ xs, Ls BF (.slice fa ln fc) (.slice ma ln mc) xs (fsts (grp cp k)) (mems (grp cp k)) wr)) (fun ck _ _ _ => m - (intOf ck).toNat)
      case atStart => exact ⟨0, Nat.zero_le _, rfl, none, 0, 0, none, 0, rfl, rfl, rfl, hRBF.2, Below.refl _ _, [], Ls.nil _ _⟩
      case round =>
        obtain ⟨k, hk, rfl, fa, ln, fc, ma, mc, rfl, rfl, HLN, hBr, HBr, HLS⟩ := hrel
        by_cases hkm : k < m
        · have HB9 : Hid (Below wF.heap.size wF wr) := by rw [HBF.out]; exact HBr.out
          have HLRr : Hid (LR wr rb ro n RS) := HLRF.out.ext HB9.out
          obtain ⟨xb, xo, xc, ex, hxb, hxc⟩ := HLRr.out.rows k (by rw [HM.out]; exact hkm)
          obtain ⟨vk, hvk⟩ : ∃ v, (RS.getD k []).getD gi V0 = v := ⟨_, rfl⟩
          have HXK : Hid (xb < wr.heap.size ∧ wr.rangeAt xb (xo + gi * 4) vk.list) := ⟨hxb, by rw [← hvk]; exact hxc gi hgin⟩
          have HVK : Hid ((RS.getD k []).getD gi V0 = vk) := hvk
          clear hxc hvk
          have hln : ln ≤ 32 := by have := grp_len cp k; rw [HLN.out]; omega
          have hkk : (k : Int) < m := by omega
          have hgi0 : ¬ (gi : Int) < 0 := by omega
          have hgi1 : (gi : Int) < n := by omega
          go_wp2_with fail
          clear ex
          generalize hwb : wr = wb at *
          clear hwb
          go_loopw [102, 23] (fun ci_ cat wi => ∃ i : Nat, i ≤ ln ∧ ci_ = .int .i64 i ∧ ∃ at_ : Int, cat = .int .i64 at_ ∧ Hid (at_ = lastTo (fun i => cp (gAt (grp cp k) i).1 k == 0) i) ∧ Hid (Below wb.heap.size wb wi)) (fun ci_ _ _ => ln - (intOf ci_).toNat)
          case atStart => exact ⟨0, Nat.zero_le _, rfl, -1, rfl, rfl, Below.refl _ _⟩
          case round =>
            obtain ⟨i, hi, rfl, at_, rfl, HAT, HBi⟩ := hrel
            by_cases hil : i < ln
            · obtain ⟨xs, hls⟩ := HLS.out
              have hil' : i < (grp cp k).length := by rw [← HLN.out]; exact hil
              obtain ⟨fb, fc', hfv, hfb1, hfb2, _, hfcell⟩ := hls.fat (by rw [fsts_len]; omega)
              have hfa : fa = some ⟨fb, 0, none⟩ := by simp at hfv; exact hfv.1
              obtain ⟨f, hf⟩ : ∃ f, (gAt (grp cp k) i).1 = f := ⟨_, rfl⟩
              have hfm : f < m := by have := (grp_ok cp k _ (gAt_mem hil')).2.2.1; rw [hf] at this; omega
              have ef : wr.cell? ⟨fb, i, none⟩ = some (.int .i64 (f : Int)) := by
                rw [HBi.out.cell (p := ⟨fb, _, none⟩) hfb2, hfcell i (by rw [fsts_len]; exact hil'), fsts_get, hf]
              subst hfa
              obtain ⟨yb, yo, yc, ey, hyb, hyc⟩ := (HLRr.out.ext HBi.out).rows f (by rw [HM.out]; exact hfm)
              obtain ⟨vf, hvf⟩ : ∃ v, (RS.getD f []).getD gi V0 = v := ⟨_, rfl⟩
              have hyr := hyc gi hgin
              rw [hvf] at hyr
              have hxr := range_ext HXK.out.2 HBi.out HXK.out.1
              have y0 := hyr 0 _ rfl
              have y1 := hyr 1 _ rfl
              have y2 := hyr 2 _ rfl
              have y3 := hyr 3 _ rfl
              have x0 := hxr 0 _ rfl
              have x1 := hxr 1 _ rfl
              have x2 := hxr 2 _ rfl
              have x3 := hxr 3 _ rfl
              simp only [Nat.add_zero] at x0 y0
              have HCF : Hid (cmpV vf vk = cp (gAt (grp cp k) i).1 k) := by rw [HCP.out, hf, hvf, HVK.out]; exact rfl
              clear hls hfv hfcell hf hyc hyr hxr hvf
              have hil2 : (i : Int) < ln := by omega
              have hi0 : ¬ (i : Int) < 0 := by omega
              have hfm2 : (f : Int) < m := by omega
              have hf0 : ¬ (f : Int) < 0 := by omega
              go_wp2_with fail
              clear ef
              refine wp_region_can (l := [_, _, _, _, _, _, _, _, _, _, _]) [(true, 0), (true, 1), (true, 2), (true, 3), (true, 4), (true, 5), (true, 6), (true, 7), (true, 8), (true, 9), (true, 10)] (fun W => W.cell? ⟨rb, ro + f, none⟩ = some (.slice (some ⟨yb, yo, none⟩) n yc) ∧ W.cell? ⟨yb, yo + gi * 4, none⟩ = some (.int .u8 vf.k) ∧ W.cell? ⟨yb, yo + gi * 4 + 1, none⟩ = some (.int .i64 vf.i) ∧ W.cell? ⟨yb, yo + gi * 4 + 2, none⟩ = some (.float .f64 vf.r) ∧ W.cell? ⟨yb, yo + gi * 4 + 3, none⟩ = some (.string vf.s) ∧ W.cell? ⟨xb, xo + gi * 4, none⟩ = some (.int .u8 vk.k) ∧ W.cell? ⟨xb, xo + gi * 4 + 1, none⟩ = some (.int .i64 vk.i) ∧ W.cell? ⟨xb, xo + gi * 4 + 2, none⟩ = some (.float .f64 vk.r) ∧ W.cell? ⟨xb, xo + gi * 4 + 3, none⟩ = some (.string vk.s)) (by kernel_rfl) (by kernel_rfl) ⟨ey, y0, y1, y2, y3, x0, x1, x2, x3⟩ ?_
              repeat (first | ((first | refine wpCan_q (v := ?_) rfl rfl rfl ?_ ?_ | refine wpCan_qg (v := ?_) rfl rfl (by rfl) ?_ ?_); rotate_left; (focus (rintro W ⟨q1, q2, q3, q4, q5, q6, q7, q8, q9⟩; go_simp; first | done | exact rfl)); simp only [Act.put, List.setIfInBounds_toArray, List.set_cons_zero, List.set_cons_succ]) | (refine wpCan_skip rfl rfl (by rfl) ?_; simp only [Act.put, List.setIfInBounds_toArray, List.set_cons_zero, List.set_cons_succ]))
              refine wpCan_nil ?_
              generalize hwd2 : World.drew _ = wd2
              have HBd2 : Hid (Below wb.heap.size wb wd2) := by rw [← hwd2]; exact HBi.out.drew
              clear hwd2 ey y0 y1 y2 y3 x0 x1 x2 x3 HBi
              go_wp2_with fail
              refine (compare_any vf vk _).mono ?_
              rintro e w5 ⟨rfl, hb5⟩
              have HB5 : Hid (Below wb.heap.size wb w5) := HBd2.out.trans (hb5.mono HBd2.out.size)
              clear hb5 HBd2
              obtain ⟨cm, hcm⟩ : ∃ cm, cmpV vf vk = cm := ⟨_, rfl⟩
              rw [hcm] at HCF ⊢
              clear hcm
              obtain ⟨z, hz⟩ : ∃ z, (cm == 0) = z := ⟨_, rfl⟩
              have HZ : Hid ((cp (gAt (grp cp k) i).1 k == 0) = z) := by rw [← HCF.out]; exact hz
              cases z with
              | true =>
                go_wp2_with fail
                go_roundw
                case rel => exact ⟨i + 1, by omega, by go_num, i, rfl, (show (i : Int) = lastTo (fun i => cp (gAt (grp cp k) i).1 k == 0) (i + 1) by unfold lastTo; rw [if_pos HZ.out]), HB5⟩
                case measure => simp [intOf]; omega
              | false =>
                go_wp2_with fail
                go_roundw
                case rel => exact ⟨i + 1, by omega, by go_num, at_, rfl, (show at_ = lastTo (fun i => cp (gAt (grp cp k) i).1 k == 0) (i + 1) by unfold lastTo; rw [if_neg (by rw [HZ.out]; simp)]; exact HAT.out), HB5⟩
                case measure => simp [intOf]; omega
            · obtain rfl : i = ln := by omega
              have HFG : Hid (at_ = findG cp (grp cp k) k) := by have h1 := HAT.out; rw [HLN.out] at h1; exact h1
              have hat1 : at_ < i := by rw [HAT.out]; exact lastTo_lt _ _
              have HLS5 : Hid (∃ xs, Ls BF (.slice fa i fc) (.slice ma i mc) xs (fsts (grp cp k)) (mems (grp cp k)) wr) := by
                obtain ⟨xs, h1⟩ := HLS.out
                exact ⟨xs, h1.ext HBi.out⟩
              have hs5 : BF ≤ wr.heap.size := Nat.le_trans hBr HBi.out.size
              have HB5 : Hid (Below BF wF wr) := HBr.out.trans (HBi.out.mono hBr)
              clear HAT HBi HLS HBr HB9 HLRr HXK
              generalize hwb : wr = wb2 at *
              clear hwb
              by_cases hneg : at_ < 0
              · have HJ : Hid (joinG (grp cp k ++ [(k, [])]) i k = grp cp (k + 1)) := by
                  have h1 : grp cp (k + 1) = addG cp (grp cp k) k := rfl
                  rw [h1, addG, if_pos (by rw [← HFG.out]; exact hneg), ← HLN.out]
                  exact rfl
                obtain ⟨xs5, hls5⟩ := HLS5.out
                have HL5 : Hid (Ls BF (.slice fa i fc) (.slice ma i mc) xs5 (fsts (grp cp k)) (mems (grp cp k)) wb2) := hls5
                have HF5 : Hid (wb2.ownsRow BF 3 1 (.slice fa i fc) i (iVs (fsts (grp cp k)))) := by have h1 := hls5.fown; rw [fsts_len, ← HLN.out] at h1; exact h1
                clear hls5 HLS5
                go_wp2_with (at_builtin; go_must (refine wpList_app1 BF rfl rfl Yaed.underlying119 info3 rfl rfl (HF5.out.alloc _) (by exact heap_new rfl) (by rfl) (by intro u hu; simp at hu; subst hu; rfl) (by omega) (by omega) (by omega) (by simp; omega) ?_))
                intro g6 cap6 w6 hown6 hgrow6 hat6 hlt6
                have HL6 : Hid (Ls BF (.slice (some ⟨g6, 0, none⟩) (i + 1) cap6) (.slice ma i mc) xs5 (fsts (grp cp k) ++ [k]) (mems (grp cp k)) w6) := by
                  have h1 := HL5.out.ext (below_alloc wb2 (Obj.cells #[Value.int IntKind.i64 (k : Int)] 3))
                  have h2 := h1.pushF (g := g6) (cap := cap6) (r := k) (w' := w6) (by rw [fsts_len, ← HLN.out]; exact hown6) hgrow6 (by rcases hat6 with h | h; exact .inl h; exact .inr (by rw [World.size_alloc]; omega))
                  rw [fsts_len, ← HLN.out] at h2
                  exact h2
                have HB6 : Hid (Below BF wF w6) := (HB5.out.trans ((below_alloc wb2 _).mono hs5)).trans (below_grown (HF5.out.alloc _) hgrow6 (by simp; omega))
                have hs6 : BF ≤ w6.heap.size := by have h1 := HB6.out.size; omega
                have HM6 : Hid (w6.ownsRow BF 119 1 (.slice ma i mc) i xs5) := by have h1 := HL6.out.mown; rw [mems_len, ← HLN.out] at h1; exact h1
                clear hown6 hgrow6 hat6 hlt6 HL5 HF5 HB5 hs5
                go_wp2_with (at_builtin; go_must (refine wpList_app1 BF rfl rfl under120 info119 rfl rfl (HM6.out.alloc _) (by exact heap_new rfl) (by rfl) (by intro u hu; simp at hu; subst hu; rfl) (by omega) (by omega) (by omega) (by simp; omega) ?_))
                intro g7 cap7 w7 hown7 hgrow7 hat7 hlt7
                have HLJ : Hid (∃ xs, Ls BF (.slice (some ⟨g6, 0, none⟩) (i + 1) cap6) (.slice (some ⟨g7, 0, none⟩) (i + 1) cap7) xs (fsts (grp cp k ++ [((k, []) : Gr)])) (mems (grp cp k ++ [((k, []) : Gr)])) w7) := by
                  have h1 := HL6.out.ext (below_alloc w6 (Obj.cells #[Value.slice none 0 0] 119))
                  have h2 := h1.pushM (g := g7) (cap := cap7) (w' := w7) (by rw [mems_len, ← HLN.out]; exact hown7) hgrow7
                  rw [mems_len, ← HLN.out] at h2
                  rw [fsts_app, mems_app]
                  exact ⟨_, h2⟩
                have HBJ : Hid (Below BF wF w7) := (HB6.out.trans ((below_alloc w6 _).mono hs6)).trans (below_grown (HM6.out.alloc _) hgrow7 (by simp; omega))
                have HJL : Hid (i < (grp cp k ++ [((k, []) : Gr)]).length) := by
                  have h9 : i < (grp cp k ++ [((k, []) : Gr)]).length := by rw [List.length_append, ← HLN.out]; exact Nat.lt_succ_self _
                  exact h9
                have HJLn : Hid (i + 1 = (grp cp k ++ [((k, []) : Gr)]).length) := by
                  have h9 : i + 1 = (grp cp k ++ [((k, []) : Gr)]).length := by rw [List.length_append, ← HLN.out]; rfl
                  exact h9
                have HLEN : Hid ((gAt (grp cp k ++ [((k, []) : Gr)]) i).2.length ≤ 32) := by rw [gAt_app_r HLN.out]; exact Nat.zero_le _
                clear hown7 hgrow7 hat7 hlt7 HL6 HB6 HM6 hs6
                obtain ⟨LJ, hLJ⟩ : ∃ LJ, grp cp k ++ [((k, []) : Gr)] = LJ := ⟨_, rfl⟩
                rw [hLJ] at HLJ HJL HJLn HLEN
                have HJ' : Hid (joinG LJ i k = grp cp (k + 1)) := by rw [← hLJ]; exact HJ.out
                clear hLJ HJ
                obtain ⟨i1, hi1⟩ : ∃ i1, i + 1 = i1 := ⟨_, rfl⟩
                rw [hi1] at HLJ HJLn ⊢
                have hi1' : i < i1 ∧ i1 ≤ 33 := by omega
                clear hi1
                obtain ⟨ma', hma'⟩ : ∃ ma', (some ⟨g7, 0, none⟩ : Option Addr) = ma' := ⟨_, rfl⟩
                rw [hma'] at HLJ ⊢
                clear hma'
                obtain ⟨xs, hls⟩ := HLJ.out
                have hJm : i < (mems LJ).length := by rw [mems_len]; exact HJL.out
                obtain ⟨mb, mc', hmv, hmb1, hmb2, hmth, hmcell⟩ := hls.mat (by omega)
                have hma : ma' = some ⟨mb, 0, none⟩ := by simp at hmv; exact hmv.1
                subst hma
                have hrow := hls.row i hJm
                obtain ⟨rva, rvc, hrv⟩ := own_shape hrow
                obtain ⟨rn, hrn⟩ : ∃ rn, ((mems LJ).getD i []).length = rn := ⟨_, rfl⟩
                rw [hrn] at hrv
                have HRN : Hid (((mems LJ).getD i []).length = rn) := hrn
                have hrn32 : rn ≤ 32 := by rw [← hrn, mems_get]; exact HLEN.out
                have e1 : w7.cell? ⟨mb, i, none⟩ = some (.slice rva rn rvc) := by rw [hmcell i hJm, hrv]
                have HRV : Hid (xs.getD i undef = .slice rva rn rvc) := hrv
                have HOWN : Hid (w7.ownsRow BF 3 1 (.slice rva rn rvc) rn (iVs ((mems LJ).getD i []))) := by rw [hrn, hrv] at hrow; exact hrow
                have HLSX : Hid (Ls BF (.slice (some ⟨g6, 0, none⟩) i1 cap6) (.slice (some ⟨mb, 0, none⟩) i1 cap7) xs (fsts LJ) (mems LJ) w7) := hls
                have HTH : Hid (w7.there mb i 1) := fun q hq => by
                  obtain rfl : q = 0 := by omega
                  have h1 := hmth i hJm
                  rw [Nat.zero_add] at h1
                  exact h1
                have HGB : Hid (BF ≤ mb ∧ mb < w7.heap.size ∧ ∀ g, (xs.getD i undef).ownBlock = some g → g ≠ mb) := ⟨hmb1, hmb2, fun g hg e => hls.rne hJm hg (by simp [Value.ownBlock, e])⟩
                clear hls hmv hmth hmcell hrow hrv hrn hJm
                have hsW : BF ≤ w7.heap.size := by omega
                have hJ2 : (i : Int) < i1 := by have h1 := HJL.out; have h2 := HJLn.out; omega
                have hJ0 : ¬ (i : Int) < 0 := by omega
                go_wp2_with (at_builtin; go_must (refine wpList_app1 BF rfl rfl Yaed.underlying119 info3 rfl rfl (HOWN.out.alloc _) (by exact heap_new rfl) (by rfl) (by intro u hu; simp at hu; subst hu; rfl) (by omega) (by omega) (by omega) (by simp; omega) ?_))
                intro g8 cap8 w8 hown8 hgrow8 hat8 hlt8
                have hk8 := keep_grown hgrow8
                have hgbx : mb < (w7.alloc (Obj.cells #[Value.int IntKind.i64 (k : Int)] 3)).heap.size ∧ some mb ≠ (Value.slice rva rn rvc).ownBlock := ⟨by have := HGB.out.2.1; simp; omega, fun e => HGB.out.2.2 mb (by rw [HRV.out]; exact e.symm) rfl⟩
                have HTH8 : Hid (w8.there mb i 1) := there_keep (World.there_alloc HTH.out _) hk8 hgbx
                have e8 : w8.cell? ⟨mb, i, none⟩ = some (.slice rva rn rvc) := by rw [hk8.cell (p := ⟨mb, _, none⟩) hgbx, (below_alloc w7 _).cell (p := ⟨mb, _, none⟩) HGB.out.2.1]; exact e1
                have f8 : w8.frozen? ⟨mb, i, none⟩ = false := (HTH8.out 0 (by omega)).2
                have HL8 : Hid (Ls BF (.slice (some ⟨g6, 0, none⟩) i1 cap6) (.slice (some ⟨mb, 0, none⟩) i1 cap7) (xs.set i (.slice (some ⟨g8, 0, none⟩) (rn + 1) cap8)) (fsts (joinG LJ i k)) (mems (joinG LJ i k)) (w8.setCell ⟨mb, i, none⟩ (.slice (some ⟨g8, 0, none⟩) (rn + 1) cap8))) := by
                  have h1 := HLSX.out.ext (below_alloc w7 (Obj.cells #[Value.int IntKind.i64 (k : Int)] 3))
                  have h2 := h1.app (i := i) (g := g8) (cap := cap8) (r := k) (mb := mb) (mc := cap7) (by rw [mems_len]; exact HJL.out) (by rw [mems_len, ← HJLn.out]) (w' := w8) (by rw [HRN.out]; exact hown8) (by rw [HRV.out]; exact hgrow8) (by rw [HRV.out]; rcases hat8 with h | h; exact .inl h; exact .inr (by rw [World.size_alloc]; omega))
                  rw [HRN.out] at h2
                  rw [fsts_join, mems_join]
                  exact h2
                have HB8 : Hid (Below BF wF w8) := (HBJ.out.trans ((below_alloc w7 _).mono hsW)).trans (below_grown (HOWN.out.alloc _) hgrow8 (by simp; omega))
                clear hown8 hgrow8 hat8 hlt8 hk8 hgbx e1 HTH HOWN HLSX
                go_wp2_with fail
                generalize hw9 : World.setCell _ _ _ = w9'
                rw [hw9] at HL8
                have HB9' : Hid (Below BF wF w9') := by rw [← hw9]; exact HB8.out.setCell (p := ⟨mb, i, none⟩) HGB.out.1 _
                have hs9' : BF ≤ w9'.heap.size := by have h1 := HB9'.out.size; omega
                clear hw9 e8 f8 HTH8 HB8
                try go_wp2_with fail
                go_roundw
                case rel => exact ⟨k + 1, by omega, by go_num, (some ⟨g6, 0, none⟩), i1, cap6, some ⟨mb, 0, none⟩, cap7, rfl, rfl, (show i1 = (grp cp (k + 1)).length by rw [← HJ'.out, joinG_len]; exact HJLn.out), hs9', HB9', _, by rw [← HJ'.out]; exact HL8.out⟩
                case measure => simp [intOf]; omega
              · obtain ⟨J, hJ⟩ : ∃ J : Nat, at_ = J := ⟨at_.toNat, by omega⟩
                have HJ' : Hid (joinG (grp cp k) J k = grp cp (k + 1)) := by
                  have h1 : grp cp (k + 1) = addG cp (grp cp k) k := rfl
                  rw [h1, addG, if_neg (by rw [← HFG.out]; exact hneg), ← HFG.out, hJ]
                  exact rfl
                subst hJ
                have HLJ : Hid (∃ xs, Ls BF (.slice fa i fc) (.slice ma i mc) xs (fsts (grp cp k)) (mems (grp cp k)) wb2) := HLS5.out
                have HBJ : Hid (Below BF wF wb2) := HB5.out
                have HJL : Hid (J < (grp cp k).length) := (show J < (grp cp k).length by rw [← HLN.out]; omega)
                have HJLn : Hid (i = (grp cp k).length) := HLN.out
                have HLEN : Hid ((gAt (grp cp k) J).2.length ≤ 32) := (show (gAt (grp cp k) J).2.length ≤ 32 from Nat.le_trans (grp_ok cp k _ (gAt_mem HJL.out)).2.2.2.2 (by omega))
                obtain ⟨LJ, hLJ⟩ : ∃ LJ, grp cp k = LJ := ⟨_, rfl⟩
                rw [hLJ] at HLJ HJL HJLn HLEN HJ'
                clear hLJ HB5 HLS5 hneg HFG
                obtain ⟨xs, hls⟩ := HLJ.out
                have hJm : J < (mems LJ).length := by rw [mems_len]; exact HJL.out
                obtain ⟨mb, mc', hmv, hmb1, hmb2, hmth, hmcell⟩ := hls.mat (by omega)
                have hma : ma = some ⟨mb, 0, none⟩ := by simp at hmv; exact hmv.1
                subst hma
                have hrow := hls.row J hJm
                obtain ⟨rva, rvc, hrv⟩ := own_shape hrow
                obtain ⟨rn, hrn⟩ : ∃ rn, ((mems LJ).getD J []).length = rn := ⟨_, rfl⟩
                rw [hrn] at hrv
                have HRN : Hid (((mems LJ).getD J []).length = rn) := hrn
                have hrn32 : rn ≤ 32 := by rw [← hrn, mems_get]; exact HLEN.out
                have e1 : wb2.cell? ⟨mb, J, none⟩ = some (.slice rva rn rvc) := by rw [hmcell J hJm, hrv]
                have HRV : Hid (xs.getD J undef = .slice rva rn rvc) := hrv
                have HOWN : Hid (wb2.ownsRow BF 3 1 (.slice rva rn rvc) rn (iVs ((mems LJ).getD J []))) := by rw [hrn, hrv] at hrow; exact hrow
                have HLSX : Hid (Ls BF (.slice fa i fc) (.slice (some ⟨mb, 0, none⟩) i mc) xs (fsts LJ) (mems LJ) wb2) := hls
                have HTH : Hid (wb2.there mb J 1) := fun q hq => by
                  obtain rfl : q = 0 := by omega
                  have h1 := hmth J hJm
                  rw [Nat.zero_add] at h1
                  exact h1
                have HGB : Hid (BF ≤ mb ∧ mb < wb2.heap.size ∧ ∀ g, (xs.getD J undef).ownBlock = some g → g ≠ mb) := ⟨hmb1, hmb2, fun g hg e => hls.rne hJm hg (by simp [Value.ownBlock, e])⟩
                clear hls hmv hmth hmcell hrow hrv hrn hJm
                have hsW : BF ≤ wb2.heap.size := by omega
                have hJ2 : (J : Int) < i := by have h1 := HJL.out; have h2 := HJLn.out; omega
                have hJ0 : ¬ (J : Int) < 0 := by omega
                go_wp2_with (at_builtin; go_must (refine wpList_app1 BF rfl rfl Yaed.underlying119 info3 rfl rfl (HOWN.out.alloc _) (by exact heap_new rfl) (by rfl) (by intro u hu; simp at hu; subst hu; rfl) (by omega) (by omega) (by omega) (by simp; omega) ?_))
                intro g8 cap8 w8 hown8 hgrow8 hat8 hlt8
                have hk8 := keep_grown hgrow8
                have hgbx : mb < (wb2.alloc (Obj.cells #[Value.int IntKind.i64 (k : Int)] 3)).heap.size ∧ some mb ≠ (Value.slice rva rn rvc).ownBlock := ⟨by have := HGB.out.2.1; simp; omega, fun e => HGB.out.2.2 mb (by rw [HRV.out]; exact e.symm) rfl⟩
                have HTH8 : Hid (w8.there mb J 1) := there_keep (World.there_alloc HTH.out _) hk8 hgbx
                have e8 : w8.cell? ⟨mb, J, none⟩ = some (.slice rva rn rvc) := by rw [hk8.cell (p := ⟨mb, _, none⟩) hgbx, (below_alloc wb2 _).cell (p := ⟨mb, _, none⟩) HGB.out.2.1]; exact e1
                have f8 : w8.frozen? ⟨mb, J, none⟩ = false := (HTH8.out 0 (by omega)).2
                have HL8 : Hid (Ls BF (.slice fa i fc) (.slice (some ⟨mb, 0, none⟩) i mc) (xs.set J (.slice (some ⟨g8, 0, none⟩) (rn + 1) cap8)) (fsts (joinG LJ J k)) (mems (joinG LJ J k)) (w8.setCell ⟨mb, J, none⟩ (.slice (some ⟨g8, 0, none⟩) (rn + 1) cap8))) := by
                  have h1 := HLSX.out.ext (below_alloc wb2 (Obj.cells #[Value.int IntKind.i64 (k : Int)] 3))
                  have h2 := h1.app (i := J) (g := g8) (cap := cap8) (r := k) (mb := mb) (mc := mc) (by rw [mems_len]; exact HJL.out) (by rw [mems_len, ← HJLn.out]) (w' := w8) (by rw [HRN.out]; exact hown8) (by rw [HRV.out]; exact hgrow8) (by rw [HRV.out]; rcases hat8 with h | h; exact .inl h; exact .inr (by rw [World.size_alloc]; omega))
                  rw [HRN.out] at h2
                  rw [fsts_join, mems_join]
                  exact h2
                have HB8 : Hid (Below BF wF w8) := (HBJ.out.trans ((below_alloc wb2 _).mono hsW)).trans (below_grown (HOWN.out.alloc _) hgrow8 (by simp; omega))
                clear hown8 hgrow8 hat8 hlt8 hk8 hgbx e1 HTH HOWN HLSX
                go_wp2_with fail
                generalize hw9 : World.setCell _ _ _ = w9'
                rw [hw9] at HL8
                have HB9' : Hid (Below BF wF w9') := by rw [← hw9]; exact HB8.out.setCell (p := ⟨mb, J, none⟩) HGB.out.1 _
                have hs9' : BF ≤ w9'.heap.size := by have h1 := HB9'.out.size; omega
                clear hw9 e8 f8 HTH8 HB8
                try go_wp2_with fail
                go_roundw
                case rel => exact ⟨k + 1, by omega, by go_num, fa, i, fc, some ⟨mb, 0, none⟩, mc, rfl, rfl, (show i = (grp cp (k + 1)).length by rw [← HJ'.out, joinG_len]; exact HJLn.out), hs9', HB9', _, by rw [← HJ'.out]; exact HL8.out⟩
                case measure => simp [intOf]; omega
        · obtain rfl : k = m := by omega
          have hln : ln ≤ 32 := by have := grp_len cp k; rw [HLN.out]; omega
          have HG0 : Hid (∃ xs, Ls BF (.slice fa ln fc) (.slice ma ln mc) xs (fsts (sortTo cp 0 (grp cp k))) (mems (sortTo cp 0 (grp cp k))) wr) := HLS.out
          go_wp2_with fail
          generalize hwb : wr = wb at *
          clear hwb HLS
          have hgi0 : ¬ (gi : Int) < 0 := by omega
          have hgi1 : (gi : Int) < n := by omega
          go_loopw [26] (fun ci_ wi => ∃ i : Nat, (i + 1 ≤ ln ∨ i = 0) ∧ ci_ = .int .i64 ((i : Int) + 1) ∧ BF ≤ wi.heap.size ∧ Hid (Below BF wF wi) ∧ Hid (∃ xs, Ls BF (.slice fa ln fc) (.slice ma ln mc) xs (fsts (sortTo cp i (grp cp k))) (mems (sortTo cp i (grp cp k))) wi)) (fun ci_ _ => ln + 1 - (intOf ci_).toNat)
          case atStart => exact ⟨0, .inr rfl, rfl, hBr, HBr, HG0⟩
          case round =>
            obtain ⟨i, hi, rfl, hBi, HBi, HGi⟩ := hrel
            clear HBr HG0 hBr
            by_cases hil : i + 1 < ln
            · have hil' : (i : Int) + 1 < ln := by omega
              go_wp2_with fail
              have HGj : Hid (∃ xs L', L'.length = ln ∧ sinkG cp (i + 1) L' = sortTo cp (i + 1) (grp cp k) ∧ (∀ p ∈ L', p.1 < k) ∧ Ls BF (.slice fa ln fc) (.slice ma ln mc) xs (fsts L') (mems L') wr) := by
                obtain ⟨xs, h1⟩ := HGi.out
                exact ⟨xs, _, by rw [sortTo_len]; exact HLN.out.symm, rfl, fun p hp => (grp_ok cp k p (sortTo_mem cp i _ (by rw [← HLN.out]; omega) p hp)).2.2.1, h1⟩
              generalize hwb : wr = wb2 at *
              clear hwb HGi
              go_loopw [27] (fun cj wj => ∃ j : Nat, j ≤ i + 1 ∧ cj = .int .i64 j ∧ BF ≤ wj.heap.size ∧ Hid (Below BF wF wj) ∧ Hid (∃ xs L', L'.length = ln ∧ sinkG cp j L' = sortTo cp (i + 1) (grp cp k) ∧ (∀ p ∈ L', p.1 < k) ∧ Ls BF (.slice fa ln fc) (.slice ma ln mc) xs (fsts L') (mems L') wj)) (fun cj _ => (intOf cj).toNat)
              case atStart => exact ⟨i + 1, Nat.le_refl _, by simp, hBi, HBi, HGj⟩
              case round =>
                obtain ⟨j, hj, rfl, hBj, HBj, HGJ⟩ := hrel
                clear HBi HGj hBi
                cases j with
                | zero =>
                  go_wp2_with fail
                  refine wp_region_can (l := [_, _, _, _, _, _, _, _, _, _, _, _, _, _, _, _, _, _, _, _, _, _, _, _, _, _]) [(true, 0), (true, 1), (true, 2), (true, 3), (true, 4), (true, 5), (true, 6), (true, 7), (true, 8), (true, 9), (true, 10), (true, 11), (true, 12), (true, 13), (true, 14), (true, 15), (true, 16), (true, 17), (true, 18), (true, 19), (true, 20), (true, 21), (true, 22), (true, 23), (true, 24), (true, 25)] (fun W => True) (by kernel_rfl) (by kernel_rfl) trivial ?_
                  repeat (first | ((first | refine wpCan_q (v := ?_) rfl rfl rfl ?_ ?_ | refine wpCan_qg (v := ?_) rfl rfl (by rfl) ?_ ?_); rotate_left; (focus (intro W _; go_simp; first | done | exact rfl)); simp only [Act.put, List.setIfInBounds_toArray, List.set_cons_zero, List.set_cons_succ]) | (refine wpCan_skip rfl rfl (by rfl) ?_; simp only [Act.put, List.setIfInBounds_toArray, List.set_cons_zero, List.set_cons_succ]))
                  refine wpCan_nil ?_
                  generalize hwd2 : World.drew _ = wd2
                  have HBd2 : Hid (Below BF wF wd2) := by rw [← hwd2]; exact HBj.out.drew
                  have hBd2 : BF ≤ wd2.heap.size := by rw [← hwd2]; exact hBj
                  have HGd : Hid (∃ xs, Ls BF (.slice fa ln fc) (.slice ma ln mc) xs (fsts (sortTo cp (i + 1) (grp cp k))) (mems (sortTo cp (i + 1) (grp cp k))) wd2) := by
                    obtain ⟨xs, L', h1, h2, _, h3⟩ := HGJ.out
                    rw [← h2, ← hwd2]
                    exact ⟨xs, h3.ext (Below.refl _ _).drew⟩
                  clear hwd2
                  have hwi : IntKind.i64.wrap ((i : Int) + 1 + 1) = (i : Int) + 1 + 1 := IntWalk.i64_in _ (by omega)
                  go_wp2_with fail
                  go_roundw
                  case rel => exact ⟨i + 1, .inl (by omega), by go_num, hBd2, HBd2, HGd⟩
                  case measure => simp [intOf]; omega
                | succ j =>
                  obtain ⟨xs, L', hLl, hsk, hLk, hls⟩ := HGJ.out
                  have HLL : Hid (L'.length = ln) := hLl
                  have HSK : Hid (sinkG cp (j + 1) L' = sortTo cp (i + 1) (grp cp k)) := hsk
                  have HLK : Hid (∀ p ∈ L', p.1 < k) := hLk
                  have HLS : Hid (Ls BF (.slice fa ln fc) (.slice ma ln mc) xs (fsts L') (mems L') wr) := hls
                  obtain ⟨fb, fc', hfv, hfb1, hfb2, hfth, hfcell⟩ := hls.fat (by rw [fsts_len]; omega)
                  obtain ⟨mb, mc', hmv, hmb1, hmb2, hmth, hmcell⟩ := hls.mat (by rw [mems_len]; omega)
                  have hfa : fa = some ⟨fb, 0, none⟩ := by simp at hfv; exact hfv.1
                  have hma : ma = some ⟨mb, 0, none⟩ := by simp at hmv; exact hmv.1
                  obtain ⟨f1, hf1⟩ : ∃ f, (gAt L' (j + 1)).1 = f := ⟨_, rfl⟩
                  obtain ⟨f0, hf0⟩ : ∃ f, (gAt L' j).1 = f := ⟨_, rfl⟩
                  have hf1k : f1 < k := by rw [← hf1]; exact hLk _ (gAt_mem (by omega))
                  have hf0k : f0 < k := by rw [← hf0]; exact hLk _ (gAt_mem (by omega))
                  have e1 : wr.cell? ⟨fb, j + 1, none⟩ = some (.int .i64 (f1 : Int)) := by rw [hfcell (j + 1) (by rw [fsts_len]; omega), fsts_get, hf1]
                  have e0 : wr.cell? ⟨fb, j, none⟩ = some (.int .i64 (f0 : Int)) := by rw [hfcell j (by rw [fsts_len]; omega), fsts_get, hf0]
                  have HFT : Hid (wr.there fb 0 ln) := by rw [fsts_len, hLl] at hfth; exact hfth
                  have HMT : Hid (wr.there mb 0 ln) := by rw [mems_len, hLl] at hmth; exact hmth
                  have HXC : Hid (wr.cell? ⟨mb, j + 1, none⟩ = some (xs.getD (j + 1) undef) ∧ wr.cell? ⟨mb, j, none⟩ = some (xs.getD j undef)) := ⟨hmcell (j + 1) (by rw [mems_len]; omega), hmcell j (by rw [mems_len]; omega)⟩
                  have HXSH : Hid ((∃ a l c, xs.getD (j + 1) undef = .slice a l c) ∧ ∃ a l c, xs.getD j undef = .slice a l c) := by
                    obtain ⟨a1, c1, h1⟩ := own_shape (hls.row (j + 1) (by rw [mems_len]; omega))
                    obtain ⟨a0, c0, h0⟩ := own_shape (hls.row j (by rw [mems_len]; omega))
                    exact ⟨⟨_, _, _, h1⟩, ⟨_, _, _, h0⟩⟩
                  have HFM : Hid (BF ≤ fb ∧ fb < wr.heap.size ∧ BF ≤ mb ∧ mb < wr.heap.size ∧ fb ≠ mb) := ⟨hfb1, hfb2, hmb1, hmb2, fun e => hls.fne (g := fb) (by rw [hfa]; rfl) (by rw [hma, e]; rfl)⟩
                  have HB9 : Hid (Below wF.heap.size wF wr) := by rw [HBF.out]; exact HBj.out
                  have hLRj := HLRF.out.ext HB9.out
                  obtain ⟨yb, yo, yc, ey, hyb, hyc⟩ := hLRj.rows f1 (by rw [HM.out]; exact hf1k)
                  obtain ⟨xb, xo, xc, ex, hxb, hxc⟩ := hLRj.rows f0 (by rw [HM.out]; exact hf0k)
                  obtain ⟨v1, hv1⟩ : ∃ v, (RS.getD f1 []).getD gi V0 = v := ⟨_, rfl⟩
                  obtain ⟨v0, hv0⟩ : ∃ v, (RS.getD f0 []).getD gi V0 = v := ⟨_, rfl⟩
                  have hyr := hyc gi hgin
                  have hxr := hxc gi hgin
                  rw [hv1] at hyr
                  rw [hv0] at hxr
                  have y0 := hyr 0 _ rfl
                  have y1 := hyr 1 _ rfl
                  have y2 := hyr 2 _ rfl
                  have y3 := hyr 3 _ rfl
                  have x0 := hxr 0 _ rfl
                  have x1 := hxr 1 _ rfl
                  have x2 := hxr 2 _ rfl
                  have x3 := hxr 3 _ rfl
                  simp only [Nat.add_zero] at x0 y0
                  have HCF : Hid (cmpV v1 v0 = cp (gAt L' (j + 1)).1 (gAt L' j).1) := by rw [HCP.out, hf1, hf0, hv1, hv0]; exact rfl
                  have HFF : Hid ((fsts L').getD (j + 1) 0 = f1 ∧ (fsts L').getD j 0 = f0) := ⟨by rw [fsts_get]; exact hf1, by rw [fsts_get]; exact hf0⟩
                  have HLT : Hid (rb < wr.heap.size ∧ yb < wr.heap.size ∧ xb < wr.heap.size) := ⟨hLRj.lt, hyb, hxb⟩
                  subst hfa
                  subst hma
                  clear hls hfv hfcell hmv hmcell hfth hmth hf1 hf0 hyc hyr hxc hxr hv1 hv0 hLRj hLk hsk hLl HGJ HB9
                  have hj0 : (0 : Int) < (j : Int) + 1 := by omega
                  have hj1 : ¬ (j : Int) + 1 < 0 := by omega
                  have hj2 : (j : Int) + 1 < ln := by omega
                  have hj3 : (j : Int) < ln := by omega
                  have hj4 : ¬ (j : Int) < 0 := by omega
                  have ht : ((j : Int) + 1).toNat = j + 1 := by omega
                  have hwj : IntKind.i64.wrap (j : Int) = j := IntWalk.i64_in _ (by omega)
                  have hf1a : (f1 : Int) < k := by omega
                  have hf0a : (f0 : Int) < k := by omega
                  have hf1b : ¬ (f1 : Int) < 0 := by omega
                  have hf0b : ¬ (f0 : Int) < 0 := by omega
                  go_wp2_with fail
                  have HSX : Hid (∀ W, Below wr.heap.size wr W → W.cell? ⟨fb, j + 1, none⟩ = some (.int .i64 (f1 : Int)) ∧ W.cell? ⟨fb, j, none⟩ = some (.int .i64 (f0 : Int)) ∧ W.cell? ⟨rb, ro + f1, none⟩ = some (.slice (some ⟨yb, yo, none⟩) n yc) ∧ W.cell? ⟨rb, ro + f0, none⟩ = some (.slice (some ⟨xb, xo, none⟩) n xc) ∧ W.cell? ⟨yb, yo + gi * 4, none⟩ = some (.int .u8 v1.k) ∧ W.cell? ⟨yb, yo + gi * 4 + 1, none⟩ = some (.int .i64 v1.i) ∧ W.cell? ⟨yb, yo + gi * 4 + 2, none⟩ = some (.float .f64 v1.r) ∧ W.cell? ⟨yb, yo + gi * 4 + 3, none⟩ = some (.string v1.s) ∧ W.cell? ⟨xb, xo + gi * 4, none⟩ = some (.int .u8 v0.k) ∧ W.cell? ⟨xb, xo + gi * 4 + 1, none⟩ = some (.int .i64 v0.i) ∧ W.cell? ⟨xb, xo + gi * 4 + 2, none⟩ = some (.float .f64 v0.r) ∧ W.cell? ⟨xb, xo + gi * 4 + 3, none⟩ = some (.string v0.s)) := fun W hW => by
                    have a1 := HFM.out.2.1
                    have a2 := HLT.out.1
                    have a3 := HLT.out.2.1
                    have a4 := HLT.out.2.2
                    rw [hW.cell (p := ⟨fb, j + 1, none⟩) a1, hW.cell (p := ⟨fb, j, none⟩) a1, hW.cell (p := ⟨rb, ro + f1, none⟩) a2, hW.cell (p := ⟨rb, ro + f0, none⟩) a2, hW.cell (p := ⟨yb, yo + gi * 4, none⟩) a3, hW.cell (p := ⟨yb, yo + gi * 4 + 1, none⟩) a3, hW.cell (p := ⟨yb, yo + gi * 4 + 2, none⟩) a3, hW.cell (p := ⟨yb, yo + gi * 4 + 3, none⟩) a3, hW.cell (p := ⟨xb, xo + gi * 4, none⟩) a4, hW.cell (p := ⟨xb, xo + gi * 4 + 1, none⟩) a4, hW.cell (p := ⟨xb, xo + gi * 4 + 2, none⟩) a4, hW.cell (p := ⟨xb, xo + gi * 4 + 3, none⟩) a4]
                    exact ⟨e1, e0, ey, ex, y0, y1, y2, y3, x0, x1, x2, x3⟩
                  refine wp_region_can (l := [_, _, _, _, _, _, _, _, _, _, _, _, _, _, _, _, _, _, _, _, _, _, _, _, _, _]) [(true, 0), (true, 1), (true, 2), (true, 3), (true, 4), (true, 5), (true, 6), (true, 7), (true, 8), (true, 9), (true, 10), (true, 11), (true, 12), (true, 13), (true, 14), (true, 15), (true, 16), (true, 17), (true, 18), (true, 19), (true, 20), (true, 21), (true, 22), (true, 23), (false, 24), (true, 25)] (fun W => W.cell? ⟨fb, j + 1, none⟩ = some (.int .i64 (f1 : Int)) ∧ W.cell? ⟨fb, j, none⟩ = some (.int .i64 (f0 : Int)) ∧ W.cell? ⟨rb, ro + f1, none⟩ = some (.slice (some ⟨yb, yo, none⟩) n yc) ∧ W.cell? ⟨rb, ro + f0, none⟩ = some (.slice (some ⟨xb, xo, none⟩) n xc) ∧ W.cell? ⟨yb, yo + gi * 4, none⟩ = some (.int .u8 v1.k) ∧ W.cell? ⟨yb, yo + gi * 4 + 1, none⟩ = some (.int .i64 v1.i) ∧ W.cell? ⟨yb, yo + gi * 4 + 2, none⟩ = some (.float .f64 v1.r) ∧ W.cell? ⟨yb, yo + gi * 4 + 3, none⟩ = some (.string v1.s) ∧ W.cell? ⟨xb, xo + gi * 4, none⟩ = some (.int .u8 v0.k) ∧ W.cell? ⟨xb, xo + gi * 4 + 1, none⟩ = some (.int .i64 v0.i) ∧ W.cell? ⟨xb, xo + gi * 4 + 2, none⟩ = some (.float .f64 v0.r) ∧ W.cell? ⟨xb, xo + gi * 4 + 3, none⟩ = some (.string v0.s)) (by kernel_rfl) (by kernel_rfl) (HSX.out _ (Below.refl _ _).drew) ?_
                  clear e1 e0 ey ex y0 y1 y2 y3 x0 x1 x2 x3
                  repeat (first | ((first | refine wpCan_q (v := ?_) rfl rfl rfl ?_ ?_ | refine wpCan_qg (v := ?_) rfl rfl (by rfl) ?_ ?_); rotate_left; (focus (rintro W ⟨q1, q2, q3, q4, q5, q6, q7, q8, q9, q10, q11, q12⟩; go_simp; first | done | exact rfl)); simp only [Act.put, List.setIfInBounds_toArray, List.set_cons_zero, List.set_cons_succ]) | (refine wpCan_skip rfl rfl (by rfl) ?_; simp only [Act.put, List.setIfInBounds_toArray, List.set_cons_zero, List.set_cons_succ]))
                  obtain ⟨cm, hcm⟩ : ∃ cm, cmpV v1 v0 = cm := ⟨_, rfl⟩
                  obtain ⟨z, hz⟩ : ∃ z, decide (cm < 0) = z := ⟨_, rfl⟩
                  have HZ : Hid (decide (cp (gAt L' (j + 1)).1 (gAt L' j).1 < 0) = z) := by rw [← HCF.out, hcm]; exact hz
                  refine wpCan_eg rfl (by rfl) (fun K hK => ?_)
                  refine wp_call2 call49 rfl rfl rfl ?_
                  refine (compare_any v1 v0 _).mono ?_
                  rintro e w6 ⟨rfl, hb6⟩
                  have HB6 : Hid (Below wr.heap.size wr w6) := below_of_drew hb6
                  rw [hcm]
                  clear hb6 hcm HCF
                  refine ⟨_, rfl, hK _ _ ⟨HSX.out _ HB6.out, ?_⟩⟩
                  clear hK K
                  simp only [Act.put, List.setIfInBounds_toArray, List.set_cons_zero, List.set_cons_succ]
                  repeat (first | ((first | refine wpCan_q (v := ?_) rfl rfl rfl ?_ ?_ | refine wpCan_qg (v := ?_) rfl rfl (by rfl) ?_ ?_); rotate_left; (focus (rintro W ⟨q1, q2, q3, q4, q5, q6, q7, q8, q9, q10, q11, q12⟩; go_simp; first | done | exact rfl)); simp only [Act.put, List.setIfInBounds_toArray, List.set_cons_zero, List.set_cons_succ]) | (refine wpCan_skip rfl rfl (by rfl) ?_; simp only [Act.put, List.setIfInBounds_toArray, List.set_cons_zero, List.set_cons_succ]))
                  refine wpCan_nil ?_
                  have HL6 : Hid (Ls BF (.slice (some ⟨fb, 0, none⟩) ln fc) (.slice (some ⟨mb, 0, none⟩) ln mc) xs (fsts L') (mems L') w6) := HLS.out.ext HB6.out
                  have HBF6 : Hid (Below BF wF w6) := HBj.out.trans (HB6.out.mono hBj)
                  have hB6 : BF ≤ w6.heap.size := Nat.le_trans hBj HB6.out.size
                  have s1 : w6.cell? ⟨fb, j + 1, none⟩ = some (.int .i64 (f1 : Int)) := (HSX.out _ HB6.out).1
                  have s0 : w6.cell? ⟨fb, j, none⟩ = some (.int .i64 (f0 : Int)) := (HSX.out _ HB6.out).2.1
                  have HXC6 : Hid (w6.cell? ⟨mb, j + 1, none⟩ = some (xs.getD (j + 1) undef) ∧ w6.cell? ⟨mb, j, none⟩ = some (xs.getD j undef)) := by
                    rw [HB6.out.cell (p := ⟨mb, j + 1, none⟩) HFM.out.2.2.2.1, HB6.out.cell (p := ⟨mb, j, none⟩) HFM.out.2.2.2.1]; exact HXC.out
                  have HFT6 : Hid (w6.there fb 0 ln) := there_ext HFT.out HB6.out HFM.out.2.1
                  have HMT6 : Hid (w6.there mb 0 ln) := there_ext HMT.out HB6.out HFM.out.2.2.2.1
                  clear HSX HLS HXC HFT HMT HB6 HBj hBj HLT
                  cases z with
                  | false =>
                    have hwi : IntKind.i64.wrap ((i : Int) + 1 + 1) = (i : Int) + 1 + 1 := IntWalk.i64_in _ (by omega)
                    clear s0 s1
                    go_wp2_with fail
                    go_roundw
                    case rel =>
                      refine ⟨i + 1, .inl (by omega), by go_num, hB6, HBF6, xs, ?_⟩
                      have e : sortTo cp (i + 1) (grp cp k) = L' := by
                        rw [← HSK.out]
                        unfold sinkG
                        rw [if_neg (by have := HZ.out; simpa using this)]
                      rw [e]
                      exact HL6.out
                    case measure => simp [intOf]; omega
                  | true =>
                    go_wp2_with fail
                    have z1 : ∀ W : World, W = w6.drew → W.frozen? ⟨fb, j + 1, none⟩ = false := fun W hW => by subst hW; have h1 := (HFT6.out (j + 1) (by omega)).2; rw [Nat.zero_add] at h1; exact h1
                    refine wp_region_canG (l := [_, _, _, _, _, _, _, _, _, _, _, _, _, _, _, _]) 15 [(true, 0), (true, 1), (true, 2), (true, 3), (true, 4), (true, 5), (true, 6), (true, 7), (true, 8), (true, 9), (true, 10), (true, 11), (true, 12), (true, 13), (true, 14), (false, 15)] (fun W => W.cell? ⟨fb, j + 1, none⟩ = some (.int .i64 (f1 : Int)) ∧ W.cell? ⟨fb, j, none⟩ = some (.int .i64 (f0 : Int))) (by kernel_rfl) (by kernel_rfl) ⟨s1, s0⟩ ?_
                    repeat (first | ((refine wpCanG_q (v := ?_) rfl rfl rfl ?_ ?_); rotate_left; (focus (intro W; go_simp; first | done | exact rfl)); simp only [Act.put, List.setIfInBounds_toArray, List.set_cons_zero, List.set_cons_succ]) | ((refine wpCanG_s (v := ?_) rfl rfl rfl (by kernel_rfl) ?_ ?_); rotate_left; (focus (rintro W ⟨a1, a2⟩; go_simp; first | done | exact rfl)); simp only [Act.put, List.setIfInBounds_toArray, List.set_cons_zero, List.set_cons_succ]))
                    refine wpCanG_st rfl rfl (fun K hK => ?_)
                    have d1 : w6.drew.cell? ⟨fb, j + 1, none⟩ = some (.int .i64 (f1 : Int)) := s1
                    have d2 : w6.drew.frozen? ⟨fb, j + 1, none⟩ = false := z1 _ rfl
                    clear z1
                    refine wp_st3 rfl rfl rfl d1 d2 ?_
                    refine hK _ _ ?_
                    clear hK K d1 d2
                    refine wpCanG_nil ?_
                    try simp only [Act.put, List.setIfInBounds_toArray, List.set_cons_zero, List.set_cons_succ]
                    generalize hw7 : World.setCell _ _ _ = w7
                    have t0 : w7.cell? ⟨fb, j, none⟩ = some (.int .i64 (f0 : Int)) := by
                      rw [← hw7]; exact (World.cell?_setCell_other (a := ⟨fb, j + 1, none⟩) (b := ⟨fb, j, none⟩) _ _ (by simp)).trans s0
                    have t1 : w7.frozen? ⟨fb, j, none⟩ = false := by
                      rw [← hw7, World.frozen?_setCell]
                      have h1 := (HFT6.out j (by omega)).2; rw [Nat.zero_add] at h1; exact h1
                    have HW7 : Hid (w6.drew.setCell ⟨fb, j + 1, none⟩ (.int .i64 (f0 : Int)) = w7) := hw7
                    clear hw7 s0 s1
                    go_upto_region 44 with fail
                    generalize hw8 : World.setCell _ _ _ = w8
                    have HL8 : Hid (Ls BF (.slice (some ⟨fb, 0, none⟩) ln fc) (.slice (some ⟨mb, 0, none⟩) ln mc) xs (swapN (fsts L') (j + 1)) (mems L') w8) := by
                      have h1 := (HL6.out.ext (w' := w6.drew) (Below.refl _ w6).drew).swapF (j := j + 1) (fb := fb) (fc := fc) (by rw [fsts_len, HLL.out])
                      rw [Nat.add_sub_cancel, HFF.out.1, HFF.out.2, HW7.out, hw8] at h1
                      exact h1
                    have HX8 : Hid (∀ q, q ≠ fb → w8.heap[q]? = w6.heap[q]?) := fun q hq => by rw [← hw8, heap_set_ne hq, ← HW7.out, heap_set_ne hq]; rfl
                    have HBF8 : Hid (Below BF wF w8) := by
                      rw [← hw8, ← HW7.out]
                      exact (HBF6.out.drew.setCell (p := ⟨fb, j + 1, none⟩) HFM.out.1 _).setCell (p := ⟨fb, j, none⟩) HFM.out.1 _
                    have hB8 : BF ≤ w8.heap.size := by have h1 := HBF8.out.size; omega
                    clear hw8 HW7 t0 t1 HL6 HBF6
                    obtain ⟨⟨pa, pl, pc, hp⟩, ⟨qa', ql, qc', hq'⟩⟩ := HXSH.out
                    have m1 : w8.cell? ⟨mb, j + 1, none⟩ = some (.slice pa pl pc) := by rw [World.cell?_of_block (w := w6) (a := ⟨mb, j + 1, none⟩) (HX8.out mb (fun e => HFM.out.2.2.2.2 e.symm)), HXC6.out.1, hp]
                    have m0 : w8.cell? ⟨mb, j, none⟩ = some (.slice qa' ql qc') := by rw [World.cell?_of_block (w := w6) (a := ⟨mb, j, none⟩) (HX8.out mb (fun e => HFM.out.2.2.2.2 e.symm)), HXC6.out.2, hq']
                    have HMT8 : Hid (w8.there mb 0 ln) := fun q hq => by
                      have h1 := HMT6.out q hq
                      rw [World.cell?_of_block (w := w6) (a := ⟨mb, 0 + q, none⟩) (HX8.out mb (fun e => HFM.out.2.2.2.2 e.symm)), World.frozen?_of_block (w := w6) (a := ⟨mb, 0 + q, none⟩) (HX8.out mb (fun e => HFM.out.2.2.2.2 e.symm))]
                      exact h1
                    have HPQ : Hid (xs.getD (j + 1) undef = .slice pa pl pc ∧ xs.getD j undef = .slice qa' ql qc') := ⟨hp, hq'⟩
                    clear hp hq' HXSH HXC6 HMT6 HFT6
                    have z1 : ∀ W : World, W = w8.drew → W.frozen? ⟨mb, j + 1, none⟩ = false := fun W hW => by subst hW; have h1 := (HMT8.out (j + 1) (by omega)).2; rw [Nat.zero_add] at h1; exact h1
                    refine wp_region_canG (l := [_, _, _, _, _, _, _, _, _, _, _, _, _, _, _, _]) 15 [(true, 0), (true, 1), (true, 2), (true, 3), (true, 4), (true, 5), (true, 6), (true, 7), (true, 8), (true, 9), (true, 10), (true, 11), (true, 12), (true, 13), (true, 14), (false, 15)] (fun W => W.cell? ⟨mb, j + 1, none⟩ = some (.slice pa pl pc) ∧ W.cell? ⟨mb, j, none⟩ = some (.slice qa' ql qc')) (by kernel_rfl) (by kernel_rfl) ⟨m1, m0⟩ ?_
                    repeat (first | ((refine wpCanG_q (v := ?_) rfl rfl rfl ?_ ?_); rotate_left; (focus (intro W; go_simp; first | done | exact rfl)); simp only [Act.put, List.setIfInBounds_toArray, List.set_cons_zero, List.set_cons_succ]) | ((refine wpCanG_s (v := ?_) rfl rfl rfl (by kernel_rfl) ?_ ?_); rotate_left; (focus (rintro W ⟨a1, a2⟩; go_simp; first | done | exact rfl)); simp only [Act.put, List.setIfInBounds_toArray, List.set_cons_zero, List.set_cons_succ]))
                    refine wpCanG_st rfl rfl (fun K hK => ?_)
                    have d1 : w8.drew.cell? ⟨mb, j + 1, none⟩ = some (.slice pa pl pc) := m1
                    have d2 : w8.drew.frozen? ⟨mb, j + 1, none⟩ = false := z1 _ rfl
                    clear z1
                    refine wp_st119 rfl rfl rfl d1 d2 ?_
                    refine hK _ _ ?_
                    clear hK K d1 d2
                    refine wpCanG_nil ?_
                    try simp only [Act.put, List.setIfInBounds_toArray, List.set_cons_zero, List.set_cons_succ]
                    generalize hw9 : World.setCell _ _ _ = w9'
                    have t0 : w9'.cell? ⟨mb, j, none⟩ = some (.slice qa' ql qc') := by
                      rw [← hw9]; exact (World.cell?_setCell_other (a := ⟨mb, j + 1, none⟩) (b := ⟨mb, j, none⟩) _ _ (by simp)).trans m0
                    have t1 : w9'.frozen? ⟨mb, j, none⟩ = false := by
                      rw [← hw9, World.frozen?_setCell]
                      have h1 := (HMT8.out j (by omega)).2; rw [Nat.zero_add] at h1; exact h1
                    have HW9 : Hid (w8.drew.setCell ⟨mb, j + 1, none⟩ (.slice qa' ql qc') = w9') := hw9
                    clear hw9 m0 m1
                    go_upto_region 42 with fail
                    generalize hw10 : World.setCell _ _ _ = w10
                    have HL10 : Hid (∃ xs', Ls BF (.slice (some ⟨fb, 0, none⟩) ln fc) (.slice (some ⟨mb, 0, none⟩) ln mc) xs' (fsts (swapG L' (j + 1))) (mems (swapG L' (j + 1))) w10) := by
                      have h1 := (HL8.out.ext (w' := w8.drew) (Below.refl _ w8).drew).swapM (j := j + 1) (mb := mb) (mc := mc) (by rw [mems_len, HLL.out]; omega) (Nat.succ_pos _) (by rw [mems_len, HLL.out])
                      rw [Nat.add_sub_cancel, HPQ.out.1, HPQ.out.2, HW9.out, hw10] at h1
                      rw [fsts_swap, mems_swap]
                      exact ⟨_, h1⟩
                    have HBF10 : Hid (Below BF wF w10) := by
                      rw [← hw10, ← HW9.out]
                      exact (HBF8.out.drew.setCell (p := ⟨mb, j + 1, none⟩) HFM.out.2.2.1 _).setCell (p := ⟨mb, j, none⟩) HFM.out.2.2.1 _
                    have hB10 : BF ≤ w10.heap.size := by have h1 := HBF10.out.size; omega
                    clear hw10 HW9 t0 t1 HL8 HBF8
                    go_wp2_with fail
                    go_roundw
                    case rel =>
                      obtain ⟨xs', h8⟩ := HL10.out
                      refine ⟨j, by omega, by go_num, hB10, HBF10, xs', _, by rw [swapG_len]; exact HLL.out, ?_, fun p hp => HLK.out p (swapG_mem (by rw [HLL.out]; omega) hp), h8⟩
                      rw [← HSK.out]
                      conv => rhs; unfold sinkG
                      rw [if_pos (by have := HZ.out; simpa using this)]
                    case measure => simp [intOf]
            · have hil' : ¬ (i : Int) + 1 < ln := by omega
              have HLE : Hid (sortTo cp i (grp cp k) = L) := by
                rw [← HL.out]
                unfold allG sortG
                rw [← HLN.out, show ln - 1 = i by omega]
                exact rfl
              have HLNL : Hid (ln = L.length) := by rw [← HL.out]; unfold allG; rw [sortG_len]; exact HLN.out
              obtain ⟨xs, hls⟩ := HGi.out
              rw [HLE.out] at hls
              have hlnL : ln = L.length := HLNL.out
              subst hlnL
              have HLSZ : Hid (Ls BF (.slice fa L.length fc) (.slice ma L.length mc) xs (fsts L) (mems L) wr) := hls
              have HB9 : Hid (Below wF.heap.size wF wr) := by rw [HBF.out]; exact HBi.out
              have c1 : wr.cell? ⟨RB, 1, none⟩ = some (.slice ova L.length ovc) := HLRLL.out wr HB9.out
              have HLOK : Hid (∀ p ∈ L, GOk k p) := by rw [← HL.out]; exact allG_ok cp k
              have HOKS : Hid (∀ v ∈ RS.flatten, v.ok) := HRS.out.2.2.2
              clear hls HGi HLE
              go_wp2_with fail
              clear c1
              generalize hwb : wr = wG at *
              clear hwb
              go_loopw [220] (fun cq wq => ∃ q : Nat, q ≤ L.length ∧ cq = .int .i64 q ∧ Hid (Below wG.heap.size wG wq)) (fun cq _ => L.length - (intOf cq).toNat)
              case atStart => exact ⟨0, Nat.zero_le _, rfl, Below.refl _ _⟩
              case round =>
                obtain ⟨q, hq, rfl, HBq⟩ := hrel
                by_cases hql : q < L.length
                · have HLSq : Hid (Ls BF (.slice fa L.length fc) (.slice ma L.length mc) xs (fsts L) (mems L) wr) := HLSZ.out.ext HBq.out
                  have hls := HLSq.out
                  obtain ⟨fb, fc', hfv, hfb1, hfb2, _, hfcell⟩ := hls.fat (by rw [fsts_len]; omega)
                  obtain ⟨mb, mc', hmv, hmb1, hmb2, _, hmcell⟩ := hls.mat (by rw [mems_len]; omega)
                  have hfa : fa = some ⟨fb, 0, none⟩ := by simp at hfv; exact hfv.1
                  have hma : ma = some ⟨mb, 0, none⟩ := by simp at hmv; exact hmv.1
                  obtain ⟨f, hf⟩ : ∃ f, (gAt L q).1 = f := ⟨_, rfl⟩
                  obtain ⟨p, hp⟩ : ∃ p, (gAt L q).2 = p := ⟨_, rfl⟩
                  have hgok := HLOK.out _ (gAt_mem hql)
                  have hfk : f < k := by rw [← hf]; exact hgok.2.2.1
                  have HHD : Hid (p.headD 0 = f) := by rw [← hp, ← hf]; exact hgok.2.1
                  have HPK : Hid ((∀ x ∈ p, x < RS.length) ∧ p.length ≤ 32) := by rw [← hp, HM.out]; exact ⟨hgok.2.2.2.1, by have := hgok.2.2.2.2; omega⟩
                  have ef : wr.cell? ⟨fb, q, none⟩ = some (.int .i64 (f : Int)) := by rw [hfcell q (by rw [fsts_len]; exact hql), fsts_get, hf]
                  have hrow := hls.row q (by rw [mems_len]; exact hql)
                  rw [mems_get, hp] at hrow
                  obtain ⟨rva, rvc, hrv⟩ := own_shape hrow
                  have em : wr.cell? ⟨mb, q, none⟩ = some (.slice rva p.length rvc) := by rw [hmcell q (by rw [mems_len]; exact hql), hrv]
                  have HARR : Hid (Arr wr (fun b => BF ≤ b) (.slice rva p.length rvc) 1 (i64L p)) := by
                    have h1 := arr_own (l := p) (v := xs.getD q undef) (e := 3) hrow
                    rw [hrv] at h1
                    exact h1
                  obtain ⟨rn, hrn⟩ : ∃ rn, p.length = rn := ⟨_, rfl⟩
                  rw [hrn] at em HARR
                  have HRN : Hid (p.length = rn) := hrn
                  clear hrow hrv hfcell hmcell hfv hmv hls hgok hrn
                  have HBFq : Hid (Below wF.heap.size wF wr) := HB9.out.trans (HBq.out.mono HB9.out.size)
                  have er : wr.cell? ⟨RB, 1, none⟩ = some (.slice ova L.length ovc) := HLRLL.out wr HBFq.out
                  obtain ⟨rxs, hro, hrr⟩ := HRESF.out.ext HBFq.out
                  obtain ⟨gq, hgq1, hgq2, hgq3, hgq4⟩ := hrr q hql
                  obtain ⟨ob, hob⟩ : ∃ ob, ova = some ⟨ob, 0, none⟩ := by
                    rcases hro.2 with ⟨_, h1⟩ | ⟨g', cap, cur, h1, _⟩
                    · omega
                    · simp at h1; exact ⟨g', h1.1⟩
                  subst hob
                  have eo : wr.cell? ⟨ob, q, none⟩ = some (.slice (some ⟨gq, 0, none⟩) 7 7) := by
                    have hl : rxs.length = L.length := by have := hro.1; simpa using this
                    have h7 := hro.cells (g := ob) rfl q (rxs.getD q undef) (by rw [List.getD_eq_getElem?_getD, List.getElem?_eq_getElem (by omega)]; rfl)
                    rw [Addr.add_mid, Nat.zero_add] at h7
                    rw [h7, hgq1]
                  have hoblt : ob < wr.heap.size := (hro.lt ob rfl).2
                  have hLRq := HLRF.out.ext HBFq.out
                  have HLRq : Hid (LR wr rb ro n RS) := hLRq
                  obtain ⟨yb, yo, yc, ey, hyb, hyc⟩ := hLRq.rows f (by rw [HM.out]; exact hfk)
                  obtain ⟨vf, hvf⟩ : ∃ v, (RS.getD f []).getD gi V0 = v := ⟨_, rfl⟩
                  have hyr := hyc gi hgin
                  rw [hvf] at hyr
                  have y0 := hyr 0 _ rfl
                  have y1 := hyr 1 _ rfl
                  have y2 := hyr 2 _ rfl
                  have y3 := hyr 3 _ rfl
                  simp only [Nat.add_zero] at y0
                  have HVF : Hid ((RS.getD f []).getD gi V0 = vf) := hvf
                  have HROW : Hid (gq < wr.heap.size ∧ ∀ t, t < 7 → wr.rangeAt gq (t * 4) (rowVal vf p.length (p.map (cellV RS ci)) t).list) := by
                    refine ⟨hgq3, fun t ht => ?_⟩
                    have h1 : wr.rangeAt gq (t * 4) (norm (selVal RS gi ci t (gAt L q).2)).list := hgq4 t ht
                    rw [hp, row_eq HOKS.out gi ci p f HHD.out t, hvf] at h1
                    exact h1
                  have HNVR : Hid (∀ t, t < 7 → NV (rowVal vf p.length (p.map (cellV RS ci)) t)) := fun t _ => NV_row _ _ _ (by rw [← hvf]; exact cell_ok HOKS.out f gi) (cells_NV HOKS.out ci p) t
                  have HLT : Hid (RB < wr.heap.size ∧ ob < wr.heap.size ∧ mb < wr.heap.size ∧ rb < wr.heap.size ∧ yb < wr.heap.size) := ⟨by have h1 := HBFq.out.size; omega, hoblt, hmb2, hLRq.lt, hyb⟩
                  subst hfa
                  subst hma
                  clear hro hrr hgq1 hgq2 hgq3 hgq4 hyc hyr hvf hLRq hf hp hoblt HBFq HLSq
                  have hql' : (q : Int) < L.length := by omega
                  have hq0 : ¬ (q : Int) < 0 := by omega
                  have hfk2 : (f : Int) < k := by omega
                  have hf0 : ¬ (f : Int) < 0 := by omega
                  go_wp2_with fail
                  have HSX : Hid (∀ W, Below wr.heap.size wr W → W.cell? ⟨RB, 1, none⟩ = some (.slice (some ⟨ob, 0, none⟩) L.length ovc) ∧ W.cell? ⟨ob, q, none⟩ = some (.slice (some ⟨gq, 0, none⟩) 7 7) ∧ W.cell? ⟨mb, q, none⟩ = some (.slice rva rn rvc) ∧ W.cell? ⟨rb, ro + f, none⟩ = some (.slice (some ⟨yb, yo, none⟩) n yc) ∧ W.cell? ⟨yb, yo + gi * 4, none⟩ = some (.int .u8 vf.k) ∧ W.cell? ⟨yb, yo + gi * 4 + 1, none⟩ = some (.int .i64 vf.i) ∧ W.cell? ⟨yb, yo + gi * 4 + 2, none⟩ = some (.float .f64 vf.r) ∧ W.cell? ⟨yb, yo + gi * 4 + 3, none⟩ = some (.string vf.s)) := fun W hW => by
                    rw [hW.cell (p := ⟨RB, 1, none⟩) HLT.out.1, hW.cell (p := ⟨ob, q, none⟩) HLT.out.2.1, hW.cell (p := ⟨mb, q, none⟩) HLT.out.2.2.1, hW.cell (p := ⟨rb, ro + f, none⟩) HLT.out.2.2.2.1, hW.cell (p := ⟨yb, yo + gi * 4, none⟩) HLT.out.2.2.2.2, hW.cell (p := ⟨yb, yo + gi * 4 + 1, none⟩) HLT.out.2.2.2.2, hW.cell (p := ⟨yb, yo + gi * 4 + 2, none⟩) HLT.out.2.2.2.2, hW.cell (p := ⟨yb, yo + gi * 4 + 3, none⟩) HLT.out.2.2.2.2]
                    exact ⟨er, eo, em, ey, y0, y1, y2, y3⟩
                  refine wp_region_can (l := [_, _, _, _, _, _, _, _, _, _, _, _, _, _, _, _, _, _, _, _, _]) [(true, 0), (true, 1), (true, 2), (true, 3), (true, 4), (true, 5), (true, 6), (true, 7), (true, 8), (true, 9), (true, 10), (true, 11), (true, 12), (true, 13), (true, 14), (true, 15), (true, 16), (true, 17), (false, 18), (false, 19), (true, 20)] (fun W => W.cell? ⟨RB, 1, none⟩ = some (.slice (some ⟨ob, 0, none⟩) L.length ovc) ∧ W.cell? ⟨ob, q, none⟩ = some (.slice (some ⟨gq, 0, none⟩) 7 7) ∧ W.cell? ⟨mb, q, none⟩ = some (.slice rva rn rvc) ∧ W.cell? ⟨rb, ro + f, none⟩ = some (.slice (some ⟨yb, yo, none⟩) n yc) ∧ W.cell? ⟨yb, yo + gi * 4, none⟩ = some (.int .u8 vf.k) ∧ W.cell? ⟨yb, yo + gi * 4 + 1, none⟩ = some (.int .i64 vf.i) ∧ W.cell? ⟨yb, yo + gi * 4 + 2, none⟩ = some (.float .f64 vf.r) ∧ W.cell? ⟨yb, yo + gi * 4 + 3, none⟩ = some (.string vf.s)) (by kernel_rfl) (by kernel_rfl) (HSX.out _ (Below.refl _ _).drew) ?_
                  clear ef em er eo ey y0 y1 y2 y3
                  repeat (first | ((first | refine wpCan_q (v := ?_) rfl rfl rfl ?_ ?_ | refine wpCan_qg (v := ?_) rfl rfl (by rfl) ?_ ?_); rotate_left; (focus (rintro W ⟨q1, q2, q3, q4, q5, q6, q7, q8⟩; go_simp; first | done | exact rfl)); simp only [Act.put, List.setIfInBounds_toArray, List.set_cons_zero, List.set_cons_succ]) | (refine wpCan_skip rfl rfl (by rfl) ?_; simp only [Act.put, List.setIfInBounds_toArray, List.set_cons_zero, List.set_cons_succ]))
                  refine wpCan_e rfl rfl (fun K hK => ?_)
                  refine wp_call4 call50 rfl rfl rfl rfl rfl ?_
                  have HBd : Hid (Below wr.heap.size wr wr.drew) := (Below.refl _ _).drew
                  have HGRW : Hid (Calls Yaed.prog 50 #[.slice (some ⟨rb, ro, none⟩) k orc, .slice rva rn rvc, vf.val, .int .i64 ci] wr.drew fun r w' => ∃ q, r = .returned (.slice (some ⟨q, 0, none⟩) 7 7) ∧ wr.drew.heap.size ≤ q ∧ q < w'.heap.size ∧ (∀ t, t < 7 → w'.rangeAt q (t * 4) (rowVal vf p.length (p.map (cellV RS ci)) t).list) ∧ Below wr.drew.heap.size wr.drew w') := by
                    have h1 := groupRow_any n ci hcin RS (by rw [HM.out]; exact hm32) rb ro orc p HPK.out.1 HPK.out.2 (.slice rva rn rvc) _ vf wr.drew (HLRq.out.ext HBd.out) (HARR.out.ext HBd.out)
                    rw [HM.out] at h1
                    exact h1
                  refine HGRW.out.mono ?_
                  rintro e w5 ⟨nb, rfl, hnb1, hnb2, hnr, hb5⟩
                  have HB5 : Hid (Below wr.heap.size wr w5) := below_of_drew hb5
                  have HNR : Hid (∀ t, t < 7 → w5.rangeAt nb (t * 4) (rowVal vf p.length (p.map (cellV RS ci)) t).list) := hnr
                  clear hb5 hnr hnb1 HGRW
                  refine ⟨_, rfl, hK _ _ ⟨HSX.out _ HB5.out, ?_⟩⟩
                  clear hK K
                  simp only [Act.put, List.setIfInBounds_toArray, List.set_cons_zero, List.set_cons_succ]
                  refine wpCan_e rfl rfl (fun K hK => ?_)
                  refine wp_call2 call41 rfl rfl rfl ?_
                  refine (sameRow_any 7 (by omega) (rowVal vf p.length (p.map (cellV RS ci))) HNVR.out gq 7 nb 7 w5 (fun t ht => range_ext (HROW.out.2 t ht) HB5.out HROW.out.1) HNR.out).mono ?_
                  rintro e w6 ⟨rfl, hb6⟩
                  have HB6 : Hid (Below wr.heap.size wr w6) := HB5.out.trans (hb6.mono HB5.out.size)
                  clear hb6 HB5
                  refine ⟨_, rfl, hK _ _ ⟨HSX.out _ HB6.out, ?_⟩⟩
                  clear hK K
                  simp only [Act.put, List.setIfInBounds_toArray, List.set_cons_zero, List.set_cons_succ]
                  repeat (first | ((first | refine wpCan_q (v := ?_) rfl rfl rfl ?_ ?_ | refine wpCan_qg (v := ?_) rfl rfl (by rfl) ?_ ?_); rotate_left; (focus (rintro W ⟨q1, q2, q3, q4, q5, q6, q7, q8⟩; go_simp; first | done | exact rfl)); simp only [Act.put, List.setIfInBounds_toArray, List.set_cons_zero, List.set_cons_succ]) | (refine wpCan_skip rfl rfl (by rfl) ?_; simp only [Act.put, List.setIfInBounds_toArray, List.set_cons_zero, List.set_cons_succ]))
                  refine wpCan_nil ?_
                  have HBq6 : Hid (Below wG.heap.size wG w6) := HBq.out.trans (HB6.out.mono HBq.out.size)
                  clear HSX HB6 HBd
                  go_wp2_with fail
                  go_roundw
                  case rel => exact ⟨q + 1, by omega, by go_num, HBq6⟩
                  case measure => simp [intOf]; omega
                · obtain rfl : q = L.length := by omega
                  go_wp2_with fail
                  go_ret
                  refine ⟨rfl, HBWF.out.trans ?_⟩
                  have h1 := HB9.out.trans (HBq.out.mono HB9.out.size)
                  exact h1.mono HBWF.out.size
end Go.Proofs.YgdaegDoor
