import Derived.Test.YgdaegDoorRowid
import Derived.Test.YgdaegDoorTab2
namespace Go.Proofs.YgdaegDoor
open Go.RowKit
set_option linter.unusedSimpArgs false
set_option linter.unusedVariables false
theorem run_field76 (e : Int) (x : Value) (n : Int) (w : World) : (Instr.field 76 (.agg #[.int .u8 e, x, .int .i64 n]) 0).run Yaed.prog w = .ok (.int .u8 e) w := by
  simp [Instr.field, run_underlying Yaed.underlying76, asAgg, part]
attribute [local go_sem] run_field76
theorem fine_dropT : Fine (St.mk0 2 tS) [] [] :=
  ⟨.inr (.inr (.inl rfl)), .inl ⟨rfl, rfl⟩, .inr ⟨rfl, rfl⟩, .inr (.inr ⟨rfl, rfl, rfl, rfl⟩), rfl, .inr (.inr ⟨rfl, rfl, rfl⟩), fun t h => (by cases h), .inr ⟨rfl, rfl⟩, fun t h => (by cases h), by simp, by simp⟩
theorem fine_star : Fine ({ St.mk0 5 tS with star := true } : St) [] [] :=
  ⟨.inr (.inr (.inr (.inr (.inr (.inl rfl))))), .inl ⟨rfl, rfl⟩, .inr ⟨rfl, rfl⟩, .inr (.inl ⟨rfl, rfl⟩), rfl, .inr (.inr ⟨rfl, rfl, rfl⟩), fun t h => (by cases h), .inr ⟨rfl, rfl⟩, fun t h => (by cases h), by simp, by simp⟩
theorem fine_index (cv : Value) : Fine ({ St.mk0 1 tS with index := iS, cols := cv } : St) [] [cname 0] :=
  ⟨.inr (.inl rfl), .inl ⟨rfl, rfl⟩, .inl ⟨rfl, rfl⟩, .inr (.inr ⟨rfl, rfl, rfl, rfl⟩), rfl, .inr (.inl ⟨rfl, by simp, by simp⟩), fun t h => (by rw [List.mem_singleton.1 h]; exact good_cname 0 (by omega)), .inr ⟨rfl, rfl⟩, fun t h => (by cases h), by simp, by simp⟩
theorem fine_dropI : Fine ({ St.mk0 3 eS with index := iS } : St) [] [] :=
  ⟨.inr (.inr (.inr (.inl rfl))), .inr ⟨rfl, rfl⟩, .inl ⟨rfl, rfl⟩, .inr (.inr ⟨rfl, rfl, rfl, rfl⟩), rfl, .inr (.inr ⟨rfl, rfl, rfl⟩), fun t h => (by cases h), .inr ⟨rfl, rfl⟩, fun t h => (by cases h), by simp, by simp⟩
theorem sat_plain {w : World} {ok : Nat → Prop} {ps : Nat} {s : St} (h : StAt w ps s) (ho : ok ps) (h1 : s.tuples = nilS) (h2 : s.arena = nilS) (h3 : s.cols = nilS) (h4 : s.items = nilS) (h5 : s.groups = nilS) : SAt w ok ps s [] [] [] :=
  ⟨h, ho, by rw [h1]; exact Arr2.nil _ _ _, by rw [h2]; exact Arr.nil _ _ _, by rw [h3]; exact Arr.nil _ _ _, h4, h5⟩
theorem sat_index {w : World} {ok : Nat → Prop} {ps : Nat} {cv : Value} {c : ByteArray} (h : StAt w ps ({ St.mk0 1 tS with index := iS, cols := cv } : St)) (ho : ok ps) (hc : Arr w ok cv 3 [colL c]) : SAt w ok ps ({ St.mk0 1 tS with index := iS, cols := cv } : St) [] [] [c] :=
  ⟨h, ho, Arr2.nil _ _ _, Arr.nil _ _ _, hc, rfl, rfl⟩
theorem cutR_facts (n : Nat) (rs : List (List V)) (hn : (rs.getD 0 []).length = n) (h0 : 1 ≤ rs.length) (hok : ∀ v ∈ rs.flatten, v.ok) : 1 ≤ (cutR n rs).length ∧ (cutR n rs).length ≤ 32 ∧ (∀ r ∈ cutR n rs, r.length = n) ∧ ∀ v ∈ (cutR n rs).flatten, v.ok := by
  refine ⟨?_, by rw [cutR, List.length_take]; omega, fun r hr => ?_, fun v hv => ?_⟩
  · cases rs with
    | nil => simp at h0
    | cons r rs =>
      have hn' : r.length = n := by simpa using hn
      simp [cutR, List.filter_cons, hn']
  · have := (List.mem_filter.1 (List.mem_of_mem_take hr)).2
    simpa using this
  · obtain ⟨r, hr, hv'⟩ := List.mem_flatten.1 hv
    exact hok v (List.mem_flatten.2 ⟨r, (List.mem_filter.1 (List.mem_of_mem_take hr)).1, hv'⟩)
set_option maxRecDepth 20000 in
set_option maxHeartbeats 8000000 in
theorem relDrops_any (rs : List (List V)) (hok : ∀ v ∈ rs.flatten, v.ok) (h63 : rs.length ≤ 9223372036854775807) (rv : Value) (w : World) (ok : Nat → Prop) (hrv : Arr2 w ok rv 4 (rowsL rs)) :
    Calls Yaed.prog 14 #[kitV, rv] w fun r w' => r = .returned (.bool true) ∧ Below w.heap.size w w' := by
  have HRV : Hid (Arr2 w ok rv 4 (rowsL rs)) := hrv
  have HOK : Hid (∀ v ∈ rs.flatten, v.ok) := hok
  clear hrv hok
  go_enter Yaed.func14, Yaed.ntmps14
  go_wp2_with fail
  generalize hw0 : World.alloc _ _ = w0
  have HK0 : Hid (w0.cell? ⟨w.heap.size, 0, none⟩ = some (.func (.func 207) #[] #[]) ∧ w0.cell? ⟨w.heap.size, 1, none⟩ = some (.func (.func 39) #[] #[])) := by rw [← hw0]; exact ⟨cell_of_row _ _ 0 _ 27 _ (heap_alloc_new _ _), cell_of_row _ _ 1 _ 27 _ (heap_alloc_new _ _)⟩
  have HB0 : Hid (Below w.heap.size w w0) := by rw [← hw0]; exact below_alloc _ _
  have hs0 : w.heap.size + 1 ≤ w0.heap.size := by rw [← hw0]; simp
  clear hw0
  by_cases hnil : rs = [] ∨ (rs.getD 0 []).length = 0 ∨ 4 < (rs.getD 0 []).length
  · refine (tableRows_nil rv w0 ok rs (HRV.out.ext HB0.out) hnil).mono ?_
    rintro e w1 ⟨rfl, rfl⟩
    go_wp2_with fail
    go_ret
    exact ⟨rfl, HB0.out⟩
  obtain ⟨n, hn⟩ : ∃ n, (rs.getD 0 []).length = n := ⟨_, rfl⟩
  have hn0 : 1 ≤ n := by
    rcases Nat.eq_zero_or_pos n with h | h
    · exact absurd (.inr (.inl (by rw [hn, h]))) hnil
    · exact h
  have hn4 : n ≤ 4 := by
    rcases Nat.lt_or_ge 4 n with h | h
    · exact absurd (.inr (.inr (by rw [hn]; exact h))) hnil
    · exact h
  have hr1 : 1 ≤ rs.length := by
    cases rs with
    | nil => exact absurd (.inl rfl) hnil
    | cons r rs => simp
  refine (tableRows_full rv w0 ok rs (HRV.out.ext HB0.out) n hn hn0 hn4 h63).mono ?_
  rintro e w1 ⟨ov, rfl, hov, hb1⟩
  have hcut := cutR_facts n rs hn hr1 HOK.out
  generalize cutR n rs = RS at *
  have HRS : Hid (1 ≤ RS.length ∧ RS.length ≤ 32 ∧ (∀ r ∈ RS, r.length = n) ∧ ∀ v ∈ RS.flatten, v.ok) := hcut
  have HOV : Hid (Arr2 w1 (fun b => ok b ∨ w0.heap.size ≤ b) ov 4 (rowsL RS)) := hov
  have HB1 : Hid (Below w0.heap.size w0 w1) := hb1
  have hs1 := hb1.size
  obtain ⟨ora, orc, rfl⟩ := hov.shape
  have hlR : (rowsL RS).length = RS.length := by simp [rowsL]
  rw [hlR] at HOV ⊢
  clear hcut hov hb1 hnil hn hr1 HRV HOK hlR
  have k0 : w1.cell? ⟨w.heap.size, 0, none⟩ = some (.func (.func 207) #[] #[]) := by rw [HB1.out.cell (p := ⟨w.heap.size, _, none⟩) (by show w.heap.size < w0.heap.size; omega)]; exact HK0.out.1
  have k1 : w1.cell? ⟨w.heap.size, 1, none⟩ = some (.func (.func 39) #[] #[]) := by rw [HB1.out.cell (p := ⟨w.heap.size, _, none⟩) (by show w.heap.size < w0.heap.size; omega)]; exact HK0.out.2
  go_wp2_with fail
  refine (filled_any n hn0 hn4 RS HRS.out.2.2.1 HRS.out.1 HRS.out.2.1 HRS.out.2.2.2 _ w1 _ HOV.out).mono ?_
  rintro e w2 ⟨bd, bt, tc, cs, ds, rr, rfl, hbd, hbt, hdb2, _, _, _, hb2⟩
  have HDB2 : Hid (DB1 w2 bd bt tc ⟨tS, cs, nilSl, ds, rr⟩) := hdb2
  have HB2 : Hid (Below w1.heap.size w1 w2) := hb2
  have hs2 := hb2.size
  have hbd2 := hdb2.lt
  have hbt2 := hdb2.lt'
  clear hdb2 hb2 k0 k1
  go_wp2_with fail
  refine (stmt_any 2 tS w2).mono ?_
  rintro e w3 ⟨rfl, hb3⟩
  have HB3 : Hid (Below w2.heap.size w2 w3) := hb3
  have hs3 := hb3.size
  clear hb3
  go_wp2_with fail
  refine (starStmt_any w3).mono ?_
  rintro e w4 ⟨rfl, hb4⟩
  have HB4 : Hid (Below w3.heap.size w3 w4) := hb4
  have hs4 := hb4.size
  clear hb4
  go_wp2_with fail
  refine (createStmt_any n hn0 hn4 w4).mono ?_
  rintro e w5 ⟨cv, rfl, hcv, hb5⟩
  obtain ⟨ca, cc, rfl, _⟩ := hcv.shape
  generalize (colsL n).length = cl at *
  have HB5 : Hid (Below w4.heap.size w4 w5) := hb5
  have HCV5 : Hid (Arr w5 (fun b => w4.heap.size ≤ b) (.slice ca cl cc) 3 (colsL n)) := hcv
  have hs5 := hb5.size
  clear hb5 hcv
  unfold St.mk0 St.val St.arr
  go_wp2_with (refine wpList_put (ty := 38) (g := w5.heap.size) rfl rfl rfl rfl size38 (by kernel_rfl) ⟨_, (heap_old (by simp; omega)).trans ((heap_old (by simp)).trans (heap_alloc_new w5 _)), rfl⟩ ?_)
  intro w6 h6 k6 s6
  have HA6 : Hid (StAt w6 w5.heap.size (St.mk0 2 tS)) := h6
  have hk6 : Keep (fun k => k ≠ w5.heap.size) _ w6 := k6
  have HZ6 : Hid ((∃ z, w6.heap[w5.heap.size + 1]? = some (.cells z 38 (0, 0)) ∧ z.size = 19) ∧ ∃ z, w6.heap[w5.heap.size + 1 + 1]? = some (.cells z 38 (0, 0)) ∧ z.size = 19) :=
    ⟨⟨_, (hk6.block _ (by show w5.heap.size + 1 ≠ w5.heap.size; omega)).trans ((heap_old (by simp)).trans (heap_new (by simp))), rfl⟩, ⟨_, (hk6.block _ (by show w5.heap.size + 1 + 1 ≠ w5.heap.size; omega)).trans (heap_new (by simp)), rfl⟩⟩
  have HB6 : Hid (Below w5.heap.size w5 w6) := ((below_alloc w5 _).trans ((below_alloc _ _).mono (by simp))).trans (((below_alloc _ _).mono (by simp; omega)).trans (hk6.below (fun k hk => by show k ≠ w5.heap.size; omega)))
  have hs6 : w5.heap.size + 3 ≤ w6.heap.size := by have := hk6.size; simp at this; omega
  clear h6 k6 s6 hk6
  go_wp2_with (refine wpList_put (ty := 38) (g := w5.heap.size + 1) rfl rfl rfl rfl size38 (by kernel_rfl) HZ6.out.1 ?_)
  intro w7 h7 k7 s7
  have HB7 : Hid (StAt w7 (w5.heap.size + 1) ({ St.mk0 5 tS with star := true } : St)) := h7
  have HK7 : Hid (Keep (fun k => k ≠ w5.heap.size + 1) w6 w7) := k7
  have hs7 : w6.heap.size ≤ w7.heap.size := k7.size
  clear h7 k7 s7
  go_wp2_with (refine wpList_put (ty := 38) (g := w5.heap.size + 1 + 1) rfl rfl rfl rfl size38 (by kernel_rfl) (by obtain ⟨z, h1, h2⟩ := HZ6.out.2; exact ⟨z, (HK7.out.block _ (by show w5.heap.size + 1 + 1 ≠ w5.heap.size + 1; omega)).trans h1, h2⟩) ?_)
  intro w8 h8 k8 s8
  have hk8 : Keep (fun k => k ≠ w5.heap.size + 1 + 1) w7 w8 := k8
  have HS8 : Hid (StAt w8 w5.heap.size (St.mk0 2 tS) ∧ StAt w8 (w5.heap.size + 1) ({ St.mk0 5 tS with star := true } : St) ∧ StAt w8 (w5.heap.size + 1 + 1) ({ St.mk0 0 tS with cols := .slice ca cl cc } : St)) :=
    ⟨(HA6.out.keep HK7.out (by show w5.heap.size ≠ w5.heap.size + 1; omega)).keep hk8 (by show w5.heap.size ≠ w5.heap.size + 1 + 1; omega), HB7.out.keep hk8 (by show w5.heap.size + 1 ≠ w5.heap.size + 1 + 1; omega), h8⟩
  have HB58 : Hid (Below w5.heap.size w5 w8) := HB6.out.trans ((HK7.out.below (fun k hk => by show k ≠ w5.heap.size + 1; omega)).trans (hk8.below (fun k hk => by show k ≠ w5.heap.size + 1 + 1; omega)))
  have hs8 : w5.heap.size + 3 ≤ w8.heap.size := by have := hk8.size; omega
  clear h8 k8 s8 hk8 HA6 HB7 HK7 HZ6 HB6
  have HB28 : Hid (Below w2.heap.size w2 w8) := HB3.out.trans ((HB4.out.mono (by omega)).trans ((HB5.out.mono (by omega)).trans (HB58.out.mono (by omega))))
  have HB08 : Hid (Below w0.heap.size w0 w8) := HB1.out.trans ((HB2.out.mono (by omega)).trans (HB28.out.mono (by omega)))
  have HCV8 : Hid (Arr w8 (fun b => w2.heap.size ≤ b ∧ b < w8.heap.size) (.slice ca cl cc) 3 (colsL n)) := (HCV5.out.inb.mono (fun b hb => ⟨by omega, by omega⟩)).ext HB58.out
  have HKC : Hid (∀ W, Keep (fun k => k < w2.heap.size ∧ k ≠ bd ∧ k ≠ bt) w8 W → W.cell? ⟨w.heap.size, 0, none⟩ = some (.func (.func 207) #[] #[]) ∧ W.cell? ⟨w.heap.size, 1, none⟩ = some (.func (.func 39) #[] #[])) := by
    intro W hW
    rw [hW.cell (p := ⟨w.heap.size, 0, none⟩) ⟨by show w.heap.size < w2.heap.size; omega, by show w.heap.size ≠ bd; omega, by show w.heap.size ≠ bt; omega⟩, hW.cell (p := ⟨w.heap.size, 1, none⟩) ⟨by show w.heap.size < w2.heap.size; omega, by show w.heap.size ≠ bd; omega, by show w.heap.size ≠ bt; omega⟩, HB08.out.cell (p := ⟨w.heap.size, 0, none⟩) (by show w.heap.size < w0.heap.size; omega), HB08.out.cell (p := ⟨w.heap.size, 1, none⟩) (by show w.heap.size < w0.heap.size; omega)]
    exact HK0.out
  have kc := (HKC.out w8 Keep.refl).1
  go_wp2_with fail
  refine (exec_dropT (ok := fun _ => True) (sat_plain HS8.out.1 trivial rfl rfl rfl rfl rfl) fine_dropT rfl rfl rfl (HDB2.out.ext HB28.out) (by omega)).mono ?_
  rintro e w9 ⟨rfl, hdb9, hk9⟩
  have HDB9 : Hid (DB0 w9 bd) := hdb9
  have HK9 : Hid (Keep (fun k => k < w8.heap.size ∧ k ≠ bd) w8 w9) := hk9
  have hs9 := hk9.size
  clear hdb9 hk9 kc
  unfold resV
  go_wp2_with (refine wpList_put (ty := 76) (g := w9.heap.size) rfl rfl rfl rfl size76 (by kernel_rfl) ⟨_, heap_alloc_new w9 _, rfl⟩ ?_)
  intro w10 hp kp sp
  have HB10 : Hid (Below w9.heap.size w9 w10) := (below_alloc w9 _).trans (kp.below (fun k hk => by show k ≠ w9.heap.size; omega))
  have hs10 : w9.heap.size + 1 ≤ w10.heap.size := by have := kp.size; simp at this; omega
  have c0 : w10.cell? ⟨w9.heap.size, 0, none⟩ = some (.int .u8 0) := cell_of_row w10 _ 0 _ _ _ hp
  have c1 : w10.cell? ⟨w9.heap.size, 1, none⟩ = some (.slice none 0 0) := cell_of_row w10 _ 1 _ _ _ hp
  have c2 : w10.cell? ⟨w9.heap.size, 2, none⟩ = some (.int .i64 0) := cell_of_row w10 _ 2 _ _ _ hp
  clear hp kp sp
  go_wp2_with fail
  clear c0 c1 c2
  refine (dump_empty bd w10 (HDB9.out.ext HB10.out)).mono ?_
  rintro e w11 ⟨rfl, hb11⟩
  have HB11 : Hid (Below w10.heap.size w10 w11) := hb11
  have hs11 := hb11.size
  clear hb11
  have HK11 : Hid (Keep (fun k => k < w8.heap.size ∧ k ≠ bd) w8 w11) := HK9.out.trans ((Keep.of_below HB10.out (fun k hk => by omega)).trans (Keep.of_below HB11.out (fun k hk => by omega)))
  have kc := (HKC.out w11 (HK11.out.mono (fun k hk => ⟨by omega, hk.2.1⟩))).1
  go_wp2_with fail
  refine (exec_star0 (ok := fun _ => True) (sat_plain (HS8.out.2.1.keep HK11.out ⟨by omega, by omega⟩) trivial rfl rfl rfl rfl rfl) fine_star rfl rfl ((HDB9.out.ext HB10.out).ext HB11.out)).mono ?_
  rintro e w12 ⟨rfl, hb12⟩
  have HB12 : Hid (Below w11.heap.size w11 w12) := hb12
  have hs12 := hb12.size
  clear hb12 kc
  unfold resV
  go_wp2_with (refine wpList_put (ty := 76) (g := w12.heap.size) rfl rfl rfl rfl size76 (by kernel_rfl) ⟨_, heap_alloc_new w12 _, rfl⟩ ?_)
  intro w13 hp kp sp
  have HB13 : Hid (Below w12.heap.size w12 w13) := (below_alloc w12 _).trans (kp.below (fun k hk => by show k ≠ w12.heap.size; omega))
  have hs13 : w12.heap.size + 1 ≤ w13.heap.size := by have := kp.size; simp at this; omega
  have c0 : w13.cell? ⟨w12.heap.size, 0, none⟩ = some (.int .u8 3) := cell_of_row w13 _ 0 _ _ _ hp
  have c1 : w13.cell? ⟨w12.heap.size, 1, none⟩ = some (.slice none 0 0) := cell_of_row w13 _ 1 _ _ _ hp
  have c2 : w13.cell? ⟨w12.heap.size, 2, none⟩ = some (.int .i64 0) := cell_of_row w13 _ 2 _ _ _ hp
  clear hp kp sp
  have HK13 : Hid (Keep (fun k => k < w8.heap.size ∧ k ≠ bd) w8 w13) := HK11.out.trans ((Keep.of_below HB12.out (fun k hk => by omega)).trans (Keep.of_below HB13.out (fun k hk => by omega)))
  have HDB13 : Hid (DB0 w13 bd) := (((HDB9.out.ext HB10.out).ext HB11.out).ext HB12.out).ext HB13.out
  have kc := (HKC.out w13 (HK13.out.mono (fun k hk => ⟨by omega, hk.2.1⟩))).1
  go_wp2_with fail
  clear c0 c1 c2
  refine (exec_create (ok := fun b => b < w8.heap.size ∧ b ≠ bd) (sat_create (HS8.out.2.2.keep HK13.out ⟨by omega, by omega⟩) ⟨by omega, by omega⟩ ((HCV8.out.keep HK13.out (fun b hb => ⟨hb.2, by omega⟩)).mono (fun b hb => ⟨hb.2, by omega⟩))) (fine_create n hn0 hn4 _) rfl rfl (nsN_dist n hn4) (by rw [nsN_len]; exact hn4) HDB13.out).mono ?_
  rintro e w14 ⟨bt2, tc2, cs2, rfl, hdb14, hcs14, hbt2, hk14⟩
  have HDB14 : Hid (DB1 w14 bd bt2 tc2 ⟨tS, cs2, nilSl, nilSl, nilSl⟩) := hdb14
  have HCS14 : Hid (Arr w14 (fun b => w13.heap.size ≤ b ∧ b < bt2) cs2.v 3 ((nsN n).map colL)) := hcs14
  have HK14 : Hid (Keep (fun k => k < w13.heap.size ∧ k ≠ bd) w13 w14) := hk14
  have hs14 := hk14.size
  have hbl14 := hdb14.lt'
  clear hdb14 hcs14 hk14 kc
  unfold resV
  go_wp2_with (refine wpList_put (ty := 76) (g := w14.heap.size) rfl rfl rfl rfl size76 (by kernel_rfl) ⟨_, heap_alloc_new w14 _, rfl⟩ ?_)
  intro w15 hp kp sp
  have HB15 : Hid (Below w14.heap.size w14 w15) := (below_alloc w14 _).trans (kp.below (fun k hk => by show k ≠ w14.heap.size; omega))
  have hs15 : w14.heap.size + 1 ≤ w15.heap.size := by have := kp.size; simp at this; omega
  have c0 : w15.cell? ⟨w14.heap.size, 0, none⟩ = some (.int .u8 0) := cell_of_row w15 _ 0 _ _ _ hp
  have c1 : w15.cell? ⟨w14.heap.size, 1, none⟩ = some (.slice none 0 0) := cell_of_row w15 _ 1 _ _ _ hp
  have c2 : w15.cell? ⟨w14.heap.size, 2, none⟩ = some (.int .i64 0) := cell_of_row w15 _ 2 _ _ _ hp
  clear hp kp sp
  have HK15 : Hid (Keep (fun k => k < w8.heap.size ∧ k ≠ bd) w8 w15) := HK13.out.trans ((HK14.out.mono (fun k hk => ⟨by omega, hk.2⟩)).trans (Keep.of_below HB15.out (fun k hk => by omega)))
  have kc := (HKC.out w15 (HK15.out.mono (fun k hk => ⟨by omega, hk.2.1⟩))).1
  go_wp2_with fail
  clear c0 c1 c2
  refine (exec_star1 (ok := fun _ => True) (sat_plain (HS8.out.2.1.keep HK15.out ⟨by omega, by omega⟩) trivial rfl rfl rfl rfl rfl) fine_star rfl rfl (HDB14.out.ext HB15.out) rfl rfl).mono ?_
  rintro e w16 ⟨rfl, hb16⟩
  have HB16 : Hid (Below w15.heap.size w15 w16) := hb16
  have hs16 := hb16.size
  clear hb16 kc
  unfold resV
  go_wp2_with (refine wpList_put (ty := 76) (g := w16.heap.size) rfl rfl rfl rfl size76 (by kernel_rfl) ⟨_, heap_alloc_new w16 _, rfl⟩ ?_)
  intro w17 hp kp sp
  have HB17 : Hid (Below w16.heap.size w16 w17) := (below_alloc w16 _).trans (kp.below (fun k hk => by show k ≠ w16.heap.size; omega))
  have hs17 : w16.heap.size + 1 ≤ w17.heap.size := by have := kp.size; simp at this; omega
  have c0 : w17.cell? ⟨w16.heap.size, 0, none⟩ = some (.int .u8 0) := cell_of_row w17 _ 0 _ _ _ hp
  have c1 : w17.cell? ⟨w16.heap.size, 1, none⟩ = some (.slice none 0 0) := cell_of_row w17 _ 1 _ _ _ hp
  have c2 : w17.cell? ⟨w16.heap.size, 2, none⟩ = some (.int .i64 0) := cell_of_row w17 _ 2 _ _ _ hp
  clear hp kp sp
  have HB1417 : Hid (Below w14.heap.size w14 w17) := HB15.out.trans ((HB16.out.mono (by omega)).trans (HB17.out.mono (by omega)))
  have HK17 : Hid (Keep (fun k => k < w8.heap.size ∧ k ≠ bd) w8 w17) := HK15.out.trans ((Keep.of_below HB16.out (fun k hk => by omega)).trans (Keep.of_below HB17.out (fun k hk => by omega)))
  go_wp2_with fail
  clear c0 c1 c2
  refine (dump_one bd bt2 tc2 _ (nsN n) [] [] w17 (fun _ => True) (HDB14.out.ext HB1417.out) ((HCS14.out.ext HB1417.out).mono (fun _ _ => trivial)) (Arr.nil _ _ _) (Arr.nil _ _ _) (Arr2.nil _ _ _) (by rw [nsN_len]; exact hn4) (by simp) (by simp) (by simp)).mono ?_
  rintro e w18 ⟨g8, cap8, cs8, ds8, rv8, rfl, ha8, hd8, hr8, hb18⟩
  have HB18 : Hid (Below w17.heap.size w17 w18) := hb18
  have hs18 := hb18.size
  obtain ⟨q0, q2, q3, q4⟩ : w18.cell? ⟨g8, 0, none⟩ = some (.string tS) ∧ w18.cell? ⟨g8, 2, none⟩ = some nilS ∧ w18.cell? ⟨g8, 3, none⟩ = some (.slice ds8.a 0 ds8.c) ∧ w18.cell? ⟨g8, 4, none⟩ = some (.slice rv8.a 0 rv8.c) := by
    obtain ⟨a, c', he, _, hcell⟩ := ha8
    obtain ⟨rfl, _⟩ : some ⟨g8, 0, none⟩ = a ∧ cap8 = c' := by simpa using he
    obtain ⟨b, o, e, _, _, hcc⟩ := hcell 0 (by simp)
    obtain ⟨rfl, rfl⟩ : g8 = b ∧ 0 = o := by simpa using e
    have hdn : ds8.n = 0 := by
      obtain ⟨a2, c2, he2, _⟩ := hd8
      simp [Sl.v, idsL] at he2
      exact he2.2.1
    have hrn : rv8.n = 0 := by simpa using hr8
    have h3 := hcc 3 (by omega)
    have h4 := hcc 4 (by omega)
    refine ⟨hcc 0 (by omega), hcc 2 (by omega), ?_, ?_⟩
    · rw [← hdn]; exact h3
    · rw [← hrn]; exact h4
  clear ha8 hd8 hr8 hb18
  unfold tS at q0
  go_wp2_with fail
  clear q0 q2 q3 q4
  refine (colName_any 0 (by omega) w18).mono ?_
  rintro e w18' ⟨rfl, rfl⟩
  go_wp2_with fail
  refine (mkIndex_any iS tS (cname 0) w18').mono ?_
  rintro e w19 ⟨cv2, rfl, hcv2, hb19⟩
  obtain ⟨ia, ic, rfl, _⟩ := hcv2.shape
  have HB19 : Hid (Below w18'.heap.size w18' w19) := hb19
  have HCV19 : Hid (Arr w19 (fun b => w18'.heap.size ≤ b) (.slice ia 1 ic) 3 [colL (cname 0)]) := hcv2
  have hs19 := hb19.size
  clear hb19 hcv2
  go_wp2_with fail
  refine (mkDropIndex_any iS w19).mono ?_
  rintro e w20 ⟨rfl, hb20⟩
  have HB20 : Hid (Below w19.heap.size w19 w20) := hb20
  have hs20 := hb20.size
  clear hb20
  unfold St.mk0 St.val St.arr
  go_wp2_with (refine wpList_put (ty := 38) (g := w20.heap.size) rfl rfl rfl rfl size38 (by kernel_rfl) ⟨_, (heap_old (by simp)).trans (heap_alloc_new w20 _), rfl⟩ ?_)
  intro w21 h21 k21 s21
  have HI21 : Hid (StAt w21 w20.heap.size ({ St.mk0 1 tS with index := iS, cols := .slice ia 1 ic } : St)) := h21
  have hk21 : Keep (fun k => k ≠ w20.heap.size) _ w21 := k21
  have HZ21 : Hid (∃ z, w21.heap[w20.heap.size + 1]? = some (.cells z 38 (0, 0)) ∧ z.size = 19) := ⟨_, (hk21.block _ (by show w20.heap.size + 1 ≠ w20.heap.size; omega)).trans (heap_new (by simp)), rfl⟩
  have HB21 : Hid (Below w20.heap.size w20 w21) := ((below_alloc w20 _).trans ((below_alloc _ _).mono (by simp))).trans (hk21.below (fun k hk => by show k ≠ w20.heap.size; omega))
  have hs21 : w20.heap.size + 2 ≤ w21.heap.size := by have := hk21.size; simp at this; omega
  clear h21 k21 s21 hk21
  go_wp2_with (refine wpList_put (ty := 38) (g := w20.heap.size + 1) rfl rfl rfl rfl size38 (by kernel_rfl) HZ21.out ?_)
  intro w22 h22 k22 s22
  have hk22 : Keep (fun k => k ≠ w20.heap.size + 1) w21 w22 := k22
  have HS22 : Hid (StAt w22 w20.heap.size ({ St.mk0 1 tS with index := iS, cols := .slice ia 1 ic } : St) ∧ StAt w22 (w20.heap.size + 1) ({ St.mk0 3 eS with index := iS } : St)) := ⟨HI21.out.keep hk22 (by show w20.heap.size ≠ w20.heap.size + 1; omega), h22⟩
  have HB22 : Hid (Below w20.heap.size w20 w22) := HB21.out.trans (hk22.below (fun k hk => by show k ≠ w20.heap.size + 1; omega))
  have hs22 : w20.heap.size + 2 ≤ w22.heap.size := by have := hk22.size; omega
  clear h22 k22 s22 hk22 HI21 HZ21 HB21
  go_wp2_with fail
  generalize hw23 : World.alloc _ _ = w23
  have hp23 : w23.heap[w22.heap.size]? = some (.cells #[.pointer (some ⟨w20.heap.size, 0, none⟩), .pointer (some ⟨w20.heap.size + 1, 0, none⟩), .pointer (some ⟨w20.heap.size, 0, none⟩)] 77 (0, 0)) := by rw [← hw23]; exact heap_alloc_new _ _
  have HP23 : Hid (w23.cell? ⟨w22.heap.size, 0, none⟩ = some (.pointer (some ⟨w20.heap.size, 0, none⟩)) ∧ w23.cell? ⟨w22.heap.size, 1, none⟩ = some (.pointer (some ⟨w20.heap.size + 1, 0, none⟩)) ∧ w23.cell? ⟨w22.heap.size, 2, none⟩ = some (.pointer (some ⟨w20.heap.size, 0, none⟩))) :=
    ⟨cell_of_row w23 _ 0 _ _ _ hp23, cell_of_row w23 _ 1 _ _ _ hp23, cell_of_row w23 _ 2 _ _ _ hp23⟩
  have HB23 : Hid (Below w22.heap.size w22 w23) := by rw [← hw23]; exact below_alloc _ _
  have hs23 : w22.heap.size + 1 ≤ w23.heap.size := by rw [← hw23]; simp
  clear hw23 hp23
  have HB1723 : Hid (Below w17.heap.size w17 w23) := HB18.out.trans ((HB19.out.mono (by omega)).trans ((HB20.out.mono (by omega)).trans ((HB22.out.mono (by omega)).trans (HB23.out.mono (by omega)))))
  have HB1423 : Hid (Below w14.heap.size w14 w23) := HB1417.out.trans (HB1723.out.mono (by omega))
  have HK23 : Hid (Keep (fun k => k < w8.heap.size ∧ k ≠ bd) w8 w23) := HK17.out.trans (Keep.of_below HB1723.out (fun k hk => by omega))
  have HCV23 : Hid (Arr w23 (fun b => w18'.heap.size ≤ b ∧ b < w23.heap.size) (.slice ia 1 ic) 3 [colL (cname 0)]) := ((((HCV19.out.inb.mono (ok' := fun b => w18'.heap.size ≤ b ∧ b < w23.heap.size) (fun b hb => ⟨hb.1, by omega⟩)).ext HB20.out).ext HB22.out).ext HB23.out)
  have HCS23 : Hid (Arr w23 (fun b => w13.heap.size ≤ b ∧ b < bt2) cs2.v 3 ((nsN n).map colL)) := HCS14.out.ext HB1423.out
  have HS23 : Hid (StAt w23 w20.heap.size ({ St.mk0 1 tS with index := iS, cols := .slice ia 1 ic } : St) ∧ StAt w23 (w20.heap.size + 1) ({ St.mk0 3 eS with index := iS } : St)) := ⟨HS22.out.1.ext HB23.out, HS22.out.2.ext HB23.out⟩
  clear HS22 HCV19
  refine wp_loop_rounds 4 ?_
  rw [rounds_succ]
  have p0 := HP23.out.1
  have kc := (HKC.out w23 (HK23.out.mono (fun k hk => ⟨by omega, hk.2.1⟩))).1
  go_wp2_with fail
  refine (exec_index (okc := fun b => w13.heap.size ≤ b ∧ b < bt2) (ok := fun b => w18'.heap.size ≤ b ∧ b < w23.heap.size) (cns := nsN n) (sat_index HS23.out.1 ⟨by omega, by omega⟩ HCV23.out) (fine_index _) rfl rfl (nsN_get (by omega)) (by rw [nsN_len]; omega) (by rw [nsN_len]; exact hn4) (HDB14.out.ext HB1423.out) rfl HCS23.out rfl rfl).mono ?_
  rintro e w24 ⟨g1, gc1, rfl, hdb24, hix24, hgc1, hg1, hg1', hk24⟩
  have HDB24 : Hid (DB1 w24 bd bt2 tc2 ⟨tS, cs2, ⟨some ⟨g1, 0, none⟩, 1, gc1⟩, nilSl, nilSl⟩) := hdb24
  have HIX24 : Hid (w24.cell? ⟨g1, 0, none⟩ = some (.string iS)) := by
    obtain ⟨a, c', he, _, hcell⟩ := hix24
    obtain ⟨rfl, _⟩ : some ⟨g1, 0, none⟩ = a ∧ gc1 = c' := by simpa using he
    obtain ⟨b, o, e, _, _, hcc⟩ := hcell 0 (by simp)
    obtain ⟨rfl, rfl⟩ : g1 = b ∧ 0 = o := by simpa using e
    exact hcc 0 (by omega)
  have HK24 : Hid (Keep (fun k => k < w23.heap.size ∧ k ≠ bd ∧ k ≠ bt2) w23 w24) := hk24
  have hs24 := hk24.size
  clear hdb24 hix24 hk24 p0 kc
  unfold resV
  go_wp2_with fail
  rw [rounds_succ]
  have p1 : w24.cell? ⟨w22.heap.size, 1, none⟩ = some (.pointer (some ⟨w20.heap.size + 1, 0, none⟩)) := by rw [HK24.out.cell (p := ⟨w22.heap.size, _, none⟩) ⟨by show w22.heap.size < w23.heap.size; omega, by show w22.heap.size ≠ bd; omega, by show w22.heap.size ≠ bt2; omega⟩]; exact HP23.out.2.1
  have kc := (HKC.out w24 ((HK23.out.mono (fun k hk => ⟨by omega, hk.2.1⟩)).trans (HK24.out.mono (fun k hk => ⟨by omega, hk.2.1, by omega⟩)))).1
  go_wp2_with fail
  refine (exec_dropI (ok := fun _ => True) (sat_plain (HS23.out.2.keep HK24.out ⟨by omega, by omega, by omega⟩) trivial rfl rfl rfl rfl rfl) fine_dropI rfl rfl HDB24.out rfl rfl hgc1 HIX24.out hg1' (by omega)).mono ?_
  rintro e w25 ⟨rfl, hdb25, hk25⟩
  have HDB25 : Hid (DB1 w25 bd bt2 tc2 ⟨tS, cs2, ⟨some ⟨g1, 0, none⟩, 0, 0⟩, nilSl, nilSl⟩) := hdb25
  have HK25 : Hid (Keep (fun k => k < w23.heap.size ∧ k ≠ bd ∧ k ≠ bt2) w23 w25) := HK24.out.trans (hk25.mono (fun k hk => ⟨by omega, hk.2⟩))
  have hs25 := hk25.size
  clear hdb25 hk25 p1 kc
  unfold resV
  go_wp2_with fail
  rw [rounds_succ]
  have p2 : w25.cell? ⟨w22.heap.size, 2, none⟩ = some (.pointer (some ⟨w20.heap.size, 0, none⟩)) := by rw [HK25.out.cell (p := ⟨w22.heap.size, _, none⟩) ⟨by show w22.heap.size < w23.heap.size; omega, by show w22.heap.size ≠ bd; omega, by show w22.heap.size ≠ bt2; omega⟩]; exact HP23.out.2.2
  have kc := (HKC.out w25 ((HK23.out.mono (fun k hk => ⟨by omega, hk.2.1⟩)).trans (HK25.out.mono (fun k hk => ⟨by omega, hk.2.1, by omega⟩)))).1
  go_wp2_with fail
  refine (exec_index (okc := fun b => w13.heap.size ≤ b ∧ b < bt2) (ok := fun b => w18'.heap.size ≤ b ∧ b < w23.heap.size) (cns := nsN n) (sat_index (HS23.out.1.keep HK25.out ⟨by omega, by omega, by omega⟩) ⟨by omega, by omega⟩ (HCV23.out.keep HK25.out (fun b hb => ⟨hb.2, by omega, by omega⟩))) (fine_index _) rfl rfl (nsN_get (by omega)) (by rw [nsN_len]; omega) (by rw [nsN_len]; exact hn4) HDB25.out rfl (HCS23.out.keep HK25.out (fun b hb => ⟨by omega, by omega, by omega⟩)) rfl rfl).mono ?_
  rintro e w26 ⟨g2, gc2, rfl, hdb26, hix26, hgc2, hg2, hg2', hk26⟩
  have HDB26 : Hid (DB1 w26 bd bt2 tc2 ⟨tS, cs2, ⟨some ⟨g2, 0, none⟩, 1, gc2⟩, nilSl, nilSl⟩) := hdb26
  have HIX26 : Hid (Arr w26 (fun b => w25.heap.size ≤ b) (.slice (some ⟨g2, 0, none⟩) 1 gc2) 4 [ixL iS (cname 0)]) := hix26
  have HK26 : Hid (Keep (fun k => k < w23.heap.size ∧ k ≠ bd ∧ k ≠ bt2) w23 w26) := HK25.out.trans (hk26.mono (fun k hk => ⟨by omega, hk.2⟩))
  have hs26 := hk26.size
  have HCS26 : Hid (Arr w26 (fun b => w13.heap.size ≤ b ∧ b < bt2) cs2.v 3 ((nsN n).map colL)) := HCS23.out.keep HK26.out (fun b hb => ⟨by omega, by omega, by omega⟩)
  clear hdb26 hix26 hk26 p2 kc
  unfold resV
  go_wp2_with fail
  rw [rounds_succ]
  go_wp2_with fail
  refine (dump_ix bd bt2 tc2 _ (cname 0) (nsN n) [] [] w26 (fun _ => True) HDB26.out (HCS26.out.mono (fun _ _ => trivial)) (HIX26.out.mono (fun _ _ => trivial)) (Arr.nil _ _ _) (Arr2.nil _ _ _) (by rw [nsN_len]; exact hn4) (by simp) (by simp) (by simp)).mono ?_
  rintro e w27 ⟨g9, cap9, cs9, gi9, ci9, ds9, rv9, rfl, ha9, hi9, _, _, hb27⟩
  have HB27 : Hid (Below w26.heap.size w26 w27) := hb27
  have hs27 := hb27.size
  have q2 : w27.cell? ⟨g9, 2, none⟩ = some (.slice (some ⟨gi9, 0, none⟩) 1 ci9) := by
    obtain ⟨a, c', he, _, hcell⟩ := ha9
    obtain ⟨rfl, _⟩ : some ⟨g9, 0, none⟩ = a ∧ cap9 = c' := by simpa using he
    obtain ⟨b, o, e, _, _, hcc⟩ := hcell 0 (by simp)
    obtain ⟨rfl, rfl⟩ : g9 = b ∧ 0 = o := by simpa using e
    exact hcc 2 (by omega)
  unfold iS at hi9
  clear ha9 hb27
  have HKW27 : Hid (Keep (fun k => k < w8.heap.size ∧ k ≠ bd ∧ k ≠ bt2) w8 w27) := (HK23.out.mono (fun k hk => ⟨hk.1, hk.2.1⟩)).trans ((HK26.out.mono (fun k hk => ⟨by omega, hk.2⟩)).trans (Keep.of_below HB27.out (fun k hk => by omega)))
  have HBW : Hid (Below w.heap.size w w27) := (HB0.out.trans (HB08.out.mono (by omega))).trans (HKW27.out.below (fun k hk => ⟨by omega, by omega, by omega⟩))
  have kc := HKC.out w27 (HKW27.out.mono (fun k hk => ⟨by omega, hk.2.1, by omega⟩))
  obtain ⟨kc0, kc1⟩ := kc
  by_cases h2 : RS.length < 2
  · have h2i : (RS.length : Int) < 2 := by omega
    go_wp2_with fail
    go_ret
    exact ⟨rfl, HBW.out⟩
  · have h2i : ¬ (RS.length : Int) < 2 := by omega
    obtain ⟨q, hq⟩ : ∃ q, RS.length = q + 2 := ⟨RS.length - 2, by omega⟩
    go_wp2_with fail
    refine (rowid_any n hn0 hn4 RS HRS.out.2.2.1 q hq (by have := HRS.out.2.1; omega) HRS.out.2.2.2 _ w27 (fun b => b < w1.heap.size) (fun b => (w13.heap.size ≤ b ∧ b < bt2) ∨ w25.heap.size ≤ b) ?_ bd bt2 tc2 g2 gc2 (fun b hb => ⟨by omega, by omega⟩) cs2 (cname 0) (HDB26.out.ext HB27.out) ((HCS26.out.ext HB27.out).mono (fun b hb => .inl hb)) ((HIX26.out.ext HB27.out).mono (fun b hb => .inr hb)) (fun b hb => by rcases hb with hb | hb <;> omega)).mono ?_
    · have h := ((((HOV.out.inb.mono (ok' := fun b => b < w1.heap.size) (fun b hb => hb.2)).ext HB2.out).ext HB28.out).keep HKW27.out (fun b hb => ⟨by omega, by omega, by omega⟩))
      rw [hq] at h
      exact h
    rintro e w28 ⟨rfl, hk28⟩
    have HB28' : Hid (Below w.heap.size w w28) := HBW.out.trans (hk28.below (fun k hk => ⟨by omega, by omega, by omega⟩))
    clear hk28
    go_wp2_with fail
    go_ret
    exact ⟨rfl, HB28'.out⟩
end Go.Proofs.YgdaegDoor
