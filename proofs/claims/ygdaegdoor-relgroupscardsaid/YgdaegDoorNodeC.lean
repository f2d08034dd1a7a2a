import Derived.Test.YgdaegDoorEval2
import Derived.Test.YgdaegDoorDb2
namespace Go.Proofs.YgdaegDoor
open Go.RowKit
set_option linter.unusedSimpArgs false
set_option linter.unusedVariables false
theorem cells4' {w : World} {b o : Nat} {v : V} (h : w.rangeAt b o v.list) : w.cell? ⟨b, o, none⟩ = some (.int .u8 v.k) ∧ w.cell? ⟨b, o + 1, none⟩ = some (.int .i64 v.i) ∧ w.cell? ⟨b, o + 2, none⟩ = some (.float .f64 v.r) ∧ w.cell? ⟨b, o + 3, none⟩ = some (.string v.s) := cells4 h
set_option maxRecDepth 20000 in
set_option maxHeartbeats 8000000 in
theorem node_col (e : E) (va vb v : V) (b o n cap i : Nat) (hin : i < n) (vsv cv : Value) (f : Nat) (id : Int) (c rb ro rn rcap : Nat) (hcr : c < rn) (hrn : rn ≤ 1000) (w : World) (hN : NodeAt w b (o + i * 12) e)
    (hA' : ∀ w1, Below w.heap.size w w1 → Calls Yaed.prog 127 #[vsv, .int .i16 f, .int .i16 e.a, .int .i64 i] w1 fun r w2 => r = .returned va.val ∧ Below w1.heap.size w1 w2)
    (hB' : ∀ w1, Below w.heap.size w w1 → Calls Yaed.prog 127 #[vsv, .int .i16 f, .int .i16 e.b, .int .i64 i] w1 fun r w2 => r = .returned vb.val ∧ Below w1.heap.size w1 w2)
    (hop : e.op = 5) (hnm : (e.name.toList == [114, 111, 119, 105, 100]) = false)
    (hci : ∀ w1, Below w.heap.size w w1 → Calls Yaed.prog 128 #[cv, .string e.name] w1 fun r w2 => r = .returned (.int .i64 c) ∧ Below w1.heap.size w1 w2)
    (hrb : rb < w.heap.size) (hrv : w.rangeAt rb (ro + c * 4) v.list) :
    Calls Yaed.prog 67 #[.slice (some ⟨b, o, none⟩) n cap, vsv, .int .i16 f, .int .i64 i, cv, .int .i64 id, .slice (some ⟨rb, ro, none⟩) rn rcap] w fun r w' => r = .returned (norm v).val ∧ Below w.heap.size w w' := by
  have HCI : Hid (∀ w1, Below w.heap.size w w1 → Calls Yaed.prog 128 #[cv, .string e.name] w1 fun r w2 => r = .returned (.int .i64 c) ∧ Below w1.heap.size w1 w2) := hci
  have HRV : Hid (w.rangeAt rb (ro + c * 4) v.list) := hrv
  have HNM : Hid ((e.name.toList == [114, 111, 119, 105, 100]) = false) := hnm
  have HOP : Hid (e.op = 5) := hop
  clear hci hrv hnm hop
  have HN : Hid (NodeAt w b (o + i * 12) e) := hN
  have HCA : Hid (∀ w1, Below w.heap.size w w1 → Calls Yaed.prog 127 #[vsv, .int .i16 f, .int .i16 e.a, .int .i64 i] w1 fun r w2 => r = .returned va.val ∧ Below w1.heap.size w1 w2) := hA'
  have HCB : Hid (∀ w1, Below w.heap.size w w1 → Calls Yaed.prog 127 #[vsv, .int .i16 f, .int .i16 e.b, .int .i64 i] w1 fun r w2 => r = .returned vb.val ∧ Below w1.heap.size w1 w2) := hB'
  have hb := hN.1
  clear hN hA' hB'
  go_enter Yaed.func67, Yaed.ntmps67
  go_wp2_with fail
  generalize hw0 : World.alloc _ _ = w0
  have HB0 : Hid (Below w.heap.size w w0 ∧ ∃ z, w0.heap[w.heap.size]? = some (.cells z 100 (0, 0)) ∧ z.size = 4) := by rw [← hw0]; exact ⟨below_alloc _ _, _, heap_alloc_new _ _, rfl⟩
  have hs0 : w.heap.size + 1 ≤ w0.heap.size := by rw [← hw0]; simp
  clear hw0
  have HN0 : Hid (NodeAt w0 b (o + i * 12) e) := HN.out.ext HB0.out.1
  refine wp_region_to (l := [_, _, _, _, _, _, _, _, _, _, _, _, _, _, _, _, _, _]) [(true, 0), (true, 1), (true, 2), (true, 3), (true, 4), (true, 5), (true, 6), (true, 8), (true, 9), (true, 10), (true, 11), (true, 12), (true, 13), (true, 14)]
     (fun W => NodeAt W b (o + i * 12) e) #[true, true, true, true, true, true, true, false, true, true, true, true, true, true, true, false, false, false] (by kernel_rfl) (by kernel_rfl) HN0.out ?_
  repeat ((first | refine wpCan_q (v := ?_) rfl rfl rfl ?_ ?_ | refine wpCan_qg (v := ?_) rfl rfl (by rfl) ?_ ?_); rotate_left; (focus (intro W hW; obtain ⟨g0, g1, g2, _⟩ := hW.facts; clear hW; go_simp; first | done | exact rfl)); simp only [Act.put, List.setIfInBounds_toArray, List.set_cons_zero, List.set_cons_succ])
  refine wpCan_nil ?_
  intro hS
  generalize hA : Act.mk _ _ = a0
  have hev : a0.eval (.tmp 29) = vsv ∧ a0.eval (.tmp 30) = .int .i16 f ∧ a0.eval (.tmp 34) = .int .i16 e.a ∧ a0.eval (.tmp 35) = .int .i64 i ∧ a0.eval (.tmp 37) = vsv ∧ a0.eval (.tmp 38) = .int .i16 f ∧ a0.eval (.tmp 42) = .int .i16 e.b ∧ a0.eval (.tmp 43) = .int .i64 i := by
    rw [← hA]; exact ⟨rfl, rfl, rfl, rfl, rfl, rfl, rfl, rfl⟩
  refine wpAnyH_float (NodeI w0 a0 va.val vb.val) ?_ ?_ ?_ 4 _ _ _ ?_
  · rintro n' L a w' ⟨f7, f15, f16, f17, x36, x44, x16, x17, rfl, rfl, hn, hord, h7, h15, h16, h17, hd, hbl⟩
    exact HN0.out.ext hbl
  · rintro L a w' ⟨f7, f15, f16, f17, x36, x44, x16, x17, rfl, rfl, hn, hord, h7, h15, h16, h17, hd, hbl⟩
    obtain ⟨rfl, rfl, rfl, rfl⟩ : f7 = true ∧ f15 = true ∧ f16 = true ∧ f17 = true := by
      cases f7 <;> cases f15 <;> cases f16 <;> cases f17 <;> first | exact ⟨rfl, rfl, rfl, rfl⟩ | (exfalso; simp at hn)
    refine ⟨by kernel_rfl, ?_⟩
    obtain rfl := h7 rfl
    obtain rfl := h15 rfl
    obtain ⟨gx, zx, rfl, hgx, hhx, hzx⟩ := h16 rfl
    obtain ⟨gy, zy, rfl, hgy, hhy, hzy⟩ := h17 rfl
    have hxy : gx ≠ gy := fun e => hd rfl rfl (by rw [e])
    have HHX : Hid (w'.heap[gx]? = some (.cells zx 100 (0, 0))) := hhx
    have HHY : Hid (w'.heap[gy]? = some (.cells zy 100 (0, 0))) := hhy
    have HBL : Hid (Below w0.heap.size w0 w') := hbl
    have hsl := hbl.size
    have hgx' := block_lt hhx
    have hgy' := block_lt hhy
    clear h7 h15 h16 h17 hd hord hn hbl hhx hhy hev hS
    rw [← hA]
    clear hA a0
    simp only [puts, Act.put, List.setIfInBounds_toArray, List.set_cons_zero, List.set_cons_succ]
    unfold V.val
    go_upto_region 3 with (first
      | (refine wpList_put (ty := 100) (g := gx) rfl rfl rfl rfl size100 (by kernel_rfl) ⟨zx, HHX.out, hzx⟩ ?_; intro w2 h2 k2 s2; have HN2 : Hid (w2.heap[gx]? = some (.cells #[.int .u8 va.k, .int .i64 va.i, .float .f64 va.r, .string va.s] 100 (0, 0))) := h2; have HK2 : Hid (Keep (fun k => k ≠ gx) w' w2) := k2; have hs2 : w'.heap.size ≤ w2.heap.size := k2.size; clear h2 k2 s2)
      | (refine wpList_put (ty := 100) (g := gy) rfl rfl rfl rfl size100 (by kernel_rfl) ⟨zy, (HK2.out.block gy (by show gy ≠ gx; omega)).trans HHY.out, hzy⟩ ?_; intro w3 h3 k3 s3; have HN3 : Hid (w3.heap[gy]? = some (.cells #[.int .u8 vb.k, .int .i64 vb.i, .float .f64 vb.r, .string vb.s] 100 (0, 0))) := h3; have HK3 : Hid (Keep (fun k => k ≠ gy) w2 w3) := k3; have hs3 : w2.heap.size ≤ w3.heap.size := k3.size; clear h3 k3 s3))
    have HB3 : Hid (Below w0.heap.size w0 w3) := HBL.out.trans ((HK2.out.below (fun k hk => by show k ≠ gx; omega)).trans (HK3.out.below (fun k hk => by show k ≠ gy; omega)))
    have HX3 : Hid (w3.heap[gx]? = some (.cells #[.int .u8 va.k, .int .i64 va.i, .float .f64 va.r, .string va.s] 100 (0, 0))) := (HK3.out.block gx (by show gx ≠ gy; exact hxy)).trans HN2.out
    have HR3 : Hid (∃ z, w3.heap[w.heap.size]? = some (.cells z 100 (0, 0)) ∧ z.size = 4) := by
      obtain ⟨z, h1, h2⟩ := HB0.out.2
      exact ⟨z, (HB3.out.block _ (by omega)).trans h1, h2⟩
    have HBW : Hid (Below w.heap.size w w3) := HB0.out.1.trans (HB3.out.mono (by omega))
    have hsw : w.heap.size + 1 ≤ w3.heap.size := by omega
    obtain ⟨q0, q1, q2, q3, q4, q5, q6, q7, q8, q9, q10, q11⟩ := (HN0.out.ext HB3.out).facts
    clear HHX HHY HBL HN2 HK2 HK3 HN0 HN HB0 HCA HCB hsl hs2 hs3 hs0 hzx hzy
    have hop := HOP.out
    have hnm := HNM.out
    clear HOP HNM q1 q2 q3 q4 q5 q6 q7 q8 q9 q11 HX3 HN3
    obtain ⟨op, ea, eb, ec, ev, em, eq, en, et⟩ := e
    simp only at q0 q10 hop hnm HCI
    subst hop
    go_wp2_with fail
    refine (HCI.out _ HBW.out).mono ?_
    rintro e' w4 ⟨rfl, hb4⟩
    have HB4 : Hid (Below w3.heap.size w3 w4) := hb4
    have HBW4 : Hid (Below w.heap.size w w4) := HBW.out.trans (hb4.mono (by omega))
    have hs4 := hb4.size
    clear hb4
    obtain ⟨c0, c1, c2, c3⟩ := cells4' (range_ext HRV.out HBW4.out hrb)
    have hc0 : ¬ (c : Int) < 0 := by omega
    have hcr' : (c : Int) < rn := by omega
    obtain ⟨vk, vi, vr, vs⟩ := v
    simp only at c0 c1 c2 c3
    go_wp2_with fail
    refine (norm_any ⟨vk, vi, vr, vs⟩ _).mono ?_
    rintro e' w6 ⟨rfl, hb6⟩
    have HB6 : Hid (Below w3.heap.size w3 w6) := HB4.out.trans (hb6.mono hs4)
    clear hb6
    obtain ⟨u, hu⟩ : ∃ u, norm (⟨vk, vi, vr, vs⟩ : V) = u := ⟨_, rfl⟩
    rw [hu]
    have HU : Hid (norm (⟨vk, vi, vr, vs⟩ : V) = u) := hu
    clear hu
    unfold V.val
    go_wp2_with (refine wpList_put (ty := 100) (g := w.heap.size) rfl rfl rfl rfl size100 (by kernel_rfl) (by obtain ⟨z, h1, h2⟩ := HR3.out; exact ⟨z, (HB6.out.block _ (by omega)).trans h1, h2⟩) ?_; intro w5 h5 k5 s5; have HN5 : Hid (w5.heap[w.heap.size]? = some (.cells #[.int .u8 u.k, .int .i64 u.i, .float .f64 u.r, .string u.s] 100 (0, 0))) := h5; have HK5 : Hid (Keep (fun k => k ≠ w.heap.size) w6 w5) := k5; clear h5 k5 s5)
    refine bodyPost_ret (results_cell_row rfl _ _ _ _ _ _ _ rfl HN5.out Yaed.underlying100 rfl size100) rfl ⟨by rw [HU.out]; rfl, ?_⟩
    exact HBW.out.trans ((HB6.out.mono (by omega)).trans (HK5.out.below (fun k hk => by show k ≠ w.heap.size; omega)))
  · rintro n' L a w' ⟨f7, f15, f16, f17, x36, x44, x16, x17, rfl, rfl, hn, hord, h7, h15, h16, h17, hd, hbl⟩
    have HBW : Hid (Below w.heap.size w w') := HB0.out.1.trans (hbl.mono (by omega))
    obtain ⟨e29, e30, e34, e35, e37, e38, e42, e43⟩ := hev
    rcases f7 with _ | _ <;> rcases f15 with _ | _ <;> rcases f16 with _ | _ <;> rcases f17 with _ | _
    · obtain rfl : n' = 3 := by simp at hn; omega
      generalize hrd : Region.ready _ _ _ = RD
      obtain rfl : RD = [7, 16, 17] := by rw [← hrd]; kernel_rfl
      clear hrd
      refine ⟨by simp, ?_⟩
      intro j hj
      have hj' : j = 7 ∨ j = 16 ∨ j = 17 := by simpa using hj
      clear hj
      rcases hj' with rfl | rfl | rfl
      · refine ⟨_, rfl, rfl, ?_⟩
        refine wp_call4 call127 rfl ((eval_puts (by decide) (by decide) (by decide) (by decide)).trans e29) ((eval_puts (by decide) (by decide) (by decide) (by decide)).trans e30) ((eval_puts (by decide) (by decide) (by decide) (by decide)).trans e34) ((eval_puts (by decide) (by decide) (by decide) (by decide)).trans e35) ?_
        refine (HCA.out _ HBW.out).mono ?_
        rintro e' w3 ⟨rfl, hb3⟩
        refine ⟨_, rfl, ?_⟩
        show NodeI _ _ _ _ _ _ (Act.put _ (some 36) _) _
        rw [puts36]
        exact ⟨true, false, false, false, va.val, x44, x16, x17, rfl, rfl, rfl, (fun _ => rfl), (fun _ => rfl), (fun h => (by cases h)), (fun h => (h16 h).ext hb3), (fun h => (h17 h).ext hb3), hd, hbl.trans (hb3.mono hbl.size)⟩
      · refine ⟨_, rfl, rfl, ?_⟩
        go_simp
        refine ⟨false, false, true, false, x36, x44, _, x17, rfl, puts16, rfl, hord, h7, h15, (fun _ => ⟨w'.heap.size, _, rfl, hbl.size, heap_alloc_new w' _, rfl⟩), (fun h => (h17 h).ext (below_alloc w' _)), (fun _ h => ((h17 h).ne).symm), hbl.trans ((below_alloc w' _).mono hbl.size)⟩
      · refine ⟨_, rfl, rfl, ?_⟩
        go_simp
        refine ⟨false, false, false, true, x36, x44, x16, _, rfl, puts17, rfl, hord, h7, h15, (fun h => (h16 h).ext (below_alloc w' _)), (fun _ => ⟨w'.heap.size, _, rfl, hbl.size, heap_alloc_new w' _, rfl⟩), (fun h _ => (h16 h).ne), hbl.trans ((below_alloc w' _).mono hbl.size)⟩
    · obtain rfl : n' = 2 := by simp at hn; omega
      generalize hrd : Region.ready _ _ _ = RD
      obtain rfl : RD = [7, 16] := by rw [← hrd]; kernel_rfl
      clear hrd
      refine ⟨by simp, ?_⟩
      intro j hj
      have hj' : j = 7 ∨ j = 16 := by simpa using hj
      clear hj
      rcases hj' with rfl | rfl
      · refine ⟨_, rfl, rfl, ?_⟩
        refine wp_call4 call127 rfl ((eval_puts (by decide) (by decide) (by decide) (by decide)).trans e29) ((eval_puts (by decide) (by decide) (by decide) (by decide)).trans e30) ((eval_puts (by decide) (by decide) (by decide) (by decide)).trans e34) ((eval_puts (by decide) (by decide) (by decide) (by decide)).trans e35) ?_
        refine (HCA.out _ HBW.out).mono ?_
        rintro e' w3 ⟨rfl, hb3⟩
        refine ⟨_, rfl, ?_⟩
        show NodeI _ _ _ _ _ _ (Act.put _ (some 36) _) _
        rw [puts36]
        exact ⟨true, false, false, true, va.val, x44, x16, x17, rfl, rfl, rfl, (fun _ => rfl), (fun _ => rfl), (fun h => (by cases h)), (fun h => (h16 h).ext hb3), (fun h => (h17 h).ext hb3), hd, hbl.trans (hb3.mono hbl.size)⟩
      · refine ⟨_, rfl, rfl, ?_⟩
        go_simp
        refine ⟨false, false, true, true, x36, x44, _, x17, rfl, puts16, rfl, hord, h7, h15, (fun _ => ⟨w'.heap.size, _, rfl, hbl.size, heap_alloc_new w' _, rfl⟩), (fun h => (h17 h).ext (below_alloc w' _)), (fun _ h => ((h17 h).ne).symm), hbl.trans ((below_alloc w' _).mono hbl.size)⟩
    · obtain rfl : n' = 2 := by simp at hn; omega
      generalize hrd : Region.ready _ _ _ = RD
      obtain rfl : RD = [7, 17] := by rw [← hrd]; kernel_rfl
      clear hrd
      refine ⟨by simp, ?_⟩
      intro j hj
      have hj' : j = 7 ∨ j = 17 := by simpa using hj
      clear hj
      rcases hj' with rfl | rfl
      · refine ⟨_, rfl, rfl, ?_⟩
        refine wp_call4 call127 rfl ((eval_puts (by decide) (by decide) (by decide) (by decide)).trans e29) ((eval_puts (by decide) (by decide) (by decide) (by decide)).trans e30) ((eval_puts (by decide) (by decide) (by decide) (by decide)).trans e34) ((eval_puts (by decide) (by decide) (by decide) (by decide)).trans e35) ?_
        refine (HCA.out _ HBW.out).mono ?_
        rintro e' w3 ⟨rfl, hb3⟩
        refine ⟨_, rfl, ?_⟩
        show NodeI _ _ _ _ _ _ (Act.put _ (some 36) _) _
        rw [puts36]
        exact ⟨true, false, true, false, va.val, x44, x16, x17, rfl, rfl, rfl, (fun _ => rfl), (fun _ => rfl), (fun h => (by cases h)), (fun h => (h16 h).ext hb3), (fun h => (h17 h).ext hb3), hd, hbl.trans (hb3.mono hbl.size)⟩
      · refine ⟨_, rfl, rfl, ?_⟩
        go_simp
        refine ⟨false, false, true, true, x36, x44, x16, _, rfl, puts17, rfl, hord, h7, h15, (fun h => (h16 h).ext (below_alloc w' _)), (fun _ => ⟨w'.heap.size, _, rfl, hbl.size, heap_alloc_new w' _, rfl⟩), (fun h _ => (h16 h).ne), hbl.trans ((below_alloc w' _).mono hbl.size)⟩
    · obtain rfl : n' = 1 := by simp at hn; omega
      generalize hrd : Region.ready _ _ _ = RD
      obtain rfl : RD = [7] := by rw [← hrd]; kernel_rfl
      clear hrd
      refine ⟨by simp, ?_⟩
      intro j hj
      obtain rfl : j = 7 := by simpa using hj
      refine ⟨_, rfl, rfl, ?_⟩
      refine wp_call4 call127 rfl ((eval_puts (by decide) (by decide) (by decide) (by decide)).trans e29) ((eval_puts (by decide) (by decide) (by decide) (by decide)).trans e30) ((eval_puts (by decide) (by decide) (by decide) (by decide)).trans e34) ((eval_puts (by decide) (by decide) (by decide) (by decide)).trans e35) ?_
      refine (HCA.out _ HBW.out).mono ?_
      rintro e' w3 ⟨rfl, hb3⟩
      refine ⟨_, rfl, ?_⟩
      show NodeI _ _ _ _ _ _ (Act.put _ (some 36) _) _
      rw [puts36]
      exact ⟨true, false, true, true, va.val, x44, x16, x17, rfl, rfl, rfl, (fun _ => rfl), (fun _ => rfl), (fun h => (by cases h)), (fun h => (h16 h).ext hb3), (fun h => (h17 h).ext hb3), hd, hbl.trans (hb3.mono hbl.size)⟩
    · exact absurd (hord rfl) (by decide)
    · exact absurd (hord rfl) (by decide)
    · exact absurd (hord rfl) (by decide)
    · exact absurd (hord rfl) (by decide)
    · obtain rfl : n' = 2 := by simp at hn; omega
      obtain rfl := h7 rfl
      clear h7
      generalize hrd : Region.ready _ _ _ = RD
      obtain rfl : RD = [15, 16, 17] := by rw [← hrd]; kernel_rfl
      clear hrd
      refine ⟨by simp, ?_⟩
      intro j hj
      have hj' : j = 15 ∨ j = 16 ∨ j = 17 := by simpa using hj
      clear hj
      rcases hj' with rfl | rfl | rfl
      · refine ⟨_, rfl, rfl, ?_⟩
        refine wp_call4 call127 rfl ((eval_puts (by decide) (by decide) (by decide) (by decide)).trans e37) ((eval_puts (by decide) (by decide) (by decide) (by decide)).trans e38) ((eval_puts (by decide) (by decide) (by decide) (by decide)).trans e42) ((eval_puts (by decide) (by decide) (by decide) (by decide)).trans e43) ?_
        refine (HCB.out _ HBW.out).mono ?_
        rintro e' w3 ⟨rfl, hb3⟩
        refine ⟨_, rfl, ?_⟩
        show NodeI _ _ _ _ _ _ (Act.put _ (some 44) _) _
        rw [puts44]
        exact ⟨true, true, false, false, va.val, vb.val, x16, x17, rfl, rfl, rfl, (fun _ => rfl), (fun _ => rfl), (fun _ => rfl), (fun h => (h16 h).ext hb3), (fun h => (h17 h).ext hb3), hd, hbl.trans (hb3.mono hbl.size)⟩
      · refine ⟨_, rfl, rfl, ?_⟩
        go_simp
        refine ⟨true, false, true, false, va.val, x44, _, x17, rfl, puts16, rfl, hord, (fun _ => rfl), h15, (fun _ => ⟨w'.heap.size, _, rfl, hbl.size, heap_alloc_new w' _, rfl⟩), (fun h => (h17 h).ext (below_alloc w' _)), (fun _ h => ((h17 h).ne).symm), hbl.trans ((below_alloc w' _).mono hbl.size)⟩
      · refine ⟨_, rfl, rfl, ?_⟩
        go_simp
        refine ⟨true, false, false, true, va.val, x44, x16, _, rfl, puts17, rfl, hord, (fun _ => rfl), h15, (fun h => (h16 h).ext (below_alloc w' _)), (fun _ => ⟨w'.heap.size, _, rfl, hbl.size, heap_alloc_new w' _, rfl⟩), (fun h _ => (h16 h).ne), hbl.trans ((below_alloc w' _).mono hbl.size)⟩
    · obtain rfl : n' = 1 := by simp at hn; omega
      obtain rfl := h7 rfl
      clear h7
      generalize hrd : Region.ready _ _ _ = RD
      obtain rfl : RD = [15, 16] := by rw [← hrd]; kernel_rfl
      clear hrd
      refine ⟨by simp, ?_⟩
      intro j hj
      have hj' : j = 15 ∨ j = 16 := by simpa using hj
      clear hj
      rcases hj' with rfl | rfl
      · refine ⟨_, rfl, rfl, ?_⟩
        refine wp_call4 call127 rfl ((eval_puts (by decide) (by decide) (by decide) (by decide)).trans e37) ((eval_puts (by decide) (by decide) (by decide) (by decide)).trans e38) ((eval_puts (by decide) (by decide) (by decide) (by decide)).trans e42) ((eval_puts (by decide) (by decide) (by decide) (by decide)).trans e43) ?_
        refine (HCB.out _ HBW.out).mono ?_
        rintro e' w3 ⟨rfl, hb3⟩
        refine ⟨_, rfl, ?_⟩
        show NodeI _ _ _ _ _ _ (Act.put _ (some 44) _) _
        rw [puts44]
        exact ⟨true, true, false, true, va.val, vb.val, x16, x17, rfl, rfl, rfl, (fun _ => rfl), (fun _ => rfl), (fun _ => rfl), (fun h => (h16 h).ext hb3), (fun h => (h17 h).ext hb3), hd, hbl.trans (hb3.mono hbl.size)⟩
      · refine ⟨_, rfl, rfl, ?_⟩
        go_simp
        refine ⟨true, false, true, true, va.val, x44, _, x17, rfl, puts16, rfl, hord, (fun _ => rfl), h15, (fun _ => ⟨w'.heap.size, _, rfl, hbl.size, heap_alloc_new w' _, rfl⟩), (fun h => (h17 h).ext (below_alloc w' _)), (fun _ h => ((h17 h).ne).symm), hbl.trans ((below_alloc w' _).mono hbl.size)⟩
    · obtain rfl : n' = 1 := by simp at hn; omega
      obtain rfl := h7 rfl
      clear h7
      generalize hrd : Region.ready _ _ _ = RD
      obtain rfl : RD = [15, 17] := by rw [← hrd]; kernel_rfl
      clear hrd
      refine ⟨by simp, ?_⟩
      intro j hj
      have hj' : j = 15 ∨ j = 17 := by simpa using hj
      clear hj
      rcases hj' with rfl | rfl
      · refine ⟨_, rfl, rfl, ?_⟩
        refine wp_call4 call127 rfl ((eval_puts (by decide) (by decide) (by decide) (by decide)).trans e37) ((eval_puts (by decide) (by decide) (by decide) (by decide)).trans e38) ((eval_puts (by decide) (by decide) (by decide) (by decide)).trans e42) ((eval_puts (by decide) (by decide) (by decide) (by decide)).trans e43) ?_
        refine (HCB.out _ HBW.out).mono ?_
        rintro e' w3 ⟨rfl, hb3⟩
        refine ⟨_, rfl, ?_⟩
        show NodeI _ _ _ _ _ _ (Act.put _ (some 44) _) _
        rw [puts44]
        exact ⟨true, true, true, false, va.val, vb.val, x16, x17, rfl, rfl, rfl, (fun _ => rfl), (fun _ => rfl), (fun _ => rfl), (fun h => (h16 h).ext hb3), (fun h => (h17 h).ext hb3), hd, hbl.trans (hb3.mono hbl.size)⟩
      · refine ⟨_, rfl, rfl, ?_⟩
        go_simp
        refine ⟨true, false, true, true, va.val, x44, x16, _, rfl, puts17, rfl, hord, (fun _ => rfl), h15, (fun h => (h16 h).ext (below_alloc w' _)), (fun _ => ⟨w'.heap.size, _, rfl, hbl.size, heap_alloc_new w' _, rfl⟩), (fun h _ => (h16 h).ne), hbl.trans ((below_alloc w' _).mono hbl.size)⟩
    · obtain rfl : n' = 0 := by simp at hn; omega
      obtain rfl := h7 rfl
      clear h7
      generalize hrd : Region.ready _ _ _ = RD
      obtain rfl : RD = [15] := by rw [← hrd]; kernel_rfl
      clear hrd
      refine ⟨by simp, ?_⟩
      intro j hj
      obtain rfl : j = 15 := by simpa using hj
      refine ⟨_, rfl, rfl, ?_⟩
      refine wp_call4 call127 rfl ((eval_puts (by decide) (by decide) (by decide) (by decide)).trans e37) ((eval_puts (by decide) (by decide) (by decide) (by decide)).trans e38) ((eval_puts (by decide) (by decide) (by decide) (by decide)).trans e42) ((eval_puts (by decide) (by decide) (by decide) (by decide)).trans e43) ?_
      refine (HCB.out _ HBW.out).mono ?_
      rintro e' w3 ⟨rfl, hb3⟩
      refine ⟨_, rfl, ?_⟩
      show NodeI _ _ _ _ _ _ (Act.put _ (some 44) _) _
      rw [puts44]
      exact ⟨true, true, true, true, va.val, vb.val, x16, x17, rfl, rfl, rfl, (fun _ => rfl), (fun _ => rfl), (fun _ => rfl), (fun h => (h16 h).ext hb3), (fun h => (h17 h).ext hb3), hd, hbl.trans (hb3.mono hbl.size)⟩
    · obtain rfl : n' = 1 := by simp at hn; omega
      obtain rfl := h7 rfl
      clear h7
      obtain rfl := h15 rfl
      clear h15
      generalize hrd : Region.ready _ _ _ = RD
      obtain rfl : RD = [16, 17] := by rw [← hrd]; kernel_rfl
      clear hrd
      refine ⟨by simp, ?_⟩
      intro j hj
      have hj' : j = 16 ∨ j = 17 := by simpa using hj
      clear hj
      rcases hj' with rfl | rfl
      · refine ⟨_, rfl, rfl, ?_⟩
        go_simp
        refine ⟨true, true, true, false, va.val, vb.val, _, x17, rfl, puts16, rfl, hord, (fun _ => rfl), (fun _ => rfl), (fun _ => ⟨w'.heap.size, _, rfl, hbl.size, heap_alloc_new w' _, rfl⟩), (fun h => (h17 h).ext (below_alloc w' _)), (fun _ h => ((h17 h).ne).symm), hbl.trans ((below_alloc w' _).mono hbl.size)⟩
      · refine ⟨_, rfl, rfl, ?_⟩
        go_simp
        refine ⟨true, true, false, true, va.val, vb.val, x16, _, rfl, puts17, rfl, hord, (fun _ => rfl), (fun _ => rfl), (fun h => (h16 h).ext (below_alloc w' _)), (fun _ => ⟨w'.heap.size, _, rfl, hbl.size, heap_alloc_new w' _, rfl⟩), (fun h _ => (h16 h).ne), hbl.trans ((below_alloc w' _).mono hbl.size)⟩
    · obtain rfl : n' = 0 := by simp at hn; omega
      obtain rfl := h7 rfl
      clear h7
      obtain rfl := h15 rfl
      clear h15
      generalize hrd : Region.ready _ _ _ = RD
      obtain rfl : RD = [16] := by rw [← hrd]; kernel_rfl
      clear hrd
      refine ⟨by simp, ?_⟩
      intro j hj
      obtain rfl : j = 16 := by simpa using hj
      refine ⟨_, rfl, rfl, ?_⟩
      go_simp
      refine ⟨true, true, true, true, va.val, vb.val, _, x17, rfl, puts16, rfl, hord, (fun _ => rfl), (fun _ => rfl), (fun _ => ⟨w'.heap.size, _, rfl, hbl.size, heap_alloc_new w' _, rfl⟩), (fun h => (h17 h).ext (below_alloc w' _)), (fun _ h => ((h17 h).ne).symm), hbl.trans ((below_alloc w' _).mono hbl.size)⟩
    · obtain rfl : n' = 0 := by simp at hn; omega
      obtain rfl := h7 rfl
      clear h7
      obtain rfl := h15 rfl
      clear h15
      generalize hrd : Region.ready _ _ _ = RD
      obtain rfl : RD = [17] := by rw [← hrd]; kernel_rfl
      clear hrd
      refine ⟨by simp, ?_⟩
      intro j hj
      obtain rfl : j = 17 := by simpa using hj
      refine ⟨_, rfl, rfl, ?_⟩
      go_simp
      refine ⟨true, true, true, true, va.val, vb.val, x16, _, rfl, puts17, rfl, hord, (fun _ => rfl), (fun _ => rfl), (fun h => (h16 h).ext (below_alloc w' _)), (fun _ => ⟨w'.heap.size, _, rfl, hbl.size, heap_alloc_new w' _, rfl⟩), (fun h _ => (h16 h).ne), hbl.trans ((below_alloc w' _).mono hbl.size)⟩
    · simp at hn
  · refine ⟨false, false, false, false, undef, undef, undef, undef, rfl, ?_, rfl, fun h => h, fun h => (by cases h), fun h => (by cases h), fun h => (by cases h), fun h => (by cases h), fun h => (by cases h), (Below.refl _ _).drew⟩
    rw [← hA]
    rfl
end Go.Proofs.YgdaegDoor
