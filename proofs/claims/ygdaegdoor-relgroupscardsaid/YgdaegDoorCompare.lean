import Derived.Test.YgdaegDoorIntReal
namespace Go.Proofs.YgdaegDoor
open Go.RowKit
set_option linter.unusedSimpArgs false
set_option linter.unusedVariables false
theorem norm_kind (v : V) : (norm v).k = 0 ∨ (norm v).k = 1 ∨ (norm v).k = 2 ∨ (norm v).k = 3 := by
  unfold norm
  split
  · exact .inr (.inl rfl)
  · split
    · split
      · exact .inl rfl
      · split <;> exact .inr (.inr (.inl rfl))
    · split
      · split
        · exact .inl rfl
        · split
          · exact .inr (.inr (.inr rfl))
          · exact .inl rfl
      · exact .inl rfl
theorem cmpS_le (x y : Bool) : -1 ≤ cmpS x y ∧ cmpS x y ≤ 1 := by cases x <;> cases y <;> decide
theorem intRealV_le (i : Int) (r : Nat) : -1 ≤ intRealV i r ∧ intRealV i r ≤ 1 := by
  unfold intRealV
  split
  · decide
  · split
    · decide
    · split <;> exact cmpS_le _ _
/-- One text ahead of another. -/
def SLT (a b : ByteArray) : Bool := Op.bytesLess a.toList b.toList
def SGT (a b : ByteArray) : Bool := !Op.bytesLess a.toList b.toList && !(a.toList == b.toList)
/-- Compare on normal values. -/
def cmpN (a b : V) : Int :=
  if rankV a.k = rankV b.k then
    (if a.k = 0 then 0 else if a.k = 3 then cmpS (SLT a.s b.s) (SGT a.s b.s) else if a.k = 1 ∧ b.k = 1 then cmpS (decide (a.i < b.i)) (decide (b.i < a.i))
      else if a.k = 2 ∧ b.k = 2 then cmpS (fltB a.r b.r) (fgtB a.r b.r) else if a.k = 1 then intRealV a.i b.r else -(intRealV b.i a.r))
  else cmpS (decide (rankV a.k < rankV b.k)) (decide (rankV b.k < rankV a.k))
def cmpV (a b : V) : Int := cmpN (norm a) (norm b)
set_option maxRecDepth 20000 in
set_option maxHeartbeats 2000000 in
/-- Compare. -/
theorem compare_any (a b : V) (w : World) : Calls Yaed.prog 49 #[a.val, b.val] w fun r w' => r = .returned (.int .i8 (cmpV a b)) ∧ Below w.heap.size w w' := by
  obtain ⟨res, hres⟩ : ∃ res, cmpV a b = res := ⟨_, rfl⟩
  rw [hres]
  have HRES : Hid (cmpV a b = res) := hres
  clear hres
  obtain ⟨⟨uk, ui, ur, us⟩, hu⟩ : ∃ u, norm a = u := ⟨_, rfl⟩
  obtain ⟨⟨vk, vi, vr, vs⟩, hv⟩ : ∃ u, norm b = u := ⟨_, rfl⟩
  have HU : Hid (norm a = ⟨uk, ui, ur, us⟩) := hu
  have HV : Hid (norm b = ⟨vk, vi, vr, vs⟩) := hv
  have hku := norm_kind a
  have hkv := norm_kind b
  rw [hu] at hku
  rw [hv] at hkv
  clear hu hv
  have HKU : Hid (uk = 0 ∨ uk = 1 ∨ uk = 2 ∨ uk = 3) := hku
  have HKV : Hid (vk = 0 ∨ vk = 1 ∨ vk = 2 ∨ vk = 3) := hkv
  clear hku hkv
  unfold V.val
  go_enter Yaed.func49, Yaed.ntmps49
  go_wp2_with fail
  generalize hw0 : World.alloc (World.alloc _ _) _ = w0
  have HB0 : Hid (Below w.heap.size w w0) := by
    rw [← hw0]
    exact (below_alloc _ _).trans ((below_alloc _ _).mono (by simp))
  have h1 : w0.heap[w.heap.size]? = some (.cells #[.int .u8 a.k, .int .i64 a.i, .float .f64 a.r, .string a.s] 100 (0, 0)) := by rw [← hw0]; exact (heap_old (by simp)).trans (heap_alloc_new _ _)
  have h2 : w0.heap[w.heap.size + 1]? = some (.cells #[.int .u8 b.k, .int .i64 b.i, .float .f64 b.r, .string b.s] 100 (0, 0)) := by rw [← hw0]; exact heap_new (by simp)
  have HN0 : Hid (w0.heap[w.heap.size]? = some (.cells #[.int .u8 a.k, .int .i64 a.i, .float .f64 a.r, .string a.s] 100 (0, 0)) ∧ w0.heap[w.heap.size + 1]? = some (.cells #[.int .u8 b.k, .int .i64 b.i, .float .f64 b.r, .string b.s] 100 (0, 0))) := ⟨h1, h2⟩
  have hs0 : w.heap.size + 2 ≤ w0.heap.size := by rw [← hw0]; simp
  clear hw0 h1 h2
  refine wp_region_can (l := [_, _, _]) [(true, 0), (true, 2), (false, 1)] (fun W => W.heap[w.heap.size]? = some (.cells #[.int .u8 a.k, .int .i64 a.i, .float .f64 a.r, .string a.s] 100 (0, 0)) ∧ W.heap[w.heap.size + 1]? = some (.cells #[.int .u8 b.k, .int .i64 b.i, .float .f64 b.r, .string b.s] 100 (0, 0))) (by kernel_rfl) (by kernel_rfl) HN0.out ?_
  generalize hw1 : World.drew _ = w1
  have HN1 : Hid (w1.heap[w.heap.size]? = some (.cells #[.int .u8 a.k, .int .i64 a.i, .float .f64 a.r, .string a.s] 100 (0, 0)) ∧ w1.heap[w.heap.size + 1]? = some (.cells #[.int .u8 b.k, .int .i64 b.i, .float .f64 b.r, .string b.s] 100 (0, 0))) := by rw [← hw1]; exact HN0.out
  have HB1 : Hid (Below w.heap.size w w1) := by rw [← hw1]; exact HB0.out.drew
  have hs1 : w.heap.size + 2 ≤ w1.heap.size := by rw [← hw1]; exact hs0
  clear hw1 HN0 HB0 hs0
  repeat (first | ((first | refine wpCan_q (v := ?_) rfl rfl rfl ?_ ?_ | refine wpCan_qg (v := ?_) rfl rfl (by rfl) ?_ ?_); rotate_left; (focus (rintro W ⟨p1, p2⟩; have r10 := cell_of_row W _ 0 _ _ _ p1; have r11 := cell_of_row W _ 1 _ _ _ p1; have r12 := cell_of_row W _ 2 _ _ _ p1; have r13 := cell_of_row W _ 3 _ _ _ p1; have r20 := cell_of_row W _ 0 _ _ _ p2; have r21 := cell_of_row W _ 1 _ _ _ p2; have r22 := cell_of_row W _ 2 _ _ _ p2; have r23 := cell_of_row W _ 3 _ _ _ p2; clear p1 p2; simp only [List.getElem?_toArray, List.getElem?_cons_zero, List.getElem?_cons_succ] at r10 r11 r12 r13 r20 r21 r22 r23; go_simp; first | done | exact rfl)); simp only [Act.put, List.setIfInBounds_toArray, List.set_cons_zero, List.set_cons_succ]) | (refine wpCan_skip rfl rfl (by rfl) ?_; simp only [Act.put, List.setIfInBounds_toArray, List.set_cons_zero, List.set_cons_succ]))
  refine wpCan_e rfl rfl (fun K hK => ?_)
  go_simp
  refine (norm_any a _).mono ?_
  rintro e w2 ⟨rfl, hb2⟩
  rw [HU.out]
  have HB2 : Hid (Below w1.heap.size w1 w2) := hb2
  have HN2 : Hid (w2.heap[w.heap.size]? = some (.cells #[.int .u8 a.k, .int .i64 a.i, .float .f64 a.r, .string a.s] 100 (0, 0)) ∧ w2.heap[w.heap.size + 1]? = some (.cells #[.int .u8 b.k, .int .i64 b.i, .float .f64 b.r, .string b.s] 100 (0, 0))) := ⟨(hb2.block _ (by omega)).trans HN1.out.1, (hb2.block _ (by omega)).trans HN1.out.2⟩
  have hs2 := hb2.size
  clear hb2
  refine hK _ _ ⟨HN2.out, ?_⟩
  clear hK K
  refine wpCan_nil ?_
  try simp only [Act.put, List.setIfInBounds_toArray, List.set_cons_zero, List.set_cons_succ]
  unfold V.val
  go_wp2_with fail
  refine (norm_any b _).mono ?_
  rintro e w3 ⟨rfl, hb3⟩
  rw [HV.out]
  have HB3 : Hid (Below w2.heap.size w2 w3) := hb3
  have HN3 : Hid (w3.heap[w.heap.size]? = some (.cells #[.int .u8 a.k, .int .i64 a.i, .float .f64 a.r, .string a.s] 100 (0, 0)) ∧ w3.heap[w.heap.size + 1]? = some (.cells #[.int .u8 b.k, .int .i64 b.i, .float .f64 b.r, .string b.s] 100 (0, 0))) := ⟨(hb3.block _ (by omega)).trans HN2.out.1, (hb3.block _ (by omega)).trans HN2.out.2⟩
  have hs3 := hb3.size
  clear hb3 HN1 HN2
  unfold V.val
  go_upto_region 2 with (first | (refine wpList_put (ty := 100) (g := w.heap.size) rfl rfl rfl rfl size100 (by kernel_rfl) ⟨_, HN3.out.1, rfl⟩ ?_; intro w4 h4 k4 s4; have HN4 : Hid (w4.heap[w.heap.size]? = some (.cells #[.int .u8 uk, .int .i64 ui, .float .f64 ur, .string us] 100 (0, 0))) := h4; have HK4 : Hid (Keep (fun k => k ≠ w.heap.size) w3 w4) := k4; clear h4 k4 s4) | (refine wpList_put (ty := 100) (g := w.heap.size + 1) rfl rfl rfl rfl size100 (by kernel_rfl) ⟨_, (HK4.out.block _ (by show w.heap.size + 1 ≠ w.heap.size; omega)).trans HN3.out.2, rfl⟩ ?_; intro w5 h5 k5 s5; have HN5 : Hid (w5.heap[w.heap.size + 1]? = some (.cells #[.int .u8 vk, .int .i64 vi, .float .f64 vr, .string vs] 100 (0, 0))) := h5; have HK5 : Hid (Keep (fun k => k ≠ w.heap.size + 1) w4 w5) := k5; clear h5 k5 s5))
  have HBW : Hid (Below w.heap.size w w5) := HB1.out.trans ((HB2.out.mono (by omega)).trans ((HB3.out.mono (by omega)).trans ((HK4.out.below (fun k hk => by show k ≠ w.heap.size; omega)).trans (HK5.out.below (fun k hk => by show k ≠ w.heap.size + 1; omega)))))
  have hp1 := (HK5.out.block w.heap.size (by show w.heap.size ≠ w.heap.size + 1; omega)).trans HN4.out
  have hp2 := HN5.out
  clear HN3 HN4 HN5 HK4 HK5 HB1 HB2 HB3
  have r10 := cell_of_row w5 _ 0 _ _ _ hp1
  have r11 := cell_of_row w5 _ 1 _ _ _ hp1
  have r12 := cell_of_row w5 _ 2 _ _ _ hp1
  have r13 := cell_of_row w5 _ 3 _ _ _ hp1
  have r20 := cell_of_row w5 _ 0 _ _ _ hp2
  have r21 := cell_of_row w5 _ 1 _ _ _ hp2
  have r22 := cell_of_row w5 _ 2 _ _ _ hp2
  have r23 := cell_of_row w5 _ 3 _ _ _ hp2
  simp only [List.getElem?_toArray, List.getElem?_cons_zero, List.getElem?_cons_succ] at r10 r11 r12 r13 r20 r21 r22 r23
  clear hp1 hp2
  refine wp_region_can (l := [_, _, _, _, _]) [(true, 0), (true, 1), (true, 3), (true, 4), (false, 2)] (fun W => W.cell? ⟨w.heap.size, 0, none⟩ = some (.int .u8 uk) ∧ W.cell? ⟨w.heap.size + 1, 0, none⟩ = some (.int .u8 vk)) (by kernel_rfl) (by kernel_rfl) ⟨r10, r20⟩ ?_
  generalize hw6 : World.drew _ = w6
  have HBW6 : Hid (Below w.heap.size w w6) := by rw [← hw6]; exact HBW.out.drew
  replace r10 : w6.cell? ⟨w.heap.size, 0, none⟩ = some (.int .u8 uk) := by rw [← hw6]; exact r10
  replace r11 : w6.cell? ⟨w.heap.size, 1, none⟩ = some (.int .i64 ui) := by rw [← hw6]; exact r11
  replace r12 : w6.cell? ⟨w.heap.size, 2, none⟩ = some (.float .f64 ur) := by rw [← hw6]; exact r12
  replace r13 : w6.cell? ⟨w.heap.size, 3, none⟩ = some (.string us) := by rw [← hw6]; exact r13
  replace r20 : w6.cell? ⟨w.heap.size + 1, 0, none⟩ = some (.int .u8 vk) := by rw [← hw6]; exact r20
  replace r21 : w6.cell? ⟨w.heap.size + 1, 1, none⟩ = some (.int .i64 vi) := by rw [← hw6]; exact r21
  replace r22 : w6.cell? ⟨w.heap.size + 1, 2, none⟩ = some (.float .f64 vr) := by rw [← hw6]; exact r22
  replace r23 : w6.cell? ⟨w.heap.size + 1, 3, none⟩ = some (.string vs) := by rw [← hw6]; exact r23
  clear hw6 HBW
  repeat (first | ((first | refine wpCan_q (v := ?_) rfl rfl rfl ?_ ?_ | refine wpCan_qg (v := ?_) rfl rfl (by rfl) ?_ ?_); rotate_left; (focus (rintro W ⟨p1, p2⟩; go_simp; first | done | exact rfl)); simp only [Act.put, List.setIfInBounds_toArray, List.set_cons_zero, List.set_cons_succ]) | (refine wpCan_skip rfl rfl (by rfl) ?_; simp only [Act.put, List.setIfInBounds_toArray, List.set_cons_zero, List.set_cons_succ]))
  refine wpCan_e rfl rfl (fun K hK => ?_)
  go_simp
  refine (rank_any uk _).mono ?_
  rintro e w6' ⟨rfl, rfl⟩
  refine hK _ _ ⟨⟨r10, r20⟩, ?_⟩
  clear hK K
  refine wpCan_nil ?_
  try simp only [Act.put, List.setIfInBounds_toArray, List.set_cons_zero, List.set_cons_succ]
  go_wp2_with fail
  refine (rank_any vk _).mono ?_
  rintro e w7 ⟨rfl, rfl⟩
  rcases HKU.out with h | h | h | h <;> subst h <;> rcases HKV.out with h | h | h | h <;> subst h
  · rw [show rankV 0 = 0 from rfl]
    go_wp2_with fail
    go_ret
    exact ⟨by rw [← HRES.out, cmpV, HU.out, HV.out]; rfl, HBW6.out⟩
  · rw [show rankV 0 = 0 from rfl, show rankV 1 = 1 from rfl]
    go_wp2_with fail
    refine (sign_any _ _ _).mono ?_
    rintro e w8 ⟨rfl, rfl⟩
    go_wp2_with fail
    go_ret
    exact ⟨by rw [← HRES.out, cmpV, HU.out, HV.out]; rfl, HBW6.out⟩
  · rw [show rankV 0 = 0 from rfl, show rankV 2 = 1 from rfl]
    go_wp2_with fail
    refine (sign_any _ _ _).mono ?_
    rintro e w8 ⟨rfl, rfl⟩
    go_wp2_with fail
    go_ret
    exact ⟨by rw [← HRES.out, cmpV, HU.out, HV.out]; rfl, HBW6.out⟩
  · rw [show rankV 0 = 0 from rfl, show rankV 3 = 2 from rfl]
    go_wp2_with fail
    refine (sign_any _ _ _).mono ?_
    rintro e w8 ⟨rfl, rfl⟩
    go_wp2_with fail
    go_ret
    exact ⟨by rw [← HRES.out, cmpV, HU.out, HV.out]; rfl, HBW6.out⟩
  · rw [show rankV 1 = 1 from rfl, show rankV 0 = 0 from rfl]
    go_wp2_with fail
    refine (sign_any _ _ _).mono ?_
    rintro e w8 ⟨rfl, rfl⟩
    go_wp2_with fail
    go_ret
    exact ⟨by rw [← HRES.out, cmpV, HU.out, HV.out]; rfl, HBW6.out⟩
  · rw [show rankV 1 = 1 from rfl]
    go_wp2_with fail
    refine (sign_any _ _ _).mono ?_
    rintro e w8 ⟨rfl, rfl⟩
    go_wp2_with fail
    go_ret
    exact ⟨by rw [← HRES.out, cmpV, HU.out, HV.out]; rfl, HBW6.out⟩
  · rw [show rankV 1 = 1 from rfl, show rankV 2 = 1 from rfl]
    go_wp2_with fail
    refine (intReal_any ui vr _).mono ?_
    rintro e w8 ⟨rfl, rfl⟩
    go_wp2_with fail
    go_ret
    exact ⟨by rw [← HRES.out, cmpV, HU.out, HV.out]; rfl, HBW6.out⟩
  · rw [show rankV 1 = 1 from rfl, show rankV 3 = 2 from rfl]
    go_wp2_with fail
    refine (sign_any _ _ _).mono ?_
    rintro e w8 ⟨rfl, rfl⟩
    go_wp2_with fail
    go_ret
    exact ⟨by rw [← HRES.out, cmpV, HU.out, HV.out]; rfl, HBW6.out⟩
  · rw [show rankV 2 = 1 from rfl, show rankV 0 = 0 from rfl]
    go_wp2_with fail
    refine (sign_any _ _ _).mono ?_
    rintro e w8 ⟨rfl, rfl⟩
    go_wp2_with fail
    go_ret
    exact ⟨by rw [← HRES.out, cmpV, HU.out, HV.out]; rfl, HBW6.out⟩
  · rw [show rankV 2 = 1 from rfl, show rankV 1 = 1 from rfl]
    go_wp2_with fail
    refine (intReal_any vi ur _).mono ?_
    rintro e w8 ⟨rfl, rfl⟩
    have hwn : IntKind.i8.wrap (-(intRealV vi ur)) = -(intRealV vi ur) := IntWalk.i8_in _ (by have := intRealV_le vi ur; omega)
    go_wp2_with fail
    go_ret
    exact ⟨by rw [← HRES.out, cmpV, HU.out, HV.out]; rfl, HBW6.out⟩
  · rw [show rankV 2 = 1 from rfl]
    go_wp2_with fail
    refine wp_region_can (l := [_, _, _, _, _, _, _, _, _]) [(true, 0), (true, 1), (true, 2), (true, 3), (true, 5), (true, 6), (true, 7), (true, 8), (false, 4)] (fun W => W.cell? ⟨w.heap.size, 2, none⟩ = some (.float .f64 ur) ∧ W.cell? ⟨w.heap.size + 1, 2, none⟩ = some (.float .f64 vr)) (by kernel_rfl) (by kernel_rfl) ⟨r12, r22⟩ ?_
    repeat (first | ((first | refine wpCan_q (v := ?_) rfl rfl rfl ?_ ?_ | refine wpCan_qg (v := ?_) rfl rfl (by rfl) ?_ ?_); rotate_left; (focus (rintro W ⟨p1, p2⟩; go_simp; first | done | exact rfl)); simp only [Act.put, List.setIfInBounds_toArray, List.set_cons_zero, List.set_cons_succ]) | (refine wpCan_skip rfl rfl (by rfl) ?_; simp only [Act.put, List.setIfInBounds_toArray, List.set_cons_zero, List.set_cons_succ]))
    refine wpCan_e rfl rfl (fun K hK => ?_)
    go_simp
    refine (flt_any ur vr _).mono ?_
    rintro e w8 ⟨rfl, rfl⟩
    refine hK _ _ ⟨⟨r12, r22⟩, ?_⟩
    clear hK K
    refine wpCan_nil ?_
    try simp only [Act.put, List.setIfInBounds_toArray, List.set_cons_zero, List.set_cons_succ]
    go_wp2_with fail
    refine (fgt_any ur vr _).mono ?_
    rintro e w9 ⟨rfl, rfl⟩
    go_wp2_with fail
    refine (sign_any _ _ _).mono ?_
    rintro e w10 ⟨rfl, rfl⟩
    go_wp2_with fail
    go_ret
    exact ⟨by rw [← HRES.out, cmpV, HU.out, HV.out]; rfl, HBW6.out.drew⟩
  · rw [show rankV 2 = 1 from rfl, show rankV 3 = 2 from rfl]
    go_wp2_with fail
    refine (sign_any _ _ _).mono ?_
    rintro e w8 ⟨rfl, rfl⟩
    go_wp2_with fail
    go_ret
    exact ⟨by rw [← HRES.out, cmpV, HU.out, HV.out]; rfl, HBW6.out⟩
  · rw [show rankV 3 = 2 from rfl, show rankV 0 = 0 from rfl]
    go_wp2_with fail
    refine (sign_any _ _ _).mono ?_
    rintro e w8 ⟨rfl, rfl⟩
    go_wp2_with fail
    go_ret
    exact ⟨by rw [← HRES.out, cmpV, HU.out, HV.out]; rfl, HBW6.out⟩
  · rw [show rankV 3 = 2 from rfl, show rankV 1 = 1 from rfl]
    go_wp2_with fail
    refine (sign_any _ _ _).mono ?_
    rintro e w8 ⟨rfl, rfl⟩
    go_wp2_with fail
    go_ret
    exact ⟨by rw [← HRES.out, cmpV, HU.out, HV.out]; rfl, HBW6.out⟩
  · rw [show rankV 3 = 2 from rfl, show rankV 2 = 1 from rfl]
    go_wp2_with fail
    refine (sign_any _ _ _).mono ?_
    rintro e w8 ⟨rfl, rfl⟩
    go_wp2_with fail
    go_ret
    exact ⟨by rw [← HRES.out, cmpV, HU.out, HV.out]; rfl, HBW6.out⟩
  · rw [show rankV 3 = 2 from rfl]
    go_wp2_with fail
    refine (sign_any _ _ _).mono ?_
    rintro e w8 ⟨rfl, rfl⟩
    go_wp2_with fail
    go_ret
    exact ⟨by rw [← HRES.out, cmpV, HU.out, HV.out]; rfl, HBW6.out⟩
end Go.Proofs.YgdaegDoor
