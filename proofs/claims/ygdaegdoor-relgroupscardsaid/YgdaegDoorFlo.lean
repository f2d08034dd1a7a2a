import Derived.Test.YgdaegDoorCmp2
import Derived.Test.YgdaegDoorFlt
namespace Go.Proofs.YgdaegDoor
open Go.RowKit
set_option linter.unusedSimpArgs false
set_option linter.unusedVariables false
def fOrd (a b : Nat) : Option Ordering := FloatKind.f64.format.order a b
def fltB (a b : Nat) : Bool := fOrd a b == some .lt
def fgtB (a b : Nat) : Bool := fOrd a b == some .gt
def feqB (a b : Nat) : Bool := fOrd a b == some .eq
def itofN (i : Int) : Nat := floatOfInt FloatKind.f64 i
set_option maxHeartbeats 1000000 in
theorem flt_any (a b : Nat) (w : World) : Calls Yaed.prog 76 #[.float .f64 a, .float .f64 b] w fun r w' => r = .returned (.bool (fltB a b)) ∧ w' = w := by
  go_enter Yaed.func76, Yaed.ntmps76
  go_wp2_with fail
  go_ret
  exact ⟨rfl, rfl⟩
set_option maxHeartbeats 1000000 in
theorem fgt_any (a b : Nat) (w : World) : Calls Yaed.prog 77 #[.float .f64 a, .float .f64 b] w fun r w' => r = .returned (.bool (fgtB a b)) ∧ w' = w := by
  go_enter Yaed.func77, Yaed.ntmps77
  go_wp2_with fail
  go_ret
  exact ⟨rfl, rfl⟩
set_option maxHeartbeats 1000000 in
theorem feq_any (a b : Nat) (w : World) : Calls Yaed.prog 66 #[.float .f64 a, .float .f64 b] w fun r w' => r = .returned (.bool (feqB a b)) ∧ w' = w := by
  go_enter Yaed.func66, Yaed.ntmps66
  go_wp2_with fail
  go_ret
  exact ⟨rfl, rfl⟩
set_option maxHeartbeats 1000000 in
theorem itof_any (a : Int) (w : World) : Calls Yaed.prog 73 #[.int .i64 a] w fun r w' => r = .returned (.float .f64 (itofN a)) ∧ w' = w := by
  go_enter Yaed.func73, Yaed.ntmps73
  go_wp2_with fail
  go_ret
  exact ⟨rfl, rfl⟩
theorem run_ftoi (a : Nat) (n : Int) (h : (FloatKind.f64.decode a).toInt .zero = some n) (h1 : IntKind.i64.min ≤ n ∧ n ≤ IntKind.i64.max) (w : World) : (convert 98 2 (.float .f64 a)).run Yaed.prog w = .ok (.int .i64 n) w := by
  unfold convert
  simp only [Sem.run_bind, run_underlying Yaed.underlying98, run_underlying Yaed.underlying2, Result.andThen_ok]
  unfold Conv.floatToInt
  simp only [h, if_pos h1, Sem.run_pure]
set_option maxRecDepth 20000 in
set_option maxHeartbeats 1000000 in
theorem ftoi_any (a : Nat) (n : Int) (h : (FloatKind.f64.decode a).toInt .zero = some n) (h1 : IntKind.i64.min ≤ n ∧ n ≤ IntKind.i64.max) (w : World) : Calls Yaed.prog 71 #[.float .f64 a] w fun r w' => r = .returned (.int .i64 n) ∧ w' = w := by
  have hr := run_ftoi a n h h1
  clear h h1
  go_enter Yaed.func71, Yaed.ntmps71
  go_wp2_with fail
  go_ret
  exact ⟨rfl, rfl⟩
theorem nan_cut (t : Nat) (x y : Nat) : nanB (Question.cut (.nanBits .f64 x y) t) = true := by
  show nanB ((t % 2) * 2 ^ 63 + 0x7ff0000000000000 + 1 + (t / 2) % (2 ^ 52 - 1)) = true
  have h1 : t % 2 < 2 := Nat.mod_lt _ (by decide)
  have h2 : (t / 2) % (2 ^ 52 - 1) < 2 ^ 52 - 1 := Nat.mod_lt _ (by decide)
  generalize (t / 2) % (2 ^ 52 - 1) = m at h2 ⊢
  rw [nanB_iff _ (by omega)]
  refine decide_eq_true ?_
  rcases (by omega : t % 2 = 0 ∨ t % 2 = 1) with h | h
  · rw [h]; omega
  · rw [h]; omega
theorem word_lt (neg : Bool) (r : Nat) (h : r ≤ Ieee.double.infRung) : Ieee.double.word neg r < 18446744073709551616 := by
  have h1 : Ieee.double.infRung = 9218868437227405312 := by decide
  have h2 : Ieee.double.signWeight = 9223372036854775808 := by decide
  unfold Ieee.Format.word
  split <;> omega
theorem write_lt (d : Ieee.Datum) (hd : d.isNaN = false) : Ieee.double.write d < 18446744073709551616 := by
  cases d with
  | number neg mag place =>
    unfold Ieee.Format.write Ieee.Format.nearest
    dsimp only
    split
    · exact word_lt _ _ (Nat.zero_le _)
    · exact word_lt _ _ (Nat.min_le_right _ _)
  | infinity neg => exact word_lt _ _ (Nat.le_refl _)
  | nan neg f => cases hd
theorem sum_notnan (a b d : Ieee.Datum) (h : a.sum b = some d) : d.isNaN = false := by
  unfold Ieee.Datum.sum at h
  split at h <;> first | (cases h; done) | (cases h; rfl) | (split at h <;> first | (cases h; done) | (cases h; rfl))
theorem quo_notnan (k : Nat) (a b d : Ieee.Datum) (h : a.quotient k b = some d) : d.isNaN = false := by
  unfold Ieee.Datum.quotient at h
  split at h <;> first | (cases h; done) | (cases h; rfl) | (split at h <;> first | (cases h; done) | (cases h; rfl) | (split at h <;> first | (cases h; done) | (cases h; rfl)))
theorem add_lt (a b c : Nat) (h : FloatKind.f64.format.add a b = some c) : c < 18446744073709551616 := by
  unfold Ieee.Format.add at h
  obtain ⟨d, hd, rfl⟩ := Option.map_eq_some_iff.1 h
  exact write_lt d (sum_notnan _ _ _ hd)
theorem div_lt (a b c : Nat) (h : FloatKind.f64.format.div a b = some c) : c < 18446744073709551616 := by
  unfold Ieee.Format.div at h
  obtain ⟨d, hd, rfl⟩ := Option.map_eq_some_iff.1 h
  exact write_lt d (quo_notnan _ _ _ _ hd)
/-- What + or / on floats yields: a NaN, whichever, where there is no number. -/
def fRes (o : Option Nat) (c : Nat) : Prop := (∀ d, o = some d → c = d) ∧ (o = none → nanB c = true)
theorem run_fadd (a b : Nat) (w : World) : ∃ c w', (binOp .add 98 (.float .f64 a) (.float .f64 b)).run Yaed.prog w = .ok (.float .f64 c) w' ∧ fRes (FloatKind.f64.format.add a b) c ∧ (w' = w ∨ w' = w.drew) := by
  unfold binOp
  simp only [ne_eq, not_true_eq_false, if_false]
  unfold Op.floatArith
  cases h : FloatKind.f64.format.add a b with
  | some d => exact ⟨d, w, by simp [h], ⟨(fun d' e => by cases e; rfl), (fun e => by cases e)⟩, .inl rfl⟩
  | none => exact ⟨_, w.drew, by simp [h]; rfl, ⟨(fun d' e => by cases e), (fun _ => nan_cut _ a b)⟩, .inr rfl⟩
theorem run_fdiv (a b : Nat) (w : World) : ∃ c w', (binOp .quo 98 (.float .f64 a) (.float .f64 b)).run Yaed.prog w = .ok (.float .f64 c) w' ∧ fRes (FloatKind.f64.format.div a b) c ∧ (w' = w ∨ w' = w.drew) := by
  unfold binOp
  simp only [ne_eq, not_true_eq_false, if_false]
  unfold Op.floatArith
  cases h : FloatKind.f64.format.div a b with
  | some d => exact ⟨d, w, by simp [h], ⟨(fun d' e => by cases e; rfl), (fun e => by cases e)⟩, .inl rfl⟩
  | none => exact ⟨_, w.drew, by simp [h]; rfl, ⟨(fun d' e => by cases e), (fun _ => nan_cut _ a b)⟩, .inr rfl⟩
set_option maxHeartbeats 1000000 in
theorem fadd_any (a b : Nat) (w : World) : Calls Yaed.prog 143 #[.float .f64 a, .float .f64 b] w fun r w' => ∃ c, r = .returned (.float .f64 c) ∧ fRes (FloatKind.f64.format.add a b) c ∧ Below w.heap.size w w' := by
  obtain ⟨c, w1, hr, hc, hw⟩ := run_fadd a b w
  have HC : Hid (fRes (FloatKind.f64.format.add a b) c) := hc
  have HW : Hid (Below w.heap.size w w1) := by rcases hw with rfl | rfl; exact Below.refl _ _; exact (Below.refl _ _).drew
  clear hc hw
  go_enter Yaed.func143, Yaed.ntmps143
  go_wp2_with fail
  go_ret
  exact ⟨c, rfl, HC.out, HW.out⟩
set_option maxHeartbeats 1000000 in
theorem fdiv_any (a b : Nat) (w : World) : Calls Yaed.prog 146 #[.float .f64 a, .float .f64 b] w fun r w' => ∃ c, r = .returned (.float .f64 c) ∧ fRes (FloatKind.f64.format.div a b) c ∧ Below w.heap.size w w' := by
  obtain ⟨c, w1, hr, hc, hw⟩ := run_fdiv a b w
  have HC : Hid (fRes (FloatKind.f64.format.div a b) c) := hc
  have HW : Hid (Below w.heap.size w w1) := by rcases hw with rfl | rfl; exact Below.refl _ _; exact (Below.refl _ _).drew
  clear hc hw
  go_enter Yaed.func146, Yaed.ntmps146
  go_wp2_with fail
  go_ret
  exact ⟨c, rfl, HC.out, HW.out⟩
/-- The REAL of a result; NULL where there is none. -/
def realR : Option Nat → V
  | some d => norm ⟨2, 0, d, ⟨#[]⟩⟩
  | none => V0
theorem realR_norm (o : Option Nat) : norm (realR o) = realR o := by
  cases o with
  | none => rfl
  | some d => exact norm_norm _
theorem realR_ok (o : Option Nat) (h : ∀ d, o = some d → d < 18446744073709551616) : (realR o).ok := by
  cases o with
  | none => exact V0_ok
  | some d => exact norm_ok (h d rfl)
theorem norm_fRes {o : Option Nat} {c : Nat} (h : fRes o c) : norm ⟨2, 0, c, ⟨#[]⟩⟩ = realR o := by
  cases o with
  | some d => rw [h.1 d rfl]; rfl
  | none =>
    have hn := h.2 rfl
    simp [norm, hn, realR]
set_option maxHeartbeats 1000000 in
theorem realV_any (c : Nat) (w : World) : Calls Yaed.prog 72 #[.float .f64 c] w fun r w' => r = .returned (norm ⟨2, 0, c, ⟨#[]⟩⟩).val ∧ Below w.heap.size w w' := by
  go_enter Yaed.func72, Yaed.ntmps72
  go_wp2_with fail
  generalize hw0 : World.alloc _ _ = w0
  have HB0 : Hid (Below w.heap.size w w0 ∧ ∃ z, w0.heap[w.heap.size]? = some (.cells z 100 (0, 0)) ∧ z.size = 4) := by rw [← hw0]; exact ⟨below_alloc _ _, _, heap_alloc_new _ _, rfl⟩
  have hs0 : w.heap.size + 1 ≤ w0.heap.size := by rw [← hw0]; simp
  clear hw0
  refine (norm_any ⟨2, 0, c, ⟨#[]⟩⟩ _).mono ?_
  rintro e w1 ⟨rfl, hb1⟩
  have HB1 : Hid (Below w0.heap.size w0 w1) := hb1
  clear hb1
  obtain ⟨u, hu⟩ : ∃ u, norm ⟨2, 0, c, ⟨#[]⟩⟩ = u := ⟨_, rfl⟩
  rw [hu]
  have HU : Hid (norm ⟨2, 0, c, ⟨#[]⟩⟩ = u) := hu
  clear hu
  unfold V.val
  go_wp2_with (refine wpList_put (ty := 100) (g := w.heap.size) rfl rfl rfl rfl size100 (by kernel_rfl) (by obtain ⟨z, h1, h2⟩ := HB0.out.2; exact ⟨z, (HB1.out.block _ (by omega)).trans h1, h2⟩) ?_; intro w2 h2 k2 s2; have HN2 : Hid (w2.heap[w.heap.size]? = some (.cells #[.int .u8 u.k, .int .i64 u.i, .float .f64 u.r, .string u.s] 100 (0, 0))) := h2; have HK2 : Hid (Keep (fun k => k ≠ w.heap.size) w1 w2) := k2; clear h2 k2 s2)
  refine bodyPost_ret (results_cell_row rfl _ _ _ _ _ _ _ rfl HN2.out Yaed.underlying100 rfl size100) rfl ⟨by rw [HU.out]; rfl, ?_⟩
  exact HB0.out.1.trans ((HB1.out.mono (by omega)).trans (HK2.out.below (fun k hk => by show k ≠ w.heap.size; omega)))
end Go.Proofs.YgdaegDoor
